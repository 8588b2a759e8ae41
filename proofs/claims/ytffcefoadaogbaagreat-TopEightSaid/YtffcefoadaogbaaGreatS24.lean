/- A part of the proof. -/
import Derived.Test.YtffcefoadaogbaaGreatS22
import Derived.Test.YtffcefoadaogbaaGreatS23
namespace Go.Proofs.YtffcefoadaogbaaGreat
open Go.RowKit
open Go.Proofs.Tryz
set_option linter.all false
set_option maxRecDepth 100000
set_option maxHeartbeats 16000000
open Go.RowKit Go.Shelf
open Go.Value renaming int->af
open _root_.List renaming Perm->E0,map_map->CV,mergeSort_perm->adS,mem_map->fK,range->dJ,replicate->cP,getElem?_replicate->adT,count_append->oK,count_eq_zero->adU,length_map->xN,take_zero->CW,getElem?_map->iZ,getElem?_eq_getElem->bf,getElem_mem->dH,take_succ_eq_append_getElem->yt,append_nil->Af,length_append->eU,count_le_length->adV,length_take->tN,getElem?_range->adW,length_replicate->gO,mem_of_mem_eraseIdx->OP
open Go.World renaming alloc->aB,setCell->dG
open _root_.Nat renaming zero_le->aM,le_trans->aF,le_refl->aq
open Go.IntKind renaming i64->cQ,u8->qO
open Go renaming World->κ,Value->ξ,Calls->τ,IntKind->oU
variable{A:aS}{T T':Tg}{ah:Bool}{c:Cr}{cf:Cf}{Ω i n p t tb χ:Nat}{k:Pk}{l:List dM}{kK:List Pk}{sm:bH->Nat->Nat}{tp:aD}{w w':κ}
theorem Q8(m:Nat):AnyZI.SortsIn prog Tryz.CZ Fence.wide m :=
 ⟨fun bn off cap ss W hH qE fV=>callsIn_wide.2 (AnyM.slices_Sort_int Tryz.adR bn off cap ss W hH qE fV),fun p cap W=>callsIn_wide.2 (AnyM.slices_Sort_int_none Tryz.adR p cap W)⟩
section
variable {w w':κ}{T T':Tg}{t b rb g mb n last:Nat}{rf:Nat->Int}{vs:Nat->Nat->Int}{ps:List jJ}{p:jJ}
theorem VQ(h:fT w T t b rb g mb n rf vs ps last)(hn:ps.length<=1000):τ prog 124 #[π b] w fun e w'=>∃(B:aS) (d:Nat) (ss:List Int),e=.returned (.slice B ss.length d)/\ss.Perm (ps.map fun p=>(p.id:Int))/\Own w' w.heap.size 110 1 B ss.length d (ss.map (af .i64))/\Ext w w':=by
 obtain⟨D,fS,hD⟩:=h.Ay;have fV:=hD.size;have aix:(intKeys D).Perm (ps.map fun p=>(p.id:Int)):=by obtain⟨es,rfl,hp⟩:=hD;refine(hp.map _).trans (E0.of_eq ?_);rw[CV];rfl
 have c1:=h.hd.zc 1;refine(callsIn_wide (n:=6)).1 ?_;have DR:=fS.lt;have akp:SeqGives Fence.wide 2 prog 185 #[.pointer w.heap.size] encZ (fun ss=>ss.Perm (intKeys D)) (Maps.size D) (w.alloc (.cells #[.map (some mb)] 221)) :=
  AnyZI.keys_gives (ρ:=Tryz.Jn) {Tryz.adQ with} Fence.wide _ trivial rfl η w.heap.size mb ps.length D _ bT bT (by obtain⟨es,clock,hb,Ft,hs,hD⟩:=fS;exact⟨es,clock,(Below.heap_alloc _ _ mb DR).trans hb,Ft,hs,hD⟩)
 have cK:∀mb W,CallsIn Fence.wide 5 prog 158 #[.map mb] W fun e w'=>e=.returned (.func (.func 185) #[] #[.pointer (some ⟨W.heap.size,0,none⟩)])/\w'=W.alloc (.cells #[.map mb] 221):=fun mb W=>AnyZI.keys_in Tryz.adQ Fence.wide 5 trivial rfl mb W;have cS:=AnyZI.sorted_in Tryz.aci Fence.wide 5 trivial trivial trivial trivial rfl η (Q8 _) (enters_of func184 ey rfl) 185 #[.pointer w.heap.size] trivial (enters_of func185 ey rfl) _ _ (by rw[fV];unfold maxLen;omega) (by rw[fV];omega) _ akp;change CallsIn _ _ prog 157 _ _ _ at cS
 have hfK:Fence.wide.fn 158:=trivial;have hfS:Fence.wide.fn 157:=trivial;unfold π;clear h hD fS akp;refine callsIn_of_wp func124 rfl trivial ?_ rfl;simp only[ntmps124,List.size_toArray,List.length_cons,List.length_nil,Nat.reduceAdd,Nat.reduceSub,Array.replicate_succ,Array.replicate_zero,List.push_toArray,List.append_toArray,List.nil_append,List.cons_append];gi_wp2_with (first
  | (gi_at_call 158;refine(cK _ _).mono ?_;rintro e w' ⟨rfl,rfl⟩)
  | (gi_at_call 157;refine cS.mono ?_;rintro e w' ⟨v,ss,rfl,hS,amA,BQ,hb⟩))
 obtain⟨B,d,rfl,hB⟩:=Own.JB amA;go_ret;have hlen:=(adS ss (fun x y=>decide (x<=y))).length_eq;refine⟨B,d,ss.mergeSort (fun x y=>decide (x<=y)),by rw[hlen];rfl,((adS ss _).trans hS).trans aix,?_,?_⟩
 .rw[hlen];exact hB.mono bT
 .exact(Ext.alloc _ _).trans hb
end
theorem Jo{α β:Type}(f:α->β):∀(l:List β) (ps:List α),l.Perm (ps.map f)->∃ps':List α,ps'.Perm ps/\l=ps'.map f
 | [],ps,h=>by
  have:ps=[]:=by simpa using h.length_eq.symm
  subst this;exact⟨[],E0.refl _,rfl⟩
 |a::l,ps,h=>by obtain⟨p,hp,rfl⟩:=fK.1 (h.mem_iff.1 List.mem_cons_self);obtain⟨s,t,rfl⟩:=List.append_of_mem hp;have h1:(s++p::t).Perm (p::(s++t)):=List.perm_middle;have h2:(f p::l).Perm (f p::(s++t).map f):=h.trans (h1.map f);obtain⟨ps',h3,h4⟩:=Jo f l (s++t) (E0.cons_inv h2);exact⟨p::ps',(h3.cons p).trans h1.symm,by rw[h4];rfl⟩
def F7(L:List Nat)(p:Nat):Nat:=if p=0 then 0 else L.count (p-1)
def F8(L:List Nat):List ξ:=(dJ 201).map fun p=>.int .i64 (F7 L p:Nat)
theorem aav(L:List Nat):(F8 L).length=201:=by simp[F8]
theorem F9(L:List Nat)(hp:p<201):(F8 L)[p]?=some ((F7 L p:Nat):ξ):=aO 201 (fun p=>af .i64 (F7 L p:Nat)) hp
theorem aaw:F8 []=cP 201 (.int .i64 0):=by
 apply List.ext_getElem?;intro i;by_cases hi:i<201
 .rw[F9 _ hi,adT,if_pos hi];unfold F7;split<;>rfl
 .rw[List.getElem?_eq_none (by rw[aav];omega),adT,if_neg hi]
theorem NT(L:List Nat)(k p:Nat):F7 (L++[k]) p=F7 L p+if p=k+1 then 1 else 0:=by
 unfold F7;by_cases h0:p=0
 .subst h0;simp
 .rw[if_neg h0,if_neg h0,oK]
  congr 1
  by_cases e:p=k+1
  .subst e;simp
  .rw[if_neg e,adU]
   simp
   omega
theorem aax(L:List Nat)(k:Nat){v:ξ}(hv:v=.int .i64 ((F7 L (k+1):Nat)+1:Int)):(F8 L).set (k+1) v=F8 (L++[k]):=by
 unfold F8;refine Cv _ _ _ _ _ ?_ fun i hi hne=>?_
 .rw[NT,if_pos rfl,hv];simp
 .rw[NT,if_neg hne];rfl
theorem Jp{a b:List jJ}(h:a.Perm b)(k:Nat):(refsOf a).count k=(refsOf b).count k:=by
 induction h with
 |nil=>rfl
 |cons x _ ih=>rw[ig,ig,oK,oK,ih]
 |swap x y l=>rw[ig,ig,ig,ig,oK,oK,oK,oK];omega
 |trans _ _ h1 h2=>rw[h1,h2]
theorem Ga(f g:Nat->Int):∀n:Nat,(∀k,k<n->f k=g k)->used n f=used n g
 |0,_=>rfl
 |n+1,h=>by rw[jw,jw,Ga f g n (fun k hk=>h k η),h n η]
theorem Jq(f:Nat->Int)(n:Nat):∀m:Nat,(∀k,n<=k->f k=0)->used (n+m) f=used n f
 |0,_=>rfl
 |m+1,h=>by rw[←Nat.add_assoc,jw,Jq f n m h,h (n+m) η];rfl
theorem NU:(prog.info? 246).map (·.zero)=some (some (.agg (cP 201 (af .i64 0)).toArray)):=ey
section
variable {w w':κ}{T T':Tg}{t b:Nat}{cf:Cf}{me:Nat}{tp:aD}{ops:List dM}{x:Mx}{c:Cr}{s:Ms}{B:Nat}
theorem VR(h:pO w T t b cf me tp ops x c s):τ prog 123 #[π b] w fun e w'=>e=.returned (π x.sb)/\w'=w:=by have c3:=h.hd.zc 3;unfold π at*;clear h;go_enter func123,ntmps123;go_wp2;go_ret;exact⟨rfl,rfl⟩
theorem aay(h:pO w T t b cf me tp ops x c s):τ prog 129 #[π b] w fun e w'=>e=.returned (π x.tb)/\w'=w:=by have c4:=h.hd.zc 4;unfold π at*;clear h;go_enter func129,ntmps129;go_wp2;go_ret;exact⟨rfl,rfl⟩
def aiy(w5:κ)(gc:Nat)(ty:TypeId)(ps:List jJ)(iv:ξ)(wr:κ):Prop:=∃j:Nat,iv=.int .i64 (j:Nat)/\j<=ps.length/\Ext w5 wr/\sH wr gc ty (F8 (refsOf (ps.take j)))
def aeY(w5:κ)(gc:Nat)(ty:TypeId)(B:aS)(d:Nat)(L:List Nat)(p:jJ)(iv:ξ)(wr:κ):Prop:=∃k:Nat,iv=.int .i64 (k:Nat)/\k<=4/\Ext w5 wr/\sH wr gc ty (F8 (L++p.pg.take k))/\Rd wr 1 B 4 d ((uz p).map (af .i64))/\bn B≠some gc
def aeZ(w5:κ)(gc:Nat)(ty:TypeId)(L:List Nat)(f:Nat->Int)(uv iv:ξ)(wr:κ):Prop:=∃j:Nat,iv=.int .i64 ((j:Int)+1)/\j<=200/\uv=.int .i64 (used j f:Nat)/\Ext w5 wr/\sH wr gc ty (F8 L)
theorem aaz(h:pO w T t b cf me tp ops x c s)(hu:Θ w T)(aT:jA cf)(hl:s.last<=1000000000)(m:Nat):τ prog 86 #[π b,iC cf m] w fun e w'=>e=.returned (.bool true)/\Ext w w':=by
 obtain⟨i0,Ij,dx⟩:∃i,prog.info? 246=some i/\i.zero=some (.agg (cP 201 (af .i64 0)).toArray):=by
  have:=NU;cases hq:prog.info? 246 with
  |none=>simp[hq]at this
  |some i=>exact⟨i,rfl,by simpa [hq] using this⟩
 have Bl:=aT.aR;have Ss:=aT.workers;have hrm:=aT.room;obtain⟨rb,g,mb,rf,vs,ps,hS,hP,iU,Nd⟩:=id h.st;have hlen:=h.ok.len;have hwp:=Z8 s.ks;rw[h.nk]at hwp;have DR:=h.tr.tH;have vQ:s.gs.length=ps.length:=by rw[Nd,xN]
 have Md:ps.length<=1000:=η;have hul:=hP.held.ql;rw[tc hP.four]at hul;have anZ:=ql (4*cf.room) rf;generalize hU:used (4*cf.room) rf=U at*;have HU:=θ hU;have kR:=θ fun W (e:Ext w W)=>VR (h.ext e);have Htr:=θ fun W (e:Ext w W)=>aay (h.ext e);have amB:=θ fun W (e:Ext w W)=>VQ (hS.ext e) Md;have Hrm:=θ fun W (e:Ext w W)=>TS (hS.ext e);have Hus:Hq (∀W,Ext w W->τ prog 126 #[.pointer rb] W fun e w'=>e=.returned (U:ξ)/\Ext W w'):=θ fun W e=>by rw[←HU.o];exact LM (hS.room.ext e)
 have HS:=θ hS;have HP:=θ hP;have oc:=θ fun W (e:Ext w W)=>AU (h.tr.ext e) Bl (fun y hy=>(h.ok.K9 y hy).1);have x0:=Ext.alloc w (.cells #[cf.n,m,cf.id,cf.Ω,cf.χ,cf.bD,cf.order,cf.aR,cf.workers,cf.room] 26);have hb:=(Has.new w T [cf.n,m,cf.id,cf.Ω,cf.χ,cf.bD,cf.order,cf.aR,cf.workers,cf.room] 26 rfl);have Hbl:=θ DR;have an0:1<=ps.length:=η;have hpb:ps.length<=cf.aR+cf.workers+2:=η;unfold iC π at*;clear h hS hP Nd iU hU;go_enter func86,ntmps86;go_upto_region 1 with fail
 generalize hW:aB w _=W0 at*;generalize w.heap.size=gs at*;clear hW;have k7:=hb.zc 7;have k8:=hb.zc 8;have k9:=hb.zc 9;clear hb;go_wp2_with fail;refine(kR.o W0 x0).mono ?_;rintro e w1 ⟨rfl,hw⟩;have hw:=hw.symm;subst hw;go_wp2_with fail;refine(amB.o W0 x0).mono ?_;rintro e w2 ⟨LB,ld,ss,rfl,hss,hLB,x2⟩;obtain⟨yf,N7,xE⟩:=Jo _ ss ps hss;have yy:ss.length=ps.length:=by rw[xE,xN,N7.length_eq]
 have x3:=x0.trans x2;replace k7:=x2.cell k7;replace k8:=x2.cell k8;replace k9:=x2.cell k9;have hLR:=hLB.rd;rw[yy]at hLR⊢;rw[xE,CV]at hLR;have pz:=ej ((cf.aR:Int)+(cf.workers:Int));have xZ:=ej ((cf.aR:Int)+(cf.workers:Int)+2);have Uj:=ej (4*(ps.length:Int));have Sd:=ej (4*(cf.room:Int));have f1:=dh ((cf.aR:Int)+(cf.workers:Int)+2<(ps.length:Int));have f2:=dQ ((0:Int)<(ps.length:Int));have f2':=dQ (0<ps.length);have f3:=dh (4*(ps.length:Int)<(U:Int));have f4:=dh (4*(cf.room:Int)<(U:Int));have Hp2:=θ N7;have HLR:=θ hLR;clear hss N7 xE hLB yy hLR;go_wp2_with fail;apply iL trivial;repeat first|apply kZ k7 k8|apply lU trivial
 apply jD (fun W hR=>Hrm.o W (x3.trans hR));repeat first|apply iO (fun _ _ _=>trivial)|apply lU trivial
 apply jD (fun W hR=>Hus.o W (x3.trans hR));repeat first|apply iO (fun _ _ _=>trivial)|apply lU trivial
 apply jD (fun W hR=>Hrm.o W (x3.trans hR));repeat first|apply iO (fun _ _ _=>trivial)|apply lU trivial
 apply jD (fun W hR=>Hus.o W (x3.trans hR));repeat first|apply nh k9|apply lU trivial
 refine lex_nil ?_;intro Wx ak υ;have x5:=x3.trans ak;replace k7:=ak.cell k7;have HL5:=θ (HLR.o.ext ak);have akq:yf.length=ps.length:=Hp2.o.length_eq;have acD:=θ akq;clear υ ak k8 k9 f1 f2 f2' f3 f4 pz xZ Uj Sd HLR akq x3 x2 x0;go_upto_region 5 with fail
 go_wp2_with (first|(with_reducible refine bA rfl 246 rfl Ij dx ?_);intro W6 bG xG sG)
 have hG0:sH W6 Wx.heap.size 246 (F8 (refsOf (yf.take 0))):=by rw[CW,show refsOf []=[] from rfl,aaw];exact bG
 have HG0:=θ hG0;have HX6:=θ xG;have VE:=θ x5;obtain⟨gc,oN⟩:∃gc,gc=Wx.heap.size:=⟨_,rfl⟩;rw[←oN]at HG0⊢;have Hgc:Hq (Wx.heap.size<=gc):=θ η;clear hG0 bG xG sG x5 oN;go_loopw [8] (fun iv wr=>aiy Wx gc 246 yf iv wr) (fun iv _=>yf.length-(intOf iv).toNat)
 case atStart=>exact⟨0,rfl,aM _,HX6.o,HG0.o⟩
 case round =>
  obtain⟨j,rfl,hj,xr,hG⟩:=hrel;by_cases iY:j<yf.length
  .have an1:j<ps.length:=by rw[←acD.o];exact iY
   have jF:=dQ ((j:Int)<(ps.length:Int));obtain⟨gl,ol,rfl,j5⟩:=HL5.o.2.2.2 η;have cj:wr.cell? (gl,ol+j)=some ((yf[j].id:Nat):ξ):=xr.cell (j5 j _ (by rw[iZ,bf iY];rfl));have KD:yf[j]∈ps:=Hp2.o.mem_iff.1 (dH iY);have vr:refsOf (yf.take (j+1))=refsOf (yf.take j)++yf[j].pg:=by rw[yt iY,qR,ig,show refsOf []=[] from rfl,Af]
   have Hpg:=θ (Fy (HS.o.ext (VE.o.trans xr)) HP.o KD η);have h4:=HP.o.four _ KD;have aX:∀k∈yf[j].pg,k<4*cf.room:=fun k hk=>HP.o.held.1 k (List.mem_flatMap.2 ⟨_,KD,hk⟩);have Htk:=θ vr;have N4:(refsOf (yf.take j)).length<=4000:=by
    have h9:(refsOf (yf.take j)).length<=(refsOf yf).length:=by
     conv=>rhs;rw[←List.take_append_drop j yf,qR,eU]
     omega
    have h8:(refsOf yf).length=4*yf.length:=tc fun p hp=>HP.o.four p (Hp2.o.mem_iff.1 hp);have h7:=acD.o;omega
   generalize refsOf (yf.take j)=L at*;generalize yf[j]=p at*;have HG:=θ hG;have Hx:=θ xr;unfold π at*;clear vr hG j5;go_wp2_with fail;refine Hpg.o.mono ?_;rintro e w7 ⟨PB,pd,rfl,hPB,x7⟩;have hPR:=hPB.rd;have hPn:bn PB≠some gc:=fun e9=>by have:=hPB.ax _ e9;have:=HG.o.lt;omega
   have HG7:=θ (HG.o.ext x7);have HX7:=θ (Hx.o.trans x7);have HPR:=θ hPR;clear hPB hPR x7 xr cj;go_wp2_with fail;go_loopw [10] (fun iv wr=>aeY Wx gc 246 PB pd L p iv wr) (fun iv _=>4-(intOf iv).toNat)
   case atStart=>exact⟨0,rfl,aM _,HX7.o,by rw[CW,Af];exact HG7.o,HPR.o,hPn⟩
   case round =>
    obtain⟨k,rfl,hk,xq,hG,hR,_⟩:=hrel;by_cases Od:k<4
    .have Ce:=dQ ((k:Int)<4)
     have jm:k<p.pg.length:=η;obtain⟨gp,op,rfl,Ki⟩:=hR.2.2.2 Γ;have cp:wr.cell? (gp,op+k)=some (.int .i64 ((p.pg[k]:Int)+1)):=Ki k _ (by unfold uz;rw[CV,iZ,bf jm];rfl);have hy:p.pg[k]<4*cf.room:=aX _ (dH jm);have hta:L++p.pg.take (k+1)=(L++p.pg.take k)++[p.pg[k]]:=by rw[yt jm,List.append_assoc]
     have hcn:F7 (L++p.pg.take k) (p.pg[k]+1)<=5000:=by unfold F7;rw[if_neg η];refine aF adV ?_;rw[eU,tN];omega
     have Hta:=θ hta;generalize L++p.pg.take k=L2 at*;generalize p.pg[k]=y at*;have cg:=hG.cell (F9 L2 (p:=y+1) η);have fg:=hG.free (y+1);generalize hcv:F7 L2 (y+1)=cv at*;have Hcv:=θ hcv;have e1:=dh ((y:Int)+1<1);have e2:=dh (200<(y:Int)+1);have e3:((y:Int)+1<201)=True:=eq_true η;have e4:((0:Int)<=(y:Int)+1)=True:=eq_true η;have e5:((y:Int)+1).toNat=y+1:=η;have e6:=ej ((cv:Int)+1);have Fe:=hG.set (y+1) (.int .i64 ((cv:Int)+1));rw[aax L2 y (by rw[Hcv.o])]at Fe;have jO:Rd (wr.setCell (gc,y+1) (.int .i64 ((cv:Int)+1))) 1 (some ⟨gp,op,none⟩) 4 pd ((uz p).map (af .i64)):=Rd.fc hR fun h0 k hk=>Below.heap_setCell wr _ _ k (fun e=>hPn (by rw[hk,e]));have yc:=R2 xq (a:=⟨gc,y+1,none⟩) Hgc.o (.int .i64 ((cv:Int)+1));have tV:=θ Fe;have Wg:=θ jO;have ZM:=θ yc;clear hcv hta hG hR Fe jO yc Ki xq;go_wp2;go_roundw
     case rel=>exact⟨k+1,cR,η,ZM.o,by rw[Hta.o];exact tV.o,Wg.o,hPn⟩
     exact dB
    .obtain rfl:k=4:=by omega
     rw[List.take_of_length_le η,←Htk.o]at hG;have tV:=θ hG;have ZM:=θ xq;clear hG hR xq;go_wp2;go_roundw
     case rel=>exact⟨j+1,cR,η,ZM.o,tV.o⟩
     exact dB
  .obtain rfl:j=yf.length:=by omega
   have Di:=dh (yf.length<ps.length) (by have:=acD.o;omega);have jF:=dh ((yf.length:Int)<(ps.length:Int)) (by have:=acD.o;omega);rw[List.take_length]at hG;have HG:=θ hG;have HX:=θ xr;have hf:∀k,k<4*cf.room->((refsOf yf).count k:Int)=rf k:=fun k hk=>by rw[Jp Hp2.o k,HP.o.held.2 k hk]
   have Ye:∀k,4*cf.room<=k->((refsOf yf).count k:Int)=0:=fun k hk=>by
    have h9:(refsOf yf).count k=0:=by rw[Jp Hp2.o k,adU];intro hm;have:=HP.o.held.1 k hm;omega
    omega
   have JH:used 200 (fun k=>((refsOf yf).count k:Int))=U:=by rw[show(200:Nat)=4*cf.room+(200-4*cf.room) by omega,Jq _ _ _ Ye,Ga _ rf _ hf,HU.o]
   have Hu2:=θ JH;have Hf:=θ hf;have Hf0:=θ Ye;have an2:∀k,(refsOf yf).count k<=4000:=fun k=>by have h8:(refsOf yf).length=4*yf.length:=tc fun p hp=>HP.o.four p (Hp2.o.mem_iff.1 hp);have h7:=acD.o;have:=adV (a:=k) (l:=refsOf yf);omega
   generalize hfd:(fun k=>((refsOf yf).count k:Int))=ff at*;have Hff:=θ (show ∀k,ff k=((refsOf yf).count k:Int) from fun k=>by rw[←hfd]);generalize refsOf yf=L at*;clear hG xr hf Ye JH hfd;go_wp2_with fail;go_loopw [11,12] (fun uv iv wr=>aeZ Wx gc 246 L ff uv iv wr) (fun _ iv _=>201-(intOf iv).toNat)
   case atStart=>exact⟨0,rfl,aM _,rfl,HX.o,HG.o⟩
   case round =>
    obtain⟨k,rfl,hk,rfl,xq,hG⟩:=hrel;by_cases jm:k<200
    .have e1:=dQ ((k:Int)+1<=200)
     have e3:((k:Int)+1<201)=True:=eq_true η;have e4:((0:Int)<=(k:Int)+1)=True:=eq_true η;have e5:((k:Int)+1).toNat=k+1:=η;have cg:wr.cell? (gc,k+1)=some (.int .i64 (ff k)):=by rw[Hff.o];exact hG.cell (F9 L (p:=k+1) η)
     have Hrf:∀W,Ext w W->τ prog 128 #[.pointer rb,((k:Int)+1:Int)] W fun e w'=>e=.returned (.int .i64 (ff k))/\Ext W w':=fun W e=>by
      have hr:=HS.o.room.ext e;rw[Hff.o];by_cases hn:k<4*cf.room
      .rw[Hf.o k hn]
       by_cases h0:rf k=0
       .rw[h0];exact(Ru hr η η (.inr (.inr ⟨k,hn,rfl,h0⟩))).mono fun _ _ ⟨a1,a2⟩=>⟨a1,by subst a2;exact Ext.refl _⟩
       .exact(Xb hr ⟨hn,rfl,h0⟩).mono fun _ _ ⟨a1,a2⟩=>⟨a1,by subst a2;exact Ext.refl _⟩
      .rw[Hf0.o k η];exact(Ru hr η η (.inr (.inl η))).mono fun _ _ ⟨a1,a2⟩=>⟨a1,by subst a2;exact Ext.refl _⟩
     have Hrf:=θ Hrf;have xA:=jw k ff;have hle:=ql k ff;have Hx:=θ (VE.o.trans xq);generalize ff k=fk at*;have tV:=θ hG;clear hG;go_wp2_with fail;apply iL trivial;repeat apply iO (fun _ _ _=>trivial)
     apply jD (fun W hR=>Hrm.o W (Hx.o.trans hR));repeat apply iO (fun _ _ _=>trivial)
     apply jD (fun W hR=>Hrf.o W (Hx.o.trans hR));repeat apply nh cg
     refine jq fun Wx ak=>?_;replace cg:=ak.cell cg;have HG3:=θ (tV.o.ext ak);have CL:=θ (xq.trans ak);clear xq ak;by_cases qc:0<fk
     .have g1:=dQ (0<fk) qc
      have e6:=ej ((used k ff:Int)+1);rw[if_pos qc]at xA;have ahk:=θ xA;clear xA;go_wp2;go_roundw
      case rel=>exact⟨k+1,cR,η,by rw[ahk.o];go_num,CL.o,HG3.o⟩
      exact dB
     .have g1:=dh (0<fk) qc
      rw[if_neg qc,Nat.add_zero]at xA;have ahk:=θ xA;clear xA;go_wp2;go_roundw
      case rel=>exact⟨k+1,cR,η,by rw[ahk.o];rfl,CL.o,HG3.o⟩
      exact dB
    .obtain rfl:k=200:=by omega
     rw[Hu2.o];have Hx:=θ (VE.o.trans xq);have f9':=dQ (s.bl.length<=cf.aR) Hbl.o;have k7:=xq.cell k7;go_wp2_with fail;apply iL trivial;repeat first|apply iO (fun _ _ _=>trivial)|apply lU trivial
     apply jD (fun W hR=>Hrm.o W (Hx.o.trans hR));repeat first|apply iO (fun _ _ _=>trivial)|apply lU trivial
     apply jD (fun W hR=>Hus.o W (Hx.o.trans hR));repeat first|apply iO (fun _ _ _=>trivial)|apply lU trivial
     apply jD (fun W hR=>Htr.o W (Hx.o.trans hR));repeat first|apply iO (fun _ _ _=>trivial)|apply lU trivial
     apply BC (p:=fun u W=>∃B d,u=.slice B s.bl.length d) (fun _ _ _ h _=>h)
     .intro W hR υ;refine(oc.o W (Hx.o.trans hR)).mono ?_;rintro e w' ⟨B,d,rfl,e9,_⟩;exact⟨_,rfl,e9,B,d,rfl⟩
     intro v8;simp only[pu];apply lT (u:=.int .i64 (s.bl.length:Nat)) Ext.refl
     .rfl
     .intro W hR υ;obtain⟨B9,d9,rfl⟩:=υ.1 rfl;go_simp;first|done|rfl
     simp only[pu];repeat first|apply nh k7|apply lU trivial
     refine lex_nil ?_;intro Wz hWz υ;have HX9:=θ (Hx.o.trans hWz);clear υ hWz hG xq;trace_state
     go_wp2;go_ret;exact⟨rfl,HX9.o⟩
end
section
variable {ah:Bool}{w w':κ}{T T':Tg}{q mb:Nat}{cf:Cf}{tp:aD}{ops:List dM}{r:Rf}{m:Mb}{W:Wd}{B:Nat}
structure akr(cf:Cf)(tp:aD)(W:Wd)(B:Nat):Prop where
 ok:jA cf
 tp_:tp.length<=1099511627776
 cr:∀i,i<cf.n->bz cf i (W.ps i) []
 big:B<=700000000
 amC:∀i,i<cf.n->evK (W.log i)
 log:∀i,i<cf.n->(W.log i).length<=1000000000
 au:∀k∈W.au,mw k
theorem ae0(h:iP w T q mb cf tp ops r W)(hm:ef w T mb cf tp ops ah m W B)(vq:m.k0=400)(hu:Θ w T)(hs:akr cf tp W B):τ prog 53 #[π q] w fun e w'=>e=.returned (.bool true)/\Ext w w':=by
 have BR:=hs.ok.n2;have jW:=hs.ok.n8;have HR:=θ h;have HM:=θ hm;have HU:=θ hu;have Hs:=θ hs;have c0:=h.hd.zc 0;have c1:=h.hd.zc 1;have c2:=h.hd.zc 2;have c3:=h.hd.zc 3;have Hnt:=θ fun W2 (e:Ext w W2)=>QJ (hm.ext e);have Hln:=θ fun W2 (e:Ext w W2)=>Kq (hm.au.ext e);unfold π at*;clear h hm hu hs;go_enter func53,ntmps53;go_wp2_with fail;apply iL trivial;repeat apply nh c0
 apply jD (fun W hR=>Hnt.o W hR);repeat apply iO (fun _ _ _=>trivial)
 apply jD (fun W hR=>Hln.o W hR);repeat apply nh c2
 refine lex_nil ?_;intro Wx ak υ;have HX1:=θ ak;clear υ ak;obtain⟨ns,a1,a2,a3⟩:=HR.o.au;have Ha2:=θ a2;have Ha3:=θ a3;have hmx:=a2.1.rd.2.1;have hmy:=a2.1.rd.2.2.1;unfold maxLen at hmy;clear a2 a3;go_wp2_with fail;go_loopw [3] (fun iv wr=>∃j:Nat,iv=.int .i64 (j:Nat)/\j<=W.au.length/\Ext w wr) (fun iv _=>W.au.length-(intOf iv).toNat)
 case atStart=>exact⟨0,rfl,aM _,HX1.o⟩
 case round =>
  obtain⟨j,rfl,hj,xr⟩:=hrel;have d0:=xr.cell c0;have d2:=xr.cell c2;by_cases iY:j<W.au.length
  .have jF:=dQ ((j:Int)<(W.au.length:Int))
   have Rh:=θ iY;have V2:=θ (FG (HM.o.au.ext xr) Hs.o.au iY);obtain⟨g,D8,_,m0,m1,m2⟩:=wC Ha2.o a1 iY;have vY:=Ha3.o j W.au[j] (ns[j]' η) (bf iY) (bf η);generalize ns[j]' η=hh at*;generalize W.au[j]=k at*;generalize aG cf.id k=el at*;rw[D8]at d2;replace m0:=xr.cell m0;replace m1:=xr.cell m1;replace m2:=xr.cell m2;have J9:=vY.rb.ext xr;have Hrb:=θ J9;have Hx:=θ xr;unfold π kU at*;clear D8 vY J9;go_upto_region 6 with fail
   go_wp2_with fail;refine(Hnt.o _ xr).mono ?_;rintro e w3 ⟨rfl,hw⟩;have hw:=hw.symm;subst hw;go_wp2_with fail;refine V2.o.mono ?_;rintro e w3 ⟨MB,md,rfl,hMB,x3⟩;have hMR:=hMB.rd;have Of:T w3.heap.size=0:=HU.o _ (xr.trans x3).size;have b1:=(Has.new w3 T [(0:Int),(0:Int),.slice none 0 0] 176 rfl);rw[Of]at b1;have xa:=Ext.alloc w3 (.cells #[(0:Int),(0:Int),.slice none 0 0] 176);have CJ:[af .i64 (k.src:Nat),.int .i64 (k.dst:Nat),.slice MB el.length md].length=3:=rfl;have DS:[af .i64 0,.int .i64 0,.slice none 0 0].length=3:=rfl;have zI:∀u∈[af .i64 (k.src:Nat),.int .i64 (k.dst:Nat),.slice MB el.length md],u.oneCell'=true:=gA;go_wp2_with (first|(with_reducible refine bE rfl 176 (.tmp 4) (.tmp 37) rfl rfl (us:=[af .i64 (k.src:Nat),.int .i64 (k.dst:Nat),.slice MB el.length md]) rfl b1 CJ DS fq zI ?_;intro Z bZ gZ sZ));have eZ:=Ext.own (B:=some ⟨w3.heap.size,0,none⟩) xa gZ (fun k hk=>by have h9:w3.heap.size=k:=Option.some.inj hk;omega);have x9:=x3.trans eZ;have aks:Rb Z MB el.length md el:=Rd.ext hMR eZ;have akt:Rb Z hh.1 el.length hh.2 el:=Rd.ext Hrb.o x9;have cA:∀W2,Ext Z W2->(convert 30 9 (.slice MB el.length md)).run prog W2=.ok (.string (bs el)) W2:=fun W2 e=>dS (P:=prog) W2 30 9 5 underlying30 underlying5 underlying9 _ _ _ _ (aks.ext e);have cB:∀W2,Ext Z W2->(convert 30 9 (.slice hh.1 el.length hh.2)).run prog W2=.ok (.string (bs el)) W2:=fun W2 e=>dS (P:=prog) W2 30 9 5 underlying30 underlying5 underlying9 _ _ _ _ (akt.ext e);replace d2:=x9.cell d2;replace m0:=x9.cell m0;replace m1:=x9.cell m1;replace m2:=x9.cell m2;have z0:=bZ.zc 0;have z1:=bZ.zc 1;have z2:=bZ.zc 2;have HX9:=θ (Hx.o.trans x9);clear hMR aks akt b1 xa CJ DS zI gZ sZ bZ x9 x3 xr Of hMB;generalize w3.heap.size=gz at*;apply iL trivial;repeat first|apply lx7 d2 m0 m1 m2 z0 z1 z2|apply lU trivial
   refine lex_nil ?_;intro Wx ak υ;have HXw:=θ (HX9.o.trans ak);clear υ ak;go_wp2;go_roundw
   case rel=>exact⟨j+1,cR,WD,HXw.o⟩
   case measure=>have:=Rh.o;simp[intOf];omega
  .obtain rfl:j=W.au.length:=by omega
   have Hx:=θ xr;clear xr;go_wp2_with fail;go_loopw [6] (fun iv wr=>∃j:Nat,iv=.int .i64 (j:Nat)/\j<=cf.n/\Ext w wr) (fun iv _=>cf.n-(intOf iv).toNat)
   case atStart=>exact⟨0,rfl,aM _,Hx.o⟩
   case round =>
    obtain⟨j,rfl,hj,xr⟩:=hrel;have d0:=xr.cell c0;have d1:=xr.cell c1;have d3:=xr.cell c3;by_cases iY:j<cf.n
    .have jF:=dQ ((j:Int)<(cf.n:Int))
     have Rh:=θ iY;obtain⟨gp,tK,cp,_,_⟩:=HR.o.row.at_ (aO cf.n _ iY);obtain⟨ge,C8,ce,_,_⟩:=HR.o.bx.at_ (aO cf.n _ iY);have hmp:=HR.o.row.rd.2.1;have DT:=HR.o.bx.rd.2.1;have La:=HR.o.ps j iY;have hMp:=HM.o.ps j iY;have zL:=(HM.o.at_ iY).2;have hCr:=Hs.o.cr j iY;have DX:=θ fun W2 (e:Ext w W2)=>Bf (HM.o.hd.ext e) (HM.o.row.ext e) iY;have Hsh:=θ fun W2 (e:Ext w W2)=>acf (hMp.ext e) (La.ext e) η (HU.o.ext e) hCr Hs.o.tp_ Hs.o.big;have Hev:=θ fun W2 (e:Ext w W2)=>Ji (HM.o.ext e) iY (Hs.o.log j iY);have ahg:=θ fun W2 A c (hr:Rd W2 1 A (W.log j).length c ((W.log j).map wZ))=>aat W2 A c (W.log j) hr (Hs.o.amC j iY) (Hs.o.log j iY);have Heq:=θ fun W2 (e:Ext w W2) A c (hr:Rd W2 3 A (W.log j).length c (iu (W.log j)))=>NQ W2 hr (((HR.o.ev j iY).rd).ext e);have Hmu:=θ fun W2 (e:Ext w W2)=>Ny (HM.o.ext e) iY;obtain⟨A9,n9,d9,Qa,_⟩:=La.bn;obtain⟨xc,hxc⟩:=La.core;have b0:=Qa.zc 0;have HP:=θ hMp;have Qn:=θ hxc.hd;have Hx:=θ xr;rw[tK]at d1;rw[C8]at d3;replace cp:=xr.cell cp;replace ce:=xr.cell ce;replace b0:=xr.cell b0;generalize W.log j=lg at*;generalize r.qs j=qj at*;generalize r.cs j=cj at*;generalize r.hs j=hj at*;unfold π at*;clear La hMp Qa hxc tK C8;go_upto_region 12 with fail
     apply iL trivial;repeat first|apply nh d0|apply lU trivial
     apply jD (fun W hR=>DX.o W (Hx.o.trans hR));repeat first|apply kZ d1 cp|apply lU trivial
     apply jD (fun W hR=>Hsh.o W (Hx.o.trans hR));repeat first|apply nh d0|apply lU trivial
     apply vG (p:=fun u W2=>∃A c,u=.slice A lg.length c/\Rd W2 1 A lg.length c (lg.map wZ)) (fun _ _ _ ⟨A,c,h1,h2⟩ e=>⟨A,c,h1,h2.ext e⟩)
     .rfl
     .intro W2;go_simp;exact⟨rfl,rfl⟩
     .intro W2 hR υ;refine(Hev.o W2 (Hx.o.trans hR)).mono ?_;rintro e w' ⟨A,c,rfl,h1,h2⟩;exact⟨_,rfl,h2,A,c,rfl,h1⟩
     intro v21;simp only[pu];apply vG (p:=fun u W2=>∃A c,u=.slice A lg.length c/\Rd W2 3 A lg.length c (iu lg)) (fun _ _ _ ⟨A,c,h1,h2⟩ e=>⟨A,c,h1,h2.ext e⟩)
     .rfl
     .intro W2;go_simp;exact⟨rfl,rfl⟩
     .intro W2 hR υ;obtain⟨A,c,rfl,h9⟩:=υ.1 rfl;refine(ahg.o W2 A c h9).mono ?_;rintro e w' ⟨A,c,rfl,h1,h2⟩;exact⟨_,rfl,h2,A,c,rfl,h1⟩
     intro v22;simp only[pu];repeat first|apply kZ d3 ce|apply lU trivial
     apply ck (u:=.bool true)
     .rfl
     .intro W2;go_simp;exact⟨rfl,rfl⟩
     .intro W2 hR υ;obtain⟨A,c,rfl,h9⟩:=υ.1 rfl;refine(Heq.o W2 (Hx.o.trans hR) A c h9).mono ?_;rintro e w' ⟨rfl,h2⟩;exact⟨rfl,h2⟩
     simp only[pu];repeat first|apply iO (fun _ _ _=>trivial)|apply lU trivial
     refine lex_nil ?_;intro Wx ak υ;have CL:=θ (xr.trans ak);replace d0:=ak.cell d0;replace d1:=ak.cell d1;replace cp:=ak.cell cp;replace b0:=ak.cell b0;clear υ ak xr d3 ce;go_wp2_with fail;refine(Hmu.o _ CL.o).mono ?_;rintro e w4 ⟨rfl,hw⟩;have hw:=hw.symm;subst hw;cases ah with
     |false =>
      rw[if_neg Γ];go_wp2;go_roundw
      case rel=>exact⟨j+1,cR,WD,CL.o⟩
      case measure=>have:=Rh.o;simp[intOf];omega
     |true =>
      rw[if_pos rfl];obtain⟨x9,s9,hMI,_,oh,_,_⟩:=HP.o;have Hbo:=θ fun W2 (e:Ext w W2)=>aaz (hMI.ext e) (HU.o.ext e) Hs.o.ok (by have:=Hs.o.big;omega) j;have sS:=Qn.o.ext CL.o;unfold rcC aA at sS;have q0:=sS.zc 0;have q1:=sS.zc 1;have q2:=sS.zc 2;have q3:=sS.zc 3;have q4:=sS.zc 4;have q5:=sS.zc 5;have q6:=sS.zc 6;have q7:=sS.zc 7;have q8:=sS.zc 8;have q9:=sS.zc 9;unfold iC π at*;clear hMI oh sS;go_wp2_with fail;refine(Hbo.o _ CL.o).mono ?_;rintro e w5 ⟨rfl,x5⟩;have HX4:=θ (CL.o.trans x5);clear x5 q0 q1 q2 q3 q4 q5 q6 q7 q8 q9;go_wp2;go_roundw
      case rel=>exact⟨j+1,cR,WD,HX4.o⟩
      case measure=>have:=Rh.o;simp[intOf];omega
    .obtain rfl:j=cf.n:=by omega
     go_wp2;go_ret;exact⟨rfl,xr⟩
end
section
variable {w w':κ}{T T':Tg}{q mb:Nat}{cf:Cf}{tp:aD}{ops:List dM}{r:Rf}{W:Wd}{B:Nat}
theorem acj(h:iP w T q mb cf tp ops r W)(aT:jA cf)(Lb:∀i,i<cf.n->bz cf i (W.ps i) [])(hlK:∀i,i<cf.n->evK (W.log i))(GV:∀i,i<cf.n->(W.log i).length<=1000000000)(hJ:∀i k,i<cf.n->k<cf.n->∀f,f<(W.ps i).front->f<(W.ps k).front->bp (W.ps i).ls f=bp (W.ps k).ls f):τ prog 20 #[π q] w fun e w'=>e=.returned (.bool true)/\Ext w w':=by
 have BR:=aT.n2;have jW:=aT.n8;have HR:=θ h;have Hcr:=θ Lb;have HlK:=θ hlK;have acy:=θ GV;have HJ:=θ hJ;have c1:=h.hd.zc 1;have c3:=h.hd.zc 3;obtain⟨gp,tK,_⟩:=h.row.at_ (aO cf.n _ (show 0<cf.n by omega));obtain⟨ge,C8,_⟩:=h.bx.at_ (aO cf.n _ (show 0<cf.n by omega));have Ki:∀i,i<cf.n->w.cell? ⟨gp,i,none⟩=some (.pointer (some ⟨r.qs i,0,none⟩)):=fun i hi=>by
  obtain⟨g',lY,c,_⟩:=h.row.at_ (aO cf.n _ hi);rw[tK]at lY;cases lY
  exact c
 have hce:∀i,i<cf.n->w.cell? ⟨ge,i,none⟩=some (.slice (r.hs i).1 (W.log i).length (r.hs i).2):=fun i hi=>by
  obtain⟨g',lY,c,_⟩:=h.bx.at_ (aO cf.n _ hi);rw[C8]at lY;cases lY
  exact c
 rw[tK]at c1;rw[C8]at c3;have Hcp:=θ Ki;have Hce:=θ hce;unfold π at*;clear h Lb hlK GV hJ Ki hce tK C8;go_enter func20,ntmps20;go_wp2_with fail;go_loopw [3] (fun iv wr=>∃j:Nat,iv=.int .i64 (j:Nat)/\j<=cf.n/\Ext w wr) (fun iv _=>cf.n-(intOf iv).toNat)
 case atStart=>exact⟨0,rfl,aM _,Ext.refl _⟩
 case round =>
  obtain⟨i,rfl,hi,xr⟩:=hrel;have d1:=xr.cell c1;by_cases qV:i<cf.n
  .have Di:=dQ (i<cf.n) qV
   have jF:=dQ ((i:Int)<(cf.n:Int));have Hil:=θ qV;go_wp2_with fail;go_loopw [4] (fun kv wr=>∃k:Nat,kv=.int .i64 (k:Nat)/\k<=i/\Ext w wr) (fun kv _=>i-(intOf kv).toNat)
   case atStart=>exact⟨0,rfl,aM _,xr⟩
   case round =>
    obtain⟨k,rfl,hk,xk⟩:=hrel;by_cases jm:k<i
    .have Ce:=dQ ((k:Int)<(i:Int))
     have Yu:=dQ ((k:Int)<(cf.n:Int));have Hkl:=θ jm;have jk:k<cf.n:=η;have hPi:=HR.o.ps i qV;have hPk:=HR.o.ps k η;have hCi:=Hcr.o i qV;have hCk:=Hcr.o k η;obtain⟨Ai,ni,di,hbi,_⟩:=hPi.bn;obtain⟨Ak,nk,dk,Ue,_⟩:=hPk.bn;obtain⟨xi,WM⟩:=hPi.core;obtain⟨xk',hxk⟩:=hPk.core;have bi:=xk.cell (hbi.zc 0);have bk:=xk.cell (Ue.zc 0);have pi_:=xk.cell (Hcp.o i qV);have pk_:=xk.cell (Hcp.o k η);have e1:=xk.cell c1;have Hfi:=θ fun W2 (e:Ext w W2)=>l9 (hPi.core.ext e) hCi.len η jW;have Hfk:=θ fun W2 (e:Ext w W2)=>l9 (hPk.core.ext e) hCk.len η jW;have Hxi:=θ WM;have Hxk:=θ hxk;have Hx:=θ xk;unfold π iH at*;clear hPi hPk hbi Ue WM hxk;go_wp2_with fail;apply iL trivial;repeat apply DH e1 pi_ bi
     apply jD (fun W2 hR=>Hfi.o W2 (Hx.o.trans hR));repeat apply DH e1 pk_ bk
     apply jD (fun W2 hR=>Hfk.o W2 (Hx.o.trans hR));repeat apply iO (fun _ _ _=>trivial)
     refine lex_nil ?_;intro Wx ak υ;have HXy:=θ (Hx.o.trans ak);clear υ ak xk e1 pi_ pk_ bi bk;have KY:min ((W.ps i).front:Int) ((W.ps k).front:Int)=((min (W.ps i).front (W.ps k).front:Nat):Int):=η;rw[KY];have Ir:min (W.ps i).front (W.ps k).front<=(W.ps i).front:=Nat.min_le_left _ _;have Fa:min (W.ps i).front (W.ps k).front<=(W.ps k).front:=Nat.min_le_right _ _;have hfi:(W.ps i).front<=1000:=hCi.dW;generalize min (W.ps i).front (W.ps k).front=mn at*;clear KY;go_wp2_with fail;go_loopw [6] (fun fv wr=>∃f:Nat,fv=.int .i64 (f:Nat)/\f<=mn/\Ext w wr) (fun fv _=>mn-(intOf fv).toNat)
     case atStart=>exact⟨0,rfl,aM _,HXy.o⟩
     case round =>
      obtain⟨f,rfl,hf,xf⟩:=hrel;by_cases DJ:f<mn
      .have ami:=dQ ((f:Int)<(mn:Int))
       have Yo:=θ DJ;have hjj:=HJ.o i k qV η f η η;have Zv:=hCi.len;have Gy:(bp (W.ps i).ls f).length=cf.n:=by rw[qN,hCi.len]
       have KV:zK tp ops (W.ps i).ls (f+1)=zK tp ops (W.ps k).ls (f+1):=by unfold zK;rw[qt tp ops fun j hj=>HJ.o i k qV η j η η]
       have Hji:=θ fun W2 (e:Ext w W2)=>zj (Hxi.o.ln.ext e) (by rw[hCi.len];omega) (by rw[hCi.len];exact jW) (f:=f) (show f<(W.ps i).front by omega);have Hjk:=θ fun W2 (e:Ext w W2)=>zj (Hxk.o.ln.ext e) (by rw[hCk.len];omega) (by rw[hCk.len];exact jW) (f:=f) (show f<(W.ps k).front by omega);rw[←hjj]at Hjk;have Ci:=fI Hxi.o.hd;have Ck:=fI Hxk.o.hd;have i10:=xf.cell Ci.lK;have i16:=xf.cell Ci.Dw;have k10:=xf.cell Ck.lK;have k16:=xf.cell Ck.Dw;rw[gK]at i16 k16;obtain⟨gi,hgi,mi,_,_⟩:=Hxi.o.marks.at_ (i:=f) (v:=.int .u32 (zK tp ops (W.ps i).ls (f+1):Nat)) (by unfold PO bQ;rw[iZ,iZ,adW η];rfl);obtain⟨gk,hgk,mk,_,_⟩:=Hxk.o.marks.at_ (i:=f) (v:=.int .u32 (zK tp ops (W.ps k).ls (f+1):Nat)) (by unfold PO bQ;rw[iZ,iZ,adW η];rfl);have amD:=Hxi.o.marks.rd.2.1;have amE:=Hxk.o.marks.rd.2.1;rw[gK]at amD amE;rw[hgi]at i16;rw[hgk]at k16;replace mi:=xf.cell mi;replace mk:=xf.cell mk;rw[←KV]at mk;rw[hCi.len]at Hji;rw[hCk.len]at Hjk;have bi:=xf.cell ((HR.o.ps i qV).bn.elim fun A h=>h.elim fun n h=>h.elim fun d h=>h.1.zc 0);have bk:=xf.cell ((HR.o.ps k jk).bn.elim fun A h=>h.elim fun n h=>h.elim fun d h=>h.1.zc 0);have pi_:=xf.cell (Hcp.o i qV);have pk_:=xf.cell (Hcp.o k jk);have e1:=xf.cell c1;have an3:f<(W.ps i).front:=η;have an4:f<(W.ps k).front:=η;have Hx2:=θ xf;unfold π at*;generalize zK tp ops (W.ps i).ls (f+1)=sm at*;generalize bp (W.ps i).ls f=jl at*;clear hjj KV hgi hgk Ci Ck Gy;go_wp2_with fail;apply iL trivial;repeat first|apply VZ e1 pi_ bi i10|apply lU trivial
       apply vG (p:=fun u W2=>∃B d,u=.slice B jl.length d/\Rb W2 B jl.length d jl) (fun _ _ _ ⟨B,d,h1,h2⟩ e=>⟨B,d,h1,Rd.ext h2 e⟩)
       .rfl
       .intro W2;go_simp;exact⟨rfl,rfl⟩
       .intro W2 hR υ;refine(Hji.o W2 (Hx2.o.trans hR)).mono ?_;rintro e w' ⟨B,jn,bd,rfl,ho,he⟩;have mX:jn=jl.length:=Ld;subst mX;exact⟨_,rfl,he,B,bd,rfl,ho.rd⟩
       intro v14;simp only[pu];apply lT (u:=.string (bs jl)) Ext.refl
       .rfl
       .intro W2 hR υ;obtain⟨B,d,rfl,hb⟩:=υ.1 rfl;have cc:=dS (P:=prog) W2 30 9 5 underlying30 underlying5 underlying9 _ _ _ _ hb;go_simp;first|done|rfl
       simp only[pu];repeat first|apply VZ e1 pk_ bk k10|apply lU trivial
       apply vG (p:=fun u W2=>∃B d,u=.slice B jl.length d/\Rb W2 B jl.length d jl) (fun _ _ _ ⟨B,d,h1,h2⟩ e=>⟨B,d,h1,Rd.ext h2 e⟩)
       .rfl
       .intro W2;go_simp;exact⟨rfl,rfl⟩
       .intro W2 hR υ;refine(Hjk.o W2 (Hx2.o.trans hR)).mono ?_;rintro e w' ⟨B,jn,bd,rfl,ho,he⟩;have mX:jn=jl.length:=Ld;subst mX;exact⟨_,rfl,he,B,bd,rfl,ho.rd⟩
       intro v30;simp only[pu];apply lT (u:=.string (bs jl)) Ext.refl
       .rfl
       .intro W2 hR υ;obtain⟨B,d,rfl,hb⟩:=υ.1 rfl;have cc:=dS (P:=prog) W2 30 9 5 underlying30 underlying5 underlying9 _ _ _ _ hb;go_simp;first|done|rfl
       simp only[pu];repeat first|apply lx9 e1 pi_ bi i16 mi pk_ bk k16 mk|apply lU trivial
       refine lex_nil ?_;intro Wx ak υ;have HX9:=θ (Hx2.o.trans ak);clear υ ak e1 pi_ pk_ bi bk i10 i16 k10 k16 mi mk xf;go_wp2;go_roundw
       case rel=>exact⟨f+1,cR,by have:=Yo.o;omega,HX9.o⟩
       case measure=>have:=Yo.o;simp[intOf];omega
      .obtain rfl:f=mn:=by omega
       go_wp2;go_roundw
       case rel=>exact⟨k+1,cR,by have:=Hkl.o;omega,xf⟩
       case measure=>have:=Hkl.o;simp[intOf];omega
    .obtain rfl:k=i:=by omega
     have VJ:=acy.o k qV;have HKk:=θ (HlK.o k qV);have hce:=Hce.o k qV;have Hev:=θ (HR.o.ev k qV);generalize W.log k=lg at*;generalize r.hs k=js at*;go_wp2_with fail;go_loopw [7] (fun jv wr=>∃j:Nat,jv=.int .i64 (j:Nat)/\j<=lg.length/\Ext w wr) (fun jv _=>lg.length-(intOf jv).toNat)
     case atStart=>exact⟨0,rfl,aM _,xk⟩
     case round =>
      obtain⟨j,rfl,hj,xj⟩:=hrel;have e3:=xj.cell c3;have ee:=xj.cell hce;by_cases iY:j<lg.length
      .have agH:=dQ ((j:Int)<(lg.length:Int))
       have Rh:=θ iY;have hg:(iu lg)[j*3]?=some ((lg[j].1:Nat):ξ):=(NP lg iY (i:=0) Γ).trans rfl;obtain⟨gr,kS,cr_,_,_⟩:=Hev.o.at_ hg;have hmr:=Hev.o.rd.2.1;have I1:=HKk.o lg[j] (dH iY);rw[kS]at ee;replace cr_:=xj.cell cr_;generalize lg[j].1=kd at*;have h3:((kd:Int)==3)=false:=kO;have h3':(kd==3)=false:=kO;clear hg kS;go_wp2;go_roundw
       case rel=>exact⟨j+1,cR,WD,xj⟩
       case measure=>have:=Rh.o;simp[intOf];omega
      .obtain rfl:j=lg.length:=by omega
       go_wp2;go_roundw
       case rel=>exact⟨k+1,cR,by have:=Hil.o;omega,xj⟩
       case measure=>have:=Hil.o;simp[intOf];omega
  .obtain rfl:i=cf.n:=by omega
   go_wp2;go_ret;exact⟨rfl,xr⟩
end
theorem Row.rZ{e:TypeId}{size c:Nat}{xs:List ξ}(h:Row w T t e size A n c xs)(hT:∀q,T q=t->T' q=t):Row w T' t e size A n c xs:=⟨h.1,fun k hk=>hT k (h.2 k hk)⟩
theorem Cb.rZ{lc:Nat}{hs:Nat->Option Addr×Nat}{ls:bH}(h:Cb w T t A lc hs ls)(hT:∀q,In t (1+ls.length) (T q)->T' q=T q):Cb w T' t A lc hs ls :=
 ⟨h.row.rZ fun q e=>(hT q (by rw[e];unfold In;omega)).trans e,fun i hi=>(h.ln i hi).rZ fun q e=>(hT q (by rw[e];unfold In;omega)).trans e⟩
theorem wH.rZ{q cb:Nat}{me:Nat}{m:Nat}(h:wH w T t q cb cf me tp l c m)(hn:c.ls.length<=8)(hT:∀q,(T q=0\/In t 17 (T q))->T' q=T q):wH w T' t q cb cf me tp l c m:=by obtain⟨⟨A,n,d,h1,h2,h3⟩,x,h4⟩:=h;have k:∀j,In t 17 j->∀q,T q=j->T' q=j:=fun j hj q e=>(hT q (.inr (by rw[e];exact hj))).trans e;exact⟨⟨A,n,d,h1.of (k _ cN _ h1.1),h2,fun h0 b hb=>(hT b (.inl (h3 h0 b hb))).trans (h3 h0 b hb)⟩,x,h4.hd.of (k _ cN _ h4.hd.1),h4.ln.rZ fun q e=>hT q (.inr iw),h4.heard.rZ (k _ cN),h4.has.rZ (k _ cN),h4.words.rZ (k _ cN),h4.apart.rZ (k _ cN),h4.marks.rZ (k _ cN),h4.bx.rZ (k _ cN)⟩
def tg0(t n:Nat)(T:Tg):Tg:=fun q=>if t<=T q/\T q<t+n then 29 else T q
theorem NV{Pr:Program}{f:FuncId}{args:Array ξ}(hu:Θ w T)(t n:Nat)(ht:29<t){Q:ξ->κ->Tg->Prop}(hC:τ Pr f args w (cG (fun _=>False) w (tg0 t n T) Q))(hQ:∀v w' T1 T2,Q v w' T1->(∀q,(T1 q=0\/In t n (T1 q))->T2 q=T1 q)->Q v w' T2):τ Pr f args w (cG (fun _=>False) w T Q):=by
 refine hC.mono ?_;rintro e w' ⟨v,rfl,T1,hT,hq⟩;have hold:∀q,q<w.heap.size->T1 q=tg0 t n T q:=fun q hq=>hT.tag q hq;refine⟨v,rfl,fun q=>if q<w.heap.size then T q else T1 q,⟨hT.os,hT.tape,hT.output,hT.size,fun k hk _=>hT.block k hk fun h=>h,fun k hk=>if_pos hk,fun k hk=>?_⟩,hQ v w' T1 _ hq fun q hz=>?_⟩
 .rw[if_neg (by have:=hT.size;omega)];exact hT.Δ k hk
 .by_cases hl:q<w.heap.size
  .rw[if_pos hl]
   have h1:=hold q hl;unfold tg0 at h1;split at h1
   .rw[h1]at hz;unfold In at hz;omega
   .exact h1.symm
  .rw[if_neg hl]
theorem aaA(t n:Nat)(ht:29<t)(T:Tg)(k:Nat):¬In t n (tg0 t n T k):=by unfold tg0 In;split<;>omega
theorem Q9(ht:29<t)(hu:Θ w T):Θ w (tg0 t n T):=fun k hk=>by unfold tg0;rw[hu k hk];exact if_neg η
def ae1(w:κ)(T:Tg)(b gc:Nat)(cf:Cf)(tp:aD)(l:List dM)(C0:Option Addr->Nat->Nat->List ξ)(iv:ξ)(wr:κ):Prop :=
 ∃(k:Nat) (T':Tg) (PA:aS) (pc:Nat) (qs cs:Nat->Nat) (me':Nat),iv=.int .i64 (k:Nat)/\k<=cf.n/\Ξ (fun j=>j=14\/j=15\/j=400) w T wr T'/\Has wr T' 14 b (C0 PA k pc)/\Row wr T' 15 60 1 PA k pc ((dJ k).map fun i=>π (qs i))/\Has wr T' 400 gc (aA cf me')/\∀i,i<k->wH wr T' (30+20*i) (qs i) (cs i) cf i tp l (Cr.new cf.n cf.Ω) (Cr.new cf.n cf.Ω).front
def wnP(w w':κ)(b:Nat)(cf:Cf)(tp:aD)(l:List dM)(ah:Bool):Prop:=∃T' mb m r,Ξ (fun _=>False) w (fun _=>0) w' T'/\m.k0=400/\ef w' T' mb cf tp l ah m (Wd.new cf.n cf.Ω) 10/\iP w' T' b mb cf tp l r (Wd.new cf.n cf.Ω)
def rpP(k:Nat)(cf:Cf)(tp:aD)(l:List dM)(v:ξ)(w:κ)(T:Tg):Prop:=∃q cb,v=.pointer (some ⟨q,0,none⟩)/\wH w T (30+20*k) q cb cf k tp l (Cr.new cf.n cf.Ω) (Cr.new cf.n cf.Ω).front
theorem Ra(k:Nat)(qs:Nat->Nat)(q:Nat):(dJ (k+1)).map (fun i=>π (aW qs k q i))=((dJ k).map fun i=>π (qs i))++[π q]:=by
 rw[List.range_succ,List.map_append,List.map_cons,List.map_nil,aH];congr 1
 exact List.map_congr_left fun i hi=>by rw[az _ _ (by have:=List.mem_range.1 hi;omega)]
theorem aaB(w:κ)(cf:Cf)(aT:jA cf)(tp:aD)(l:List dM){d:Nat}(sJ:Ro w A n d l)(mY:tp.length<=1099511627776)(DJ:fD tp l = -1)(Ol:l.length<=64)(ah:Bool):τ prog 27 #[iC cf 0,fX tp A n d,.slice none 0 0,.bool ah] w fun e w'=>∃b,e=.returned (π b)/\wnP w w' b cf tp l ah:=by
 obtain⟨i,hi,dx,dA,dN⟩:=info_parts VM;obtain⟨cz,hcz⟩:∃cz,cz=cP cf.n (ξ.slice none 0 0):=⟨_,rfl⟩;have TA:=F4 (s:=44) underlying44 hi dx dA dN Γ aT.n8 (cs:=cz) (by rw[hcz,Nat.mul_one];show(madeCells #[_] _).toList=_;rw[sV]);have Hcz:=θ hcz;clear hcz;clear hi dx dA dN;obtain⟨i0,hi,dx,dA,dN⟩:=info_parts aau;have BR:=aT.n2;have jW:=aT.n8;have hOs:Os w (fun _=>0) A n d l:=⟨sJ,fun _ _ _=>rfl⟩;have DX:=θ fun W T1 (GZ:Θ W T1) (ho:Os W T1 A n d l) k (hk:k<cf.n)=>NV GZ (30+20*k) 17 η (aap W (tg0 (30+20*k) 17 T1) (Q9 η GZ) (30+20*k) η (fun q _=>aaA _ _ η T1 q) cf k aT hk tp l (⟨ho.1,fun h0 j hj=>by unfold tg0;rw[ho.2 h0 j hj];exact if_neg η⟩) mY)
  (fun v w' T1 T2 ⟨q,cb,h1,h2⟩ hT=>⟨q,cb,h1,h2.rZ (by simp only[Cr.new,gO];exact aT.n8) hT⟩)
 have Hmt:=θ fun W T1 (e:Ext w W) (h1:Θ W T1) (hT:∀k,k<W.heap.size->T1 k=0\/14<=T1 k)=>aaQ W T1 h1 hT cf aT tp l (sJ.ext e) mY DJ Ol ah;have QG:=θ (show ∀i,i<cf.n->((Wd.new cf.n cf.Ω).ps i).ls.length<=8 from fun i _=>by simp only[Wd.new,Cr.new,gO];exact jW);have HOs:=θ hOs;clear hOs;unfold iC fX at*;have hu:Θ w (fun _=>0):=fun _ _=>rfl;obtain⟨hTc,QW⟩:=Has.fresh hu (aA cf 0) 26 400;have xp:=Ext.alloc (w.alloc (.cells (aA cf 0).toArray 26)) (.cells #[.string (bs tp),.slice A n d] 65);have VI:=(Has.new (w.alloc (.cells (aA cf 0).toArray 26)) (give (fun _=>0) (one w.heap.size) 400) [.string (bs tp),.slice A n d] 65 (b:=w.heap.size+1) bT);rw[hTc.Δ (w.heap.size+1) bT]at VI;have QW:=QW.ext xp;have x0:=(Ext.alloc w (.cells (aA cf 0).toArray 26)).trans xp;have SR:=hTc.ext xp;have hs0:((w.alloc (.cells (aA cf 0).toArray 26)).alloc (.cells #[.string (bs tp),.slice A n d] 65)).heap.size=w.heap.size+2:=bT;go_enter func27,ntmps27;go_upto_region 1 with fail
 generalize hW:aB (aB w _) _=W0;have We:(w.alloc (.cells (aA cf 0).toArray 26)).alloc (.cells #[.string (bs tp),.slice A n d] 65)=W0:=by rw[←hW];rfl
 rw[We]at VI QW x0 SR hs0;clear hW We xp hTc;obtain⟨gc,oN⟩:∃gc,gc=w.heap.size:=⟨_,rfl⟩;obtain⟨gp,tK⟩:∃gp,gp=w.heap.size+1:=⟨_,rfl⟩;rw[←tK]at VI⊢;rw[←oN]at VI QW SR⊢;have Hgc:=θ (show w.heap.size<=gc by omega);have aku:∀q,give (fun _=>0) (one gc) 400 q=0\/14<=give (fun _=>0) (one gc) 400 q:=fun q=>by
  by_cases e:q=gc
  .right
   rw[e,wR (by simp[one])];omega
  .left
   rw[qJ (by simp[one,e])]
 have amF:=θ aku;clear aku;generalize give (fun _=>0) (one gc) 400=T1 at*;clear oN tK hs0;have f1:=QW.free 1;have k1:=QW.zc 1;obtain⟨kq,hCs⟩:=QW.put (S:=(· = 400)) SR.Δ 1 (.int .i64 ((0:Nat):Int)) rfl;have akv:Has _ T1 400 gc (aA cf 0):=hCs;have Sg:=θ (SR.set ⟨gc,1,none⟩ (.int .i64 ((0:Nat):Int)) (.inr Hgc.o));have HP1:=θ (VI.ο kq η);have PW:=θ akv;have hz:((0:Nat):Int)=0:=rfl;clear kq hCs akv VI QW SR x0;go_upto_region 2 with fail
 generalize wL:dG W0 _ _=w1;have DC:W0.setCell (gc,1) (.int .i64 ((0:Nat):Int))=w1:=by rw[←wL];rfl
 rw[DC]at Sg HP1 PW;clear wL DC f1 k1;have hCx:=PW.o;unfold aA at hCx;have hbA:=hCx.all;have Dz:[af .i64 (cf.n:Nat),.int .i64 ((0:Nat):Int),.int .i64 (cf.id:Nat),.int .i64 (cf.Ω:Nat),.int .i64 (cf.χ:Nat),.int .i64 (cf.bD:Nat),.int .i64 (cf.order:Nat),.int .i64 (cf.aR:Nat),.int .i64 (cf.workers:Nat),.int .i64 (cf.room:Nat)].length=10:=rfl;have p0:=HP1.o.zc 0;have p1:=HP1.o.zc 1;have N5:Ext w w1:=⟨Sg.o.os,Sg.o.tape,Sg.o.output,Sg.o.size,fun q hq=>Sg.o.block q hq (fun h=>h)⟩;have NH:=θ (Hmt.o w1 T1 N5 Sg.o.Δ (fun q _=>amF.o q));clear N5 hCx;go_wp2_with (first|(with_reducible refine bI rfl 26 (.tmp 4) rfl rfl underlying26 qB Dz hbA ?_))
 refine NH.o.mono ?_;rintro e w2 ⟨v,rfl,T2,bq,mb,m,rfl,nE,akw⟩;have rG:=θ nE;have HC2:=θ (show Has w2 T2 400 gc (aA cf 0) from PW.o.ο bq (fun h=>h));have Gq:=HP1.o.ο bq (fun h=>h);have jr:=θ (Sg.o.trans bq);have Hts:=θ (show ∀i,i<cf.n->400<m.ts i from fun i hi=>by have:=akw i hi gc PW.o.lt;rw[PW.o.1]at this;exact this);have k0:w2.cell? gc=some (cf.n:ξ):=HC2.o.zc 0;have Gr:=θ Gq;unfold π at*;clear nE bq Gq p0 p1 hbA akw PW HP1 Sg NH Dz;go_upto_region 6 with fail
 obtain⟨vm,QL⟩:=Row.fresh (e:=80) (size:=1) (A:=some ⟨w2.heap.size,0,none⟩) (n:=cf.n) (c:=cf.n) jr.o.Δ (w':=w2.alloc (.cells cz.toArray 80)) ⟨by rw[Hcz.o];simp,.inr ⟨w2.heap.size,cf.n,_,rfl,aq _,heap_alloc_new w2 _,aq _,iQ,by rw[Hcz.o];simp,rfl⟩⟩ (Ext.alloc _ _) 17
 generalize give T2 (Proofs.YtffcefoadaogbaaGreat.went none (some ⟨w2.heap.size,0,none⟩)) 17=T2a at*;obtain⟨qY,Og⟩:=Has.fresh vm.Δ [.pointer (some ⟨mb,0,none⟩),.slice none 0 0,.slice none 0 0,.slice (some ⟨w2.heap.size,0,none⟩) cf.n cf.n] 46 14;have fV:(w2.alloc (.cells cz.toArray 80)).heap.size=w2.heap.size+1:=bT;rw[fV]at qY Og;have pP:=(rG.o.ο aT QG.o vm (fun _ _ h=>h) (fun _ _ _ _ h=>h)).ο aT QG.o qY (fun _ _ h=>h) (fun _ _ _ _ h=>h);have FC:=(HC2.o.ο vm (fun h=>h)).ο qY (fun h=>h);have ry:=(Gr.o.ο vm (fun h=>h)).ο qY (fun h=>h);have KA:=QL.ο qY (fun h=>h);have cT:=(jr.o.trans vm).trans qY;have Hb:=θ (show w.heap.size<=w2.heap.size+1 from aF jr.o.size (Nat.le_succ _));generalize Ux:aB (aB w2 _) _=w3 at*;generalize give T2a (one (w2.heap.size+1)) 14=T3 at*;generalize w2.heap.size+1=gb at*;generalize C8:w2.heap.size=ge at*;have AI:=θ pP;have jH:=θ cT;have Qd:=θ FC;have ZJ:=θ ry;have HH3:=θ Og;have HE3:=θ KA;clear Ux vm qY QL Og fV pP FC ry cT KA C8 rG HC2 Gr jr k0;go_upto_region 7 with fail
 go_loopw [12] (fun iv wr=>ae1 w3 T3 gb gc cf tp l (fun PA n c=>[.pointer mb,.slice PA n c,.slice none 0 0,.slice ge cf.n cf.n]) iv wr) (fun iv _=>cf.n-(intOf iv).toNat)
 case atStart=>exact⟨0,T3,none,0,fun _=>0,fun _=>0,0,rfl,aM _,Ξ.refl _ jH.o.Δ,HH3.o,Row.dR _ _ _ _ _,Qd.o,fun i hi=>absurd hi (Nat.not_lt_zero i)⟩
 case round =>
  obtain⟨k,T0,PA,pc,qs,cs,me4,rfl,hk,hT,hH,fO,hC,akx⟩:=hrel;have acE:(Cr.new cf.n cf.Ω).ls.length<=8:=by simp only[Cr.new,gO];exact jW
  have aky:=θ akx;clear akx;have jU:=hT.Δ;by_cases jk:k<cf.n
  .have Di:=dQ (k<cf.n) jk
   have jF:=dQ ((k:Int)<(cf.n:Int));have k0:wr.cell? gc=some (cf.n:ξ):=hC.zc 0;have k1:=hC.zc 1;have f1:=hC.free 1;obtain⟨kq,hCs⟩:=hC.put (S:=(· = 400)) jU 1 (.int .i64 (k:Nat)) rfl;have Qe:=θ (show Has _ T0 400 gc (aA cf k) from hCs);have ZH:=θ (hH.ο kq η);have HR5:=θ (fO.ο kq η);have qZ:=θ (hT.trans (kq.mono fun j h=>.inr (.inr h)));have HP5:=θ ((ZJ.o.ο hT η).ο kq η);have amG:=θ fun i (hi:i<k)=>(aky.o i hi).ο acE kq η (fun j hj=>Jw);clear kq hCs hC hH fO hT jU;go_upto_region 10 with fail
   generalize Zr:dG wr _ _=w0 at*;clear Zr;have jU:=qZ.o.Δ;have hH:=ZH.o;have fO:=HR5.o;have hC:=Qe.o;have hP:=HP5.o;have hne:=hH.jY fO η;have Gc:=hC.jY fO η;have Ea:=hP.jY fO η;have c1:w0.cell? (gb,1)=some (.slice PA k pc):=hH.zc 1;have k0:w0.cell? gc=some (cf.n:ξ):=hC.zc 0;have k1:w0.cell? (gc,1)=some (k:ξ):=hC.zc 1;have k2:w0.cell? (gc,2)=some (cf.id:ξ):=hC.zc 2;have k3:w0.cell? (gc,3)=some (cf.Ω:ξ):=hC.zc 3;have k4:w0.cell? (gc,4)=some (cf.χ:ξ):=hC.zc 4;have k5:w0.cell? (gc,5)=some (cf.bD:ξ):=hC.zc 5;have k6:w0.cell? (gc,6)=some (cf.order:ξ):=hC.zc 6;have k7:w0.cell? (gc,7)=some (cf.aR:ξ):=hC.zc 7;have k8:w0.cell? (gc,8)=some (cf.workers:ξ):=hC.zc 8;have k9:w0.cell? (gc,9)=some (cf.room:ξ):=hC.zc 9;have p0:=hP.zc 0;have p1:=hP.zc 1;have mA:sA 15 (rpP k cf tp l):=fun v w T w' T' ⟨q,cb,h1,h2⟩ hT=>⟨q,cb,h1,h2.ο acE hT η (fun j hj=>Jw)⟩;have eo:∀(v:ξ) (w:κ) (T:Tg),rpP k cf tp l v w T->v.cells.toList.length=1/\∀y∈v.cells.toList,y.oneCell'=true:=by rintro v w T ⟨q,cb,rfl,_⟩;exact⟨rfl,Gu⟩
   have HO5:Os w0 T0 A n d l:=HOs.o.ο ((jH.o.mono (S':=fun j=>j=14\/j=15\/j=400) fun _ h=>h.elim).trans qZ.o) η;have HC:∀W,gR PA w0 W->τ prog 42 #[.agg #[cf.n,k,cf.id,cf.Ω,cf.χ,cf.bD,cf.order,cf.aR,cf.workers,cf.room],.agg #[.string (bs tp),.slice A n d],.slice none 0 0] W (cG (fun _=>False) W T0 (rpP k cf tp l)):=fun W hR =>
    DX.o W T0 (fun j hj=>jU j (aF hR.size hj)) (HO5.ο (Ξ.om (S:=(· = 15)) jU hR (fun g hg=>fO.2 g hg)) η) k jk
   clear hH hC hP HR5;have eL:=(fO).1;have cU:=(fO).cond;apply Ar 13 (gR PA) (oM 10 PA) (BL 10 60 1 PA k pc ((dJ k).map fun i=>π (qs i))) (BL.start eL);simp only[tk];repeat apply gF (fun _ h _ _=>aj (h.cell c1 hne) (aj (h.cell k0 Gc) (aj (h.cell k1 Gc) (aj (h.cell k2 Gc) (aj (h.cell k3 Gc) (aj (h.cell k4 Gc) (aj (h.cell k5 Gc) (aj (h.cell k6 Gc) (aj (h.cell k7 Gc) (aj (h.cell k8 Gc) (aj (h.cell k9 Gc) (aj (h.cell p0 Ea) (h.cell p1 Ea)))))))))))))
   apply uI (p:=uO T0 w0.heap.size (rpP k cf tp l)) Γ Γ (uO.aQ mA cU _)
   .intro W hR hJ υ;exact uO.call (fun k hk=>jU k (aF hR.size hk)) hR.size (HC W hR)
   intro v1;simp only[pu];try ((repeat (apply j7 Γ Γ (gR.refl _) (oM.refl _ _);(· rfl);(· intro W hR hJ υ;go_simp;first|done|with_reducible rfl);simp only[pu])))
   apply aE (p:=dI T0 w0.heap.size (rpP k cf tp l) 60) Γ Γ (dI.aQ mA cU _)
   .rfl
   .intro W hR hJ υ;have hF:=υ.1 rfl;have hB:=dI.made (e:=60) mA hR.size hF;obtain⟨T9,EK,yX,TL⟩:=hF;obtain⟨q,cb,rfl,Sz⟩:=TL;refine⟨_,_,?_,(Ext.alloc _ _).grownBy _,.inr (Ext.alloc _ _),hB⟩;go_simp;first|done|rfl
   intro v2;simp only[pu];apply aE (p:=mO T0 w0.heap.size (rpP k cf tp l) (15) PA 60 1 (k+1) ((dJ k).map fun i=>π (qs i))) Γ Γ (fun j hj v w w9 h hR=>mO.aQ j hj v w w9 h mA hR)
   .rfl
   .intro W hR hJ υ;exact dF W _ _ 42 rfl 60 i0 (.pointer none) 1 8 underlying42 hi dx dA dN rfl Γ PA k pc (((dJ k).map fun i=>π (qs i))) rfl (hJ rfl) v2 rfl (υ.1 rfl) eo iQ η cU mA hR.size
   intro v3;simp only[pu];repeat apply gF (fun _ _ _ _=>trivial)
   refine aP ?_;intro W hR gT υ;obtain⟨u1,T1,E,Ed,rfl,cw,BU,ja,pJ⟩:=(υ.1 rfl).fin hR cU;clear υ gT;simp only[dk];obtain⟨q,cb,rfl,Sz⟩:=BU;have lJ:=ZH.o.ο cw η;have c1:=lJ.zc 1;have f1:=lJ.free 1;obtain⟨kq,FY⟩:=lJ.put (S:=(· = 14)) cw.Δ 1 (.slice E (k+1) Ed) rfl;have HHs:=θ FY;have HTs:=θ ((qZ.o.trans (cw.mono (fun k h=>.inr (.inl h)))).trans (kq.mono (fun k h=>.inl h)));have HRs:=θ (ja.ο kq η);have HCs:=θ ((Qe.o.ο cw η).ο kq η);have amH:=θ (show ∀i,i<k+1->wH _ T1 (30+20*i) (aW qs k q i) (aW cs k cb i) cf i tp l (Cr.new cf.n cf.Ω) (Cr.new cf.n cf.Ω).front from fun i hi=>by
    by_cases e:i=k
    .subst e;rw[aH,aH];exact Sz.ο acE kq η (fun j hj=>Jw)
    .rw[az _ _ e,az _ _ e];exact((amG.o i η).ο acE cw η (fun j hj=>Jw)).ο acE kq η (fun j hj=>Jw))
   clear Sz HO5 lJ kq FY cw ja pJ hR fO jU hne Gc Ea k0 k1 k2 k3 k4 k5 k6 k7 k8 k9 p0 p1 eo mA HC;go_wp2;go_roundw
   case rel=>exact⟨k+1,T1,E,Ed,aW qs k q,aW cs k cb,k,cR,η,HTs.o,HHs.o,by rw[Ra];exact HRs.o,HCs.o,amH.o⟩
   exact dB
  .obtain rfl:k=cf.n:=by omega
   have k0:wr.cell? gc=some (cf.n:ξ):=hC.zc 0;have Zc:∀q,q<14->¬(q=14\/q=15\/q=400):=fun q h=>η;have HM9:=θ (AI.o.ο aT QG.o hT Zc (fun i hi q hq e=>by have:=Hts.o i hi;unfold In at hq;omega));have GN:=θ (jH.o.fresh hT (fun q hq e=>by rcases e with e|e|e<;>cases e))
   have HH9:=θ hH;have HR9:=θ fO;have HE9:=θ (HE3.o.ο hT η);clear hH fO hC;go_wp2;go_ret;refine⟨gb,rfl,T0,mb,{m with k0:=400},⟨PA,pc,none,0,some ⟨ge,0,none⟩,cf.n,qs,cs,fun _=>(none,0)⟩,GN.o,rfl,?_,HH9.o,HR9.o,rI.of (Nn.dR _ _ _ _),HE9.o.to ?_,fun i hi=>Row.dR _ _ _ _ _,aky.o⟩
   .have hM:=HM9.o;exact⟨hM.hd,hM.row,hM.bx,hM.ev,hM.au,⟨(Γ:14<=400),fun i hi=>Nat.le_of_lt (Hts.o i hi)⟩,hM.tsd,hM.ps⟩
   .rw[Hcz.o]
    apply List.ext_getElem
    .simp
    .intro i h1 h2;simp[Wd.new]
def pQ(w:κ)(T:Tg)(tb:Nat)(cf:Cf)(ah:Bool)(W:Wd)(B:Nat):Prop:=∃wb mb m r,Has w T 28 tb [π wb,cf.n,.bool true]/\m.k0=400/\ef w T mb cf iT eC ah m W B/\iP w T wb mb cf iT eC r W
theorem pQ.ext{W:Wd}{B:Nat}(h:pQ w T tb cf ah W B)(e:Ext w w'):pQ w' T tb cf ah W B:=by obtain⟨wb,mb,m,r,h1,h2,h3,h4⟩:=h;exact⟨wb,mb,m,r,h1.ext e,h2,h3.ext e,h4.ext e⟩
def ahl(w w':κ)(tb:Nat)(cf:Cf)(ah:Bool):Prop:=∃T',Ξ (fun _=>False) w (fun _=>0) w' T'/\pQ w' T' tb cf ah (Wd.new cf.n cf.Ω) 10
theorem wnP.ext{w1 w2:κ}{b:Nat}(h:wnP w w1 b cf tp l ah)(e:Ext w1 w2):wnP w w2 b cf tp l ah:=by obtain⟨T',mb,m,r,h1,h2,h3,h4⟩:=h;exact⟨T',mb,m,r,h1.ext e,h2,h3.ext e,h4.ext e⟩
theorem NW(h:Ξ (fun _=>False) w T w' T'):Ext w w':=⟨h.os,h.tape,h.output,h.size,fun k hk=>h.block k hk (fun h=>h)⟩
theorem NX(w:κ)(cf:Cf)(aT:jA cf)(ah:Bool):τ prog 12 #[iC cf 0,.bool ah] w fun e w'=>∃tb,e=.returned (.pointer (some ⟨tb,0,none⟩))/\ahl w w' tb cf ah:=by
 have HP:=θ fun W=>Fo W;have HN:=θ fun W A (sJ:Ro W A 12 12 eC)=>aaB W cf aT iT eC sJ Γ Mp Γ ah;have x0:=Ext.alloc w (.cells (aA cf 0).toArray 26);have hb:=(Has.new w (fun _=>0) (aA cf 0) 26 rfl);unfold iC aA at*;go_enter func12,ntmps12;go_upto_region 1 with fail
 generalize hW:aB w _=W0 at*;have ru:Ξ (fun _=>False) w (fun _=>0) W0 (fun _=>0):=Ξ.ai _ (fun _ _=>rfl) x0;have o6:=θ ru;generalize w.heap.size=gc at*;have k0:=hb.zc 0;have k1:=hb.zc 1;have k2:=hb.zc 2;have k3:=hb.zc 3;have k4:=hb.zc 4;have k5:=hb.zc 5;have k6:=hb.zc 6;have k7:=hb.zc 7;have k8:=hb.zc 8;have k9:=hb.zc 9;clear hb hW ru x0;apply lG 4;simp only[tk];repeat apply agh k0 k1 k2 k3 k4 k5 k6 k7 k8 k9
 apply BC (p:=fun u W=>∃A,u=fX iT A 12 12/\Ro W A 12 12 eC) (fun _ _ _ ⟨A,h1,h2⟩ he=>⟨A,h1,h2.ext he⟩)
 .intro W hR υ;refine(HP.o W).mono ?_;rintro e w' ⟨A,rfl,h1,h2⟩;exact⟨_,rfl,h2,A,rfl,h1⟩
 intro v1;simp only[pu];repeat apply iO (fun _ _ _=>trivial)
 apply BC (p:=fun u W=>∃wb,u=π wb/\wnP W0 W wb cf iT eC ah) (fun _ _ _ ⟨q,h1,h2⟩ he=>⟨q,h1,h2.ext he⟩)
 .intro W hR υ;obtain⟨A,rfl,sJ⟩:=υ.1 rfl;refine(HN.o W A sJ).mono ?_;rintro e w' ⟨wb,rfl,T',mb,m,r,hT,hM,zL,hH⟩;refine⟨_,rfl,NW hT,wb,rfl,T',mb,m,r,(Ξ.ai _ (fun _ _=>rfl) hR).trans hT,hM,zL,hH⟩
 intro v2;simp only[pu];refine lex_nil ?_;intro Wx ak υ;obtain⟨wb,rfl,hMP⟩:=υ.1 rfl;clear υ;simp only[dk];have k0:=ak.cell k0;obtain⟨T',mb,m,r,hT,Bk,hM,hR⟩:=hMP;have HT:=θ (o6.o.trans hT);have HM:=θ hM;have Hm0:=θ Bk;have HR:=θ hR;unfold π at*;clear k1 k2 k3 k4 k5 k6 k7 k8 k9 ak hT hM Bk hR HP HN o6;go_wp2;go_ret;obtain⟨qY,Og⟩:=Has.fresh HT.o.Δ [.pointer (some ⟨wb,0,none⟩),.int .i64 (cf.n:Nat),.bool true] 37 28;have jW:=aT.n8;have mj:∀i,i<cf.n->((Wd.new cf.n cf.Ω).ps i).ls.length<=8:=fun i _=>by simp only[Wd.new,Cr.new,gO];exact jW
 exact⟨_,rfl,_,HT.o.trans qY,wb,mb,m,r,Og,Hm0.o,HM.o.ο aT mj qY (fun _ _ h=>h) (fun _ _ _ _ h=>h),HR.o.ο aT mj qY (fun h=>h) (fun _ _ h=>h)⟩
def uS(k:Nat):Prop:=tS k\/k=28
def ahm(cf:Cf)(ah:Bool)(W W1:Wd)(B1:Nat)(wb mb:Nat)(w':κ)(T':Tg):Prop:=∃r' m',m'.k0=400/\iP w' T' wb mb cf iT eC r' W1/\ef w' T' mb cf iT eC ah m' W1 B1
section
variable {w w':κ}{T T':Tg}{tb:Nat}{cf:Cf}{ah:Bool}{W W1:Wd}{B B1:Nat}
theorem aaC(h:pQ w T tb cf ah W B)(aT:jA cf)(hu:Θ w T)(oh:∀i,i<cf.n->(W1.ps i).ls.length<=8)(fn a x n:Int)(hS:∀wb mb m r w0,Θ w0 T->m.k0=400->ef w0 T mb cf iT eC ah m W B->iP w0 T wb mb cf iT eC r W->τ prog 36 #[π wb,dy fn a x n] w0 (Does tS w0 T (.bool true) (ahm cf ah W W1 B1 wb mb))):τ prog 17 #[π tb,dy fn a x n] w (Does uS w T (.tuple #[]) fun w' T'=>pQ w' T' tb cf ah W1 B1):=by
 obtain⟨wb,mb,m,r,hT,vq,hm,hr⟩:=h;have HT:=θ hT;have HS:=θ fun w0 (e:Ext w w0)=>hS wb mb m r w0 (hu.ext e) vq (hm.ext e) (hr.ext e);have x0:=Ext.alloc w (.cells #[fn,a,x,n] 59);have hb:=(Has.new w T [fn,a,x,n] 59 rfl);rw[hu _ (aq _)]at hb;have HU:=θ (hu.ext x0);have o6:=θ (Ξ.ai uS hu x0);have c0:=hT.zc 0;have c2:=hT.zc 2;have qY:=hT.1;unfold dy π at*;clear hT hm hr hS hu;go_enter func17,ntmps17;go_upto_region 1 with fail
 generalize hW:aB w _=W0 at*;generalize w.heap.size=gs at*;clear hW;replace c0:=x0.cell c0;replace c2:=x0.cell c2;have k0:=hb.zc 0;have k1:=hb.zc 1;have k2:=hb.zc 2;have k3:=hb.zc 3;have pF:¬tS (T tb):=by rw[qY];unfold tS wS mS;omega
 have uA:¬tS (T gs):=by rw[hb.1];unfold tS wS mS;omega
 have hu:=HU.o;have Je:Grow (fun v w' T'=>v=.bool true/\ahm cf ah W W1 B1 wb mb w' T'):=by rintro v w T w' ⟨h1,r',m',h2,h3,h4⟩ e;exact⟨h1,r',m',h2,h3.ext e,h4.ext e⟩
 have HC:∀W3,Ext W0 W3->τ prog 36 #[.pointer wb,.agg #[fn,a,x,n]] W3 (cG tS W3 T fun v w' T'=>v=.bool true/\ahm cf ah W W1 B1 wb mb w' T'):=fun W3 e=>by refine(HS.o W3 (x0.trans e)).mono ?_;rintro e9 w' ⟨rfl,T',hT,hP⟩;exact⟨_,rfl,T',hT,rfl,hP⟩
 have HC:=θ HC;have HH0:=θ (HT.o.ext x0);clear hb;go_upto_region 2 with fail
 apply Ar 7 (oR tS T) (Bj 6 tS T) (oJ 6 _) (oJ.start _ _);simp only[tk];repeat apply gF (fun _ h _ _=>aj (h.cell c0 pF) (aj (h.cell k0 uA) (aj (h.cell k1 uA) (aj (h.cell k2 uA) (h.cell k3 uA)))))
 apply uI (p:=oP _ _ _ _) Γ Γ (oP.aQ Je _)
 .intro W hR hJ υ;exact jz hu (hJ rfl) ((HC.o) W (hJ rfl))
 intro v6;simp only[pu];refine aP ?_;intro Wx hR gT υ;obtain⟨T1,cw,rfl,r1,m1,h1,h2,h3⟩:=υ.1 rfl;clear υ gT hR;simp only[dk];have lJ:=HH0.o.ο cw (by unfold tS wS mS;omega);have f2:=lJ.free 2;have d2:=lJ.zc 2;obtain⟨kq,FY⟩:=lJ.put (S:=(· = 28)) cw.Δ 2 (.bool true) rfl;have QE:=h3.ο aT oh kq (fun k hk=>η) (fun i hi k hk=>by have:=(h3.at_ hi).2;unfold In at hk;omega);have hR4:=h2.ο aT oh kq η (fun k hk=>by unfold wS at hk;omega);have YK:=θ QE;have HR4:=θ hR4;have HH4:=θ FY;have H14:=θ h1;have Bo:=θ ((o6.o.trans (cw.mono (S':=uS) fun k h=>.inl h)).trans (kq.mono fun k h=>.inr h));clear h1 h2 h3 QE hR4 FY kq cw lJ;go_wp2_with fail;go_end0
 exact⟨rfl,T1,Bo.o,wb,mb,m1,r1,HH4.o,H14.o,YK.o,HR4.o⟩
end
abbrev yg:bH->Nat->Nat:=zK iT eC
theorem pH:qL yg:=FH iT eC
structure Inv(cf:Cf)(s:Nat)(W:Wd):Prop where
 ok:jA cf
 eP:Good yg cf.n cf.Ω cf.χ s W
 cr:∀i,i<cf.n->bz cf i (W.ps i) []
 log:∀i,i<cf.n->(W.log i).length<=1000000*s
 pk:∀k∈W.au,mw k
section
variable {cf:Cf}{s:Nat}{W W1:Wd}
section
variable(h:Inv cf s W)
include h
theorem Inv.next{s':Nat}(hg:Good yg cf.n cf.Ω cf.χ s' W1.told)(hs:s'<=s+1)(hc:∀i,i<cf.n->bz cf i (W1.ps i) [])(hl:W1.log=W.log)(hp:∀k∈W1.au,mw k):Inv cf (s+1) W1.told :=
 ⟨h.ok,hg.mono pH hs,fun i hi=>(hc i hi).told,fun i hi=>by
  show(W1.log i++(W1.ps i).bx).length<=_
  rw[eU,hl];have h1:=h.log i hi;have h2:=(hc i hi).bx;omega,hp⟩
theorem Inv.len:∀i,i<cf.n->(W.ps i).ls.length<=8:=fun i hi=>by rw[(h.cr i hi).len];exact h.ok.n8
theorem Inv.afX(hs:s<=900):FZ cf iT eC W (10+20*s):=⟨h.ok,Γ,h.cr,η⟩
theorem Inv.amI(hs:s<=900):akr cf iT W (10+20*s) :=
 ⟨h.ok,Γ,h.cr,η,fun i hi x hx=>(h.eP.log i x hx).1,fun i hi=>by have:=h.log i hi;omega,h.pk⟩
theorem Inv.bx(i:Nat):(W.ps i).bx.length<1000000:=by rw[h.eP.bx i];decide
theorem Inv.now(hi:i<cf.n)(hs:s<=900):(W.ps i).now<1000000:=by have:=h.eP.now i hi;omega
end
end
section
variable {w w':κ}{T T':Tg}{tb:Nat}{cf:Cf}{ah:Bool}{s:Nat}{W W1:Wd}
theorem KT(h:pQ w T tb cf ah W (10+20*s))(hI:Inv cf s W)(hu:Θ w T)(hs:s<900)(hI1:Inv cf (s+1) W1.told)(uR:∀i,i<cf.n->bz cf i (W1.ps i) [])(oh:∀i,i<cf.n->(W1.log i).length<=1000000000)(fn a x n:Int)(JU:fn≠7)(err:Nat)(hSt:∀w0 wb mb r,Θ w0 T->iP w0 T wb mb cf iT eC r W->τ prog 54 #[π wb,dy fn a x n] w0 (Does wS w0 T (err:ξ) fun w' T'=>∃r',iP w' T' wb mb cf iT eC r' W1))(hMt:∀w0 Tb mb m,Θ w0 Tb->m.k0=400->ef w0 Tb mb cf iT eC ah m W (10+20*s)->τ prog 52 #[π mb,dy fn a x n] w0 (cG (mS m.k0) w0 Tb fun v w' T'=>(∃e:Nat,v=.int .i64 (e:Nat)/\e=err)/\∃uQ,ef w' T' mb cf iT eC ah {m with hs:=uQ} W1.told (10+20*(s+1)))):τ prog 17 #[π tb,dy fn a x n] w (Does uS w T (.tuple #[]) fun w' T'=>pQ w' T' tb cf ah W1.told (10+20*(s+1))):=by
 refine aaC h hI.ok hu hI1.len fn a x n fun wb mb m r w0 jU vq hm hr=>?_;refine(aeX (ah:=ah) (m:=m) (mb:=mb) (B1:=10+20*(s+1)) hr vq hI.ok jU uR oh fn a x n JU err (fun wb' e=>hSt wb' wb mb r (jU.ext e) (hr.ext e)) (fun wb' Tb hT=>?_) fun wb' Tb r' m' js hub hr' hm'=>ae0 hr' hm' js hub (hI1.amI η)).mono ?_
 .refine(hMt wb' Tb mb m hT.Δ vq (hm.byW vq hI.ok hI.len hT)).mono ?_;rintro e w' ⟨v,rfl,T',GM,⟨er,rfl,rfl⟩,uQ,hM'⟩;rw[vq]at GM;exact⟨_,rfl,T',GM,rfl,uQ,hM'⟩
 .rintro e w' ⟨rfl,T',GM,r',m',h1,h2,h3⟩;exact⟨rfl,T',GM,r',m',h1,h2,h3⟩
end
section
variable {cf:Cf}{s:Nat}{W W1:Wd}
theorem uE(h:Inv cf s W)(hc:bz cf p c []):∀i,i<cf.n->bz cf i (aW W.ps p c i) []:=fun i hi=>by
 unfold aW;split
 .rename_i e;rw[e];exact hc
 .exact h.cr i hi
theorem Inv.ν(h:Inv cf s W)(hp:p<cf.n)(u:UInt8):Inv cf (s+1) (W.cF cf.χ p u) :=
 h.next (W1:={W with ps:=aW W.ps p ((W.ps p).ν p cf.χ u)}) (h.eP.cF pH hp u) η (uE h ((h.cr p hp).ν u)) rfl h.pk
theorem aaD{au l:List Pk}(h:k∈jd au l):k∈au\/k∈l:=by
 unfold jd at h;rcases List.mem_append.1 h with h|h
 .exact .inl h
 .exact .inr (List.mem_of_mem_take h)
section
variable(h:Inv cf s W)
include h
theorem Inv.SX(hp:p<cf.n):∀k∈(W.ps p).kP yg p,mw k:=by
 intro k hk;have hc:=(h.cr p hp).bQ iT eC (h.cr p hp).dW;rw[←Cp]at hk;unfold nR at hk;split at hk
 .cases hk
 .split at hk
  .cases hk
  .obtain⟨i,hi,rfl⟩:=fK.1 hk;have:=IZ hc hi;exact Cc hc this.1 this.2
theorem Inv.tick(hs:s<900)(hp:p<cf.n):Inv cf (s+1) (W.fF yg p) :=
 h.next (W1:={W with ps:=aW W.ps p ((W.ps p).tick p),au:=jd W.au ((W.ps p).kP yg p)}) (h.eP.fF pH hp) (aq _) (uE h ((h.cr p hp).tick (h.now hp η) (h.bx p))) rfl
  fun k hk=>(aaD hk).elim (h.pk k) (h.SX hp k)
theorem Inv.dropped(i:Nat):Inv cf (s+1) (W.dropped i) :=
 h.next (W1:={W with au:=W.au.eraseIdx i}) (h.eP.dropped pH i) η h.cr rfl fun k hk=>h.pk k (OP hk)
theorem Inv.first(hk:k∈W.au):k.iA=false->k.first<=((W.ps k.dst).ls.getD k.src []).length/\k.first+k.ν.length<=1000:=fun _=>by
 have ho:=h.eP.au k hk;refine⟨ho.first,?_⟩;have h1:=h.eP.dz k.src ho.src;have h2:=Lv (h.eP.xU k.dst k.src ho.dst ho.src);have h3:=ho.first;have h4:k.ν.length<=(W.own k.src).length-k.first:=by have:=congrArg List.length ho.ν;rw[tN,List.length_drop]at this;omega
 omega
theorem Inv.got(hk:k∈W.au)(hn:∀x∈kK,x∈W.au)(hg:Good yg cf.n cf.Ω cf.χ s {W with au:=kK}):Inv cf (s+1) (Wd.heard {W with au:=kK} k) :=
 h.next (W1:={W with ps:=aW W.ps k.dst ((W.ps k.dst).recv k.dst k),au:=kK}) (hg.got pH ((h.eP.au k hk).o kK)) η (uE h ((h.cr _ (h.eP.au k hk).dst).KH (h.pk k hk) (h.bx _))) rfl fun x hx=>h.pk x (hn x hx)
end
end
section
variable {w w':κ}{T T':Tg}{tb:Nat}{cf:Cf}{ah:Bool}{s:Nat}{W W1:Wd}
section
variable(h:pQ w T tb cf ah W (10+20*s))(hI:Inv cf s W)(hu:Θ w T)(hs:s<900)
include h hI hu hs
theorem VS(hp:p<cf.n)(u:UInt8)(x n:Int)(hx:bits BinOp.and cQ x 255 % 256=(u.toNat:Int))(yc:qO.wrap x=(u.toNat:Int)):τ prog 17 #[π tb,dy 1 (p:Nat) x n] w (Does uS w T (.tuple #[]) fun w' T'=>pQ w' T' tb cf ah (W.cF cf.χ p u) (10+20*(s+1))):=by
 have hI1:=hI.ν hp u;have hQ:eS iT eC cf ((W.ps p).ν p cf.χ u):=by
  have:=hI1.eP.words (cf:=cf) rfl hp;intro i hi h0 h1;have e:((W.cF cf.χ p u).ps p)={ (W.ps p).ν p cf.χ u with bx:=[]}:=by
   show({aW W.ps p ((W.ps p).ν p cf.χ u) p with bx:=[]}:Cr)=_
   rw[aH]
  rw[e]at this;exact this i hi h0 h1
 exact KT (W1:={W with ps:=aW W.ps p ((W.ps p).ν p cf.χ u)}) h hI hu hs hI1 (uE hI ((hI.cr p hp).ν u)) (fun i hi=>by have:=hI.log i hi;show(W.log i).length<=_;omega) 1 (p:Nat) x n Γ ((W.ps p).iB p cf.χ)
  (fun w0 wb mb r jU hr=>(KR hr hI.ok hI.cr Γ jU hp u x n hx hQ).mono fun e w' ⟨h1,T',hT,hR⟩=>⟨h1,T',hT,r,hR⟩)
  (fun w0 Tb mb m jU vq hm=>Be hm jU hI.ok (W1:={W with ps:=aW W.ps p ((W.ps p).ν p cf.χ u)}) (B1:=10+20*(s+1)) (uE hI ((hI.cr p hp).ν u)) (fun i hi=>by have:=hI.log i hi;show(W.log i).length<=_;omega) 1 (p:Nat) x n (· = (W.ps p).iB p cf.χ)
   (.inl ⟨.inl rfl,fun wb e=>nU (Cw (hm.ext e) (hI.afX η) (jU.ext e) hp u x n yc hQ)⟩))
theorem aaE(hp:p<cf.n)(x n:Int):τ prog 17 #[π tb,dy 2 (p:Nat) x n] w (Does uS w T (.tuple #[]) fun w' T'=>pQ w' T' tb cf ah (W.fF yg p) (10+20*(s+1))):=by
 have hc:=(hI.cr p hp).tick (hI.now hp η) (hI.bx p);have VJ:∀i,i<cf.n->(W.log i).length<=1000000000:=fun i hi=>by have:=hI.log i hi;omega
 exact KT (W1:={W with ps:=aW W.ps p ((W.ps p).tick p),au:=jd W.au ((W.ps p).kP yg p)}) h hI hu hs (hI.tick hs hp) (uE hI hc) VJ 2 (p:Nat) x n Γ 0
  (fun w0 wb mb r jU hr=>NS hr hI.ok hI.cr Γ jU hp (hI.now hp η) hI.eP.room hc x n)
  (fun w0 Tb mb m jU vq hm=>Be hm jU hI.ok (W1:={W with ps:=aW W.ps p ((W.ps p).tick p),au:=jd W.au ((W.ps p).kP yg p)}) (B1:=10+20*(s+1)) (uE hI hc) VJ 2 (p:Nat) x n (· = 0)
   (.inl ⟨.inr (.inl rfl),fun wb e=>nU ((NC (hm.ext e) (hI.afX η) (jU.ext e) hp x n (hI.now hp η) hI.eP.room (hI.SX hp) hc).mono fun e w' ⟨h1,T',hT,hR⟩=>⟨h1,T',hT,hR.mono η⟩)⟩))
theorem aaF(hi:i<W.au.length)(fn x y:Int)(JU:(fn=3/\kK=W.au.eraseIdx i)\/(fn=5/\kK=W.au))(hg:Good yg cf.n cf.Ω cf.χ s {W with au:=kK}):τ prog 17 #[π tb,dy fn x y (i:Nat)] w (Does uS w T (.tuple #[]) fun w' T'=>pQ w' T' tb cf ah (Wd.heard {W with au:=kK} W.au[i]) (10+20*(s+1))):=by
 have hm:=dH hi;have ho:=hI.eP.au _ hm;have sq:∀z∈kK,z∈W.au:=fun z hz=>by
  rcases JU with ⟨_,rfl⟩|⟨_,rfl⟩
  .exact OP hz
  .exact hz
 have hI1:=hI.got hm sq hg;have hc:=(hI.cr _ ho.dst).KH (hI.pk _ hm) (hI.bx _);have VJ:∀i,i<cf.n->(W.log i).length<=1000000000:=fun i hi=>by have:=hI.log i hi;omega
 have IP:=hI.first hm;have LF:=hI.pk _ hm;have kN:=ho.dst;have iF:=ho.src;have hQ:eS iT eC cf ((W.ps W.au[i].dst).recv W.au[i].dst W.au[i]):=by
  have:=hI1.eP.words (cf:=cf) rfl kN;intro j hj h0 h1;have e:(Wd.heard {W with au:=kK} W.au[i]).ps W.au[i].dst={ (W.ps W.au[i].dst).recv W.au[i].dst W.au[i] with bx:=[]}:=by
   show({aW W.ps W.au[i].dst ((W.ps W.au[i].dst).recv W.au[i].dst W.au[i]) W.au[i].dst with bx:=[]}:Cr)=_
   rw[aH]
  rw[e]at this;exact this j hj h0 h1
 have h37:fn=3\/fn=4\/fn=5:=by rcases JU with ⟨h,_⟩|⟨h,_⟩<;>omega
 exact KT (W1:={W with ps:=aW W.ps W.au[i].dst ((W.ps W.au[i].dst).recv W.au[i].dst W.au[i]),au:=kK}) h hI hu hs hI1 (uE hI hc) VJ fn x y (i:Nat) η (wK (W.ps W.au[i].dst))
  (fun w0 wb mb r jU hr=>CY jU fn x y (i:Nat) h37 fun w1 e=>Q5 (hr.ext e) hI.ok hI.cr Γ (jU.ext e) hi hI.eP.room LF kN iF hc IP hQ fn x y JU)
  (fun w0 Tb mb m jU vq hmt=>Be hmt jU hI.ok (W1:={W with ps:=aW W.ps W.au[i].dst ((W.ps W.au[i].dst).recv W.au[i].dst W.au[i]),au:=kK}) (B1:=10+20*(s+1)) (uE hI hc) VJ fn x y (i:Nat) (· = wK (W.ps W.au[i].dst))
   (.inr (.inl ⟨η,fun wb e=>nU (NJ (hmt.ext e) (hI.afX η) (jU.ext e) hi hI.eP.room hI.pk kN iF hc IP hQ fn x y JU)⟩)))
theorem NY(hi:i<W.au.length)(x y:Int):τ prog 17 #[π tb,dy 3 x y (i:Nat)] w (Does uS w T (.tuple #[]) fun w' T'=>pQ w' T' tb cf ah (W.lX i W.au[i]) (10+20*(s+1))) :=
 aaF h hI hu hs hi 3 x y (.inl ⟨rfl,rfl⟩) (hI.eP.o pH i)
end
theorem Inv.lX(hI:Inv cf s W)(hi:i<W.au.length):Inv cf (s+1) (W.lX i W.au[i]):=hI.got (dH hi) (fun z hz=>OP hz) (hI.eP.o pH i)
theorem aaG(h:pQ w T tb cf ah W (10+20*s))(hI:Inv cf s W)(hu:Θ w T)(hs:s<900)(hi:i<W.au.length)(x y:Int):τ prog 17 #[π tb,dy 4 x y (i:Nat)] w (Does uS w T (.tuple #[]) fun w' T'=>pQ w' T' tb cf ah (W.dropped i) (10+20*(s+1))):=by
 have VJ:∀i,i<cf.n->(W.log i).length<=1000000000:=fun i hi=>by have:=hI.log i hi;omega
 exact KT (W1:={W with au:=W.au.eraseIdx i}) h hI hu hs (hI.dropped i) hI.cr VJ 4 x y (i:Nat) Γ 0
  (fun w0 wb mb r jU hr=>CY jU 4 x y (i:Nat) (.inr (.inl rfl)) fun w1 e=>NR (hr.ext e) hI.ok hI.len (jU.ext e) hi hI.eP.room x y)
  (fun w0 Tb mb m jU vq hmt=>Be hmt jU hI.ok (W1:={W with au:=W.au.eraseIdx i}) (B1:=10+20*(s+1)) hI.cr VJ 4 x y (i:Nat) (· = 0)
   (.inr (.inl ⟨.inr (.inr (.inl rfl)),fun wb e=>nU ((VK (hmt.ext e) (hI.afX η) (jU.ext e) hi hI.eP.room hI.pk x y).mono fun e w' ⟨h1,T',hT,hR⟩=>⟨h1,T',hT,hR.mono η⟩)⟩)))
end
def C1(W:Wd):Wd:=match W.au with
 | []=>W
 |k::_=>W.lX 0 k
def pR:Nat->Wd->Wd
 |0,W=>W
 |j+1,W=>C1 (pR j W)
theorem VT(W:Wd):(C1 W).au=W.au.tail:=by
 unfold C1;split
 .rename_i e;rw[e];rfl
 .rename_i k t e
  show W.au.eraseIdx 0=_
  rw[e];rfl
theorem xM(W:Wd):∀j,(pR j W).au.length=W.au.length-j
 |0=>rfl
 |j+1=>by
  show(C1 (pR j W)).au.length=_
  rw[VT,List.length_tail,xM W j];omega
section
variable {w w':κ}{T T':Tg}{tb:Nat}{cf:Cf}{ah:Bool}{s:Nat}{W W1:Wd}
structure Gt(w:κ)(T:Tg)(tb:Nat)(cf:Cf)(ah:Bool)(s:Nat)(W:Wd):Prop where
 at_:pQ w T tb cf ah W (10+20*s)
 inv:Inv cf s W
theorem Gt.ext(h:Gt w T tb cf ah s W)(e:Ext w w'):Gt w' T tb cf ah s W:=⟨h.at_.ext e,h.inv⟩
theorem Gb(hi:0<W.au.length):C1 W=W.lX 0 W.au[0]:=by
 unfold C1;split
 .rename_i e;rw[e]at hi;cases hi
 .rename_i k t e
  congr 1
  simp[e]
theorem acm(h:Gt w T tb cf ah s W)(hu:Θ w T)(hs:s+W.au.length<900):τ prog 18 #[π tb] w (Does uS w T (.tuple #[]) fun w' T'=>Gt w' T' tb cf ah (s+W.au.length) (pR W.au.length W)):=by
 have H:=θ h;have hrm:=h.inv.eP.room;unfold π;clear h;go_enter func18,ntmps18;go_wp2_with fail;go_loopw [2] (fun iv wr=>∃(j:Nat) (T':Tg),iv=.int .i64 (j:Nat)/\j<=W.au.length/\Ξ uS w T wr T'/\Gt wr T' tb cf ah (s+j) (pR j W)) (fun iv _=>W.au.length-(intOf iv).toNat)
 case atStart=>exact⟨0,T,rfl,aM _,Ξ.refl _ hu,H.o⟩
 case round =>
  obtain⟨j,T1,rfl,hj,hT,hG⟩:=hrel;have N4:=xM W j;obtain⟨wb,mb,m,r,hH,vq,hm,hr⟩:=hG.at_;have c0:=hH.zc 0;have c2:=hH.zc 2;have d2:=hr.hd.zc 2;have an5:=dQ (j<400);have amQ:=dQ ((j:Int)<400);unfold π at*;by_cases iY:j<W.au.length
  .have qc:0<(pR j W).au.length:=by omega
   have kR:=θ (NY hG.at_ hG.inv hT.Δ η qc 0 0);rw[←Gb qc]at kR;have hIn:=hG.inv.lX qc;rw[←Gb qc]at hIn;have HIn:=θ hIn;have HT:=θ hT;have Rh:=θ iY;have amJ:=dQ ((0:Int)<((pR j W).au.length:Int));unfold dy π at*;clear hH hm hr hG hT hIn N4;go_wp2_with fail;refine kR.o.mono ?_;rintro e w3 ⟨rfl,T3,cT,hA3⟩;have Oh:=θ hA3;have jH:=θ (HT.o.trans cT);clear hA3 cT;go_wp2;go_roundw
   case rel=>exact⟨j+1,T3,cR,WD,jH.o,Oh.o,HIn.o⟩
   case measure=>have:=Rh.o;simp[intOf];omega
  .obtain rfl:j=W.au.length:=by omega
   have hp1:=dh (0<(pR W.au.length W).au.length);have amJ:=dh ((0:Int)<((pR W.au.length W).au.length:Int));have HT:=θ hT;have HG:=θ hG;clear hH hm hr hG hT N4;go_wp2_with fail;go_end0
   exact⟨rfl,T1,HT.o,HG.o⟩
end
def byt(x:Int):UInt8:=UInt8.ofNat (x % 256).toNat
theorem SY(x:Int):((byt x).toNat:Int)=x % 256:=by unfold byt;rw[UInt8.toNat_ofNat'];omega
theorem acn(x:Int):bits BinOp.and cQ x 255 % 256=((byt x).toNat:Int):=by
 rw[SY];show cQ.wrap ((BitVec.ofInt 64 x &&& BitVec.ofInt 64 255).toNat:Int) % 256=_
 rw[BitVec.toNat_and,show(BitVec.ofInt 64 255).toNat=2 ^ 8-1 from by decide,Nat.and_two_pow_sub_one_eq_mod,BitVec.toNat_ofInt];have h1:((x % ((2 ^ 64:Nat):Int)).toNat:Int)=x % 18446744073709551616:=by rw[Int.toNat_of_nonneg (Int.emod_nonneg _ Γ)];rfl
 rw[IntWalk.i64_in _ η];omega
theorem aaH(x:Int):qO.wrap x=((byt x).toNat:Int):=by rw[SY];unfold oU.wrap;simp[oU.bits,oU.signed]
section
variable {w w':κ}{T T':Tg}{tb:Nat}{cf:Cf}{ah:Bool}{s:Nat}{W W1:Wd}
section
variable(h:Gt w T tb cf ah s W)(hu:Θ w T)(hs:s<900)
include h hu hs
theorem aaI(hp:p<cf.n)(x n:Int):τ prog 17 #[π tb,dy 1 (p:Nat) x n] w (Does uS w T (.tuple #[]) fun w' T'=>Gt w' T' tb cf ah (s+1) (W.cF cf.χ p (byt x))) :=
 (VS h.at_ h.inv hu hs hp (byt x) x n (acn x) (aaH x)).mono fun e w' ⟨h1,T',hT,hA⟩=>⟨h1,T',hT,hA,h.inv.ν hp _⟩
theorem SZ(hp:p<cf.n)(x n:Int):τ prog 17 #[π tb,dy 2 (p:Nat) x n] w (Does uS w T (.tuple #[]) fun w' T'=>Gt w' T' tb cf ah (s+1) (W.fF yg p)) :=
 (aaE h.at_ h.inv hu hs hp x n).mono fun e w' ⟨h1,T',hT,hA⟩=>⟨h1,T',hT,hA,h.inv.tick hs hp⟩
theorem aco(hi:i<W.au.length)(x y:Int):τ prog 17 #[π tb,dy 3 x y (i:Nat)] w (Does uS w T (.tuple #[]) fun w' T'=>Gt w' T' tb cf ah (s+1) (W.lX i W.au[i])) :=
 (NY h.at_ h.inv hu hs hi x y).mono fun e w' ⟨h1,T',hT,hA⟩=>⟨h1,T',hT,hA,h.inv.lX hi⟩
theorem acp(hi:i<W.au.length)(x y:Int):τ prog 17 #[π tb,dy 4 x y (i:Nat)] w (Does uS w T (.tuple #[]) fun w' T'=>Gt w' T' tb cf ah (s+1) (W.dropped i)) :=
 (aaG h.at_ h.inv hu hs hi x y).mono fun e w' ⟨h1,T',hT,hA⟩=>⟨h1,T',hT,hA,h.inv.dropped i⟩
end
theorem Gt.cells(h:Gt w T tb cf ah s W):w.cell? (tb,1)=some (cf.n:ξ)/\w.cell? (tb,2)=some (.bool true):=by obtain⟨wb,mb,m,r,hH,_⟩:=h.at_;exact⟨hH.zc 1,hH.zc 2⟩
theorem aaJ(h:Gt w T tb cf ah s W)(hs:s<=900):∃wb,w.cell? tb=some (.pointer (some ⟨wb,0,none⟩))/\∀w0,Ext w w0->τ prog 20 #[.pointer (some ⟨wb,0,none⟩)] w0 fun e w'=>e=.returned (.bool true)/\Ext w0 w':=by obtain⟨wb,mb,m,r,hH,_,_,hr⟩:=h.at_;exact⟨wb,hH.zc 0,fun w0 e=>acj (hr.ext e) h.inv.ok h.inv.cr (fun i hi x hx=>(h.inv.eP.log i x hx).1) (fun i hi=>by have:=h.inv.log i hi;omega) fun i k hi hk f hf hf'=>(h.inv.eP.ym hi hf).trans (h.inv.eP.ym hk hf').symm⟩
end
theorem tM(n d i p:Nat)(hp:p<n):(Wd.new n d).line i p=cP d 0:=by unfold Wd.line Wd.new Cr.new;simp[List.getD_eq_getElem?_getD,hp]
theorem KU(n d i:Nat):((Wd.new n d).ps i).ls.length=n:=by simp[Wd.new,Cr.new]
theorem VU(n d:Nat)(hn:0<n)(i:Nat):((Wd.new n d).ps i).front=d:=by
 refine Nat.le_antisymm ?_ ?_
 .have h:=dW (W:=Wd.new n d) (KU n d i) hn;rw[tM n d i 0 hn,gO]at h;exact h
 .refine Aq (W:=Wd.new n d) (KU n d i) hn fun q hq=>?_;rw[tM n d i q hq,gO];exact aq _
theorem NZ(hn:0<n)(hd:Ω<=8):Good sm n Ω χ 0 (Wd.new n Ω):=by have hl:∀i p,p<n->(Wd.new n Ω).line i p=cP Ω 0:=fun i p hp=>tM n Ω i p hp;have ho:∀p,p<n->(Wd.new n Ω).own p=cP Ω 0:=fun p hp=>hl p p hp;refine⟨fun i hi=>KU n Ω i,fun i p hi hp=>by rw[hl i p hp,ho p hp];exact List.prefix_refl _,fun i p hi hp=>by rw[hl i p hp,gO];exact aq _,fun p hp=>by rw[ho p hp,gO];omega,fun i j hi hj=>⟨aq _,by rw[hl j i hi,gO];exact aq _⟩,fun i j hi hj=>⟨fun p hp=>aM _,fun h=>absurd h (Nat.lt_irrefl 0)⟩,fun i j hi=>aq _,fun i hi=>aq _,fun i=>rfl,fun i x hx=>(by cases hx),fun k hk=>(by cases hk),aM _,fun i hi=>?_⟩;rw[ho i hi,gO,VU n Ω hn i];omega
theorem ae2(hn:0<n)(hd:Ω<=8):Cm sm n Ω χ 0 (Wd.new n Ω):=⟨NZ hn hd,fun _ _=>rfl,fun k hk=>by cases hk⟩
theorem acq(aT:jA cf):Inv cf 0 (Wd.new cf.n cf.Ω) :=
 ⟨aT,NZ (by have:=aT.n2;omega) aT.Ω,fun i hi=>bz.new aT hi,fun i hi=>aM _,fun k hk=>by cases hk⟩
theorem ae3(aT:jA cf)(h:ahl w w' tb cf ah):∃T',Ξ (fun _=>False) w (fun _=>0) w' T'/\Gt w' T' tb cf ah 0 (Wd.new cf.n cf.Ω):=by obtain⟨T',h1,h2⟩:=h;exact⟨T',h1,h2,acq aT⟩
theorem ae4(h2:2<=n)(h8:n<=8):jA (R3 n):=⟨h2,h8,(Γ:77<=1099511627776),(Γ:2<=8),(Γ:1<=8),(Γ:8<=16),.inr ⟨rfl,(Γ:1<=3)⟩,(Γ:3<=8),(Γ:2<=4),(Γ:3<=7),(Γ:7<=50)⟩
end Go.Proofs.YtffcefoadaogbaaGreat
