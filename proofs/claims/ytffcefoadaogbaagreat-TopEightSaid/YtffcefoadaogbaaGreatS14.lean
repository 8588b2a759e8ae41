/- A part of the proof. -/
import Derived.Test.YtffcefoadaogbaaGreatS11
import Derived.Test.YtffcefoadaogbaaGreatS13
namespace Go.Proofs.YtffcefoadaogbaaGreat
open Go.RowKit
open Go.Proofs.Tryz
set_option linter.all false
set_option maxRecDepth 100000
set_option maxHeartbeats 16000000
open _root_.List renaming drop_of_length_le->CM,eraseIdx_cons_succ->adt,nil_append->Tl,append_assoc->ic,getElem?_eq_some_iff->iN,getElem_mem->dH,getElem?_eq_getElem->bf,length_eraseIdx_of_lt->adu,range->dJ,range_succ->uP,map_append->gS,map_congr_left->rQ,mem_range->nB,getD_eq_getElem?_getD->cO,mem_map->fK,length_map->xN,getElem?_append_right->ij,prefix_refl->xT,getElem?_set->Es,replicate->cP,getElem?_map->iZ,getElem?_append_left->kn,mem_append_left->oI,count_append->oK,count_pos_iff->adv,mem_append_right->rX,mem_flatMap->adw,mem_singleton->sP,length_append->eU,length_singleton->iD,getElem?_eq_none->L9
open Go.World renaming alloc->aB,setCell->dG
open Go.Value renaming int->af
open _root_.Option renaming some->kI
open _root_.Nat renaming le_trans->aF,lt_of_lt_of_le->eM,le_refl->aq,zero_le->aM,zero_add->mZ,le_succ_of_le->adx
open _root_.Array renaming getElem?_eq_some_iff->gy
open Go renaming World->κ,Value->ξ,Calls->τ
variable{A:aS}{L mk:List Nat}{S:Nat->Prop}{a b:bH}{c:Cr}{cf:Cf}{d f i j k m me n:Nat}{g:List Int}
theorem zu(id:Nat):∀(ks:List Pk) (hs:List (Option Addr×Nat)) (i:Nat),hs.length=ks.length->i<ks.length->cY id (ks.eraseIdx i) (hs.eraseIdx i)=(cY id ks hs).take (i*3)++(cY id ks hs).drop (i*3+3)
 |k::ks,h::hs,0,e,_=>by simp[cY,jR]
 |k::ks,h::hs,i+1,e,hi=>by have hl:(jR id k h).length=3:=rfl;have t1:(jR id k h).take ((i+1)*3)=jR id k h:=List.take_of_length_le (by rw[hl];omega);have t2:(jR id k h).drop ((i+1)*3+3)=[]:=CM (by rw[hl];omega);rw[adt,adt,cY,cY,zu id ks hs i Lg S9,List.take_append,List.drop_append,hl,t1,t2,show(i+1)*3-3=i*3 by omega,show(i+1)*3+3-3=i*3+3 by omega,Tl,ic]
section
variable {w w':κ}{T T':Tg}{t b id:Nat}{ks:List Pk}
theorem SB{c:Nat}{hs:List (Option Addr×Nat)}(h:Row w T t 176 3 A ks.length c (cY id ks hs))(hl:hs.length=ks.length)(hi:i<ks.length):∃g,A=some ⟨g,0,none⟩/\∀j v,(jR id ks[i] (hs[i]' η))[j]?=some v->w.cell? ⟨g,i*3+j,none⟩=some v:=by
 obtain⟨g,hg,_⟩:=h.at_ ((nP id ks hs i 0 hl hi η Γ).trans rfl);refine⟨g,hg,fun j v hj=>?_⟩;have hj3:j<3:=by have:=(iN.1 hj).1;simpa [jR] using this
 obtain⟨g',e,h1,_⟩:=h.at_ ((nP id ks hs i j hl hi η hj3).trans hj);rw[hg]at e;cases e
 exact h1
theorem FG(h:jS w T t b id ks)(K4:∀k∈ks,mw k)(hi:i<ks.length):τ prog 82 #[π b,i] w fun e w'=>∃B bd,e=.returned (.tuple #[kU ks[i].src ks[i].dst B (aG id ks[i]).length bd,.bool true])/\Own w' w.heap.size 5 1 B (aG id ks[i]).length bd (dK (aG id ks[i]))/\Ext w w':=by
 have GQ:=θ fun W (e:Ext w W)=>Sj (h.ext e) (i:Nat);have hd:=dQ ((0:Int)<=(i:Int)/\(i:Int)<(ks.length:Int)) ⟨η,η⟩;rw[hd]at GQ;have hlen:=ID id ks[i] (AE (K4 _ (dH hi)));obtain⟨A,c,hs,a1,a2,a3,a4⟩:=h;have c0:=a2.zc 0;obtain⟨g,rfl,vv⟩:=SB a3 a1 hi;have vY:=a4 i ks[i] (hs[i]' η) (bf hi) (bf η);generalize hs[i]' η=hh at*;have alF:=θ fun W (e:Ext w W)=>Si W ks[i].src ks[i].dst hh.1 hh.2 (aG id ks[i]) (vY.rb.ext e) η;have b1:=(Has.new w (fun _=>0) [(0:Int),(0:Int),.slice none 0 0] 176 rfl);have x1:=Ext.alloc w (.cells #[(0:Int),(0:Int),.slice none 0 0] 176);unfold jR at vv;unfold π kU at*;clear a1 a2 a3 a4 vY hd;generalize hEP:aG id ks[i]=EP at*;generalize ks[i]=k at*;go_enter func82,ntmps82;go_upto_region 1 with fail
 generalize KZ:aB w _=w0 at*;obtain⟨gm,qT⟩:∃gm,gm=w.heap.size:=⟨_,rfl⟩;rw[←qT]at b1;rw[←qT];have Hgm:=θ (show w.heap.size<=gm by omega);have uR:∀j v,[af .i64 (k.src:Nat),k.dst,.slice hh.1 EP.length hh.2][j]?=some v->w0.cell? ⟨g,i*3+j,none⟩=some v:=fun j v h=>x1.cell (vv j v h);have HB:=θ b1;have d0:=x1.cell c0;have CJ:[af .i64 (k.src:Nat),.int .i64 (k.dst:Nat),.slice hh.1 EP.length hh.2].length=3:=rfl;clear qT KZ b1;go_wp2_with fail;refine(GQ.o w0 x1).mono ?_;rintro e w1 ⟨rfl,pz⟩;subst pz;go_wp2_with (first|(with_reducible refine bI rfl 176 (.tmp 16) rfl rfl underlying176 fq CJ uR ?_))
 refine(alF.o _ x1).mono ?_;rintro e w2 ⟨B,bd,rfl,ho,e2⟩;have oQ:=HB.o.ext e2;have yc:=x1.trans e2;have alG:[af .i64 (k.src:Nat),.int .i64 (k.dst:Nat),.slice B EP.length bd].length=3:=rfl;have DS:[af .i64 0,.int .i64 0,.slice none 0 0].length=3:=rfl;have zI:∀u∈[af .i64 (k.src:Nat),.int .i64 (k.dst:Nat),.slice B EP.length bd],u.oneCell'=true:=gA;have CI:=HB.o.lt;go_wp2_with (first|(with_reducible refine bE rfl 176 (.tmp 4) (.tmp 18) rfl rfl (us:=[.int .i64 (k.src:Nat),.int .i64 (k.dst:Nat),.slice B EP.length bd]) rfl oQ alG DS fq zI ?_;intro Z bZ gZ sZ));have eZ:=Ext.own (B:=some ⟨gm,0,none⟩) yc gZ (fun k hk=>by have h9:gm=k:=kI.inj hk;have:=Hgm.o;omega);have hOZ:=(ho.keep gZ (fun k hk=>by have:=ho.ax k hk;omega)).mono x1.size;exact bodyPost_ret (uf rfl _ rfl bZ underlying176 fq) rfl ⟨B,bd,rfl,hOZ,eZ⟩
theorem MZ(h:jS w T t b id ks)(hu:Θ w T)(ht:0<t)(K4:ks.length<=300)(hi:i<ks.length):τ prog 115 #[π b,i] w (Does (In t 2) w T (.bool true) fun w' T'=>jS w' T' t b id (ks.eraseIdx i)):=by
 have GQ:=θ fun W (e:Ext w W)=>Sj (h.ext e) (i:Nat);have hd:=dQ ((0:Int)<=(i:Int)/\(i:Int)<(ks.length:Int)) ⟨η,η⟩;rw[hd]at GQ;obtain⟨A,c,hs,a1,a2,a3,a4⟩:=h;have c0:=a2.zc 0;have f0:=a2.free 0;have AO:=θ a1;have K5:=θ a2;have Sk:=θ a4;have alH:=θ (Mw a3 hu hi K4 (uy id ks hs));have hcut:=θ (zu id ks hs i a1 hi);have pz:IntKind.i64.wrap ((i:Int)+1)=((i+1:Nat):Int):=by rw[IntWalk.i64_in _ η];omega
 unfold π at*;clear a1 a2 a3 a4 hd;go_enter func115,ntmps115;go_wp2_with fail;refine(GQ.o w (Ext.refl _)).mono ?_;rintro e w1 ⟨rfl,pz⟩;subst pz;go_wp2_with fail;refine alH.o.mono ?_;rintro e w2 ⟨rfl,bq,jO⟩;have oZ:=K5.o.ο bq η;have c0:=oZ.zc 0;have f0:=oZ.free 0;obtain⟨cT,CO⟩:=oZ.put (S:=(· = t)) bq.Δ 0 (.slice A (ks.length-1) c) rfl;have jr:=θ bq;have jH:=θ cT;have HH3:=θ CO;have Wg:=θ jO;clear bq cT oZ CO jO;go_wp2;go_ret;have hl:(ks.eraseIdx i).length=ks.length-1:=by rw[adu hi]
 refine⟨rfl,T,(jr.o.mono fun k hk=>?_).trans (jH.o.mono fun k hk=>?_),A,c,hs.eraseIdx i,?_,?_,?_,?_⟩
 .exact r9
 .exact r9
 .rw[hl,adu (by rw[AO.o];exact hi),AO.o]
 .rw[hl];exact HH3.o
 .rw[hl,hcut.o];exact Wg.o.ο jH.o η
 .intro j k h hj hh
  rw[List.getElem?_eraseIdx]at hj hh;split at hj
  .rw[if_pos (by assumption)]at hh;exact((Sk.o _ _ _ hj hh).ο jr.o η).ο jH.o η
  .rw[if_neg (by assumption)]at hh;exact((Sk.o _ _ _ hj hh).ο jr.o η).ο jH.o η
end
section
variable (tp:aD) (l:List dM)
def aC(ls:bH)(f:Nat):List Int:=eG tp l 0 nA ((dJ f).map (bp ls))
def zK(ls:bH)(f:Nat):Nat:=sn (kC (aC tp l ls f))
def bQ(ls:bH)(m:Nat):List Nat:=(dJ m).map fun k=>zK tp l ls (k+1)
theorem fA(ls:bH)(f:Nat):pI (aC tp l ls f):=jc tp l _ 0 XS
theorem CS(ls:bH)(f:Nat):aC tp l ls (f+1)=(nx tp (bp ls f) (f:Nat) l (aC tp l ls f)).1:=by unfold aC;rw[uP,gS,xl];simp[eG]
theorem FH:qL (zK tp l):=by intro a b f h;unfold zK aC;rw[show(dJ f).map (bp a)=(dJ f).map (bp b) from rQ fun k hk=>h k (nB.1 hk)]
section
variable(ls:bH)
theorem Qk(f:Nat):zK tp l ls f<4294967296:=Au _
theorem gK(m:Nat):(bQ tp l ls m).length=m:=by simp[bQ]
theorem wg(m:Nat):bQ tp l ls (m+1)=bQ tp l ls m++[zK tp l ls (m+1)]:=by unfold bQ;rw[uP,gS];rfl
theorem Ql(hk:k<m):(bQ tp l ls m).getD k 0=zK tp l ls (k+1):=by simp[bQ,cO,hk]
end
def eS(cf:Cf)(c:Cr):Prop:=∀i,i<cf.n->0<(c.words i).1->(c.words i).1<=c.front->(c.words i).2=zK tp l c.ls (c.words i).1
theorem eS.quiet(h:eS tp l cf c)(hm:m<=c.front):Quiet cf c (bQ tp l c.ls m):=by
 intro i hi;rw[gK];by_cases h0:(c.words i).1=0
 .exact .inl h0
 .by_cases h1:m<(c.words i).1
  .exact .inr (.inl h1)
  .refine .inr (.inr ⟨η,η,?_⟩);rw[Ql tp l c.ls η,show(c.words i).1-1+1=(c.words i).1 by omega];exact(h i hi η η).symm
end
theorem bz.mk'{mk':List Nat}(h:bz cf me c mk)(h1:mk'.length<=1000)(h2:∀s∈mk',s<4294967296):bz cf me c mk':=⟨h.ok,h.me,h.len,h.short,h.now,h.bx,h.has,h.heard,h.words,h1,h2⟩
theorem bz.bQ(h:bz cf me c mk)(tp:aD)(l:List dM)(hm:m<=1000):bz cf me c (bQ tp l c.ls m):=h.mk' (by rw[gK];exact hm) fun s hs=>by obtain⟨k,_,rfl⟩:=fK.1 hs;exact Qk _ _ _ _
theorem bz.dW(h:bz cf me c mk):c.front<=1000:=by
 have lD:me<c.ls.length:=by rw[h.len];exact h.me
 exact aF (jt _ _ (dH lD)) (h.short _ (dH lD))
def iH(cb:Nat)(tp:aD)(A:aS)(n d:Nat)(cf:Cf)(g:List Int):List ξ:=[.pointer cb,.string (bs tp),.slice A n d,.int .i64 (cf.bD:Nat),.int .i64 (cf.order:Nat),.slice none 0 0]++g.map (af .i32)
structure bN(w:κ)(T:Tg)(t b:Nat)(cf:Cf)(me:Nat)(tp:aD)(l:List dM)(cb qb:Nat)(ps:Nat->Nat)(c:Cr)(m:Nat):Prop where
 bn:∃A n d,Has w T t b (iH cb tp A n d cf (aC tp l c.ls m))/\Row w T (t+1) 127 4 A n d (Ab l)
 core:ct w T (t+2) cb cf me qb ps c (bQ tp l c.ls m)
section
variable {w w':κ}{T T':Tg}{t b:Nat}{cf:Cf}{me cb qb:Nat}{tp:aD}{l:List dM}{ps:Nat->Nat}{c:Cr}{m:Nat}
section
variable(h:bN w T t b cf me tp l cb qb ps c m)
include h
theorem bN.ext(e:Ext w w'):bN w' T t b cf me tp l cb qb ps c m:=by obtain⟨⟨A,n,d,h1,h2⟩,h3⟩:=h;exact⟨⟨A,n,d,h1.ext e,h2.ext e⟩,h3.ext e⟩
theorem bN.ο(hT:Ξ S w T w' T')(hs:∀k,In t (8+2*c.ls.length) k->¬S k):bN w' T' t b cf me tp l cb qb ps c m:=by obtain⟨⟨A,n,d,h1,h2⟩,h3⟩:=h;exact⟨⟨A,n,d,h1.ο hT (hs _ cN),h2.ο hT (hs _ cN)⟩,h3.ο hT fun k hk=>hs k iw⟩
end
theorem bN.ZB{c':Cr}(h:bN w T t b cf me tp l cb qb ps c m)(hT:Ξ (In (t+2) 22) w T w' T')(hc:ct w' T' (t+2) cb cf me qb ps c' (bQ tp l c.ls m))(Gd:aC tp l c'.ls m=aC tp l c.ls m)(TA:bQ tp l c'.ls m=bQ tp l c.ls m):bN w' T' t b cf me tp l cb qb ps c' m:=by
 obtain⟨⟨A,n,d,h1,h2⟩,h3⟩:=h;refine⟨⟨A,n,d,?_,h2.ο hT cN⟩,?_⟩
 .rw[Gd];exact h1.ο hT cN
 .rw[TA];exact hc
theorem U6(w:κ)(g:List Int)(aT:pI g):τ prog 174 #[.agg (jj g)] w fun e w'=>e=.returned (.int .u32 (sn (kC g):Nat))/\Ext w w':=by
 have rF:=aT.1;have hl:(g.map (af .i32)).length=32:=by rw[xN,rF]
 have nK:=θ fun W=>oD W g aT;unfold jj at*;generalize g.map (af .i32)=vs at*;go_enter func174,ntmps174;go_upto_region 1 with fail
 have hb:=heap_alloc_new w (.cells vs.toArray 205);have hx:=Ext.alloc w (.cells vs.toArray 205);generalize hW:aB w _=W0 at*;have hc:∀i v,vs[i]?=some v->W0.cell? ⟨w.heap.size,0+i,none⟩=some v:=fun i v hv=>by rw[cell_of_row _ _ _ _ _ _ hb];simpa using hv
 clear hb hW;generalize w.heap.size=gm at*;go_wp2_with (first|(with_reducible refine gI rfl 205 (.tmp 1) rfl rfl underlying205 bu hl hc ?_))
 refine(nK.o W0).mono ?_;rintro e w2 ⟨B,d,rfl,hB,e2⟩;go_wp2_with fail;refine(JS w2 B 128 d (kC g) hB).mono ?_;rintro e w3 ⟨rfl,rfl⟩;go_wp2;go_ret;exact⟨rfl,hx.trans e2⟩
end
def Co:Option ξ->Nat
 |some (.slice _ n _)=>n
 |_=>0
section
variable {w w':κ}{T T':Tg}{t b:Nat}{cf:Cf}{me cb qb:Nat}{tp:aD}{l:List dM}{ps:Nat->Nat}{c:Cr}{m:Nat}
section
variable(h:bN w T t b cf me tp l cb qb ps c m)
include h
theorem bN.ZC:Co (w.cell? (cb,12))=m:=by obtain⟨PA,MA,EA,pc,mc,ec,hC,_⟩:=h.core.cells;rw[hC.Dk,Co,gK]
theorem zv(hk:bz cf me c [])(hu:Θ w T)(ht:0<t)(mY:tp.length<=1099511627776)(hm:m<=c.front)(hQ:eS tp l cf c):τ prog 147 #[π b] w (Does (In t 24) w T (.tuple #[]) fun w' T'=>bN w' T' t b cf me tp l cb qb ps c c.front):=by
 have jW:=hk.ok.n8;have h2:=hk.ok.n2;have hlen:=hk.len;have iU:=hk.dW;have HK:=θ hk;have Hh:=θ h;have HQ:=θ hQ;unfold π;clear h hk hQ;go_enter func147,ntmps147;go_wp2_with fail;go_loopw [] (fun wr=>∃(k:Nat) (T1:Tg),k<=c.front/\Ξ (In t 24) w T wr T1/\bN wr T1 t b cf me tp l cb qb ps c k) (fun wr=>c.front-Co (wr.cell? (cb,12)))
 case atStart=>exact⟨m,T,hm,Ξ.refl _ hu,Hh.o⟩
 case round =>
  obtain⟨k,T1,U1,hT,hP⟩:=hrel;have Hml:=θ hP.ZC;have Hmk:=θ fun W (e:Ext wr W)=>Pg (hP.core.ext e);have GR:=θ fun W (e:Ext wr W)=>jf (hP.core.ext e);have sI:=θ fun W (e:Ext wr W)=>ie (hP.core.BW.ext e) (by rw[hlen];exact jW) Bu HK.o.short;have Hjo:=θ fun W (e:Ext wr W) (h:k<cn c.ls)=>LQ (hP.core.BW.ext e) (by rw[hlen];exact jW) Bu HK.o.short h;rw[show cn c.ls=c.front from rfl]at sI Hjo;simp only[gK]at Hmk;have HP:=θ hP;have HT:=θ hT;clear hlen;obtain⟨A,n,d,hH,hR⟩:=hP.bn;have b0:=hH.zc 0;have hHl:(iH cb tp A n d cf (aC tp l c.ls k)).length=38:=by simp[iH,(fA tp l c.ls k).1]
  unfold π at*;by_cases aX:k<c.front
  .have jF:=dQ ((k:Int)<(c.front:Int))
   have HH:=θ hH;have HR:=θ hR;clear hH hR hP hT;go_wp2_with fail;apply iL trivial;repeat apply nh b0
   apply jD (fun W hR=>Hmk.o W hR);repeat apply nh b0
   apply jD (fun W hR=>GR.o W hR);apply jD (fun W hR=>sI.o W hR);repeat apply iO (fun _ _ _=>trivial)
   refine jq fun Wx ak=>?_;have b0:=ak.cell b0;go_wp2_with fail;refine(Hmk.o Wx ak).mono ?_;rintro e w2 ⟨rfl,xZ⟩;subst xZ;go_wp2_with fail;refine(GR.o _ ak).mono ?_;rintro e w3 ⟨rfl,Uj⟩;subst Uj;go_wp2_with fail;refine(Hjo.o _ ak aX).mono ?_;rintro e w4 ⟨B,bd,rfl,ho4,e4⟩;have x4:=ak.trans e4;have hG:=fA tp l c.ls k;have SC:=fA tp l c.ls (k+1);have Fc:=CS tp l c.ls k;have KV:zK tp l c.ls (k+1)=sn (kC (aC tp l c.ls (k+1))):=rfl;have ZD:=wg tp l c.ls k;have SD:=HH.o.ext x4;have sJ:Ro w4 A n d l:=(HR.o.ext x4).rd;have U7:Rb w4 B (List.length c.ls) bd (bp c.ls k):=Rb.of ho4.rd rfl;have kR:=θ fun W (e:Ext w4 W)=>Ma W tp A n d l (k:Nat) B (List.length c.ls) bd (bp c.ls k) (aC tp l c.ls k) mY (sJ.ext e) (U7.ext e) hG;have ZE:=θ fun W=>U6 W (aC tp l c.ls (k+1)) SC;rw[←KV]at ZE;rw[←Fc]at kR;have ZF:=θ ZD;have oh:((aC tp l c.ls k).map (af .i32)).length=32:=OA;have vp:((aC tp l c.ls (k+1)).map (af .i32)).length=32:=by rw[xN,SC.1]
   have ZG:∀u∈(aC tp l c.ls (k+1)).map (af .i32),u.oneCell'=true:=by intro u hu;obtain⟨x,_,rfl⟩:=fK.1 hu;rfl
   clear Fc KV ZD sJ U7;unfold fX jj at*;unfold iH at SD HH hHl;generalize um:(aC tp l c.ls k).map (af .i32)=g1 at*;generalize kL:(aC tp l c.ls (k+1)).map (af .i32)=g2 at*;have V4:=θ kL;clear um kL hG SC;have b0:=SD.zc 0;have b1:=SD.zc 1;have b2:=SD.zc 2;have bg:∀i v,g1[i]?=some v->w4.cell? ⟨b,6+i,none⟩=some v:=fun i v hv=>SD.cell (by rw[ij bT,show 6+i-_=i from by simp];exact hv);have HW:=θ SD;have HHl:=θ hHl;clear SD hHl;go_wp2_with fail;apply lG 14;simp only[tk];repeat apply kZ b1 b2
   apply lT (u:=.agg g1.toArray) Ext.refl
   .rfl
   .intro W hR υ;exact fU 205 (.tmp 39) rfl rfl underlying205 bu oh (fun i v h=>hR.cell (bg i v h))
   simp only[pu];repeat apply iO (fun _ _ _=>trivial)
   apply jD (fun W hR=>kR.o W hR);repeat apply iO (fun _ _ _=>trivial)
   refine jq fun Wx ak=>?_;simp only[dk];have hHx:=HW.o.ext ak;have Qm:=HHl.o;obtain⟨kT,CT⟩:=Has.Kk g2 6 _ _ hHx ((HT.o.Δ.ext x4).ext ak) (by rw[vp,Qm];decide)
   have hc5:∀j,j<32->(Wx.cell? ⟨b,6+j,none⟩).isSome=true/\Wx.frozen? ⟨b,6+j,none⟩=false:=fun j hj=>hHx.spare (by rw[Qm];omega);have qZ:=θ kT;have ZH:=θ CT;clear kT CT hHx Qm b0 b1 b2 bg;have hsc:=run_storeCells_cells (P:=prog) b 6 g2 0 Wx (fun j hj=>by simpa using (hc5 j η).1) (fun j hj=>by simpa using (hc5 j η).2) ZG;rw[Nat.add_zero]at hsc;have afD:g2.toArray.size=32:=by simp[vp]
   clear hc5;go_upto_region 4 with fail
   generalize Zr:κ.setCells Wx b 6 g2=W5 at*;have CT:=ZH.o.is (show _=[ξ.pointer cb,.string (bs tp),.slice A n d,.int .i64 (cf.bD:Nat),.int .i64 (cf.order:Nat),.slice none 0 0]++g2 from by
    rw[CM (by rw[HHl.o,vp];decide),List.append_nil]
    rfl)
   have b0:=CT.zc 0;have bg:∀i v,g2[i]?=some v->W5.cell? ⟨b,6+i,none⟩=some v:=fun i v hv=>CT.cell (by rw[ij bT,show 6+i-_=i from by simp];exact hv);have HH6:=θ CT;have Bp:=θ (((HT.o.ext x4).ext ak).trans (qZ.o.mono fun k hk=>(by subst hk;unfold In;omega:In t 24 k)));have K7:=((HP.o.core.ext x4).ext ak).ο qZ.o (fun k hk=>sL);have M0:=((HR.o.ext x4).ext ak).ο qZ.o η;have I1:=HK.o.bQ tp l (m:=k) η;have hq6:=HQ.o.quiet tp l (m:=k+1) η;rw[ZF.o]at hq6;have M3:=θ fun W (e:Ext W5 W)=>TZ (K7.ext e) I1 (Bp.o.Δ.ext e) (zK tp l c.ls (k+1)) (Qk _ _ _ _) (by rw[gK];omega) hq6;have ZI:=θ M0;unfold π at*;clear Zr hsc ZH qZ CT K7 M0 I1 hq6 afD;apply lG 9;simp only[tk];repeat apply nh b0
   apply lT (u:=.agg g2.toArray) Ext.refl
   .rfl
   .intro W hR υ;exact fU 205 (.tmp 52) rfl rfl underlying205 bu vp (fun i v h=>hR.cell (bg i v h))
   simp only[pu];apply jD (fun W hR=>ZE.o W);refine jq fun Wx ak=>?_;simp only[dk];go_wp2_with fail;refine(M3.o Wx ak).mono ?_;rintro e w7 ⟨rfl,T7,yA,Gp⟩;rw[←ZF.o]at Gp;have hP7:bN w7 T7 t b cf me tp l cb qb ps c (k+1):=by refine⟨⟨A,n,d,?_,(ZI.o.ext ak).ο yA cN⟩,Gp⟩;refine((HH6.o.ext ak).ο yA cN).is ?_;unfold iH;rw[V4.o]
   have HP7:=θ hP7;have FE:=θ ((Bp.o.ext ak).trans (yA.mono fun k hk=>hk.sub η η));clear yA Gp hP7;go_wp2;go_roundw
   case rel=>exact⟨k+1,T7,η,FE.o,HP7.o⟩
   case measure=>rw[HP7.o.ZC,Hml.o];omega
  .obtain rfl:k=c.front:=by omega
   clear hH hR hP hT;go_wp2_with fail;apply iL trivial;repeat apply nh b0
   apply jD (fun W hR=>Hmk.o W hR);repeat apply nh b0
   apply jD (fun W hR=>GR.o W hR);apply jD (fun W hR=>sI.o W hR);repeat apply iO (fun _ _ _=>trivial)
   refine jq fun Wx ak=>?_;go_wp2_with fail;go_end0
   exact⟨rfl,T1,HT.o.ext ak,HP.o.ext ak⟩
end
end
def nD(a b:bH):Prop:=a.length=b.length/\∀p,p<a.length->a.getD p [] <+: b.getD p []
theorem nD.refl(a:bH):nD a a:=⟨rfl,fun p _=>xT _⟩
theorem nD.ym(h:nD a b)(hk:k<cn a):bp b k=bp a k:=by refine Ao h.1.symm rfl fun p hp=>?_;have hl:=jt a (a.getD p []) (by rw[cO,bf hp];exact dH hp);exact(Am (h.2 p hp) η).symm
theorem nD.front(h:nD a b)(h0:0<a.length):cn a<=cn b:=by
 refine G8 (by intro e;have h1:=h.1;rw[e]at h1;simp at h1;rw[h1]at h0;exact absurd h0 Γ) fun x hx=>?_;obtain⟨p,hp,rfl⟩:=List.getElem_of_mem hx;have JP:p<a.length:=by rw[h.1];exact hp
 have h1:=jt a (a.getD p []) (by rw[cO,bf JP];exact dH JP);have h2:=Lv (h.2 p JP);have h3:b.getD p []=b[p]:=by rw[cO,bf hp];rfl
 rw[h3]at h2;omega
section
variable(tp:aD)(l:List dM)(h:∀k,k<f->bp a k=bp b k)
include h
theorem qt:aC tp l a f=aC tp l b f:=by unfold aC;rw[show(dJ f).map (bp a)=(dJ f).map (bp b) from rQ fun k hk=>h k (nB.1 hk)]
theorem qu:bQ tp l a f=bQ tp l b f:=by unfold bQ;refine rQ fun k hk=>FH tp l a b (k+1) fun j hj=>h j (by have:=nB.1 hk;omega)
end
section
variable {w w':κ}{T T':Tg}{t b:Nat}{cf:Cf}{me cb qb:Nat}{tp:aD}{l:List dM}{ps:Nat->Nat}{c c':Cr}{m:Nat}
theorem bN.oL(h:bN w T t b cf me tp l cb qb ps c c.front)(hT:Ξ (In (t+2) 22) w T w' T')(hc:ct w' T' (t+2) cb cf me qb ps c' (bQ tp l c.ls c.front))(hg:nD c.ls c'.ls):bN w' T' t b cf me tp l cb qb ps c' c.front :=
 h.ZB hT hc (qt tp l fun k hk=>hg.ym hk) (qu tp l fun k hk=>hg.ym hk)
theorem wj(me χ:Nat)(c:Cr)(x:UInt8)(hm:me<c.ls.length):nD c.ls (c.ν me χ x).ls:=by
 unfold Cr.ν;split
 .refine⟨bT,fun p hp=>?_⟩
  show c.ls.getD p [] <+: (c.ls.set me (c.nr me++[x])).getD p []
  rw[cO,cO,Es];by_cases e:me=p
  .subst e;rw[if_pos rfl,if_pos hm];unfold Cr.nr;rw[cO];exact List.prefix_append _ _
  .rw[if_neg e];exact xT _
 .exact nD.refl _
section
variable(h:bN w T t b cf me tp l cb qb ps c m)
include h
theorem iI:τ prog 69 #[π b] w fun e w'=>e=.returned (π cb)/\w'=w:=by obtain⟨⟨A,n,d,h1,h2⟩,h3⟩:=h;have b0:=h1.zc 0;clear h1 h2 h3;unfold π at*;go_enter func69,ntmps69;go_wp2;go_ret;exact⟨rfl,rfl⟩
theorem AW:τ prog 45 #[π b] w fun e w'=>e=.returned (.bool c.closed)/\w'=w:=by have H1:=θ (iI h);have H2:=θ (rT h.core);unfold π at*;clear h;go_enter func45,ntmps45;go_wp2_with fail;refine H1.o.mono ?_;rintro e w1 ⟨rfl,hw⟩;subst hw;go_wp2_with fail;refine H2.o.mono ?_;rintro e w1 ⟨rfl,hw⟩;subst hw;go_wp2;go_ret;exact⟨rfl,rfl⟩
end
theorem CU(h:bN w T t b cf me tp l cb qb ps c c.front)(x:UInt8)(hk:bz cf me c [])(js:bz cf me (c.ν me cf.χ x) [])(hu:Θ w T)(ht:0<t)(mY:tp.length<=1099511627776)(hQ:eS tp l cf (c.ν me cf.χ x)):τ prog 272 #[π b,.int .u8 (x.toNat:Nat)] w (Does (In t 24) w T ((c.iB me cf.χ:Nat):ξ) fun w' T'=>bN w' T' t b cf me tp l cb qb ps (c.ν me cf.χ x) (c.ν me cf.χ x).front):=by
 have lD:me<c.ls.length:=by rw[hk.len];exact hk.me
 have kS:=wj me cf.χ c x lD;have iU:=hk.dW;have H1:=θ (iI h);have H2:=θ (Pq h.core (hk.bQ tp l iU) hu x);have H3:=θ fun w' T' (hP:bN w' T' t b cf me tp l cb qb ps (c.ν me cf.χ x) c.front) (hu':Θ w' T')=>zv hP js hu' ht mY (kS.front η) hQ;have HG:=θ fun w' T' (hT:Ξ (In (t+2) 22) w T w' T') (hc:ct w' T' (t+2) cb cf me qb ps (c.ν me cf.χ x) (bQ tp l c.ls c.front))=>h.oL hT hc kS;have HE:=θ (show c.iB me cf.χ≠0->c.ν me cf.χ x=c from fun h=>by unfold Cr.ν;rw[if_neg h]);unfold π at*;clear h hk js hQ kS;generalize Ki:c.ν me cf.χ x=cp at*;generalize c.iB me cf.χ=er at*;clear Ki;go_enter func272,ntmps272;go_wp2_with fail;refine H1.o.mono ?_;rintro e w1 ⟨rfl,hw⟩;subst hw;go_wp2_with fail;refine H2.o.mono ?_;rintro e w2 ⟨rfl,T2,bq,uT⟩;have Gq:=HG.o _ _ bq uT;have Gr:=θ Gq;have jr:=θ bq;clear bq uT Gq;by_cases he:er=0
 .have e1:(er==0)=true:=by simp[he]
  subst he;go_wp2_with fail;refine(H3.o _ _ Gr.o jr.o.Δ).mono ?_;rintro e w3 ⟨rfl,T3,cT,ry⟩;have jH:=θ cT;have ZJ:=θ ry;clear cT ry;go_wp2;go_ret;exact⟨rfl,T3,(jr.o.mono fun k hk=>hk.sub η η).trans jH.o,ZJ.o⟩
 .have E7:((er:Int)==0)=false:=by rw[beq_eq_false_iff_ne];omega
  have HE2:=θ (HE.o he);clear he HE;go_wp2;go_ret;have hce:=HE2.o;subst hce;exact⟨rfl,T2,jr.o.mono fun k hk=>hk.sub η η,Gr.o⟩
end
theorem zw(me:Nat)(c:Cr)(p:Pk):nD c.ls (c.recv me p).ls:=by
 unfold Cr.recv;split
 .exact nD.refl _
 .split
  .exact nD.refl _
  .refine⟨bT,fun q hq=>?_⟩
   show c.ls.getD q [] <+: (c.ls.set p.src (j8 (c.ls.getD p.src []) p.first p.ν)).getD q []
   rw[cO (l:=List.set _ _ _),Es];by_cases e:p.src=q
   .rw[if_pos e];rw[if_pos (by rw[e];exact hq)];rw[e];exact EB _ _
   .rw[if_neg e,←cO];exact xT _
theorem DZ(me:Nat)(c:Cr):(c.tick me).ls=c.ls:=by
 unfold Cr.tick;split
 .rfl
 .split<;>rfl
theorem FI(me:Nat)(c:Cr):(c.tick me).front=c.front:=by unfold Cr.front;rw[DZ]
section
variable(tp:aD)(l:List dM)
theorem M5(ls:bH)(m:Nat):(bQ tp l ls m).getLastD 0=if m=0 then 0 else zK tp l ls m:=by
 cases m with
 |zero=>rfl
 |succ m=>rw[wg,if_neg η,List.getLastD_concat]
theorem U8(c:Cr)(me:Nat):eR c me (bQ tp l c.ls c.front)=c.input (zK tp l) me:=by
 funext i
 unfold eR Cr.input;rw[gK,M5]
theorem Cp(c:Cr)(me:Nat):nR c me (bQ tp l c.ls c.front)=c.kP (zK tp l) me:=by unfold nR Cr.kP;rw[U8];cases c.late me<;>rfl
end
section
variable {w w':κ}{T T':Tg}{t b:Nat}{cf:Cf}{me cb qb:Nat}{tp:aD}{l:List dM}{ps:Nat->Nat}{c c':Cr}{m:Nat}
section
variable(h:bN w T t b cf me tp l cb qb ps c c.front)
include h
theorem FJ(p:Pk)(hk:bz cf me c [])(js:bz cf me (c.recv me p) [])(hu:Θ w T)(ht:0<t)(mY:tp.length<=1099511627776)(hp:mw p)(kN:p.dst=me)(iF:p.src<cf.n)(hb:Rb w A n d (aG cf.id p))(hf:p.iA=false->p.first<=(c.ls.getD p.src []).length/\p.first+p.ν.length<=1000)(hQ:eS tp l cf (c.recv me p)):τ prog 274 #[π b,.slice A n d] w (Does (In t 24) w T (.int .i64 (if c.closed then 6 else 0)) fun w' T'=>bN w' T' t b cf me tp l cb qb ps (c.recv me p) (c.recv me p).front):=by
 have iU:=hk.dW;have kS:=zw me c p;have lD:me<c.ls.length:=by rw[hk.len];exact hk.me
 have SE:c.front<=(c.recv me p).front:=kS.front η;have V0:Quiet cf (c.recv me p) (bQ tp l c.ls c.front):=by rw[qu (f:=c.front) tp l fun k hk=>(kS.ym hk).symm];exact hQ.quiet tp l SE
 have H1:=θ (iI h);have H2:=θ (U0 h.core (hk.bQ tp l iU) hu η p hp kN iF hb hf (fun _ _=>V0));have H3:=θ fun w' T' (hP:bN w' T' t b cf me tp l cb qb ps (c.recv me p) c.front) (hu':Θ w' T')=>zv hP js hu' ht mY SE hQ;have HG:=θ fun w' T' (hT:Ξ (In (t+2) 22) w T w' T') (hc:ct w' T' (t+2) cb cf me qb ps (c.recv me p) (bQ tp l c.ls c.front))=>h.oL hT hc kS;have HE:=θ (show c.closed=true->c.recv me p=c from fun h=>by unfold Cr.recv;rw[if_pos h]);unfold π at*;clear h hk js hQ kS V0 SE hf hb hp kN iF;generalize Ki:c.recv me p=cp at*;clear Ki;rcases j5:c.closed with _|_
 .rw[j5]at H2;simp only[Bool.false_eq_true,if_false]at H2⊢;clear j5;go_enter func274,ntmps274;go_wp2_with fail;refine H1.o.mono ?_;rintro e w1 ⟨rfl,hw⟩;subst hw;go_wp2_with fail;refine H2.o.mono ?_;rintro e w2 ⟨rfl,T2,bq,uT⟩;have Gq:=HG.o _ _ bq uT;have Gr:=θ Gq;have jr:=θ bq;clear bq uT Gq;go_wp2_with fail;refine(H3.o _ _ Gr.o jr.o.Δ).mono ?_;rintro e w3 ⟨rfl,T3,cT,ry⟩;have jH:=θ cT;have ZJ:=θ ry;clear cT ry;go_wp2;go_ret;exact⟨rfl,T3,(jr.o.mono fun k hk=>hk.sub η η).trans jH.o,ZJ.o⟩
 .rw[j5]at H2;have hce:=θ (HE.o j5);simp only[if_true]at H2⊢;clear j5 HE;go_enter func274,ntmps274;go_wp2_with fail;refine H1.o.mono ?_;rintro e w1 ⟨rfl,hw⟩;subst hw;go_wp2_with fail;refine H2.o.mono ?_;rintro e w2 ⟨rfl,T2,bq,uT⟩;have Gq:=HG.o _ _ bq uT;have Gr:=θ Gq;have jr:=θ bq;clear bq uT Gq;go_wp2;go_ret;have hce:=hce.o;subst hce;exact⟨rfl,T2,jr.o.mono fun k hk=>hk.sub η η,Gr.o⟩
theorem FK(hk:bz cf me c [])(hu:Θ w T)(AV:c.now<1000000):τ prog 275 #[π b] w (cG (In t 24) w T fun v w' T'=>∃B n d,v=.slice B n d/\YL w' T' w.heap.size cf.id B n d (c.kP (zK tp l) me)/\bN w' T' t b cf me tp l cb qb ps (c.tick me) (c.tick me).front):=by have iU:=hk.dW;have H1:=θ (iI h);have H2:=θ (UZ h.core (hk.bQ tp l iU) hu AV);have HG:=θ fun w' T' (hT:Ξ (In (t+2) 22) w T w' T') (hc:ct w' T' (t+2) cb cf me qb ps (c.tick me) (bQ tp l c.ls c.front))=>h.oL hT hc (by rw[DZ];exact nD.refl _);rw[Cp]at H2;rw[FI];unfold π at*;clear h hk;go_enter func275,ntmps275;go_wp2_with fail;refine H1.o.mono ?_;rintro e w1 ⟨rfl,hw⟩;subst hw;go_wp2_with fail;refine H2.o.mono ?_;rintro e w2 ⟨v,rfl,T2,bq,B,n,d,rfl,hM,uT⟩;have Gr:=θ (HG.o _ _ bq uT);have jr:=θ bq;have HM:=θ hM;clear bq uT hM;go_wp2;go_ret;exact⟨_,rfl,T2,jr.o.mono fun k hk=>hk.sub η η,B,n,d,rfl,HM.o,Gr.o⟩
end
theorem U9{qb:Nat}{ps:Nat->Nat}(h:ct w T t b cf me qb ps c mk)(hu:Θ w T):τ prog 286 #[π b] w (cG (In t 22) w T fun v w' T'=>∃EA ec,v=.slice EA c.bx.length ec/\(∃tt,In t 22 tt/\Row w' T tt 197 1 EA c.bx.length ec (c.bx.map wZ))/\T'=T/\w'.heap.size=w.heap.size/\ct w' T' t b cf me qb ps {c with bx:=[]} mk):=by
 obtain⟨PA,pc,MA,mc,EA,ec,h1,h2,h3,h4⟩:=h.bn;have yp:=(coreC h1).yp;have f13:=h1.free 13;obtain⟨bq,oZ⟩:=h1.put (S:=(· = t)) hu 13 (.slice none 0 0) rfl;have CF:ct (w.setCell (b,13) (.slice none 0 0)) T t b cf me qb ps {c with bx:=[]} mk:=by
  refine⟨⟨PA,pc,MA,mc,none,0,?_,?_,?_,?_⟩,?_⟩
  .exact oZ.is rfl
  .exact h2.ο bq η
  .exact h3.ο bq η
  .exact Row.dR _ _ _ _ _
  .exact h.BW.ο bq (fun k _=>η)
 have Dn:=h4.ο bq η;have Hc:=θ CF;have Hr:=θ Dn;have HT:=θ bq;unfold π;clear h h1 h2 h3 h4 oZ CF Dn bq;go_enter func286,ntmps286;go_wp2;go_ret;refine⟨_,rfl,T,HT.o.mono (fun k hk=>?_),EA,ec,rfl,⟨t+3,cN,Hr.o⟩,rfl,C4,Hc.o⟩;subst hk;unfold In;omega
theorem AX(h:bN w T t b cf me tp l cb qb ps c c.front)(hu:Θ w T):τ prog 271 #[π b] w (cG (In t 24) w T fun v w' T'=>∃EA ec,v=.slice EA c.bx.length ec/\(∃tt,In t 24 tt/\Row w' T tt 197 1 EA c.bx.length ec (c.bx.map wZ))/\T'=T/\w'.heap.size=w.heap.size/\bN w' T' t b cf me tp l cb qb ps {c with bx:=[]} c.front):=by have H1:=θ (iI h);have H2:=θ (U9 h.core hu);have HG:=θ fun w' T' (hT:Ξ (In (t+2) 22) w T w' T') (hc:ct w' T' (t+2) cb cf me qb ps {c with bx:=[]} (bQ tp l c.ls c.front))=>h.oL hT hc (nD.refl _);unfold π at*;clear h;go_enter func271,ntmps271;go_wp2_with fail;refine H1.o.mono ?_;rintro e w1 ⟨rfl,hw⟩;subst hw;go_wp2_with fail;refine H2.o.mono ?_;rintro e w2 ⟨v,rfl,T2,bq,EA,ec,rfl,⟨tt,JT,hM⟩,hte,fV,uT⟩;have Gr:=θ (HG.o _ _ bq uT);have jr:=θ bq;have HM:=θ hM;clear bq uT hM;go_wp2;go_ret;exact⟨_,rfl,T2,jr.o.mono fun k hk=>hk.sub η η,EA,ec,rfl,⟨tt,iw,HM.o⟩,hte,fV,Gr.o⟩
end
def Shown(w:κ)(g:List Int)(f:Nat)(e:Ending)(w':κ):Prop:=∃B d,e=.returned (.tuple #[.slice B 128 d,f])/\Rb w' B 128 d (kC g)/\Ext w w'
def mU(tp:aD)(l:List dM)(kind o me:Nat)(c:Cr):List Int:=eG tp l (c.front:Nat) (aC tp l c.ls c.front) (gD kind o c.ls (c.head me))
section
variable {w w':κ}{T T':Tg}{t b:Nat}{cf:Cf}{me cb qb:Nat}{tp:aD}{l:List dM}{ps:Nat->Nat}{c c':Cr}{m:Nat}
theorem uX(h:bN w T t b cf me tp l cb qb ps c m)(hk:bz cf me c []):τ prog 263 #[π b] w (Shown w (aC tp l c.ls m) c.front):=by
 have hG:=fA tp l c.ls m;have hlen:=hk.len;have jW:=hk.ok.n8;have h2:=hk.ok.n2;have GR:=θ fun W (e:Ext w W)=>jf (h.core.ext e);have sI:=θ fun W (e:Ext w W)=>ie (h.core.BW.ext e) (by rw[hlen];exact jW) Bu hk.short;rw[show cn c.ls=c.front from rfl]at sI;have nK:=θ fun W=>oD W (aC tp l c.ls m) hG;have oh:((aC tp l c.ls m).map (af .i32)).length=32:=OA;obtain⟨⟨A,n,d,h1,h3⟩,h4⟩:=h;unfold iH at h1;unfold jj at*;generalize (aC tp l c.ls m).map (af .i32)=g1 at*;have b0:=h1.zc 0;have bg:∀i v,g1[i]?=some v->w.cell? ⟨b,6+i,none⟩=some v:=fun i v hv=>h1.cell (by rw[ij bT,show 6+i-_=i from by simp];exact hv);unfold π at*;generalize aC tp l c.ls m=G at*;clear h1 h3 h4 hk hG hlen;go_enter func263,ntmps263;go_wp2_with fail;apply lG 11;simp only[tk];repeat apply iO (fun _ _ _=>trivial)
 apply lT (u:=.agg g1.toArray) Ext.refl
 .rfl
 .intro W hR υ;exact fU 205 (.tmp 8) rfl rfl underlying205 bu oh (fun i v h=>hR.cell (bg i v h))
 simp only[pu];apply BC (p:=fun u W=>∃B d,u=.slice B 128 d/\Rb W B 128 d (kC G)) (fun _ _ _ ⟨B,bd,hv,h1⟩ he=>⟨B,bd,hv,h1.ext he⟩)
 .intro W hR υ;refine(nK.o W).mono ?_;rintro e w' ⟨B,bd,rfl,ho,he⟩;exact⟨_,rfl,he,B,bd,rfl,ho⟩
 intro v1;simp only[pu];repeat apply nh b0
 apply jD (fun W hR=>GR.o W hR);apply jD (fun W hR=>sI.o W hR);refine lex_nil ?_;intro Wx ak υ;obtain⟨B,bd,rfl,hB⟩:=υ.1 rfl;clear υ;simp only[dk];go_wp2;go_ret2
 exact⟨B,bd,rfl,hB,ak⟩
theorem yB(h:bN w T t b cf me tp l cb qb ps c c.front)(hk:bz cf me c [])(mY:tp.length<=1099511627776):τ prog 266 #[π b] w (if c.head me<=c.front then Shown w (aC tp l c.ls c.front) c.front else Shown w (mU tp l cf.bD cf.order me c) (c.head me)):=by
 have hG:=fA tp l c.ls c.front;have hlen:=hk.len;have jW:=hk.ok.n8;have h2:=hk.ok.n2;have iU:=hk.dW;have lD:me<c.ls.length:=by rw[hk.len];exact hk.me
 have sS:c.head me<=1000:=by
  have:(c.head me)=c.ls[me].length:=by simp[Cr.head,Cr.nr,cO,lD]
  rw[this];exact hk.short _ (dH lD)
 have og:vl cf.bD cf.order:=hk.ok.by_;have I2:=θ (iI h);have ZK:=θ fun W (e:Ext w W)=>uX (h.ext e) hk;have GR:=θ fun W (e:Ext w W)=>jf (h.core.ext e);have Qn:=θ fun W (e:Ext w W)=>qy (h.core.ext e) (hk.bQ tp l iU);have sI:=θ fun W (e:Ext w W)=>ie (h.core.BW.ext e) (by rw[hlen];exact jW) Bu hk.short;rw[show cn c.ls=c.front from rfl]at sI;have Hah:=θ fun W (e:Ext w W)=>MW (h.core.BW.ext e) (by rw[hlen];exact jW) Bu hk.short og 0 (c.head me) Γ sS (fun W rr hrr A n c aa hb hl=>by obtain rfl:rr=0:=η;exact zo W og A n c aa hb _ sS hl);obtain⟨⟨A,n,d,h1,h3⟩,h4⟩:=h;have b0:=h1.zc 0;unfold π tR at*;by_cases hle:c.head me<=c.front
 .rw[if_pos hle]
  have e1:=dQ (c.head me<=c.front) hle;have E7:=dQ ((c.head me:Int)<=(c.front:Int));clear h1 h3 h4 hk hG hlen Hah hle;generalize c.head me=hd at*;generalize U2:c.front=fr at*;go_enter func266,ntmps266;go_wp2_with fail;refine I2.o.mono ?_;rintro e w1 ⟨rfl,hw⟩;subst hw;go_wp2_with fail;refine(GR.o _ (Ext.refl _)).mono ?_;rintro e w1 ⟨rfl,hw⟩;subst hw;go_wp2_with fail;refine(sI.o _ (Ext.refl _)).mono ?_;rintro e w1 ⟨rfl,hw⟩;subst hw;go_wp2_with fail;refine(Qn.o _ (Ext.refl _)).mono ?_;rintro e w2 ⟨rfl,e2⟩;go_wp2_with fail;refine(ZK.o _ e2).mono ?_;rintro e w3 ⟨B,bd,rfl,hB,e3⟩;go_wp2;go_ret2
  exact⟨B,bd,rfl,hB,e2.trans e3⟩
 .rw[if_neg hle]
  have e1:=dh (c.head me<=c.front) hle;have E7:=dh ((c.head me:Int)<=(c.front:Int));have Fe:pI (mU tp l cf.bD cf.order me c):=jc tp l _ _ hG;have N1:(gD cf.bD cf.order c.ls (c.head me)).length<=1000:=by rw[yQ];omega
  have sJ:Ro w A n d l:=h3.rd;have yu:=θ fun W (e:Ext w W) PA pn pc (hp:Rp W PA pn pc (gD cf.bD cf.order c.ls (c.head me)))=>Mc W tp A n d l (c.front:Nat) PA pn pc (gD cf.bD cf.order c.ls (c.head me)) (aC tp l c.ls c.front) mY (sJ.ext e) hp hG η η N1;rw[show eG tp l (c.front:Nat) (aC tp l c.ls c.front) (gD cf.bD cf.order c.ls (c.head me))=mU tp l cf.bD cf.order me c from rfl]at yu;have nK:=θ fun W=>oD W (mU tp l cf.bD cf.order me c) Fe;have alI:Hq (∀W,Ext w W->τ prog 267 #[.pointer qb,.agg #[cf.bD,cf.order,.slice none 0 0],(0:Int),(c.head me:Nat)] W fun e w'=>∃B m d,e=.returned (.slice B m d)/\Rp w' B m d (gD cf.bD cf.order c.ls (c.head me))/\Ext W w'):=θ fun W e=>by refine(Hah.o W e).mono ?_;rintro e w' ⟨B,m,d,full,h1,h2,h3,h4⟩;rw[h2.zero]at h3;exact⟨B,m,d,h1,h3,h4⟩
  have oh:((aC tp l c.ls c.front).map (af .i32)).length=32:=OA;clear Hah ZK h4 hk hG Fe hlen hle N1 sJ h3;unfold iH at h1;unfold jj fX at*;generalize mU tp l cf.bD cf.order me c=G2 at*;generalize gD cf.bD cf.order c.ls (c.head me)=al at*;generalize (aC tp l c.ls c.front).map (af .i32)=g1 at*;generalize kL:G2.map (af .i32)=g2 at*;clear kL;generalize c.head me=hd at*;generalize U2:c.front=fr at*;clear U2;have b1:=h1.zc 1;have b2:=h1.zc 2;have b3:=h1.zc 3;have b4:=h1.zc 4;have b5:=h1.zc 5;have bg:∀i v,g1[i]?=some v->w.cell? ⟨b,6+i,none⟩=some v:=fun i v hv=>h1.cell (by rw[ij bT,show 6+i-_=i from by simp];exact hv);clear h1;go_enter func266,ntmps266;go_wp2_with fail;refine I2.o.mono ?_;rintro e w1 ⟨rfl,hw⟩;subst hw;go_wp2_with fail;refine(GR.o _ (Ext.refl _)).mono ?_;rintro e w1 ⟨rfl,hw⟩;subst hw;go_wp2_with fail;refine(sI.o _ (Ext.refl _)).mono ?_;rintro e w1 ⟨rfl,hw⟩;subst hw;go_wp2_with fail;refine(Qn.o _ (Ext.refl _)).mono ?_;rintro e w2 ⟨rfl,e2⟩;replace b0:=e2.cell b0;replace b1:=e2.cell b1;replace b2:=e2.cell b2;replace b3:=e2.cell b3;replace b4:=e2.cell b4;replace b5:=e2.cell b5;replace bg:∀i v,g1[i]?=some v->w2.cell? ⟨b,6+i,none⟩=some v:=fun i v hv=>e2.cell (bg i v hv);go_wp2_with fail;apply lG 31;simp only[tk];repeat apply kZ b1 b2
  apply lT (u:=.agg g1.toArray) Ext.refl
  .rfl
  .intro W hR υ;exact fU 205 (.tmp 30) rfl rfl underlying205 bu oh (fun i v h=>hR.cell (bg i v h))
  simp only[pu];repeat apply nh b0
  apply jD (fun W hR=>GR.o W (e2.trans hR));repeat apply VZ b0 b3 b4 b5
  apply jD (fun W hR=>Qn.o W (e2.trans hR));apply BC (p:=fun u W=>∃B m d,u=.slice B m d/\Rp W B m d al) (fun _ _ _ ⟨B,m,bd,hv,h1⟩ he=>⟨B,m,bd,hv,h1.ext he⟩)
  .intro W hR υ;refine(alI.o W (e2.trans hR)).mono ?_;rintro e w' ⟨B,m,bd,rfl,ho,he⟩;exact⟨_,rfl,he,B,m,bd,rfl,ho⟩
  intro v1;simp only[pu];apply ck (u:=.agg g2.toArray)
  .rfl
  .intro W;go_simp;exact⟨rfl,rfl⟩
  .intro W hR υ;obtain⟨B,m,bd,rfl,Sz⟩:=υ.1 rfl;refine(yu.o W (e2.trans hR) B m bd Sz).mono ?_;rintro e w' ⟨rfl,he⟩;exact⟨rfl,he⟩
  simp only[pu];apply BC (p:=fun u W=>∃B d,u=.slice B 128 d/\Rb W B 128 d (kC G2)) (fun _ _ _ ⟨B,bd,hv,h1⟩ he=>⟨B,bd,hv,h1.ext he⟩)
  .intro W hR υ;refine(nK.o W).mono ?_;rintro e w' ⟨B,bd,rfl,ho,he⟩;exact⟨_,rfl,he,B,bd,rfl,ho⟩
  intro v2;simp only[pu];repeat apply nh b0
  apply jD (fun W hR=>Qn.o W (e2.trans hR));refine lex_nil ?_;intro Wx ak υ;obtain⟨B,bd,rfl,hB⟩:=υ.1 rfl;clear υ;simp only[dk];go_wp2;go_ret2
  exact⟨B,bd,rfl,hB,e2.trans ak⟩
end
theorem Qo(w:κ):τ prog 144 #[.slice none 0 0] w fun e w'=>e=.returned (.slice none 0 0)/\w'=w:=by have BQ:=yT 0 0 w;go_enter func144,ntmps144;go_wp2;go_ret;exact⟨rfl,rfl⟩
theorem Ξ.fresh{w w2 w3:κ}{T T2 T3:Tg}(h:Ξ (fun _=>False) w T w2 T2)(h2:Ξ S w2 T2 w3 T3)(hf:∀k,k<w.heap.size->¬S (T k)):Ξ (fun _=>False) w T w3 T3 :=
 ⟨h2.os.trans h.os,h2.tape.trans h.tape,h2.output.trans h.output,aF h.size h2.size,fun k hk _=>(h2.block k (eM hk h.size) (by rw[h.tag k hk];exact hf k hk)).trans (h.block k hk (fun h=>h)),fun k hk=>(h2.tag k (eM hk h.size)).trans (h.tag k hk),h2.Δ⟩
section
variable {w w':κ}{T T':Tg}{t b:Nat}{cf:Cf}{me cb qb:Nat}{tp:aD}{l:List dM}{ps:Nat->Nat}{c c':Cr}{m:Nat}
theorem bz.new{cf:Cf}{me:Nat}(aT:jA cf)(DT:me<cf.n):bz cf me (Cr.new cf.n cf.Ω) []:=by
 have hd:=aT.Ω;refine⟨aT,DT,by simp[Cr.new],?_,by simp[Cr.new],by simp[Cr.new],?_,?_,?_,bT,bT⟩
 .intro l hl;obtain⟨_,rfl⟩:=List.mem_replicate.1 hl;rw[List.length_replicate];omega
 .intro i;show cf.Ω<=1000;omega
 .intro i;exact aq _
 .intro i;exact⟨aM _,show 0<4294967296 by decide⟩
theorem M6:(prog.info? 127).map (fun i=>(i.zero,i.size,i.bytes))=some (some (.agg #[(0:Int),(0:Int),(0:Int),(0:Int)]),4,32):=ey
theorem qB:(prog.info? 26).map (·.size)=some 10:=ey
theorem abR:(prog.info? 204).map (·.size)=some 3:=ey
theorem M7(h:bN w T t b cf me tp l cb qb ps c m):τ prog 268 #[π b] w fun e w'=>e=.returned (tR cf.bD cf.order)/\Ext w w':=by obtain⟨⟨A,n,d,h1,h3⟩,h4⟩:=h;have b3:=h1.zc 3;have b4:=h1.zc 4;have b5:=h1.zc 5;have aX:=h1.lt;clear h1 h3 h4;unfold π tR at*;go_enter func268,ntmps268;go_wp2_with fail;exact bodyPost_ret (v:=.agg #[cf.bD,cf.order,.slice none 0 0]) (by simp[results,Tryz.results268,go_sem]) rfl ⟨rfl,Ext.alloc _ _⟩
theorem uB:(prog.info? 205).map (·.zero)=some (some (.agg (cP 32 (af .i32 0)).toArray)):=ey
theorem wm(h1:Has w T t b (iH cb tp A n d cf (aC tp l c.ls m))):τ prog 143 #[π b] w fun e w'=>e=.returned (.agg (jj (aC tp l c.ls m)))/\Ext w w':=by
 obtain⟨i,hi,hz⟩:∃i,prog.info? 205=some i/\i.zero=some (.agg (cP 32 (af .i32 0)).toArray):=by
  have h9:=uB;cases hq:prog.info? 205 with
  |none=>rw[hq]at h9;cases h9
  |some i=>rw[hq]at h9;exact⟨i,rfl,Ll⟩
 have hG:=fA tp l c.ls m;have oh:((aC tp l c.ls m).map (af .i32)).length=32:=OA;have eo:∀u∈(aC tp l c.ls m).map (af .i32),u.oneCell'=true:=by intro u hu;obtain⟨x,_,rfl⟩:=fK.1 hu;rfl
 unfold iH at h1;unfold jj at*;generalize (aC tp l c.ls m).map (af .i32)=g1 at*;have bg:∀i v,g1[i]?=some v->w.cell? ⟨b,6+i,none⟩=some v:=fun i v hv=>h1.cell (by rw[ij bT,show 6+i-_=i from by simp];exact hv);have DK:(cP 32 (af .i32 0)).length=32:=bT;unfold π at*;clear h1 hG;generalize cP 32 (af .i32 0)=zs at*;go_enter func143,ntmps143;go_wp2_with (first|(with_reducible refine bA rfl 205 rfl hi hz ?_;intro W2 hA x2 s2;have bg2:∀i v,g1[i]?=some v->W2.cell? ⟨b,6+i,none⟩=some v:=fun i v hv=>x2.cell (bg i v hv))|(with_reducible refine gI rfl 205 (.tmp 5) rfl rfl underlying205 bu oh bg2 ?_)|(with_reducible refine bF rfl 205 (.tmp 2) (.tmp 6) rfl rfl rfl hA oh DK bu eo ?_;intro Z bZ gZ sZ));have eZ:=Ext.own (B:=some ⟨w.heap.size,0,none⟩) x2 gZ (fun k hk=>afd);exact bodyPost_ret (kM rfl _ rfl bZ oh underlying205 bu) rfl ⟨rfl,eZ⟩
theorem I3(w:κ)(T:Tg)(hu:Θ w T)(cf:Cf)(me:Nat)(aT:jA cf)(DT:me<cf.n)(t:Nat)(ht:0<t)(ru:∀k,k<w.heap.size->¬In t 24 (T k))(tp:aD)(l:List dM)(sJ:Ro w A n d l)(mY:tp.length<=1099511627776)(DJ:fD tp l = -1)(Ol:l.length<=64):τ prog 98 #[iC cf me,fX tp A n d,.slice none 0 0] w (cG (fun _=>False) w T fun v w' T'=>∃b cb qb ps,v=.tuple #[π b,(0:Int)]/\bN w' T' t b cf me tp l cb qb ps (Cr.new cf.n cf.Ω) (Cr.new cf.n cf.Ω).front):=by
 have aeB:=θ fun W=>Qo W;have aid:=θ fun W T1 (h1:Θ W T1)=>YC W T1 h1 cf me aT DT (t+2) η;have aeC:=θ fun W (e:Ext w W)=>O5 W tp A n d l mY (sJ.ext e) (b:=true) (by rw[DJ];rfl);have Hop:=θ (Lq l);have ku:=θ fun W=>AJ W (kind:=cf.bD) (o:=cf.order) aT.by_;unfold iC fX tR at*;go_enter func98,ntmps98;go_upto_region 1 with fail
 have x0:=(Ext.alloc w (.cells (aA cf me).toArray 26)).trans (Ext.alloc _ (.cells #[.string (bs tp),.slice A n d] 65));have hb:=(Has.new w (fun _=>0) (aA cf me) 26 rfl).2;have hp:=(Has.new (w.alloc (.cells (aA cf me).toArray 26)) (fun _=>0) [.string (bs tp),.slice A n d] 65 (b:=w.heap.size+1) bT).2;have hb:Has _ T 0 w.heap.size _:=(show Has _ T 0 w.heap.size _ from⟨hu _ (aq _),hb⟩).ext (Ext.alloc _ (.cells #[.string (bs tp),.slice A n d] 65));have hp:Has _ T 0 (w.heap.size+1) _:=⟨hu _ η,hp⟩;unfold aA at*;generalize hW:aB (aB w _) _=W0 at*;have Ki:w.heap.size≠w.heap.size+1:=η;obtain⟨gc,oN⟩:∃gc,gc=w.heap.size:=⟨_,rfl⟩;obtain⟨gp,tK⟩:∃gp,gp=w.heap.size+1:=⟨_,rfl⟩;rw[←tK]at hp⊢;rw[←oN]at hb⊢;have ZL:=θ (show w.heap.size<=gp by omega);clear hW Ki oN tK;have ant:=hb.lt;have anu:=hp.lt;have k5:=hb.zc 5;have k6:=hb.zc 6;have HB:=θ hb;have HP:=θ hp;clear hb hp;go_wp2_with fail;apply lG 8;simp only[tk];repeat apply kZ k5 k6
 apply jD (fun W hR=>aeB.o W);repeat apply iO (fun _ _ _=>trivial)
 apply dL (p:=fun u W=>∃g,u=.pointer (some ⟨g,0,none⟩)/\W0.heap.size<=g/\Has W T 0 g [(0:Int),(0:Int),.slice none 0 0]) (fun _ _ _ ⟨g,hv,hg,h⟩ he=>⟨g,hv,hg,h.ext he⟩)
 .rfl
 .intro W hR υ;refine⟨.pointer W.heap.size,W.alloc (.cells #[(0:Int),(0:Int),.slice none 0 0] 204),?_,Ext.alloc _ _,W.heap.size,rfl,hR.size,hu _ (aF x0.size hR.size),(Has.new W (fun _=>0) [(0:Int),(0:Int),.slice none 0 0] 204 rfl).2⟩;go_simp;first|done|rfl
 intro v1;simp only[pu];refine lex_nil ?_;intro Wx ak υ;obtain⟨g,rfl,nC,hg⟩:=υ.1 rfl;clear υ;simp only[dk];have CJ:[af .i64 (cf.bD:Nat),.int .i64 (cf.order:Nat),.slice none 0 0].length=3:=rfl;have DS:[af .i64 0,.int .i64 0,.slice none 0 0].length=3:=rfl;have zI:∀u∈[af .i64 (cf.bD:Nat),.int .i64 (cf.order:Nat),.slice none 0 0],u.oneCell'=true:=gA;have Oa:g≠gc/\g≠gp:=η;have Dz:[af .i64 (cf.n:Nat),.int .i64 (me:Nat),.int .i64 (cf.id:Nat),.int .i64 (cf.Ω:Nat),.int .i64 (cf.χ:Nat),.int .i64 (cf.bD:Nat),.int .i64 (cf.order:Nat),.int .i64 (cf.aR:Nat),.int .i64 (cf.workers:Nat),.int .i64 (cf.room:Nat)].length=10:=rfl;go_wp2_with (first|(with_reducible refine bE rfl 204 (.tmp 8) (.tmp 18) rfl rfl (us:=[.int .i64 (cf.bD:Nat),.int .i64 (cf.order:Nat),.slice none 0 0]) rfl hg CJ DS abR zI ?_;intro Z bZ gZ sZ;have hbZ:=(HB.o.ext ak).grown gZ (by simpa using Oa.1);have hpZ:=(HP.o.ext ak).grown gZ (by simpa using Oa.2))|(with_reducible refine bI rfl 26 (.tmp 3) rfl rfl underlying26 qB Dz hbZ.all ?_));have eZ:=Ext.own (B:=some ⟨g,0,none⟩) (x0.trans ak) gZ (fun k hk=>by have h9:g=k:=kI.inj hk;have:=x0.size;omega);have huZ:=hu.ext eZ;refine(aid.o Z T huZ).mono ?_;rintro e w2 ⟨v,rfl,T2,bq,cb,qb,ps,rfl,uT⟩;have sj:=(hbZ.ο bq (fun h=>h));have N7:=(hpZ.ο bq (fun h=>h));have kL:=(bZ.ο bq (fun h=>h));have jr:=θ ((Ξ.ai (fun _=>False) hu eZ).trans bq);have HC2:=θ uT;have x2:Ext Z w2:=⟨bq.os,bq.tape,bq.output,bq.size,fun k hk=>bq.block k hk (fun h=>h)⟩;have ZM:=θ (eZ.trans x2);have p0:=N7.zc 0;have p1:=N7.zc 1;have y0:=kL.zc 0;have y1:=kL.zc 1;have y2:=kL.zc 2;have HPP:=θ N7;have HGG:=θ kL;unfold π at*;clear bZ gZ sZ hbZ hpZ sj N7 kL bq uT x2 eZ k5 k6 hg CJ DS zI Dz huZ HB HP;go_wp2_with fail;refine(aeC.o w2 ZM.o).mono ?_;rintro e w3 ⟨rfl,e3⟩;replace y0:=e3.cell y0;replace y1:=e3.cell y1;replace y2:=e3.cell y2;replace p0:=e3.cell p0;replace p1:=e3.cell p1;go_wp2_with fail;refine(ku.o w3).mono ?_;rintro e w4 ⟨rfl,e4⟩;have e24:=e3.trans e4;have hp4:=HPP.o.ext e24;have afQ:Ro w4 A n d l:=sJ.ext (ZM.o.trans e24);have Ul:=sJ.len;have alJ:n<=64:=η;clear Ul;have agU:∀u∈Ab l,u.oneCell'=true:=Hop.o;replace y0:=e4.cell y0;replace y1:=e4.cell y1;replace y2:=e4.cell y2;replace p0:=e4.cell p0;replace p1:=e4.cell p1;obtain⟨i0,hi,dx,dA,dN⟩:=info_parts M6;go_upto_region 6 with (at_builtin;refine gq _ rfl _ _ 63 rfl w4.heap.size 127 i0 (.agg #[(0:Int),(0:Int),(0:Int),(0:Int)]) 4 32 underlying63 hi dx dA dN rfl Γ rfl A n d _ rfl afQ agU iQ η (aq _) ?_;intro B2 zx w5 Wf e5;have hp5:=hp4.ext e5;have q1:=hp5.zc 1;have qf:=hp5.free 1)
 have JH:=jr.o.Δ;have hu4:=JH.ext e24;obtain⟨ye,mz⟩:=Row.fresh hu4 Wf e5 (t+1);have Va:give T2 (Proofs.YtffcefoadaogbaaGreat.went none B2) (t+1) gp=0:=by rw[ye.tag gp hp4.lt];exact hp4.1
 have kq:Ξ (· = 0) w5 (give T2 (Proofs.YtffcefoadaogbaaGreat.went none B2) (t+1)) (w5.setCell (gp,1) (.slice B2 n zx)) (give T2 (Proofs.YtffcefoadaogbaaGreat.went none B2) (t+1)):=Ξ.Et ye.Δ _ _ Va;have KE:=((HC2.o.ext e24).ο ye (fun _ _ h=>h)).ο kq (fun k hk=>sL);have hR5:=mz.ο kq η;have hp6:=(hp5.of Va).set 1 (.slice B2 n zx);have hTw:=(((jr.o.ext e24).trans ye).set ⟨gp,1,none⟩ (.slice B2 n zx) (.inr ZL.o));have hy6:=(((HGG.o.ext e24).ext e5).nH (a:=⟨gp,1,none⟩) (by exact fun e=>Oa.2 e.symm) (.slice B2 n zx));generalize give T2 (Proofs.YtffcefoadaogbaaGreat.went none B2) (t+1)=T5 at*;generalize hW6:dG w5 _ _=w6 at*;have p0:=hp6.zc 0;have p1:=hp6.zc 1;have y0:=hy6.zc 0;have y1:=hy6.zc 1;have y2:=hy6.zc 2;clear hW6 kq mz ye hp5 q1 qf hp4;have Qe:=θ KE;have HR5:=θ hR5;have M8:=θ hTw;clear KE hR5 hTw hp6 hy6;go_upto_region 7 with fail
 obtain⟨yA,hH7⟩:=Has.fresh M8.o.Δ (iH cb tp B2 n zx cf nA) 207 t;generalize hW7:aB w6 _=w7;have ZN:w6.alloc (.cells (iH cb tp B2 n zx cf nA).toArray 207)=w7:=by rw[←hW7];rfl
 rw[ZN]at yA hH7;clear hW7 ZN;generalize w6.heap.size=gb at*;have Gp:=Qe.o.ο yA (fun _ _ h=>h);have hR7:=HR5.o.ο yA (fun h=>h);have FE:=θ (M8.o.trans yA);generalize give T5 (one gb) t=T7 at*;have hP7:bN w7 T7 t gb cf me tp l cb qb ps (Cr.new cf.n cf.Ω) 0:=⟨⟨B2,n,zx,hH7,hR7⟩,Gp⟩;have M3:=θ (zv hP7 (bz.new aT DT) FE.o.Δ ht mY (aM _) (fun i _ h=>absurd h (by simp[Cr.new])));unfold π at*;clear hP7 Gp hR7 yA hH7;go_wp2_with fail;refine M3.o.mono ?_;rintro e w8 ⟨rfl,T8,MV,hP8⟩;have Qg:=θ MV;have HP8:=θ hP8;clear MV hP8;go_wp2;go_ret2
 exact⟨_,rfl,T8,FE.o.fresh Qg.o ru,gb,cb,qb,ps,rfl,HP8.o⟩
end
theorem zy:(prog.info? 265).map (·.size)=some 8:=ey
theorem Qp:(prog.info? 265).map (·.zero)=some (some (.agg (cP 8 (af .i32 0)).toArray)):=ey
def uY(g:List Int)(k:Nat):List Int:=(g.drop (k*8)).take 8
theorem I4(h:g.length=32)(hk:k<4):(uY g k).length=8:=by unfold uY;rw[List.length_take,List.length_drop];omega
theorem I5(hj:j<8):(uY g k)[j]?=g[k*8+j]?:=by unfold uY;rw[List.getElem?_take,if_pos hj,List.getElem?_drop]
theorem DA{P:Program}(w:κ){ops:Array Oper}{rest:List Oper}{o:Oper}{a:Act}{Q:Exit->Act->κ->Prop}(rJ:o.guard=none)(d s:Operand)(t t':TypeId)(ho:o.op=.call {callee:=.builtin .copy,args:=#[d,s],argTypes:=#[t,t']})(v u:ξ)(hd:a.eval d=v)(hs:a.eval s=u){v':ξ}{w':κ}(hr:∀ty,(Builtin.copy_ #[t,t'] ty #[v,u]).run P w=.ok v' w')(h:wpList P ops Q rest (a.put o.dst v') w'):wpList P ops Q (o::rest) a w:=by refine wpList_plain rJ fun K hK=>?_;unfold Oper.wp execOp;simp only[ho,resolve,invoke,builtin,Sem.run_bind,Sem.run_pure,Result.andThen_ok,List.map_toArray,List.map_cons,List.map_nil,hd,hs,hr];exact hK _ _ h
theorem Qq(gs:Nat)(hk:k<4)(W:κ):(Instr.sliceAt 205 (.pointer gs) (some (.int .i64 ((k:Int)*8))) none none).run prog W=.ok (.slice (gs,k*8) (32-k*8) (32-k*8)) W:=by
 have h0:∀W,(Instr.sliceAt 205 (.pointer gs) (some (.int .i64 0)) none none).run prog W=.ok (.slice gs 32 32) W:=fun _=>ey;have h1:∀W,(Instr.sliceAt 205 (.pointer gs) (some (.int .i64 8)) none none).run prog W=.ok (.slice (gs,8) 24 24) W:=fun _=>ey;have h2:∀W,(Instr.sliceAt 205 (.pointer gs) (some (.int .i64 16)) none none).run prog W=.ok (.slice (gs,16) 16 16) W:=fun _=>ey;have h3:∀W,(Instr.sliceAt 205 (.pointer gs) (some (.int .i64 24)) none none).run prog W=.ok (.slice (gs,24) 8 8) W:=fun _=>ey;rcases(show k=0\/k=1\/k=2\/k=3 by omega) with rfl|rfl|rfl|rfl
 .exact h0 W
 .exact h1 W
 .exact h2 W
 .exact h3 W
section
variable {w w':κ}
theorem Qr(w:κ)(g:List Int)(hg:g.length=32)(k:Nat)(hk:k<4):τ prog 164 #[.agg (jj g),k] w fun e w'=>e=.returned (.agg ((uY g k).map (af .i32)).toArray)/\Ext w w':=by
 obtain⟨i,hi,hz⟩:∃i,prog.info? 265=some i/\i.zero=some (.agg (cP 8 (af .i32 0)).toArray):=by
  have h9:=Qp;cases hq:prog.info? 265 with
  |none=>rw[hq]at h9;cases h9
  |some i=>rw[hq]at h9;exact⟨i,rfl,Ll⟩
 have DK:(cP 8 (af .i32 0)).length=8:=bT;generalize C5:cP 8 (af .i32 0)=zs at*;have De:=(Has.new w (fun _=>0) (g.map (af .i32)) 205 rfl);have x0:=Ext.alloc w (.cells (g.map (af .i32)).toArray 205);have CI:(g.map (af .i32)).length=32:=by rw[xN,hg]
 unfold jj at*;have eo:∀u∈(uY g k).map (af .i32),u.oneCell'=true:=by intro u hu;obtain⟨x,_,rfl⟩:=fK.1 hu;rfl
 have vQ:((uY g k).map (af .i32)).length=8:=by rw[xN,I4 hg hk]
 have yL:∀j v,((uY g k).map (af .i32))[j]?=some v->(g.map (af .i32))[k*8+j]?=some v:=by
  intro j v hv;have hj:j<8:=by rw[←vQ];exact(iN.1 hv).1
  rw[iZ,I5 hj]at hv;rw[iZ];exact hv
 generalize (uY g k).map (af .i32)=pl at*;generalize g.map (af .i32)=gv at*;have Gn:=dQ ((k:Int)<4);go_enter func164,ntmps164;go_upto_region 1 with (first|(with_reducible refine bA rfl 265 rfl hi hz ?_;intro W1 FA x1 s1))
 have ng:=De.ext x1;have xx1:=x0.trans x1;have YJ:w.heap.size<(w.alloc (.cells gv.toArray 205)).heap.size:=bT;obtain⟨g4,ajl⟩:∃g4,g4=(w.alloc (.cells gv.toArray 205)).heap.size:=⟨_,rfl⟩;rw[←ajl]at FA YJ s1⊢;clear De x0 x1 ajl;go_upto_region 3 with (first|(with_reducible refine bA rfl 265 rfl hi hz ?_;intro W2 hA2 x2 s2))
 have sj:=ng.ext x2;have FA:=FA.ext x2;have xx2:=xx1.trans x2;obtain⟨g5,agV⟩:∃g5,g5=g4+1:=⟨_,rfl⟩;rw[s1,←agV]at hA2;rw[←agV];have hg5:g4<g5:=η;clear ng xx1 x2 agV s1;obtain⟨gs,ajm⟩:∃gs,gs=w.heap.size:=⟨_,rfl⟩;rw[←ajm]at sj YJ⊢;have Hgs:=θ (show w.heap.size<=gs by omega);clear ajm;have hm:=ej ((k:Int)*8);apply lG 4;simp only[tk];repeat apply iO (fun _ _ _=>trivial)
 have yy:=Qq gs hk;repeat apply iO (fun _ _ _=>trivial)
 refine jq fun Wx ak=>?_;simp only[dk];have hb3:=sj.ext ak;have hA4:=FA.ext ak;have hA5:=hA2.ext ak;have xx3:=xx2.trans ak;have Ki:∀ty,(Builtin.copy_ #[144,144] ty #[.slice g5 8 8,.slice (gs,k*8) (32-k*8) (32-k*8)]).run prog Wx=.ok (goInt pl.length) (Wx.setCells g5 0 pl):=fun ty=>run_copy_cells Wx _ _ ty 21 g5 0 8 8 ⟨gs,k*8,none⟩ (32-k*8) (32-k*8) pl underlying144 ey (by rw[vQ];show 8=min (32-k*8) 8;omega)
  (fun j v hv=>by rw[Addr.add_lit];exact hb3.cell (yL j v hv)) (fun j hj=>by rw[mZ,hA5.cell (v:=zs[j]' η) (bf η)];rfl) (fun j hj=>hA5.free _) eo
 have ajn:g5<Wx.heap.size:=(gy.1 hA5).1;obtain⟨kT,CT⟩:=Has.Kk (T:=fun k=>if k=g5 then 1 else 0) (t:=1) pl 0 zs Wx ⟨if_pos rfl,_,hA5⟩ (fun k hk=>if_neg η) η;have On:sH (Wx.setCells g5 0 pl) g4 265 zs:=(kT.block g4 (gy.1 hA4).1 (by rw[if_neg η];decide)).trans hA4
 have xx4:Ext w (Wx.setCells g5 0 pl):=by have:=Hgs.o;exact⟨kT.os.trans xx3.os,kT.tape.trans xx3.tape,kT.output.trans xx3.output,aF xx3.size kT.size,fun k hk=>(kT.block k (eM hk xx3.size) (by rw[if_neg η];decide)).trans (xx3.block k hk)⟩
 have hv5:∀i v,pl[i]?=some v->(Wx.setCells g5 0 pl).cell? ⟨g5,0+i,none⟩=some v:=fun i v hv=>by rw[mZ];refine CT.cell ?_;rw[List.take_zero,Tl,kn (iN.1 hv).1];exact hv
 have alK:=θ (show w.heap.size<=g4 by have:=Hgs.o;omega);generalize Uz:Wx.setCells g5 0 pl=W4 at*;clear CT kT Uz;refine DA Wx rfl (.tmp 12) (.tmp 15) 144 144 rfl _ _ rfl rfl Ki ?_;go_wp2_with (first|(with_reducible refine gI rfl 265 (.tmp 5) rfl rfl underlying265 zy vQ hv5 ?_)|(with_reducible refine bF rfl 265 (.tmp 4) (.tmp 17) rfl rfl rfl On vQ DK zy eo ?_;intro Z bZ gZ sZ));have eZ:=Ext.own (B:=some ⟨g4,0,none⟩) xx4 gZ (fun k hk=>by have h9:g4=k:=kI.inj hk;have:=alK.o;omega);exact bodyPost_ret (kM rfl _ rfl bZ vQ underlying265 zy) rfl ⟨rfl,eZ⟩
end
theorem Qs(W:κ)(hg:g.length=8)(hk:k<8):(Instr.index 265 (.agg (g.map (af .i32)).toArray) (k:ξ)).run prog W=.ok (.int .i32 (g.getD k 0)) W:=by
 obtain⟨a0,a1,a2,a3,a4,a5,a6,a7,rfl⟩:∃a0 a1 a2 a3 a4 a5 a6 a7,g=[a0,a1,a2,a3,a4,a5,a6,a7]:=by
  match g,hg with
  | [a0,a1,a2,a3,a4,a5,a6,a7],_=>exact⟨_,_,_,_,_,_,_,_,rfl⟩
 have h:∀j:Nat,j<8->∀v,[a0,a1,a2,a3,a4,a5,a6,a7][j]?=some v->(Instr.index 265 (.agg #[.int .i32 a0,.int .i32 a1,.int .i32 a2,.int .i32 a3,.int .i32 a4,.int .i32 a5,.int .i32 a6,.int .i32 a7]) (j:ξ)).run prog W=.ok (.int .i32 v) W:=by
  intro j hj v hv;match j,hv with
  |0,hv=>cases hv;exact(fun W:κ=>(ey:(Instr.index 265 (.agg #[.int .i32 a0,.int .i32 a1,.int .i32 a2,.int .i32 a3,.int .i32 a4,.int .i32 a5,.int .i32 a6,.int .i32 a7]) (.int .i64 0)).run prog W=.ok (.int .i32 a0) W)) W
  |1,hv=>cases hv;exact(fun W:κ=>(ey:(Instr.index 265 (.agg #[.int .i32 a0,.int .i32 a1,.int .i32 a2,.int .i32 a3,.int .i32 a4,.int .i32 a5,.int .i32 a6,.int .i32 a7]) (.int .i64 1)).run prog W=.ok (.int .i32 a1) W)) W
  |2,hv=>cases hv;exact(fun W:κ=>(ey:(Instr.index 265 (.agg #[.int .i32 a0,.int .i32 a1,.int .i32 a2,.int .i32 a3,.int .i32 a4,.int .i32 a5,.int .i32 a6,.int .i32 a7]) (.int .i64 2)).run prog W=.ok (.int .i32 a2) W)) W
  |3,hv=>cases hv;exact(fun W:κ=>(ey:(Instr.index 265 (.agg #[.int .i32 a0,.int .i32 a1,.int .i32 a2,.int .i32 a3,.int .i32 a4,.int .i32 a5,.int .i32 a6,.int .i32 a7]) (.int .i64 3)).run prog W=.ok (.int .i32 a3) W)) W
  |4,hv=>cases hv;exact(fun W:κ=>(ey:(Instr.index 265 (.agg #[.int .i32 a0,.int .i32 a1,.int .i32 a2,.int .i32 a3,.int .i32 a4,.int .i32 a5,.int .i32 a6,.int .i32 a7]) (.int .i64 4)).run prog W=.ok (.int .i32 a4) W)) W
  |5,hv=>cases hv;exact(fun W:κ=>(ey:(Instr.index 265 (.agg #[.int .i32 a0,.int .i32 a1,.int .i32 a2,.int .i32 a3,.int .i32 a4,.int .i32 a5,.int .i32 a6,.int .i32 a7]) (.int .i64 5)).run prog W=.ok (.int .i32 a5) W)) W
  |6,hv=>cases hv;exact(fun W:κ=>(ey:(Instr.index 265 (.agg #[.int .i32 a0,.int .i32 a1,.int .i32 a2,.int .i32 a3,.int .i32 a4,.int .i32 a5,.int .i32 a6,.int .i32 a7]) (.int .i64 6)).run prog W=.ok (.int .i32 a6) W)) W
  |7,hv=>cases hv;exact(fun W:κ=>(ey:(Instr.index 265 (.agg #[.int .i32 a0,.int .i32 a1,.int .i32 a2,.int .i32 a3,.int .i32 a4,.int .i32 a5,.int .i32 a6,.int .i32 a7]) (.int .i64 7)).run prog W=.ok (.int .i32 a7) W)) W
 refine h k hk _ ?_;rw[cO,bf Ta];rfl
def mkC(L:List Nat):List ξ:=L.map (fun k:Nat=>af .i64 ((k:Int)+1))++cP (4-L.length) (af .i64 0)++[.int .i64 0]
theorem abS(h:L.length<4)(k:Nat):(mkC L).set L.length (.int .i64 ((k:Int)+1))=mkC (L++[k]):=by
 match L,h with
 | [],_=>rfl
 | [a],_=>rfl
 | [a,b],_=>rfl
 | [a,b,c],_=>rfl
theorem M9(h:L.length<4):(mkC L)[L.length]?=some (.int .i64 0):=by
 match L,h with
 | [],_=>rfl
 | [a],_=>rfl
 | [a,b],_=>rfl
 | [a,b,c],_=>rfl
theorem aeD(h:L.length<4):(mkC (L++[k]))[L.length]?=some (.int .i64 ((k:Int)+1)):=by
 match L,h with
 | [],_=>rfl
 | [a],_=>rfl
 | [a,b],_=>rfl
 | [a,b,c],_=>rfl
theorem Na{rf:Nat->Int}{A R:List Nat}(h:jG n rf (A++R))(hk:k∈A)(h1:rf k<=1):k∉R:=fun hr=>by have:=h.2 k (h.1 k (oI _ hk));rw[oK]at this;have h2:=adv.2 hk;have h3:=adv.2 hr;omega
theorem Nb{vs:Nat->Nat->Int}{q:jJ}(h4:q.pg.length=4)(hk:k∉q.pg)(u:Nat->Int):fR (jE vs k u) q=fR vs q:=JZ fun i hi=>by unfold cellOf;rw[gC];rintro e;apply hk;rw[←e,cO,bf η];exact dH _
structure Mk(w:κ)(T:Tg)(t b rb g mb n:Nat)(rf:Nat->Int)(vs:Nat->Nat->Int)(ps:List jJ)(last gp gs:Nat)(G:List Int)(L:List Nat)(ju:Nat->Int)(nj:Nat->Nat->Int)(wr:κ):Prop where
 st:fT wr T t b rb g mb n ju nj ps last
 held:jG n ju (L++refsOf ps)
 us:used n ju=used n rf+L.length
 Wl:∀q∈ps,fR nj q=fR vs q
 pg:∀s j,s<L.length->j<8->nj (L.getD s 0) j=G.getD (s*8+j) 0
 jP:Has wr T 0 gp (mkC L)
 gm:Has wr T 0 gs (G.map (af .i32))
 tn:Ξ (In t 5) w T wr T
structure MkI(w:κ)(T:Tg)(t b rb g mb n:Nat)(rf:Nat->Int)(vs:Nat->Nat->Int)(ps:List jJ)(last gp gs:Nat)(G:List Int)(L:List Nat)(k j:Nat)(ju:Nat->Int)(nj:Nat->Nat->Int)(wr:κ):Prop where
 st:fT wr T t b rb g mb n ju nj ps last
 held:jG n ju (L++[k]++refsOf ps)
 one:ju k=1
 us:used n ju=used n rf+(L.length+1)
 Wl:∀q∈ps,fR nj q=fR vs q
 pg:∀s j,s<L.length->j<8->nj (L.getD s 0) j=G.getD (s*8+j) 0
 cur:∀i,i<j->nj k i=G.getD (L.length*8+i) 0
 jP:Has wr T 0 gp (mkC (L++[k]))
 gm:Has wr T 0 gs (G.map (af .i32))
 tn:Ξ (In t 5) w T wr T
section
variable {w wr w3:κ}{T:Tg}{t b rb g mb n last gp gs k j:Nat}{rf ju:Nat->Int}{vs nj:Nat->Nat->Int}{ps:List jJ}{G:List Int}{L:List Nat}
theorem MkI.ext(h:MkI w T t b rb g mb n rf vs ps last gp gs G L k j ju nj wr)(e:Ext wr w3):MkI w T t b rb g mb n rf vs ps last gp gs G L k j ju nj w3 :=
 ⟨h.st.ext e,h.held,h.one,h.us,h.Wl,h.pg,h.cur,h.jP.ext e,h.gm.ext e,h.tn.ext e⟩
theorem Nc{L:List Nat}{s:Nat}(h:s<L.length):L.getD s 0∈L:=by rw[cO,bf h];exact dH _
theorem Mk.take(h:Mk w T t b rb g mb n rf vs ps last gp gs G L ju nj wr)(h4:∀p∈ps,p.pg.length=4)(ht:0<t)(hL:L.length<4)(tK:w.heap.size<=gp)(hne:gp≠gs)(hk:k<n)(h0:ju k=0)(hr:Room w3 rb g n (jE ju k 1) (jE nj k fun _=>0))(hg:wr.grownBy w3 (some g)):MkI w T t b rb g mb n rf vs ps last gp gs G L k 0 (jE ju k 1) (jE nj k fun _=>0) (w3.setCell (gp,L.length) (.int .i64 ((k:Int)+1))):=by
 have js:k∉L++refsOf ps:=fun hm=>by have:=h.held.mem hm;omega
 have hS:=h.st.left ht hr hg;have hT:=h.tn.trans (h.st.turned h.tn.Δ hg);have uA:some g≠some gp:=fun e=>by have h1:=h.jP.1;have h2:=h.st.tg;rw[←kI.inj e]at h1;omega
 have agW:some g≠some gs:=fun e=>by have h1:=h.gm.1;have h2:=h.st.tg;rw[←kI.inj e]at h1;omega
 have hP:=(h.jP.grown hg uA).set L.length (.int .i64 ((k:Int)+1));rw[abS hL]at hP;have bq:Ξ (· = 0) w3 T (w3.setCell (gp,L.length) (.int .i64 ((k:Int)+1))) T:=Ξ.Et hT.Δ _ _ h.jP.1;refine⟨hS.ο bq fun k hk e=>by subst e;unfold In at hk;omega,?_,jT _ _ _,?_,fun q hq=>?_,fun s j hs hj=>?_,fun i hi=>η,hP,(h.gm.grown hg agW).nH (a:=⟨gp,L.length,none⟩) (by exact hne) _,hT.set _ _ (.inr tK)⟩
 .refine(h.held.take hk h0).perm ?_;rw[ic];exact List.perm_middle.symm
 .have:=vT ju k 1 n hk;rw[h0,if_neg Γ,if_pos Γ]at this;have:=h.us;omega
 .rw[Nb (h4 q hq) (fun hm=>js (rX _ (adw.2 ⟨q,hq,hm⟩)))];exact h.Wl q hq
 .rw[gC _ _ (fun e=>js (oI _ (by rw[←e];exact Nc hs)))];exact h.pg s j hs hj
theorem MkI.step(h:MkI w T t b rb g mb n rf vs ps last gp gs G L k j ju nj wr)(h4:∀p∈ps,p.pg.length=4)(ht:0<t)(hr:Room w3 rb g n ju (jE nj k (jE (nj k) j (G.getD (L.length*8+j) 0))))(hg:wr.grownBy w3 (some g)):MkI w T t b rb g mb n rf vs ps last gp gs G L k (j+1) ju (jE nj k (jE (nj k) j (G.getD (L.length*8+j) 0))) w3:=by
 have hkr:k∉refsOf ps:=Na h.held (rX _ (sP.2 rfl)) (by rw[h.one];exact Int.le_refl _);have hkL:k∉L:=Na (A:=[k]) (R:=L) (n:=n) (rf:=fun x=>((([k]++L).count x:Nat):Int)) ⟨fun x hx=>h.held.1 x (oI _ (by simpa [or_comm] using hx)),fun _ _=>rfl⟩ (sP.2 rfl) (by have h1:=h.held.2 k (h.held.1 k (oI _ (rX _ (sP.2 rfl))));have h2:=h.one;simp only[oK]at h1⊢;omega);have uA:some g≠some gp:=fun e=>by have h1:=h.jP.1;have h2:=h.st.tg;rw[←kI.inj e]at h1;omega
 have agW:some g≠some gs:=fun e=>by have h1:=h.gm.1;have h2:=h.st.tg;rw[←kI.inj e]at h1;omega
 refine⟨h.st.left ht hr hg,h.held,h.one,h.us,fun q hq=>?_,fun s i hs hi=>?_,fun i hi=>?_,h.jP.grown hg uA,h.gm.grown hg agW,h.tn.trans (h.st.turned h.tn.Δ hg)⟩
 .rw[Nb (h4 q hq) (fun hm=>hkr (adw.2 ⟨q,hq,hm⟩))];exact h.Wl q hq
 .rw[gC _ _ (fun e=>hkL (by rw[←e];exact Nc hs))];exact h.pg s i hs hi
 .rw[jT]
  by_cases e:i=j
  .subst e;rw[jT]
  .rw[gC _ _ e];exact h.cur i η
theorem MkI.done(h:MkI w T t b rb g mb n rf vs ps last gp gs G L k 8 ju nj wr):Mk w T t b rb g mb n rf vs ps last gp gs G (L++[k]) ju nj wr:=by
 refine⟨h.st,h.held,by rw[eU];exact h.us,h.Wl,fun s j hs hj=>?_,h.jP,h.gm,h.tn⟩;rw[eU,iD]at hs;by_cases e:s=L.length
 .subst e;rw[show(L++[k]).getD L.length 0=k by simp[cO]];exact h.cur j hj
 .rw[show(L++[k]).getD s 0=L.getD s 0 by rw[cO,cO,kn η]];exact h.pg s j η hj
theorem Mk.alL(h:Mk w T t b rb g mb n rf vs ps last gp gs G L ju nj wr)(hL:L.length=4)(hG:G.length=32)(x nb:Nat):fR nj ⟨x,nb,L⟩=G:=by
 apply List.ext_getElem?;intro i;by_cases hi:i<32
 .rw[E5 _ _ hi]
  unfold cellOf;dsimp only
  rw[h.pg (i / 8) (i % 8) η η,show i / 8*8+i % 8=i by omega,cO,bf η];rfl
 .rw[L9 (by rw[yY];omega),L9 η]
end
section
variable {w w':κ}{T T':Tg}{t b rb g mb n last:Nat}{rf:Nat->Int}{vs:Nat->Nat->Int}{ps:List jJ}{p:jJ}
def aie(w:κ)(T:Tg)(t b rb g mb n:Nat)(rf:Nat->Int)(vs:Nat->Nat->Int)(ps:List jJ)(last:Nat)(G:List Int)(v:ξ)(w':κ)(T':Tg):Prop :=
 v=.tuple #[((last+1:Nat):Int),.bool true]/\∃nb ju nj pg,fT w' T' t b rb g mb n ju nj (ps++[⟨last+1,nb,pg⟩]) (last+1)/\vg n ju (ps++[⟨last+1,nb,pg⟩]) (last+1)/\used n ju=used n rf+4 /\
  (∀q∈ps,fR nj q=fR vs q)/\fR nj ⟨last+1,nb,pg⟩=G
theorem ZO{ju:Nat->Int}{nj:Nat->Nat->Int}(h:Room w rb g n ju nj)(hk:k<n)(h1:ju k=1)(hj:j<8)(x:Int):τ prog 165 #[π rb,((k:Int)+1:Int),j,.int .i32 x] w (Left w rb g n ju (jE nj k (jE (nj k) j x)) (.bool true)) :=
 aa8 h ⟨hk,rfl,η⟩ η hj x
theorem ZP{G:List Int}(hj:j<8):(uY G i).getD j 0=G.getD (i*8+j) 0:=by rw[cO,cO,I5 hj]
theorem Vb(h:fT w T t b rb g mb n rf vs ps last)(ho:vg n rf ps last)(hu:Θ w T)(ht:0<t)(hl:last<4611686018427387903)(hn:ps.length<=1000)(G:List Int)(hG:G.length=32)(hf:used n rf+4<=n):τ prog 142 #[π b,.agg (jj G)] w (cG (In t 5) w T (aie w T t b rb g mb n rf vs ps last G)):=by
 have HH:=θ fun W (e:Ext w W)=>LX (h.ext e) 4;rw[zF (show 4+used n rf<=n by omega)]at HH;have De:Has (w.alloc (.cells (G.map (af .i32)).toArray 205)) T 0 w.heap.size (G.map (af .i32)):=⟨hu _ (aq _),(Has.new w (fun _=>0) (G.map (af .i32)) 205 rfl).2⟩;have x0:=Ext.alloc w (.cells (G.map (af .i32)).toArray 205);have hGl:(G.map (af .i32)).length=32:=by rw[xN,hG]
 have Hp:=θ fun W k hk=>Qr W G hG k hk;have HS:=θ h;have Ho:=θ ho;unfold π jj at*;clear h ho;go_enter func142,ntmps142;go_upto_region 1 with fail
 have alM:w.heap.size<(w.alloc (.cells (G.map (af .i32)).toArray 205)).heap.size:=bT;generalize hW0:aB w _=W0 at*;obtain⟨gs,Nd⟩:∃gs,gs=w.heap.size:=⟨_,rfl⟩;rw[←Nd]at De alM⊢;clear hW0 Nd;go_wp2_with fail;refine(HH.o _ x0).mono ?_;rintro e w1 ⟨rfl,e1⟩;have x1:=x0.trans e1;have ng:=De.ext e1;clear De x0;go_upto_region 4 with fail
 have hP:=(Has.new w1 (fun _=>0) [(0:Int),(0:Int),(0:Int),(0:Int),(0:Int)] 219 rfl).2;have x2:=Ext.alloc w1 (.cells #[(0:Int),(0:Int),(0:Int),(0:Int),(0:Int)] 219);have alN:gs<w1.heap.size:=ng.lt;have afR:w.heap.size<=w1.heap.size:=x1.size;have hTg:T w1.heap.size=0:=hu _ afR;have eH:Mk w T t b rb g mb n rf vs ps last w1.heap.size gs G [] rf vs (w1.alloc (.cells #[(0:Int),(0:Int),(0:Int),(0:Int),(0:Int)] 219)) :=
  ⟨HS.o.ext (x1.trans x2),Ho.o.held,rfl,fun _ _=>rfl,fun s j hs=>by simp at hs,⟨hTg,hP⟩,ng.ext x2,Ξ.ai _ hu (x1.trans x2)⟩
 generalize hW2:aB w1 _=W2 at*;obtain⟨gp,tK⟩:∃gp,gp=w1.heap.size:=⟨_,rfl⟩;rw[←tK]at eH alN afR hTg⊢;have kR:=θ eH;have ZL:=θ (show w.heap.size<=gp from afR);have Hne:=θ (show gp≠gs by omega);have Hf:=θ hf;have H4:=θ Ho.o.four;clear hW2 tK eH hP x2 afR hTg ng hf;go_wp2_with fail;go_loopw [13] (fun iv wr=>∃L ju nj,iv=.int .i64 (L.length:Nat)/\L.length<=4/\Mk w T t b rb g mb n rf vs ps last gp gs G L ju nj wr) (fun iv _=>4-(intOf iv).toNat)
 case atStart=>exact⟨[],rf,vs,rfl,Γ,kR.o⟩
 case round =>
  obtain⟨L,ju,nj,rfl,hL,hM⟩:=hrel;obtain⟨i,hi⟩:∃i,i=L.length:=⟨_,rfl⟩;rw[←hi]at hL⊢;by_cases hi4:i<4
  .obtain⟨k,hk,vq,bW⟩:=TM hM.held (by have:=hM.us;have:=Hf.o;omega)
   have HT:=θ (XL hM.st.room hk vq bW);have c0:wr.cell? b=some (π rb):=xg hM.st;have hcg:=hM.jP.cell (M9 (L:=L) η);have SE:=hM.jP.free L.length;rw[←hi]at hcg SE;have ady:=θ fun W (hg:wr.grownBy W (some g))=>(hM.jP.grown hg (fun e=>by have h1:=hM.jP.1;have h2:=hM.st.tg;rw[←kI.inj e]at h1;omega));have HTk:=θ fun w3 hr hg=>hM.take (w3:=w3) H4.o ht η ZL.o Hne.o hk vq hr hg;have Hi:=θ hi;have Hk:=θ hk;unfold π at*;clear hM bW vq hcg SE hi hk;go_wp2_with fail;refine HT.o.mono ?_;rintro e w3 ⟨rfl,hr3,Mu⟩;have ry:=ady.o w3 Mu;have hI:=HTk.o w3 hr3 Mu;have hcg:=ry.cell (M9 (L:=L) (by rw[←Hi.o];exact hi4));have SE:=ry.free L.length;rw[←Hi.o]at hcg SE hI;have HI:=θ hI;clear ry hI hr3 Mu HT ady HTk;go_upto_region 8 with fail
   generalize Ux:dG w3 _ _=W3 at*;clear Ux hcg SE;have hvs:∀i v,(G.map (af .i32))[i]?=some v->W3.cell? ⟨gs,0+i,none⟩=some v:=fun i v hv=>by rw[mZ];exact HI.o.gm.cell hv
   go_wp2_with (first|(with_reducible refine gI rfl 205 (.tmp 3) rfl rfl underlying205 bu hGl hvs ?_))
   refine(Hp.o W3 i hi4).mono ?_;rintro e W4 ⟨rfl,e4⟩;have HI4:=θ (HI.o.ext e4);clear hvs e4 HI;have vQ:(uY G i).length=8:=I4 hG hi4;have Ik:=fun W j (hj:j<8)=>Qs W vQ hj;have Hix:=θ Ik;have Hpg:=θ fun j (hj:j<8)=>ZP (G:=G) (i:=i) hj;clear Ik vQ;generalize uY G i=pg at*;go_wp2_with fail;go_loopw [30] (fun iv wr=>∃(j:Nat) (vs2:Nat->Nat->Int),iv=.int .i64 (j:Nat)/\j<=8/\MkI w T t b rb g mb n rf vs ps last gp gs G L k j (jE ju k 1) vs2 wr) (fun iv _=>8-(intOf iv).toNat)
   case atStart=>exact⟨0,_,rfl,Γ,HI4.o⟩
   case round =>
    obtain⟨j,vs2,rfl,hj,hI⟩:=hrel;by_cases hj8:j<8
    .have Ik:=fun W=>Hix.o W j hj8
     rw[Hpg.o j hj8]at Ik;have c0:wr.cell? b=some (π rb):=xg hI.st;have c1:=hI.jP.cell (aeD (L:=L) (k:=k) (by rw[←Hi.o];exact hi4));rw[←Hi.o]at c1;have alO:=θ fun W (e:Ext wr W)=>ZO (hI.st.room.ext e) Hk.o hI.one hj8 (G.getD (i*8+j) 0);have adz:=θ fun W W2 (e:Ext wr W) hr hg=>(hI.ext e).step (w3:=W2) H4.o ht hr hg;rw[←Hi.o]at adz;unfold π at*;clear hI;generalize G.getD (i*8+j) 0=x at*;go_wp2_with fail;apply lG 10;simp only[tk];repeat apply kZ c0 c1
     refine jq fun Wx ak=>?_;simp only[dk];go_wp2_with fail;refine(alO.o Wx ak).mono ?_;rintro e w5 ⟨rfl,hr5,hg5⟩;have hI5:=adz.o Wx w5 ak hr5 hg5;go_wp2;go_roundw
     case rel=>exact⟨j+1,_,cR,η,hI5⟩
     exact dB
    .obtain rfl:j=8:=by omega
     have hM:=hI.done;clear hI;go_wp2;go_roundw
     case rel=>exact⟨L++[k],_,_,by rw[eU,iD,←Hi.o];go_num,by rw[eU,iD,←Hi.o];omega,hM⟩
     exact dB
  .obtain rfl:i=4:=by omega
   obtain⟨k0,k1,k2,k3,rfl⟩:=Kr hi.symm;have HD:=θ (MH hM.st Ho.o.low hM.tn.Δ ht hl hn k0 k1 k2 k3 0);have bW:=hM.jP.all;have HM:=θ hM;have Km:mkC [k0,k1,k2,k3]=[.int .i64 ((k0:Int)+1),.int .i64 ((k1:Int)+1),.int .i64 ((k2:Int)+1),.int .i64 ((k3:Int)+1),.int .i64 0]:=rfl;rw[Km]at bW;unfold π at HD;clear hM Km;go_wp2_with (first|(with_reducible refine bI rfl 219 (.tmp 6) rfl rfl underlying219 MJ rfl bW ?_))
   refine HD.o.mono ?_;rintro e w3 ⟨v,rfl,T3,cT,rfl,nb,pF,AL⟩;go_wp2;go_ret2
   exact⟨_,rfl,T3,HM.o.tn.trans cT,rfl,nb,ju,nj,[k0,k1,k2,k3],AL,Ho.o.add HM.o.held rfl pF,HM.o.us,HM.o.Wl,HM.o.alL rfl hG _ _⟩
end
section
variable {cf:Cf}{me:Nat}{c:Cr}{mk:List Nat}
section
variable(h:bz cf me c mk)
include h
theorem bz.ν(x:UInt8):bz cf me (c.ν me cf.χ x) mk:=by
 unfold Cr.ν;split
 .rename_i h0
  have aX:(c.nr me).length<1000:=by
   unfold Cr.iB at h0;split at h0
   .omega
   .split at h0
    .omega
    .rename_i h1;unfold Cr.head at h1;omega
  refine⟨h.ok,h.me,by show(List.set _ _ _).length=_;rw[List.length_set];exact h.len,?_,h.now,h.bx,h.has,h.heard,h.words,h.marks,h.yI⟩;intro l hl;rcases List.mem_or_eq_of_mem_set hl with hl|rfl
  .exact h.short _ hl
  .rw[eU,iD];omega
 .exact h
theorem bz.abT(p:Nat):∀i,aW c.heard p c.now i<=c.now:=by
 intro i;unfold aW;split
 .exact aq _
 .exact h.heard i
theorem bz.KH{p:Pk}(hp:mw p)(he:c.bx.length<1000000):bz cf me (c.recv me p) mk:=by
 by_cases j5:c.closed=true
 .have:c.recv me p=c:=by unfold Cr.recv;rw[if_pos j5]
  rw[this];exact h
 by_cases hq:p.iA=true
 .have:c.recv me p={c with heard:=aW c.heard p.src c.now,bx:=c.bx++[(1,p.src)],closed:=true}:=by unfold Cr.recv;rw[if_neg j5,if_pos hq]
  rw[this];exact⟨h.ok,h.me,h.len,h.short,h.now,dw,h.has,h.abT p.src,h.words,h.marks,h.yI⟩
 .exact h.recv hp Lj Tc
theorem bz.tick(hn:c.now<1000000)(he:c.bx.length<1000000):bz cf me (c.tick me) mk:=by
 unfold Cr.tick;split
 .exact h
 .split
  .exact⟨h.ok,h.me,h.len,h.short,hn,dw,h.has,fun i=>adx (h.heard i),h.words,h.marks,h.yI⟩
  .exact⟨h.ok,h.me,h.len,h.short,hn,h.bx,h.has,fun i=>adx (h.heard i),h.words,h.marks,h.yI⟩
theorem bz.told:bz cf me {c with bx:=[]} mk:=⟨h.ok,h.me,h.len,h.short,h.now,aM _,h.has,h.heard,h.words,h.marks,h.yI⟩
end
end
section
variable {tp:aD}{l:List dM}{cf:Cf}{n Ω χ B me:Nat}{W:Wd}
theorem Good.words(h:Good (zK tp l) n Ω χ B W)(hn:cf.n=n)(hi:i<n):eS tp l cf (W.ps i):=fun j hj h0 h1=>h.holds (FH tp l) hi (by rw[←hn];exact hj) h0 h1
end
end Go.Proofs.YtffcefoadaogbaaGreat
