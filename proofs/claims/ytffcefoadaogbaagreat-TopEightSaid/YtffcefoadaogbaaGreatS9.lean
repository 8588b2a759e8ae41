/- A part of the proof. -/
import Derived.Test.YtffcefoadaogbaaGreatS6
import Derived.Deep.DeepCutAuto
import Derived.Deep.CutBlock
import Derived.Lib.SliceRun
import Derived.Laws.IdiomCopy
namespace Go.Proofs.YtffcefoadaogbaaGreat
open Go.RowKit
open Go.Proofs.Tryz
set_option linter.all false
set_option maxRecDepth 100000
set_option maxHeartbeats 16000000
open Go.IntKind renaming i64->cQ
open Go.IntWalk renaming i64_in->pS
open _root_.List renaming range->dJ,replicate->cP,flatMap_append->ny,getElem?_map->iZ,getElem?_eq_getElem->bf,length_set->Ae,getD_eq_getElem?_getD->cO,getElem?_set_self->LI,getElem?_set_ne->LJ,getElem_mem->dH,take_of_length_le->jL,length_append->eU,length_singleton->iD
open Go.World renaming alloc->aB
open _root_.Nat renaming zero_le->aM,le_trans->aF,lt_of_lt_of_le->eM,le_refl->aq
open Go.RowKit.Below renaming heap_setCell->uc
open _root_.Array renaming getElem?_eq_some_iff->gy
open Go.Value renaming slice->kD
open Go renaming World->κ,Value->ξ,Calls->τ,Addr->cJ,TypeId->aY
variable{S:Nat->Prop}{f g i:Nat}{u:ξ}{us:List ξ}
theorem qq(w:κ)(n a m:Int)(h1:a<=n)(h2:n<=m):τ prog 189 #[n,a,m] w fun e w'=>e=.returned (.bool true)/\w'=w:=by go_enter func189,ntmps189;go_wp2;go_ret;exact⟨rfl,rfl⟩
theorem YA(w:κ)(cf:Cf)(me:Nat)(aT:jA cf)(DT:me<cf.n):τ prog 166 #[iC cf me] w fun e w'=>e=.returned (.bool true)/\Ext w w':=by
 have H1:=θ fun W=>qq W (cf.n:Nat) 2 8 (by have:=aT.n2;omega) (by have:=aT.n8;omega);have H2:=θ fun W=>qq W (me:Nat) 0 ((cf.n:Int)-1) η η;have H3:=θ fun W=>qq W (cf.Ω:Nat) 0 8 η (by have:=aT.Ω;omega);have H4:=θ fun W=>qq W (cf.χ:Nat) 1 16 (by have:=aT.akU;omega) (by have:=aT.win;omega);have H5:=θ fun W=>qq W (cf.bD:Nat) 1 3 af4 af4;have H6:=θ fun W=>qq W (cf.order:Nat) 0 3 η af4;have H7:=θ fun W=>qq W (cf.aR:Nat) 0 8 η (by have:=aT.aR;omega);have H8:=θ fun W=>qq W (cf.workers:Nat) 0 4 η (by have:=aT.workers;omega);have H9:=θ fun W=>qq W (cf.room:Nat) 3 50 (by have:=aT.XX;omega) (by have:=aT.room;omega);have hw:cQ.wrap ((cf.n:Int)-1)=(cf.n:Int)-1:=pS _ (by have:=aT.n2;have:=aT.n8;omega);have e1:=dQ ((0:Int)<=(cf.id:Int));have e2:=dQ ((cf.id:Int)<=1099511627776) (by have:=aT.id;omega);have Yg:=dQ (cf.id<=1099511627776) aT.id;have og:=aT.by_;clear aT DT;unfold iC;generalize cf.n=n at*;generalize cf.id=id at*;generalize cf.Ω=de at*;generalize cf.χ=wi at*;generalize cf.bD=gu at*;generalize cf.order=od at*;generalize cf.aR=br at*;generalize cf.workers=wo at*;generalize cf.room=ro at*;rcases(show(gu=1/\od=0)\/(gu=2/\od=0)\/(gu=2/\0<od) by omega) with ⟨rfl,rfl⟩|⟨rfl,rfl⟩|⟨rfl,ho⟩
 case' inr.inr =>
  have hz':((od:Int)==0)=false:=kO;clear ho
 all_goals
  clear og;go_enter func166,ntmps166;go_wp2_with fail;refine(H1.o _).mono ?_;rintro e w1 ⟨rfl,rfl⟩;go_wp2_with fail;refine(H2.o _).mono ?_;rintro e w1 ⟨rfl,rfl⟩;go_wp2_with fail;refine(H3.o _).mono ?_;rintro e w1 ⟨rfl,rfl⟩;go_wp2_with fail;refine(H4.o _).mono ?_;rintro e w1 ⟨rfl,rfl⟩;go_wp2_with fail;refine(H5.o _).mono ?_;rintro e w1 ⟨rfl,rfl⟩;go_wp2_with fail;refine(H6.o _).mono ?_;rintro e w1 ⟨rfl,rfl⟩;go_wp2_with fail;refine(H7.o _).mono ?_;rintro e w1 ⟨rfl,rfl⟩;go_wp2_with fail;refine(H8.o _).mono ?_;rintro e w1 ⟨rfl,rfl⟩;go_wp2_with fail;refine(H9.o _).mono ?_;rintro e w1 ⟨rfl,rfl⟩;go_wp2;go_ret;exact⟨rfl,Ext.alloc _ _⟩
theorem Uq:(prog.info? 297).map (fun i=>(i.zero,i.size,i.bytes))=some (some (.agg #[(0:Int),(0:Int),(0:Int),.int .u32 0,.bool false]),5,32):=ey
def YB(cf:Cf)(me qb k:Nat)(A:aS)(c:Nat):List ξ:=[.int .i64 (cf.n:Nat),.int .i64 (me:Nat),.int .i64 (cf.id:Nat),.int .i64 (cf.Ω:Nat),.int .i64 (cf.χ:Nat),.int .i64 (cf.bD:Nat),.int .i64 (cf.order:Nat),.int .i64 (cf.aR:Nat),.int .i64 (cf.workers:Nat),.int .i64 (cf.room:Nat),.pointer qb,.slice A k c,.slice none 0 0,.slice none 0 0,.int .i64 0,.bool false]
def ah7(w:κ)(T:Tg)(t g gc:Nat)(cf:Cf)(me qb:Nat)(ps:Nat->Nat)(iv:ξ)(wr:κ):Prop:=∃(k:Nat) (T1:Tg) (A:aS) (c:Nat),iv=.int .i64 (k:Nat)/\k<=cf.n/\Has wr T1 t g (YB cf me qb k A c)/\Row wr T1 (t+1) 297 5 A k c ((dJ k).flatMap (nZ (Cr.new cf.n cf.Ω)))/\iM wr T1 (t+4) qb ps (cP cf.n (cP cf.Ω 0))/\Has wr T1 0 gc (aA cf me)/\Ξ (fun _=>False) w T wr T1/\w.heap.size<=g/\∀k,bn A=some k->w.heap.size<=k
theorem YC(w:κ)(T:Tg)(hu:Θ w T)(cf:Cf)(me:Nat)(aT:jA cf)(DT:me<cf.n)(t:Nat)(ht:0<t):τ prog 145 #[iC cf me] w (cG (fun _=>False) w T fun v w' T'=>∃b qb ps,v=.tuple #[π b,(0:Int)]/\ct w' T' t b cf me qb ps (Cr.new cf.n cf.Ω) []):=by
 obtain⟨i0,hi,dx,dA,dN⟩:=info_parts Uq;have ku:=θ fun W=>YA W cf me aT DT;have Hq:=θ fun W T1 (h1:Θ W T1)=>TK W T1 h1 cf.n cf.Ω aT.n2 aT.n8 aT.Ω (t+4) η;have jW:=aT.n8;unfold iC at*;go_enter func145,ntmps145;go_upto_region 1 with fail
 have hb:=(Has.new w (fun _=>0) (aA cf me) 26 rfl).2;have hx:=Ext.alloc w (.cells (aA cf me).toArray 26);unfold aA at hb hx;generalize hW:aB w _=W0 at*;obtain⟨gc,oN⟩:∃gc,gc=w.heap.size:=⟨_,rfl⟩;rw[←oN]at hb;rw[←oN];have hb:Has W0 T 0 gc _:=⟨hu gc η,hb⟩;clear hW oN;have k0:=hb.zc 0;have k1:=hb.zc 1;have k2:=hb.zc 2;have k3:=hb.zc 3;have k4:=hb.zc 4;have k5:=hb.zc 5;have k6:=hb.zc 6;have k7:=hb.zc 7;have k8:=hb.zc 8;have k9:=hb.zc 9;have HB:=θ hb;clear hb;go_wp2_with fail;refine(ku.o W0).mono ?_;rintro e w2 ⟨rfl,e2⟩;have JH:=(hu.ext hx).ext e2;have yc:=hx.trans e2;have Kh:=θ (HB.o.ext e2);replace k0:=e2.cell k0;replace k1:=e2.cell k1;replace k2:=e2.cell k2;replace k3:=e2.cell k3;replace k4:=e2.cell k4;replace k5:=e2.cell k5;replace k6:=e2.cell k6;replace k7:=e2.cell k7;replace k8:=e2.cell k8;replace k9:=e2.cell k9;clear ku HB hx e2;go_wp2_with fail;apply lG 6;simp only[tk];repeat apply agh k0 k1 k2 k3 k4 k5 k6 k7 k8 k9
 apply BC (p:=fun u W=>∃T' qb ps,u=π qb/\Ξ (fun _=>False) w2 T W T'/\iM W T' (t+4) qb ps (cP cf.n (cP cf.Ω 0))) (fun _ _ _ ⟨T',qb,ps,h1,h2,h3⟩ he=>⟨T',qb,ps,h1,h2.ext he,h3.ext he⟩)
 .intro W hR υ;refine(Hq.o W T (JH.ext hR)).mono ?_;rintro e w' ⟨v,rfl,T',GM,qb,ps,rfl,hq⟩;exact⟨_,rfl,⟨GM.os,GM.tape,GM.output,GM.size,fun k hk=>GM.block k hk (fun h=>h)⟩,T',qb,ps,rfl,(Ξ.ai _ JH hR).trans GM,hq⟩
 intro v1;simp only[pu];refine lex_nil ?_;intro Wx ak υ;obtain⟨T1,qb,ps,rfl,cw,RM⟩:=υ.1 rfl;clear υ;simp only[dk];have V9:=θ ((Kh.o.ext ak).of ((cw.tag gc (by have:=Kh.o.lt;omega)).trans Kh.o.1));have l8:=θ ((Ξ.ai (fun _=>False) hu yc).trans cw);have HQ1:=θ RM;unfold π at*;clear cw RM k1 k2 k4 k5 k6 k7 k8 k9 Kh;go_upto_region 4 with fail
 obtain⟨II,hH9⟩:=Has.fresh l8.o.Δ (YB cf me qb 0 none 0) 211 t;unfold YB at II hH9;generalize hWy:aB Wx _=Wy at*;have Bn:=V9.o.ο II (fun h=>h);have hg:=l8.o.size;have GN:=θ (l8.o.trans II);have HQ9:=θ (HQ1.o.ο II (fun _ _ h=>h));have HH9:=θ hH9;have Ur:=θ Bn;have k0:=Bn.zc 0;clear hWy II hH9 HQ1 l8 V9 Bn;generalize Wx.heap.size=g at*;generalize give T1 (one g) t=T9 at*;go_upto_region 5 with fail
 go_loopw [18] (fun iv wr=>ah7 w T t g gc cf me qb ps iv wr) (fun iv _=>cf.n-(intOf iv).toNat)
 case atStart=>exact⟨0,T9,none,0,rfl,aM _,HH9.o,Row.dR _ _ _ _ _,HQ9.o,Ur.o,GN.o,hg,fun k hk=>by cases hk⟩
 case round =>
  obtain⟨k,T0,A,c,rfl,hk,hH,fO,hq,hB,hT,hwg,hwA⟩:=hrel;have jU:=hT.Δ;by_cases jk:k<cf.n
  .have jF:=dQ ((k:Int)<(cf.n:Int))
   have oA:=hH.zc 11;have b3:=hB.zc 3;have hne:=hH.jY fO η;have pF:=hB.jY fO η;have HH:=θ hH;have HQ:=θ hq;have HT:=θ hT;have HB:=θ hB;clear hH hq hT hB;go_wp2_with fail;generalize KZ:wr=w0 at*;have eL:=(fO).1;have cU:=(fO).cond;have mA:sA (t+1) (fun v _ _=>v=(.agg #[cf.Ω,(0:Int),(0:Int),.int .u32 0,.bool false])):=fun _ _ _ _ _ h _=>h;have eo:∀(v:ξ) (w:κ) (T:Tg),v=(.agg #[cf.Ω,(0:Int),(0:Int),.int .u32 0,.bool false])->v.cells.toList.length=5/\∀y∈v.cells.toList,y.oneCell'=true:=by rintro v w T rfl;exact⟨rfl,Gu⟩
   apply Ar 12 (gR A) (oM 9 A) (BL 9 297 5 A k c ((dJ k).flatMap (nZ (Cr.new cf.n cf.Ω)))) (BL.start eL);simp only[tk];repeat apply gF (fun _ h _ _=>aj (h.cell oA hne) (h.cell b3 pF))
   apply aE (p:=dI T0 w0.heap.size (fun v _ _=>v=(.agg #[cf.Ω,(0:Int),(0:Int),.int .u32 0,.bool false])) 297) Γ Γ (dI.aQ mA cU _)
   .rfl
   .intro W hR hJ υ;have hB:=dI.made (e:=297) mA hR.size (show uO T0 w0.heap.size (fun v _ _=>v=(.agg #[cf.Ω,(0:Int),(0:Int),.int .u32 0,.bool false])) (.agg #[cf.Ω,(0:Int),(0:Int),.int .u32 0,.bool false]) W from⟨T0,fun _ _=>rfl,fun k hk=>jU k (aF hR.size hk),rfl⟩);refine⟨_,_,?_,(Ext.alloc _ _).grownBy _,.inr (Ext.alloc _ _),hB⟩;go_simp;first|done|rfl
   intro v2;simp only[pu];apply aE (p:=mO T0 w0.heap.size (fun v _ _=>v=(.agg #[cf.Ω,(0:Int),(0:Int),.int .u32 0,.bool false])) (t+1) A 297 5 (k+1) ((dJ k).flatMap (nZ (Cr.new cf.n cf.Ω)))) Γ Γ (fun j hj v w w9 h hR=>mO.aQ j hj v w w9 h mA hR)
   .rfl
   .intro W hR hJ υ;exact dF W _ _ 209 rfl 297 i0 (.agg #[(0:Int),(0:Int),(0:Int),.int .u32 0,.bool false]) 5 32 underlying209 hi dx dA dN rfl Γ A k c (((dJ k).flatMap (nZ (Cr.new cf.n cf.Ω)))) rfl (hJ rfl) v2 rfl (υ.1 rfl) eo iQ η cU mA hR.size
   intro v3;simp only[pu];repeat apply gF (fun _ _ _ _=>trivial)
   refine aP ?_;intro W hR gT υ;obtain⟨u1,T1,E,Ed,rfl,cw,BU,ja,pJ⟩:=(υ.1 rfl).fin hR cU;clear υ gT;simp only[dk];have lJ:=HH.o.ο cw η;have oA:=lJ.zc 11;have f11:=lJ.free 11;obtain⟨bq,oZ⟩:=lJ.put (S:=(· = t)) cw.Δ 11 (.slice E (k+1) Ed) rfl;have l8:=θ cw;have jr:=θ bq;have Oe:=θ oZ;have HR1:=θ ja;clear lJ cw bq oZ ja;go_wp2;go_roundw
   case rel =>
    have q1:=Ξ.after HT.o l8.o hR (fun g hg=>.inr (hwA g hg));refine⟨k+1,T1,E,Ed,cR,η,Oe.o.is rfl,(HR1.o.ο jr.o η).to ?_,(HQ.o.ο l8.o η).ο jr.o η,(HB.o.ο l8.o η).ο jr.o η,q1.set _ _ (.inr hwg),hwg,fun k' js=>?_⟩
    .rw[List.range_succ,ny,BU];rfl
    .rcases pJ with h|h
     .exact hwA k' (h▸js)
     .have:=h k' js;have:=HT.o.size;omega
   case measure=>exact dB
  .obtain rfl:k=cf.n:=by omega
   go_wp2;go_ret2
   exact⟨_,rfl,T0,hT,g,qb,ps,rfl,⟨⟨A,c,none,0,none,0,hH.is rfl,fO,Row.dR _ _ _ _ _,Row.dR _ _ _ _ _⟩,hq⟩⟩
def GO(C:cJ->Prop)(w w':κ):Prop:=∀p u,C p->w.cell? p=some u->w'.cell? p=some u
def Dh(F:Nat->Nat->Prop)(C:cJ->Prop)(T:Tg)(i:Nat)(w w':κ):Prop:=oR (F i) T w w'/\GO C w w'
def yR(F:Nat->Nat->Prop)(C:cJ->Prop)(T:Tg)(w w':κ):Prop:=oR (fun k=>∃i,F i k) T w w'/\GO C w w'
def yJ(F:Nat->Nat->Prop)(T:Tg)(w0:κ)(j:Nat)(w:κ):Prop:=oR (fun k=>∃i,i≠j/\F i k) T w0 w
def yP(w0:κ)(T:Tg)(P:ξ->κ->Tg->Prop)(v:ξ)(w:κ):Prop:=∃T',(∀k,k<w0.heap.size->T' k=T k)/\Θ w T'/\P v w T'
section
variable {F:Nat->Nat->Prop}{C:cJ->Prop}{S S':Nat->Prop}{T T':Tg}{K:Nat}{w w' w0:κ}{P:ξ->κ->Tg->Prop}{v:ξ}
theorem oR.mono(h:oR S T w w')(hs:∀k,S k->S' k):oR S' T w w':=⟨h.os,h.tape,h.output,h.size,fun k hk hn=>h.block k hk (fun e=>hn (hs _ e))⟩
theorem GO.ai(h:Ext w w'):GO C w w':=fun _ _ _ hc=>h.cell hc
theorem Dh.ai(h:Ext w w'):Dh F C T i w w':=⟨oR.ai h,GO.ai h⟩
theorem yR.ai(h:Ext w w'):yR F C T w w':=⟨oR.ai h,GO.ai h⟩
section
variable(F:Nat->Nat->Prop)(C:cJ->Prop)(T:Tg)
theorem Dh.refl:∀i w,Dh F C T i w w:=fun i w=>Dh.ai (Ext.refl w)
theorem yR.refl:∀w,yR F C T w w:=fun w=>yR.ai (Ext.refl w)
theorem yR.sz:∀a b,yR F C T a b->a.heap.size<=b.heap.size:=fun _ _ h=>h.1.size
theorem yR.trans:∀a b c,yR F C T a b->yR F C T b c->yR F C T a c:=fun _ _ _ h1 h2=>⟨oR.trans _ _ _ _ _ h1.1 h2.1,fun p u hp hc=>h2.2 p u hp (h1.2 p u hp hc)⟩
theorem yR.drew(w:κ):yR F C T w w.drew:=yR.ai (Ext.drew w)
end
theorem yR.cell{p:cJ}(h:yR F C T w w')(hp:C p)(hc:w.cell? p=some u):w'.cell? p=some u:=h.2 p u hp hc
theorem yJ.aQ:∀j i,i≠j->∀w w',yJ F T w0 j w->Dh F C T i w w'->yJ F T w0 j w':=fun j i yh w w' h1 h2=>oR.trans _ _ _ _ _ h1 (h2.1.mono fun k hk=>⟨i,yh,hk⟩)
theorem yJ.start(F:Nat->Nat->Prop)(T:Tg)(w:κ):∀i,yJ F T w i w.drew:=fun _=>oR.drew _ _ w
theorem oR.later(h:oR S T w w')(jU:Θ w0 T)(h0:¬S 0)(ht:∀k,k<w0.heap.size->T' k=T k)(hu:Θ w T'):Ξ S w T' w' T' :=
 ⟨h.os,h.tape,h.output,h.size,fun k hk hn=>h.block k hk (by
  by_cases h2:k<w0.heap.size
  .rw[←ht k h2];exact hn
  .rw[jU k η];exact h0),fun _ _=>rfl,fun k hk=>hu k (aF h.size hk)⟩
theorem yP.aQ(jU:Θ w0 T)(h0:∀j,¬F j 0)(hP:∀j,j≠K->∀v w T' w',P v w T'->Ξ (F j) w T' w' T'->P v w' T'):∀j,j≠K->∀v w w',yP w0 T P v w->Dh F C T j w w'->yP w0 T P v w':=by rintro j hj v w w' ⟨T',h1,h2,h3⟩ hR;exact⟨T',h1,fun k hk=>h2 k (aF hR.1.size hk),hP j hj v w T' w' h3 (oR.later hR.1 jU (h0 j) h1 h2)⟩
theorem IJ{Pr:Program}{f:FuncId}{args:Array ξ}(hu:Θ w0 T)(hs:∀k,S k->F K k)(hC:∀p,C p->¬S (T p.block))(hR:yR F C T w0 w)(h:τ Pr f args w (cG S w T P)):τ Pr f args w fun e w'=>∃v,e=.returned v/\yR F C T w w'/\Dh F C T K w w'/\yP w0 T P v w':=by refine h.mono ?_;rintro e w' ⟨v,rfl,T',hT,hP⟩;have h1:oR S T w w':=fY.uk hT;have h2:GO C w w':=fun p u hp hc=>h1.cell hc (hC p hp);exact⟨v,rfl,⟨h1.mono (fun k hk=>⟨K,hs k hk⟩),h2⟩,⟨h1.mono hs,h2⟩,T',fun k hk=>hT.tag k (eM hk hR.1.size),hT.Δ,hP⟩
theorem aew{Q:κ->Tg->Prop}(h:yP w0 T (fun v w T=>v=u/\Q w T) v w):v=u:=by obtain⟨_,_,_,h,_⟩:=h;exact h
theorem yP.fin(h:yP w0 T P v w)(hR:yR F C T w0 w):∃T',Ξ (fun k=>∃i,F i k) w0 T w T'/\P v w T':=by obtain⟨T',h1,h2,h3⟩:=h;exact⟨T',⟨hR.1.os,hR.1.tape,hR.1.output,hR.1.size,hR.1.block,h1,h2⟩,h3⟩
theorem PK{t b:Nat}{vs:List ξ}(h:Has w0 T t b vs)(hJ:yJ F T w0 K w)(hd:∀j,j≠K->¬F j t)(hK:F K t)(i:Nat)(u:ξ)(hC:∀p,C p->p≠⟨b,i,none⟩):yR F C T w (w.setCell (b,i) u)/\Dh F C T K w (w.setCell (b,i) u)/\Has (w.setCell (b,i) u) T t b (vs.set i u):=by
 have h1:Has w T t b vs:=Has.mh h hJ (fun⟨j,h1,h2⟩=>hd j h1 h2);have hk:oR (F K) T w (w.setCell (b,i) u):=⟨rfl,rfl,rfl,C4,fun k _ hn=>uc w _ u k (fun e=>hn (by rw[e];show F K (T b);rw[h1.1];exact hK))⟩;have hs:GO C w (w.setCell (b,i) u):=fun p v hp hc=>by rw[κ.cell?_setCell_other (h:=fun e=>hC p hp e.symm)];exact hc
 exact⟨⟨hk.mono fun k hk=>⟨K,hk⟩,hs⟩,⟨hk,hs⟩,h1.set i u⟩
end
theorem PL:(prog.info? 122).map (fun i=>(i.zero,i.size,i.bytes))=some (some (.agg #[.slice none 0 0]),1,24):=ey
theorem PM:(prog.info? 304).map (fun i=>(i.zero,i.size,i.bytes))=some (some (.agg #[(0:Int),.int .u32 0]),2,16):=ey
theorem PN:(prog.info? 4).map (fun i=>(i.zero,i.size,i.bytes))=some (some (.bool false),1,1):=ey
theorem Us:(prog.info? 3).map (fun i=>(i.zero,i.size,i.bytes))=some (some (.int .i64 0),1,8):=ey
theorem R2{w w1:κ}(h:Ext w w1){a:cJ}(hb:w.heap.size<=a.block)(v:ξ):Ext w (w1.setCell a v) :=
 ⟨h.os,h.tape,h.output,by simpa [κ.setCell] using h.size,fun k hk=>(uc w1 a v k η).trans (h.block k hk)⟩
def iT:List UInt8:=[115,117,109]
def eC:List dM:=[(1,30,1,0),(11,1,0,0),(5,2,2,31),(3,2,2,1),(3,0,0,30),(1,29,8,0),(7,28,0,29),(10,28,9,0),(9,1,0,0),(1,0,0,0),(15,31,0,0),(13,31,2,0)]
theorem Mp:fD iT eC = -1:=Γ
theorem Fo(w:κ):τ prog 28 #[] w fun e w'=>∃A,e=.returned (fX iT A 12 12)/\Ro w' A 12 12 eC/\Ext w w':=by go_enter func28,ntmps28;go_wp2_with fail;have hro:Ro ((w.alloc (.cells #[.string {data:=#[115,117,109]},.slice (w.heap.size+1,0) 12 12] 65)).alloc (.cells (Ab eC).toArray 127)) (some ⟨w.heap.size+1,0,none⟩) 12 12 eC:=aej bT rfl rfl Γ;exact bodyPost_ret (v:=fX iT (some ⟨w.heap.size+1,0,none⟩) 12 12) (by simp[results,Tryz.results28,go_sem,fX,bs,iT]) rfl ⟨_,rfl,hro,(Ext.alloc _ _).trans (Ext.alloc _ _)⟩
def R3(n:Nat):Cf:=⟨n,77,2,8,2,1,3,2,7⟩
theorem YD(w:κ)(n:Nat):τ prog 11 #[n] w fun e w'=>e=.returned (iC (R3 n) 0)/\Ext w w':=by go_enter func11,ntmps11;go_wp2_with fail;exact bodyPost_ret (v:=iC (R3 n) 0) (by simp[results,Tryz.results11,go_sem,iC,R3]) rfl ⟨rfl,Ext.alloc _ _⟩
theorem IK(w:κ)(x:Int)(k:Nat)(hk:0<k)(zJ:k<=1000)(hx:-9223372036854775808<=x/\x<=9223372036854775807):τ prog 10 #[x,k] w fun e w'=>e=.returned (.int .i64 ((x.natAbs % k:Nat):Int))/\w'=w:=by
 have h1:(x.tmod (k:Int)).natAbs=x.natAbs % k:=by rw[Int.natAbs_tmod,Int.natAbs_natCast]
 have h2:x.natAbs % k<k:=Nat.mod_lt _ hk;have hw:=ej (x.tmod (k:Int));have xZ:cQ.wrap (-(x.tmod (k:Int))) = -(x.tmod (k:Int)):=pS _ η;generalize hr:x.tmod (k:Int)=r at*;by_cases hn:r<0
 .have hv:-r=((x.natAbs % k:Nat):Int):=by omega
  rw[←hv];clear h1 h2 hv hw;go_enter func10,ntmps10;go_wp2;go_ret;exact⟨rfl,rfl⟩
 .have hv:r=((x.natAbs % k:Nat):Int):=by omega
  rw[←hv];clear h1 h2 hv xZ;go_enter func10,ntmps10;go_wp2;go_ret;exact⟨rfl,rfl⟩
def zM:List ξ:=[.int .i64 0,.int .i64 0,.slice none 0 0]
def three(us:List ξ):Prop:=∃a b A n c,us=[.int .i64 a,.int .i64 b,.slice A n c]
def Wc(ty:aY)(g:Nat)(w:κ):Prop:=∃us,three us/\w.heap[g]?=some (.cells us.toArray ty)
def Ut(K al m:Nat)(ty:aY)(i:Nat)(σ:Nat->ξ)(w w':κ):Prop:=Ext w w'\/(i=K/\∃g,σ al=.pointer (some ⟨g,0,none⟩)/\m<=g/\w.grownBy w' (some g)/\Wc ty g w/\Wc ty g w')
structure R6(m:Nat)(ty:aY)(G:List ξ->κ->Prop):Prop where
 ai4:∀us w,G us w->three us
 ext:∀us w w',G us w->Ext w w'->G us w'
 shp:∀us w w' g,m<=g->Wc ty g w->w.grownBy w' (some g)->G us w->G us w'
def R8(i:Nat)(V:List ξ->ξ)(G:List ξ->κ->Prop)(σ:Nat->ξ)(w:κ):Prop:=∃us,σ i=V us/\G us w
def gmA(m al:Nat)(ty:aY)(σ:Nat->ξ)(w:κ):Prop:=∃g,σ al=.pointer (some ⟨g,0,none⟩)/\m<=g/\Wc ty g w
def gmS(m al:Nat)(ty:aY)(G:List ξ->κ->Prop)(σ:Nat->ξ)(w:κ):Prop:=∃g us,σ al=.pointer (some ⟨g,0,none⟩)/\m<=g/\G us w/\w.heap[g]?=some (.cells us.toArray ty)
section
variable {K al m i:Nat}{ty:aY}{G:List ξ->κ->Prop}{V:List ξ->ξ}{l:List Oper}{w w' w0:κ}{σ:Nat->ξ}
theorem Wc.lt(h:Wc ty g w):g<w.heap.size:=by obtain⟨_,_,h⟩:=h;exact(gy.1 h).1
theorem Wc.ext(h:Wc ty g w)(e:Ext w w'):Wc ty g w':=by have hl:=h.lt;obtain⟨us,h1,h2⟩:=h;exact⟨us,h1,(e.block g hl).trans h2⟩
theorem R8.keeps(hG:R6 m ty G):oy (Ut K al m ty) 99 99 l i (R8 i V G):=by
 refine⟨fun j σ v w hj _ h=>?_,fun j hj _ σ w w' _ h hR=>?_⟩
 .obtain⟨us,h1,h2⟩:=h;exact⟨us,by rw[nL (Ne.symm hj)];exact h1,h2⟩
 .obtain⟨us,h1,h2⟩:=h
  refine⟨us,h1,?_⟩;rcases hR with e|⟨_,g,_,hm,hg,hs,_⟩
  .exact hG.ext us w w' h2 e
  .exact hG.shp us w w' g hm hs hg h2
theorem gmA.keeps:oy (Ut K al m ty) 99 99 l al (gmA m al ty):=by
 refine⟨fun j σ v w hj _ h=>?_,fun j hj _ σ w w' _ h hR=>?_⟩
 .obtain⟨g,h1,h2,h3⟩:=h;exact⟨g,by rw[nL (Ne.symm hj)];exact h1,h2,h3⟩
 .obtain⟨g,h1,h2,h3⟩:=h
  refine⟨g,h1,h2,?_⟩;rcases hR with e|⟨_,g',e',hm,hg,hs,uQ⟩
  .exact h3.ext e
  .rw[h1]at e'
   cases e'
   exact uQ
theorem gmS.keeps(hG:R6 m ty G)(hb:iK l K al=true):oy (Ut K al m ty) 99 99 l K (gmS m al ty G):=by
 refine⟨fun j σ v w hj hn h=>?_,fun j hj _ σ w w' _ h hR=>?_⟩
 .obtain⟨g,us,h1,h2⟩:=h
  refine⟨g,us,?_,h2⟩;rw[nL (fun e=>by rw[←e,hb]at hn;cases hn)]
  exact h1
 .obtain⟨g,us,h1,h2,h3,h4⟩:=h
  rcases hR with e|⟨e,_⟩
  .exact⟨g,us,h1,h2,hG.ext us w w' h3 e,(e.block g (gy.1 h4).1).trans h4⟩
  .exact absurd e hj
theorem three.len(h:three us):us.length=3/\∀u∈us,u.oneCell'=true:=by obtain⟨a,b,A,n,c,rfl⟩:=h;exact⟨rfl,gA⟩
theorem Mq{P:Program}(hG:R6 m ty G)(hi:(P.info? ty).map (·.size)=some 3)(hm:m<=g)(hs:Wc ty g w)(hg:G us w)(he:σ al=.pointer g)(hK:al≠K):∃W2,(∀(o:Oper) (a:Act) (x y:Operand),o.op=.store ty x y->a.eval x=.pointer g->a.eval y=.agg us.toArray->(execOp a.eval o).run P w=.ok .skip W2)/\(m<=w.heap.size->Below m w W2)/\Ut K al m ty K σ w W2/\gmS m al ty G (RO σ K undef) W2:=by
 obtain⟨vs,h5,hb⟩:=id hs;have xA:=(hG.ai4 _ _ hg).len;have kS:w.grownBy (w.setRow g us.toArray) (some g):=⟨rfl,rfl,rfl,bT,fun k _ hk=>Go.setRow_other w g k _ (fun e=>hk (by rw[e]))⟩;have sj:=setRow_heap w g vs.toArray us.toArray ty (0,0) hb;have eH:=run_storeVar_row (P:=P) w g ty ty vs.toArray us.toArray hb (by rw[hi];simp[xA.1]) (by simp[xA.1,h5.len.1]) (by rw[List.all_toArray];exact List.all_eq_true.2 xA.2);refine⟨w.setRow g us.toArray,fun o a x y ho hx hy=>?_,fun _=>⟨kS.os,kS.tape,kS.output,kS.size,fun k hk=>?_⟩,.inr ⟨rfl,g,he,hm,kS,hs,us,hG.ai4 _ _ hg,sj⟩,g,us,by rw[nL hK];exact he,hm,hG.shp us w _ g hm hs kS hg,sj⟩
 .unfold execOp;simp only[ho,hx,hy,Instr.storeAt,Instr.sureAddr,Sem.run_bind,Sem.run_pure,Result.andThen_ok,eH]
 .by_cases zJ:k<w.heap.size
  .exact kS.block k zJ (fun e=>by cases e;omega)
  .omega
end
section
variable {ty:aY}{w w':κ}{m fr n d g:Nat}{ps:vo}{A:aS}
theorem Wc.u8{o:Nat}{x:Int}(hs:Wc ty g w):w.cell? (g,o)≠some (.int .u8 x):=by
 obtain⟨us,⟨a1,a2,A3,a4,a5,rfl⟩,hb⟩:=hs;rw[cell_of_row _ _ _ _ _ _ hb];intro h;match o,h with
 |0,h=>cases h
 |1,h=>cases h
 |2,h=>cases h
 |_+3,h=>simp at h
def Gl(src dst m0:Nat)(l:aD)(us:List ξ)(w:κ):Prop:=∃B d,us=[.int .i64 (src:Nat),.int .i64 (dst:Nat),.slice B l.length d]/\Rb w B l.length d l/\∀k,bn B=some k->m0<=k
theorem Gl.aQ(src dst m0 m:Nat)(l:aD):R6 m 176 (Gl src dst m0 l):=by
 refine⟨?_,?_,?_⟩
 .rintro us w ⟨B,d,rfl,_⟩;exact⟨_,_,_,_,_,rfl⟩
 .rintro us w w' ⟨B,d,h,hr,hg⟩ e;exact⟨B,d,h,hr.ext e,hg⟩
 .rintro us w w' g _ hs hg ⟨B,d,h,hr,C8⟩
  refine⟨B,d,h,Rd.fc hr fun hn k hk=>hg.block k (Rd.Gf hr hn hk) (fun e=>?_),C8⟩;cases Option.some.inj e
  obtain⟨g',o,e',hc⟩:=hr.2.2.2 hn;rw[e']at hk;cases hk
  have hp0:0<l.length:=η;have De:(dK l)[0]?=some (.int .u8 ((l[0].toNat:Nat):Int)):=by unfold dK;rw[iZ,bf hp0];rfl
  exact hs.u8 (hc 0 _ De)
end
theorem R9(n j:Nat)(f g:Nat->ξ)(v:ξ)(hv:g j=v)(hne:∀i,i<n->i≠j->g i=f i):((dJ n).map f).set j v=(dJ n).map g:=by
 apply List.ext_getElem
 .simp
 .intro i h1 h2
  rw[List.getElem_set];simp only[List.getElem_map,List.getElem_range];split
  .rename_i e;subst e;exact hv.symm
  .rename_i e;exact(hne i Gw (fun h=>e h.symm)).symm
structure Cb(w:κ)(T:Tg)(t:Nat)(A:aS)(lc:Nat)(hs:Nat->Option cJ×Nat)(ls:bH):Prop where
 row:Row w T t 122 1 A ls.length lc ((dJ ls.length).map fun i=>.slice (hs i).1 (ls.getD i []).length (hs i).2)
 ln:∀i,i<ls.length->Row w T (t+1+i) 5 1 (hs i).1 (ls.getD i []).length (hs i).2 (dK (ls.getD i []))
section
variable {w w' w0:κ}{T T':Tg}{t:Nat}{A:aS}{lc:Nat}{hs:Nat->Option cJ×Nat}{ls:bH}
section
variable(h:Cb w T t A lc hs ls)
include h
theorem Cb.ο(hT:Ξ S w T w' T')(hS:∀k,In t (1+ls.length) k->¬S k):Cb w' T' t A lc hs ls :=
 ⟨h.row.ο hT (hS _ cN),fun i hi=>(h.ln i hi).ο hT (hS _ cN)⟩
theorem Cb.ext(e:Ext w w'):Cb w' T t A lc hs ls:=⟨h.row.ext e,fun i hi=>(h.ln i hi).ext e⟩
theorem Cb.cap:ls.length<=lc/\lc<=maxLen:=⟨h.row.rd.2.1,h.row.rd.2.2.1⟩
theorem Cb.at_(h0:0<ls.length):∃g,A=some ⟨g,0,none⟩/\T g=t/\∀i,i<ls.length->w.cell? ⟨g,i,none⟩=some (.slice (hs i).1 (ls.getD i []).length (hs i).2)/\w.frozen? ⟨g,i,none⟩=false:=by
 obtain⟨g,hA,_,_,hg⟩:=h.row.at_ (aO ls.length _ h0);refine⟨g,hA,hg,fun i hi=>?_⟩;obtain⟨g',N8,hc,hf,_⟩:=h.row.at_ (aO ls.length _ hi);rw[hA]at N8;cases N8
 exact⟨hc,hf⟩
theorem Cb.put(hi:i<ls.length)(hA:A=some ⟨g,0,none⟩){l2:aD}{E:aS}{d:Nat}(hT:Ξ (· = t+1+i) w T w' T')(hR:Row w' T' (t+1+i) 5 1 E l2.length d (dK l2)):Ξ (fun q=>q=t\/q=t+1+i) w T (w'.setCell (g,i) (.slice E l2.length d)) T'/\Cb (w'.setCell (g,i) (.slice E l2.length d)) T' t A lc (aW hs i (E,d)) (ls.set i l2):=by
 have hr:=h.row.ο hT η;obtain⟨bq,jO⟩:=hr.put hT.Δ hA (.slice E l2.length d) (i:=i);refine⟨(hT.mono fun q hq=>.inr hq).trans (bq.mono fun q hq=>.inl hq),?_,fun j hj=>?_⟩
 .rw[Ae]
  refine jO.to ?_;refine R9 ls.length i _ _ _ ?_ fun j hj hne=>?_
  .show kD (aW hs i (E,d) i).1 ((ls.set i l2).getD i []).length (aW hs i (E,d) i).2=_
   rw[aH,cO,LI hi];rfl
  .show kD (aW hs i (E,d) j).1 ((ls.set i l2).getD j []).length (aW hs i (E,d) j).2=_
   rw[az _ _ hne,cO,LJ (fun e=>hne e.symm),←cO]
 .rw[Ae]at hj
  by_cases e:j=i
  .subst e;rw[aH,cO,LI hi];exact hR.ο bq η
  .rw[az _ _ e,cO,LJ (fun h=>e h.symm),←cO];exact((h.ln j hj).ο hT η).ο bq η
theorem IL(h0:0<ls.length)(h8:ls.length<=8):τ prog 37 #[.slice A ls.length lc] w fun e w'=>e=.returned ((cn ls:Nat):ξ)/\w'=w:=by
 obtain⟨g,rfl,_,h3⟩:=h.at_ h0;obtain⟨Uu,hmx⟩:=h.cap;obtain⟨x,r,rfl⟩:∃x r,ls=x::r:=List.exists_cons_of_length_pos h0;have vi:=(h3 0 η).1;have h2:∀i,i<(x::r).length->w.cell? ⟨g,i,none⟩=some (.slice (hs i).1 ((x::r).getD i []).length (hs i).2):=fun i hi=>(h3 i hi).1;have H2:=θ h2;have Ir:rS (x::r) 1=((x::r).getD 0 []).length:=by rw[yV (ls:=x::r) (k:=0) bT];simp[rS]
 have Hm1:=θ Ir;have lD:∀k,k<(x::r).length->rS (x::r) (k+1)=min (rS (x::r) k) ((x::r).getD k []).length:=fun k hk=>by rw[yV hk,cO,bf hk];rfl
 have Hml:=θ lD;have oc:=θ (Iv h0);generalize (x::r)=ls at*;have e0':=dQ (0<ls.length);clear h h2 h3 Ir lD;generalize (ls.getD 0 []).length=l0 at*;go_enter func37,ntmps37;go_wp2_with fail;go_loopw [4,3] (fun iv fv wr=>∃k:Nat,iv=.int .i64 (k:Nat)/\fv=.int .i64 (rS ls k:Nat)/\1<=k/\k<=ls.length/\wr=w) (fun iv _ _=>ls.length-(intOf iv).toNat)
 case atStart=>exact⟨1,rfl,by rw[Hm1.o],aq _,h0,rfl⟩
 case round =>
  obtain⟨k,rfl,rfl,Gn,hk,hw⟩:=hrel;subst hw;by_cases jk:k<ls.length
  .have jF:=dQ ((k:Int)<(ls.length:Int))
   have uR:=H2.o k jk;have Hq:=θ (Hml.o k jk);generalize (ls.getD k []).length=lk at*;generalize TA:rS ls k=mk at*;clear TA;rcases Nat.lt_or_ge lk mk with aX|aX
   .have Hq2:=θ (Hq.o.trans (Nat.min_eq_right (Nat.le_of_lt aX)))
    go_wp2;go_roundw
    case rel=>exact⟨k+1,cR,by rw[Hq2.o],η,η,by first|rfl|trivial⟩
    case measure=>exact dB
   .have Hq2:=θ (Hq.o.trans (Nat.min_eq_left aX))
    go_wp2;go_roundw
    case rel=>exact⟨k+1,cR,by rw[Hq2.o],η,η,by first|rfl|trivial⟩
    case measure=>exact dB
  .obtain rfl:k=ls.length:=by omega
   rw[oc.o];go_wp2;go_ret;exact⟨rfl,rfl⟩
end
end
section
variable {w w' w0:κ}{T T':Tg}{t:Nat}{A:aS}{lc:Nat}{hs:Nat->Option cJ×Nat}{ls:bH}
theorem Cb.byte(h:Cb w T t A lc hs ls)(hi:i<ls.length)(hf:f<(ls.getD i []).length):∃q,(hs i).1=some ⟨q,0,none⟩/\w.cell? ⟨q,f,none⟩=some (.int .u8 (((ls.getD i []).getD f 0).toNat:Nat)):=by
 obtain⟨q,hq,hc,_,_⟩:=(h.ln i hi).at_ (i:=f) (tW hf);refine⟨q,hq,?_⟩;rw[hc];congr 3
 generalize ls.getD i []=l at*;rw[cO,bf hf];rfl
theorem IM{ls:bH}(hf:f<cn ls)(hi:i<ls.length):f<(ls.getD i []).length:=by have h:=jt ls ls[i] (dH hi);rw[cO,bf hi];exact eM hf h
theorem zj(h:Cb w T t A lc hs ls)(h0:0<ls.length)(h8:ls.length<=8)(hf:f<cn ls):τ prog 38 #[.slice A ls.length lc,f] w (Made w 5 1 (dK (bp ls f))):=by
 obtain⟨i0,hi,dx,dA,dN⟩:=info_parts dX;obtain⟨g,rfl,_,h2⟩:=h.at_ h0;obtain⟨Uu,hmx⟩:=h.cap;have H2:=θ h2;have Hb:=θ fun i (hi:i<ls.length)=>h.byte hi (IM hf hi);have Hln:=θ fun i (hi:i<ls.length)=>(show(ls.getD i []).length<=(hs i).2/\(hs i).2<=maxLen from(h.ln i hi).rd.2.imp id And.left);have Hf:=θ fun i (hi:i<ls.length)=>IM hf hi;have iY:(bp ls f).length=ls.length:=by unfold bp;rw[List.length_map]
 have Rh:=θ iY;clear h h2 iY hf;go_enter func38,ntmps38;go_wp2_with fail;go_loopw [5,6] (fun v iv wr=>∃(k:Nat) (B:aS) (d:Nat),v=.slice B k d/\iv=.int .i64 (k:Nat)/\k<=ls.length/\Own wr w.heap.size 5 1 B k d (dK ((bp ls f).take k))/\Ext w wr) (fun _ iv _=>ls.length-(intOf iv).toNat)
 case atStart=>exact⟨0,none,0,rfl,rfl,aM _,Own.dR _ _ _ _,Ext.refl _⟩
 case round =>
  obtain⟨k,B,d,rfl,rfl,hk,hO,hE⟩:=hrel;by_cases jk:k<ls.length
  .have c2:=hE.cell (H2.o k jk).1
   obtain⟨q,hq,hcq⟩:=Hb.o k jk;have cq:=hE.cell hcq;rw[hq]at c2;have hfk:=Hf.o k jk;have Ki:=Hln.o k jk;have jF:=dQ ((k:Int)<(ls.length:Int));have uh:(bp ls f).take k++[(ls.getD k []).getD f 0]=(bp ls f).take (k+1):=by unfold bp;rw[List.take_add_one,iZ,bf jk,cO (l:=ls),bf jk];rfl
   have E4:=θ uh;clear uh hcq;generalize (ls.getD k []).getD f 0=y at*;generalize (ls.getD k []).length=n1 at*;generalize (hs k).2=n2 at*;clear hq;go_wp2_with (at_builtin;refine ag _ rfl _ _ 30 rfl w.heap.size 5 i0 (.int .u8 0) 1 1 underlying30 hi dx dA dN rfl Γ B k d _ rfl hO 1 _ rfl rfl gA iQ η hE.size ?_;intro E Ed wy fQ fN oY);go_roundw
   case rel=>exact⟨k+1,E,Ed,cR,cR,η,by rw[←E4.o,aJ];exact fQ,Ext.own hE fN hO.ax⟩
   case measure=>exact dB
  .obtain rfl:k=ls.length:=by omega
   rw[jL (by rw[Rh.o];exact aq _)]at hO;go_wp2;go_ret;exact⟨B,_,d,rfl,hO,hE⟩
theorem Uv(h:Cb w T t A lc hs ls)(Ij:i<ls.length)(hA:A=some ⟨g,0,none⟩)(hl:(ls.getD i []).length<=1000)(f:Nat)(IP:f<=1000):τ prog 134 #[.pointer (g,i),f,(32:Int)] w fun e w'=>∃B n d,e=.returned (.slice B n d)/\Rb w' B n d (((ls.getD i []).drop f).take 32)/\(∀q,bn B=some q->w.heap.size<=q)/\Ext w w':=by
 obtain⟨i0,hi,dx,dA,dN⟩:=info_parts dX;obtain⟨g',lY,_,h2⟩:=h.at_ η;obtain rfl:g'=g:=by rw[hA]at lY;cases lY;rfl
 have c0:=(h2 i Ij).1;have N4:=h.ln i Ij;have hb:=N4.rb;have hmx:=hb.max;unfold maxLen at hmx;generalize oh:ls.getD i []=l at*;generalize (hs i).2=lc2 at*;generalize hq:(hs i).1=LA at*;clear h h2 lY hA oh;by_cases hf:f<l.length
 .have hd:=dh (l.length<=f)
  have zW:=dh ((l.length:Int)<=(f:Int));obtain⟨q,rfl,_,_,_⟩:=N4.at_ (i:=f) (tW hf);have am8:=dh ((f:Int)<0);have Mr:=Rb.from_ hb (k:=f) hf;rw[Nat.zero_add]at Mr;rcases(show 32<=l.length-f\/l.length-f<32 by omega) with h1|h1
  .have hcut:=Mr.take (k:=32) η;have RM:(32:Int)<=(l.length:Int)-(f:Int):=η;have Fk:=θ hcut;clear hcut Mr N4 hb hq;go_enter func134,ntmps134;go_wp2_with (at_builtin;refine gq _ rfl _ _ 30 rfl w.heap.size 5 i0 (.int .u8 0) 1 1 underlying30 hi dx dA dN rfl Γ rfl (some ⟨q,f,none⟩) 32 (lc2-f) _ rfl Fk.o (ez _) iQ η (aq _) ?_;intro E Ed wy fQ Uw);go_ret;exact⟨E,_,Ed,rfl,fQ.rd,fun q hq=>fQ.ax q hq,Uw⟩
  .have hcut:=Mr;rw[←jL (i:=32) (l:=l.drop f) tU]at hcut;have Fk:=θ hcut;clear hcut Mr N4 hb hq;go_enter func134,ntmps134;go_wp2_with (at_builtin;refine gq _ rfl _ _ 30 rfl w.heap.size 5 i0 (.int .u8 0) 1 1 underlying30 hi dx dA dN rfl Γ rfl (some ⟨q,f,none⟩) (l.length-f) (lc2-f) _ rfl Fk.o (ez _) iQ η (aq _) ?_;intro E Ed wy fQ Uw);go_ret;exact⟨E,_,Ed,rfl,fQ.rd,fun q hq=>fQ.ax q hq,Uw⟩
 .have hd:=dQ (l.length<=f);have zW:=dQ ((l.length:Int)<=(f:Int));rw[List.drop_of_length_le η];clear N4 hb;go_enter func134,ntmps134;go_wp2;go_ret;exact⟨none,0,0,rfl,Rb.dR _,fun q hq=>(by cases hq),Ext.refl _⟩
end
structure Rx where
 LA:Option cJ
 lc:Nat
 hs:Nat->Option cJ×Nat
 HA:Option cJ
 hc:Nat
 SA:Option cJ
 sc:Nat
 WA:Option cJ
 wc:Nat
 PA:Option cJ
 pc:Nat
 MA:Option cJ
 mc:Nat
 EA:Option cJ
 ec:Nat
def rcC(cf:Cf)(me:Nat)(x:Rx)(mn en now:Nat)(cl:Bool):List ξ:=aA cf me++[.slice x.LA cf.n x.lc,.int .i64 (now:Nat),.slice x.HA cf.n x.hc,.slice x.SA cf.n x.sc,.slice x.WA cf.n x.wc,.slice x.PA cf.n x.pc,.slice x.MA mn x.mc,.slice x.EA en x.ec,.bool cl]
def CK(n:Nat)(f:Nat->Nat×Nat):List ξ:=(dJ n).flatMap fun i=>[((f i).1:Nat),.int .u32 ((f i).2:Nat)]
def qW(n:Nat)(f:Nat->Nat):List ξ:=(dJ n).map fun i=>.int .i64 (f i:Nat)
def iu(l:List (Nat×Nat)):List ξ:=l.flatMap fun e=>[(e.1:Nat),(e.2:Nat),(0:Int)]
def PO(mk:List Nat):List ξ:=mk.map fun s=>.int .u32 (s:Nat)
structure oG(w:κ)(T:Tg)(t b:Nat)(cf:Cf)(me:Nat)(x:Rx)(c:Cr)(mk:List Nat):Prop where
 hd:Has w T t b (rcC cf me x mk.length c.bx.length c.now c.closed)
 ln:Cb w T (t+1) x.LA x.lc x.hs c.ls
 heard:Row w T (t+10) 3 1 x.HA cf.n x.hc (qW cf.n c.heard)
 has:Row w T (t+11) 3 1 x.SA cf.n x.sc (qW cf.n c.has)
 words:Row w T (t+12) 304 2 x.WA cf.n x.wc (CK cf.n c.words)
 apart:Row w T (t+13) 4 1 x.PA cf.n x.pc (cP cf.n (.bool false))
 marks:Row w T (t+14) 32 1 x.MA mk.length x.mc (PO mk)
 bx:Row w T (t+15) 118 3 x.EA c.bx.length x.ec (iu c.bx)
def kE(w:κ)(T:Tg)(t b:Nat)(cf:Cf)(me:Nat)(c:Cr)(mk:List Nat):Prop:=∃x,oG w T t b cf me x c mk
section
variable {w w' w0:κ}{T T':Tg}{t b:Nat}{cf:Cf}{me:Nat}{x:Rx}{c c':Cr}{mk:List Nat}
theorem oG.ο(h:oG w T t b cf me x c mk)(hn:c.ls.length<=8)(hT:Ξ S w T w' T')(hS:∀k,In t 16 k->¬S k):oG w' T' t b cf me x c mk :=
 ⟨h.hd.ο hT (hS _ cN),h.ln.ο hT (fun k hk=>hS _ iw),h.heard.ο hT (hS _ cN),h.has.ο hT (hS _ cN),h.words.ο hT (hS _ cN),h.apart.ο hT (hS _ cN),h.marks.ο hT (hS _ cN),h.bx.ο hT (hS _ cN)⟩
theorem oG.ext(h:oG w T t b cf me x c mk)(e:Ext w w'):oG w' T t b cf me x c mk:=⟨h.hd.ext e,h.ln.ext e,h.heard.ext e,h.has.ext e,h.words.ext e,h.apart.ext e,h.marks.ext e,h.bx.ext e⟩
theorem kE.ο(h:kE w T t b cf me c mk)(hn:c.ls.length<=8)(hT:Ξ S w T w' T')(hS:∀k,In t 16 k->¬S k):kE w' T' t b cf me c mk:=by obtain⟨x,h⟩:=h;exact⟨x,h.ο hn hT hS⟩
theorem kE.ext(h:kE w T t b cf me c mk)(e:Ext w w'):kE w' T t b cf me c mk:=by obtain⟨x,h⟩:=h;exact⟨x,h.ext e⟩
structure RcC(w:κ)(b:Nat)(cf:Cf)(me:Nat)(x:Rx)(mn en now:Nat)(cl:Bool):Prop where
 c0:w.cell? b=some (cf.n:ξ)
 c1:w.cell? (b,1)=some (me:ξ)
 c2:w.cell? (b,2)=some (cf.id:ξ)
 c4:w.cell? (b,4)=some (cf.χ:ξ)
 lK:w.cell? (b,10)=some (.slice x.LA cf.n x.lc)
 oA:w.cell? (b,11)=some (now:ξ)
 Dk:w.cell? (b,12)=some (.slice x.HA cf.n x.hc)
 yp:w.cell? (b,13)=some (.slice x.SA cf.n x.sc)
 ya:w.cell? (b,14)=some (.slice x.WA cf.n x.wc)
 K1:w.cell? (b,15)=some (.slice x.PA cf.n x.pc)
 Dw:w.cell? (b,16)=some (.slice x.MA mn x.mc)
 YE:w.cell? (b,17)=some (.slice x.EA en x.ec)
 DU:w.cell? (b,18)=some (.bool cl)
theorem fI{mn en now:Nat}{cl:Bool}(h:Has w T t b (rcC cf me x mn en now cl)):RcC w b cf me x mn en now cl :=
 ⟨h.cell rfl,h.cell rfl,h.cell rfl,h.cell rfl,h.cell rfl,h.cell rfl,h.cell rfl,h.cell rfl,h.cell rfl,h.cell rfl,h.cell rfl,h.cell rfl,h.cell rfl⟩
section
variable(h:kE w T t b cf me c mk)(hl:c.ls.length=cf.n)
include h hl
theorem Fp(DT:me<cf.n):τ prog 25 #[π b] w fun e w'=>e=.returned ((c.head me:Nat):ξ)/\Ext w w':=by
 obtain⟨x,h⟩:=h;obtain⟨g,hg,_,h2⟩:=h.ln.at_ η;have hc:=(h2 me η).1;have ai5:=h.ln.cap;have C:=fI h.hd;have c1:=C.c1;have lK:=C.lK;rw[hg]at lK;rw[hl]at ai5;have sS:(c.ls.getD me []).length=c.head me:=rfl;rw[sS]at hc;have hmx:=ai5.2;unfold maxLen at hmx;generalize c.head me=n at*;unfold π;clear h h2 C hg sS;go_enter func25,ntmps25;go_upto_region 1 with fail
 apply iL trivial;repeat apply DH c1 lK hc
 refine jq fun Wx ak=>?_;go_wp2;go_ret;exact⟨rfl,ak⟩
theorem l9(hn:0<cf.n)(h8:cf.n<=8):τ prog 19 #[π b] w fun e w'=>e=.returned (c.front:ξ)/\w'=w:=by obtain⟨x,h⟩:=h;have HF:=θ (IL h.ln η η);rw[hl]at HF;have lK:=(fI h.hd).lK;unfold π Cr.front;clear h;go_enter func19,ntmps19;go_wp2_with fail;refine HF.o.mono ?_;rintro e w1 ⟨rfl,hw⟩;have hw:=hw.symm;subst hw;go_wp2;go_ret;exact⟨rfl,rfl⟩
end
theorem oG.head(h:oG w T t b cf me x c mk)(hn:c.ls.length<=8)(hT:Ξ (· = t) w T w' T'){en now:Nat}{cl:Bool}{mk':List Nat}{x':Rx}(hd:Has w' T' t b (rcC cf me x' mk'.length c'.bx.length c'.now c'.closed))(hl:c'.ls=c.ls)(e1:x'.LA=x.LA/\x'.lc=x.lc/\x'.hs=x.hs)(h1:Row w' T' (t+10) 3 1 x'.HA cf.n x'.hc (qW cf.n c'.heard))(h2:Row w' T' (t+11) 3 1 x'.SA cf.n x'.sc (qW cf.n c'.has))(h3:Row w' T' (t+12) 304 2 x'.WA cf.n x'.wc (CK cf.n c'.words))(h5:x'.PA=x.PA/\x'.pc=x.pc)(h6:Row w' T' (t+14) 32 1 x'.MA mk'.length x'.mc (PO mk'))(h7:Row w' T' (t+15) 118 3 x'.EA c'.bx.length x'.ec (iu c'.bx)):oG w' T' t b cf me x' c' mk' :=
 ⟨hd,by rw[e1.1,e1.2.1,e1.2.2,hl];exact h.ln.ο hT (fun k hk=>sL),h1,h2,h3,by rw[h5.1,h5.2];exact h.apart.ο hT η,h6,h7⟩
theorem YF(h:kE w T t b cf me c mk)(hn:c.ls.length<=8)(hu:Θ w T):τ prog 55 #[π b] w (cG (In t 16) w T fun v w' T'=>∃EA ec,v=.slice EA c.bx.length ec/\Row w' T' (t+15) 118 3 EA c.bx.length ec (iu c.bx)/\kE w' T' t b cf me {c with bx:=[]} mk):=by obtain⟨x,h⟩:=h;have YE:=(fI h.hd).YE;have f17:=h.hd.free 17;have H:=θ h;unfold π;clear h;go_enter func55,ntmps55;go_wp2;go_ret;obtain⟨hT,hH⟩:=H.o.hd.put (S:=(· = t)) hu 17 (.slice none 0 0) rfl;refine⟨_,rfl,T,hT.mono (fun k hk=>r9),x.EA,x.ec,rfl,H.o.bx.ο hT η,{x with EA:=none,ec:=0},?_⟩;exact H.o.head (c':={c with bx:=[]}) (x':={x with EA:=none,ec:=0}) (en:=0) (now:=0) (cl:=false) hn hT hH rfl ⟨rfl,rfl,rfl⟩ (H.o.heard.ο hT η) (H.o.has.ο hT η) (H.o.words.ο hT η) ⟨rfl,rfl⟩ (H.o.marks.ο hT η) (Row.dR _ _ _ _ _)
theorem Fq:(prog.info? 118).map (fun i=>(i.zero,i.size,i.bytes))=some (some (.agg #[(0:Int),(0:Int),(0:Int)]),3,24):=ey
theorem IQ(h:kE w T t b cf me c mk)(hn:c.ls.length<=8)(hu:Θ w T)(V3:c.bx.length<=1000000)(k p:Nat):τ prog 133 #[π b,k,p,(0:Int)] w (Does (In t 16) w T (.tuple #[]) fun w' T'=>kE w' T' t b cf me {c with bx:=c.bx++[(k,p)]} mk):=by
 obtain⟨i0,hi,dx,dA,dN⟩:=info_parts Fq;obtain⟨x,h⟩:=h;have YE:=(fI h.hd).YE;have ho:=h.bx.1;have hne:=h.hd.jY h.bx η;have H:=θ h;unfold π;clear h;go_enter func133,ntmps133;go_wp2_with (at_builtin;refine ag _ rfl _ _ 80 rfl 0 118 i0 (.agg #[(0:Int),(0:Int),(0:Int)]) 3 24 underlying80 hi dx dA dN rfl Γ x.EA c.bx.length x.ec _ rfl ho 1 _ rfl rfl gA iQ η (aM _) ?_;intro E Ed wy fQ fN oY;obtain⟨d17,f17⟩:=H.o.hd.DN fN hne 17 rfl);go_end0
 obtain⟨hT,hR⟩:=H.o.bx.append hu fQ fN oY;have h1:=H.o.hd.ο hT η;obtain⟨bq,oZ⟩:=h1.put (S:=(· = t)) hT.Δ 17 (.slice E (c.bx.length+1) Ed) rfl;have cT:=(hT.mono (S':=In t 16) fun k hk=>r9).trans (bq.mono fun k hk=>r9);have mE:Ξ (fun q=>q=t+15\/q=t) w T _ _:=(hT.mono fun k hk=>.inl hk).trans (bq.mono fun k hk=>.inr hk);refine⟨rfl,_,cT,{x with EA:=E,ec:=Ed},?_,H.o.ln.ο mE (fun k hk=>sL),H.o.heard.ο mE η,H.o.has.ο mE η,H.o.words.ο mE η,H.o.apart.ο mE η,H.o.marks.ο mE η,?_⟩
 .show Has _ _ _ _ (rcC cf me _ mk.length (c.bx++[(k,p)]).length c.now c.closed)
  rw[eU,iD];exact oZ.is rfl
 .show Row _ _ _ _ _ _ (c.bx++[(k,p)]).length _ (iu (c.bx++[(k,p)]))
  rw[eU,iD];refine(hR.ο bq η).to ?_;unfold iu;rw[ny];rfl
end
section
variable {w w' w0:κ}{T T':Tg}{t b:Nat}{cf:Cf}{me:Nat}{x:Rx}{c c':Cr}{mk:List Nat}
theorem zk{A:aS}{wc:Nat}{f:Nat->Nat×Nat}{n:Nat}(h:Row w T t 304 2 A n wc (CK n f))(hi:i<n):∃g,A=some ⟨g,0,none⟩/\w.cell? ⟨g,i*2,none⟩=some (((f i).1:Nat):ξ)/\w.cell? ⟨g,i*2+1,none⟩=some (.int .u32 ((f i).2:Nat))/\T g=t/\w.frozen? ⟨g,i*2,none⟩=false/\w.frozen? ⟨g,i*2+1,none⟩=false:=by
 obtain⟨g,hg,h0,f0,hT⟩:=h.at_ (i:=i*2+0) (rU (fun i=>[ξ.int .i64 ((f i).1:Nat),.int .u32 ((f i).2:Nat)]) 2 (fun _=>rfl) n i 0 hi Γ);obtain⟨g',lY,h1,f1,_⟩:=h.at_ (i:=i*2+1) (rU (fun i=>[ξ.int .i64 ((f i).1:Nat),.int .u32 ((f i).2:Nat)]) 2 (fun _=>rfl) n i 1 hi Γ);rw[hg]at lY;cases lY
 exact⟨g,hg,h0,h1,hT,f0,f1⟩
section
variable(h:kE w T t b cf me c mk)(hk:bz cf me c mk)
include h hk
theorem Mt(hq:Quiet cf c mk):τ prog 148 #[π b] w fun e w'=>e=.returned (.tuple #[])/\Ext w w':=by
 have lD:=hk.marks;have N6:=hk.words;obtain⟨x,h⟩:=h;obtain⟨c0,c1,c2,c4,lK,oA,Dk,yp,ya,K1,Dw,YE,DU⟩:=fI h.hd;have J1:=h.words.rd.2.1;have Yc:=h.words.rd.2.2.1;have Yd:=h.marks.rd.2.2.1;have ak8:=h.apart.rd.2.2.1;unfold maxLen at Yc Yd ak8;have Hp:=θ fun i (hi:i<cf.n)=>zk h.words hi;have Ha:=θ fun i (hi:i<cf.n)=>h.apart.at_ (i:=i) (v:=.bool false) (by simp[hi]);have Hm:=θ fun i (hi:i<mk.length)=>h.marks.at_ (i:=i) (v:=.int .u32 ((mk.getD i 0:Nat):Int)) (by simp[PO,cO,hi]);have Hq:=θ hq;have Hwd:=θ N6;unfold π;clear h hk hq N6 c1 c2 c4 lK oA Dk yp YE DU;go_enter func148,ntmps148;go_wp2_with fail;go_loopw [2] (fun iv wr=>∃k:Nat,iv=.int .i64 (k:Nat)/\k<=cf.n/\Ext w wr) (fun iv _=>cf.n-(intOf iv).toNat)
 case atStart=>exact⟨0,rfl,aM _,Ext.refl _⟩
 case round =>
  obtain⟨k,rfl,jk,he⟩:=hrel;have d0:=he.cell c0;by_cases jm:k<cf.n
  .have jF:=dQ ((k:Int)<(cf.n:Int))
   obtain⟨g,hg,p2,p3,_⟩:=Hp.o k jm;obtain⟨ga,hga,pa,_,_⟩:=Ha.o k jm;have hqk:=Hq.o k jm;obtain⟨pz,xZ⟩:=Hwd.o k;generalize (c.words k).1=f at*;generalize (c.words k).2=s at*;rw[hg]at ya;rw[hga]at K1;replace p2:=he.cell p2;replace p3:=he.cell p3;replace pa:=he.cell pa;have d14:=he.cell ya;have d15:=he.cell K1;have d16:=he.cell Dw;clear hg hga;go_upto_region 4 with fail
   have xa:=Ext.alloc wr (.cells #[f,.int .u32 (s:Nat)] 304);have hb:=Has.new wr (fun _=>0) [f,.int .u32 (s:Nat)] 304 (b:=wr.heap.size) rfl;generalize hW:aB wr _=w4;have We:wr.alloc (.cells #[f,.int .u32 (s:Nat)] 304)=w4:=by rw[←hW]
   rw[We]at xa;have v0:w4.cell? wr.heap.size=some (f:ξ):=by rw[←We];exact hb.cell rfl
   have v1:w4.cell? (wr.heap.size,1)=some (.int .u32 (s:Nat)):=by rw[←We];exact hb.cell rfl
   have q15:=xa.cell d15;have q16:=xa.cell d16;have qa:=xa.cell pa;have He:=θ (he.trans xa);clear hW We hb p2 p3 d14 d15 d0 xa;rcases hqk with rfl|hqk|⟨Ye,hfm,Yf⟩
   .clear pa d16
    apply iL trivial;repeat first|apply DH v0 q15 qa|apply lU trivial
    refine jq fun Wx ak=>?_;go_wp2;go_roundw
    case rel=>exact⟨k+1,cR,η,He.o.trans ak⟩
    case measure=>exact dB
   .have E7:=dh (f<1)
    have Yg:=dQ (mk.length<f) hqk;have e3':=dh (f<=mk.length);have e4:=dQ ((1:Int)<=(f:Int));have e4':=dQ (1<=f);clear pa d16;apply iL trivial;repeat first|apply VZ v0 q15 q16 qa|apply lU trivial
    refine jq fun Wx ak=>?_;go_wp2;go_roundw
    case rel=>exact⟨k+1,cR,η,He.o.trans ak⟩
    case measure=>exact dB
   .have e3':=dQ (f<=mk.length)
    have e4:=dQ ((1:Int)<=(f:Int));have e4':=dQ (1<=f);obtain⟨f1,GA⟩:∃f1,f-1=f1:=⟨_,rfl⟩;rw[GA]at Yf;have hw:cQ.wrap ((f:Int)-1)=(f1:Nat):=by rw[pS _ η];omega
    have agx:f1<mk.length:=η;obtain⟨gm,qT,Pu,_,_⟩:=Hm.o f1 agx;rw[Yf]at Pu;rw[qT]at q16;replace Pu:=He.o.cell Pu;clear Yf GA pa d16 qT;apply iL trivial;repeat first|apply WV v0 v1 q15 q16 qa Pu|apply lU trivial
    refine jq fun Wx ak=>?_;go_wp2;go_roundw
    case rel=>exact⟨k+1,cR,η,He.o.trans ak⟩
    case measure=>exact dB
  .obtain rfl:k=cf.n:=by omega
   go_wp2_with fail;go_end0
   exact⟨rfl,he⟩
theorem YG(hu:Θ w T)(s:Nat)(hs:s<4294967296)(hm:mk.length<1000)(hq:Quiet cf c (mk++[s])):τ prog 99 #[π b,.int .u32 (s:Nat)] w (Does (In t 16) w T (.tuple #[]) fun w' T'=>kE w' T' t b cf me c (mk++[s])):=by
 obtain⟨i0,hi,dx,dA,dN⟩:=info_parts L5;obtain⟨x,h⟩:=h;have Yh:bz cf me c (mk++[s]):=⟨hk.ok,hk.me,hk.len,hk.short,hk.now,hk.bx,hk.has,hk.heard,hk.words,by rw[eU,iD];omega,fun x hx=>by
  rcases List.mem_append.1 hx with hx|hx
  .exact hk.yI x hx
  .rw[List.mem_singleton.1 hx];exact hs⟩
 have Dw:=(fI h.hd).Dw;have hne:=h.hd.jY h.marks η;have ho:=h.marks.1;have hd:=dQ ((mk.length:Int)<(1000:Int));have zW:=dQ (mk.length<1000);have H:=θ h;have Yi:=θ fun W T9 (h9:kE W T9 t b cf me c (mk++[s]))=>Mt h9 Yh hq;have mj:c.ls.length<=8:=by rw[hk.len];exact hk.ok.n8
 unfold π at*;clear h hk hq Yh;go_enter func99,ntmps99;go_wp2_with (at_builtin;refine ag _ rfl _ _ 79 rfl 0 32 i0 (.int .u32 0) 1 4 underlying79 hi dx dA dN rfl Γ x.MA mk.length x.mc _ rfl ho 1 _ rfl rfl gA iQ η (aM _) ?_;intro E Ed wy fQ fN oY;obtain⟨d16,f16⟩:=H.o.hd.DN fN hne 16 rfl);obtain⟨hT,hR⟩:=H.o.marks.append hu fQ fN oY;have hH:=H.o.hd.ο hT η;obtain⟨bq,oZ⟩:=hH.put (S:=(· = t)) hT.Δ 16 (.slice E (mk.length+1) Ed) rfl;have cT:Ξ (fun q=>q=t+14\/q=t) w T _ _:=(hT.mono fun k hk=>.inl hk).trans (bq.mono fun k hk=>.inr hk);have CF:kE (wy.setCell (b,16) (.slice E (mk.length+1) Ed)) (give T (went x.MA E) (t+14)) t b cf me c (mk++[s]):=by
  refine⟨{x with MA:=E,mc:=Ed},?_,H.o.ln.ο cT (fun k hk=>sL),H.o.heard.ο cT η,H.o.has.ο cT η,H.o.words.ο cT η,H.o.apart.ο cT η,?_,H.o.bx.ο cT η⟩
  .rw[eU,iD];exact oZ.is rfl
  .rw[eU,iD];refine(hR.ο bq η).to ?_;unfold PO;rw[List.map_append];rfl
 refine(Yi.o _ _ CF).mono ?_;rintro e w3 ⟨rfl,e3⟩;go_wp2_with fail;go_end0
 exact⟨rfl,_,(cT.mono (S':=In t 16) fun k hk=>cN).ext e3,CF.ext e3⟩
theorem PR(hu:Θ w T)(u:UInt8):τ prog 132 #[π b,.int .u8 (u.toNat:Nat)] w (Does (In t 16) w T ((c.iB me cf.χ:Nat):ξ) fun w' T'=>kE w' T' t b cf me (c.ν me cf.χ u) mk):=by
 obtain⟨i0,hi,dx,dA,dN⟩:=info_parts dX;have jW:=hk.ok.n8;have DT:=hk.me;have hlen:=hk.len;have Hh:=θ fun W (e:Ext w W)=>Fp (h.ext e) hk.len hk.me;have Hf:=θ fun W (e:Ext w W)=>l9 (h.ext e) hk.len η hk.ok.n8;have Ej:c.head me<=1000:=hk.short _ (by unfold Cr.nr;rw[cO,bf η];exact dH η);have hfh:c.front<=c.head me:=jt c.ls _ (by unfold Cr.nr;rw[cO,bf η];exact dH η);have H:=θ h;obtain⟨x,hx⟩:=h;obtain⟨c0,c1,c2,c4,lK,oA,Dk,yp,ya,K1,Dw,YE,DU⟩:=fI hx.hd;unfold Cr.ν Cr.iB;unfold π at*;have o6:=θ hu;by_cases j5:c.closed=true
 .rw[if_pos j5,if_neg Γ];rw[j5]at DU;clear hx hk hu;go_enter func132,ntmps132;go_wp2;go_ret;exact⟨rfl,T,Ξ.refl _ o6.o,H.o⟩
 .have Pt:c.closed=false:=by simpa using j5
  rw[if_neg j5];rw[Pt]at DU;by_cases h1:1000<=c.head me
  .have d1:=dQ ((1000:Int)<=(c.head me:Int));have d1':=dQ (1000<=c.head me) h1;rw[if_pos h1,if_neg Γ];generalize c.head me=hd at*;clear hx hk hu;go_enter func132,ntmps132;go_wp2_with fail;refine(Hh.o w (Ext.refl _)).mono ?_;rintro e w1 ⟨rfl,x1⟩;go_wp2;go_ret;exact⟨rfl,T,Ξ.ai _ o6.o x1,H.o.ext x1⟩
  .have d1:=dh ((1000:Int)<=(c.head me:Int))
   have d1':=dh (1000<=c.head me) h1;have hwr:=ej ((c.head me:Int)-(c.front:Int));rw[if_neg h1];have Hch:=θ (show c.head me=(c.nr me).length from rfl);generalize sS:c.head me=hd at*;generalize iU:c.front=fr at*;by_cases h2:cf.χ<=hd-fr
   .have d2:=dQ ((cf.χ:Int)<=(hd:Int)-(fr:Int))
    rw[if_pos h2,if_neg Γ];clear hx hk hu sS iU;go_enter func132,ntmps132;go_wp2_with fail;refine(Hh.o w (Ext.refl _)).mono ?_;rintro e w1 ⟨rfl,x1⟩;have e4:=x1.cell c4;have X1:=θ x1;clear x1;go_wp2_with fail;apply iL trivial;repeat apply iO (fun _ _ _=>trivial)
    apply jD (fun W hR=>Hh.o W (X1.o.trans hR));repeat apply iO (fun _ _ _=>trivial)
    apply jD (fun W hR=>Hf.o W (X1.o.trans hR));repeat apply nh e4
    refine jq fun Wx ak=>?_;go_wp2;go_ret;exact⟨rfl,T,Ξ.ai _ o6.o (X1.o.trans ak),H.o.ext (X1.o.trans ak)⟩
   .have d2:=dh ((cf.χ:Int)<=(hd:Int)-(fr:Int))
    rw[if_neg h2,if_pos rfl];clear sS iU;go_enter func132,ntmps132;go_wp2_with fail;refine(Hh.o w (Ext.refl _)).mono ?_;rintro e w1 ⟨rfl,x1⟩;have e4:=x1.cell c4;have X1:=θ x1;clear x1;go_wp2_with fail;apply iL trivial;repeat apply iO (fun _ _ _=>trivial)
    apply jD (fun W hR=>Hh.o W (X1.o.trans hR));repeat apply iO (fun _ _ _=>trivial)
    apply jD (fun W hR=>Hf.o W (X1.o.trans hR));repeat apply nh e4
    refine jq fun Wx ak=>?_;have X2:=θ (X1.o.trans ak);have yc:=hx.ext X2.o;obtain⟨g,hg,hTg,ha⟩:=yc.ln.at_ η;have e1:=X2.o.cell c1;have e10:=X2.o.cell lK;rw[hg]at e10;have Uu:=yc.ln.cap;rw[hlen]at Uu;have agI:=Uu.2;unfold maxLen at agI;have hm:=ha me η;have KY:(c.ls.getD me []).length=hd:=Hch.o.symm;rw[KY]at hm;obtain⟨cm,fm⟩:=hm;have fO:=yc.ln.ln me η;rw[KY]at fO;clear ak X1 hx hk e4 ha;go_wp2_with fail;apply iL trivial;repeat apply kZ e1 e10
    refine jq fun Wx ak=>?_;have xy:=ak;replace cm:=xy.cell cm;have CL:=θ (yc.ext xy);have fO:=fO.ext xy;have Of:=(o6.o.ext X2.o).ext xy;have hne:bn (x.hs me).1≠some g:=fun e=>by have:=fO.2 g e;omega
    have X3:=θ (X2.o.trans xy);have ho:=fO.1;obtain⟨g3,Mu,_,ha3⟩:=CL.o.ln.at_ η;rw[hg]at Mu;cases Mu
    have fm3:=(ha3 me η).2;have CI:g<Wx.heap.size:=κ.block_lt_of_cell? _ _ cm;clear yc ak xy X2 fm hu ha3;go_wp2_with (at_builtin;refine ag _ rfl _ _ 30 rfl 0 5 i0 (.int .u8 0) 1 1 underlying30 hi dx dA dN rfl Γ (x.hs me).1 hd (x.hs me).2 _ rfl ho 1 _ rfl rfl gA iQ η (aM _) ?_;intro E Ed wy fQ fN oY;have qm:=κ.grownBy.cell fN cm hne.symm;have fm:wy.frozen? (g,me)=false:=(Tz fN (p:=⟨g,me,none⟩) CI hne).trans fm3);go_ret;obtain⟨hT,hR⟩:=fO.append Of fQ fN oY;have xP:(c.nr me++[u]).length=hd+1:=by rw[eU,iD,←Hch.o]
    have vD:=CL.o.ln.put (i:=me) η hg (l2:=c.nr me++[u]) (E:=E) (d:=Ed) hT (by rw[xP,aJ];exact hR);rw[xP]at vD;have mE:=vD.1;refine⟨rfl,_,(Ξ.ai _ o6.o X3.o).trans (mE.mono fun k hk=>cN),{x with hs:=aW x.hs me (E,Ed)},CL.o.hd.ο mE η,vD.2,CL.o.heard.ο mE η,CL.o.has.ο mE η,CL.o.words.ο mE η,CL.o.apart.ο mE η,CL.o.marks.ο mE η,CL.o.bx.ο mE η⟩
end
end
end Go.Proofs.YtffcefoadaogbaaGreat
