/- A part of the proof. -/
import Derived.Test.YtffcefoadaogbaaGreatS6
import Derived.Test.YtffcefoadaogbaaGreatS7
namespace Go.Proofs.YtffcefoadaogbaaGreat
open Go.RowKit
open Go.Proofs.Tryz
set_option linter.all false
set_option maxRecDepth 100000
set_option maxHeartbeats 16000000
open Go.World renaming cell?_of_block->ac0,alloc->aB,block_lt_of_cell?->mG,grownBy->cX
open _root_.Nat renaming lt_of_lt_of_le->eM,le_trans->aF,sub_self->Yl,mul_one->pK,le_refl->aq,mul_add->RV,le_succ->CH,reduceAdd->ac1,zero_le->aM,eq_zero_or_pos->rA
open _root_.Int renaming eq_ofNat_of_zero_le->IA
open _root_.List renaming getElem_mem->dH,length_cons->lf,take_succ_eq_append_getElem->yt,getElem?_eq_getElem->bf,take_length->sU,map_cons->mF,map_nil->tT,flatMap_append->ny,take_of_length_le->jL,length_drop->Bq,length_append->eU,length_nil->BF,append_nil->Af,append_assoc->ic,map_append->gS,getElem?_append_left->kn,getElem?_append_right->ij,drop_eq_getElem_cons->yo,getElem_cons_succ->L8,getElem_drop->Ix,drop_drop->ac2,take_add_one->oz,getElem_append_right->ac3,drop_append->Ym,drop_eq_nil_of_le->Jt,drop_length->Db,length_map->xN,length_take->tN,getElem_cons_zero->RW,mem_singleton->sP,getElem?_eq_none->L9
open Go.RowKit.Below renaming trans->Wt,refl->nV
open _root_.Option renaming some->kI
open Go.IntKind renaming i64->cQ,u32->uK,u8->qO
open _root_.UInt8 renaming ofNat->eB
open _root_.Bool renaming false_eq_true->ac4
open Go.Value renaming int->af
open Go.IntWalk renaming i64_in->pS
open Go renaming World->κ,Value->ξ,Calls->τ,Addr->cJ,TypeId->aY,IntKind->oU
open Go.RowKit renaming Below->fC
variable{A:aS}{F:Nat->Prop}{G S:FuncId}{R b c gL gP gR i j k m n:Nat}{T:aY}{d:Bool}{g g' ns:List Int}{l:aD}{p:Pk}{ps:vo}{rep:κ->List Int->Bool->Prop}{w w' w0:κ}{σ:Nat->ξ}
theorem Rd.chg{V:κ}{size:Nat}{xs:List ξ}(h:Rd w0 size A n c xs)(e0:Ext w0 w)(hR:w0.heap.size<=R)(hb:0<n->∀a,A=some a->¬F a.block)(cV:mB w V R F):Rd V size A n c xs:=by
 refine⟨h.1,h.2.1,h.2.2.1,fun hn=>?_⟩;obtain⟨bl,o,e,hc⟩:=h.2.2.2 hn;have aX:=h.lt hn _ e;have hne:=hb (Nat.pos_of_ne_zero fun h0=>by subst h0;simp at hn) _ e
 dsimp only at aX hne
 refine⟨bl,o,e,fun j u hu=>?_⟩;rw[ac0 (a:=⟨bl,o+j,none⟩) (cV.block bl (eM aX e0.size) η hne)];exact e0.cell (hc j u hu)
section
variable(w:κ)(R b T:Nat)(t:aD)(A:aS)(n c:Nat)
theorem Ud(frame:Int)(Pa:aS)(pn pc k:Nat)(ν:aD)(g:List Int)(hM:vR T b F rep G S)(hr:Rn w R t A n c (.iface T (.pointer b)) frame Pa pn pc k)(hg:rep w g d)(hp:Rb w Pa pn pc ν)(aT:pI g)(ht:t.length<=1099511627776)(xc x y z:Int)(hm:lq (xc,x,y,z) m=true)(h0:xc≠0/\xc≠9/\xc≠10/\xc≠13):τ prog 153 #[.pointer R,kB (xc,x,y,z)] w fun e w'=>e=.returned (.int .i32 (mq t ν frame g (xc,x,y,z)))/\Ext w w':=by
 have hw:=Aj hm;dsimp only at hw
 rcases hw with h|⟨h,_⟩|⟨h,_⟩|⟨h,_⟩|⟨h,_⟩|⟨h,_,_,h3,h4⟩|⟨h,_,_,h3,h4,h5,h6⟩
 .exact absurd h h0.1
 .exact absurd h h0.2.1
 .exact absurd h h0.2.2.1
 .subst h;exact TX w R b T t A n c frame Pa pn pc k ν g hM hr hg x y z
 .subst h;exact Pn w R b T t A n c frame Pa pn pc k ν g hM hr hg x y z
 .have hc:xc=2\/xc=11\/xc=12\/xc=14:=by omega
  rcases hc with h|h|h|h
  .subst h;exact TW w R b T t A n c frame Pa pn pc k ν g hM hr hg aT x y z h3 h4
  .subst h;exact X7 w R b T t A n c frame Pa pn pc k ν g hM hr hg aT x y z h3 h4 hp
  .subst h;exact Pj w R b T t A n c frame Pa pn pc k ν g hM hr hg aT x y z h3 h4
  .subst h;exact Pm w R b T t A n c frame Pa pn pc k ν g hM hr hg aT x y z h3 h4 ht
 .exact TY w R b T t A n c frame Pa pn pc k ν g hM hr hg xc x y z h3 h4 h5 h6 h.1 h.2
theorem abz(l:List dM)(frame:Int)(Pa:aS)(pn pc k:Nat)(ν:aD)(g:List Int)(hM:vR T b F rep G S)(hr:Rn w R t A n c (.iface T (.pointer b)) frame Pa pn pc k)(hl:Ro w A n c l)(LF:∀V,mB w V R F->Rb V Pa pn pc ν)(hg:rep w g d)(aT:pI g)(hne:¬F R)(hk:k<l.length)(h64:l.length<=64)(ht:t.length<=1099511627776)(kY:lq l[k] l.length=true)(h0:l[k].1≠0){k':Nat}(js:(iV t ν frame g k l[k]).2=k')(lY:(iV t ν frame g k l[k]).1=g'):τ prog 112 #[.pointer R] w (Fb w R F rep t A n c (.iface T (.pointer b)) frame Pa pn pc k' d g' true):=by
 obtain⟨xc,x,y,z,ho⟩:∃xc x y z,l[k]=(xc,x,y,z):=⟨_,_,_,_,rfl⟩;rw[ho]at kY h0 js lY;have hp:=LF w (mB.refl _ _ _);have hw:=Aj kY;dsimp only at hw h0
 by_cases h9:xc=9
 .subst h9
  obtain⟨X,rfl⟩:=IA (show 0<=x by omega);obtain rfl:X=k':=by rw[←js];simp[iV]
  obtain rfl:g=g':=by rw[←lY];simp[iV]
  exact X9 w R b T t A n c l frame Pa pn pc k ν g hM hr hl hp hg aT hne hk h64 ht ho rfl rfl
 by_cases BI:xc=10
 .subst BI
  obtain⟨Y,rfl⟩:=IA (show 0<=y by omega);obtain rfl:g=g':=by rw[←lY];simp[iV]
  by_cases hz:gj g x=0
  .obtain rfl:Y=k':=by rw[←js];simp[iV,hz]
   exact Ya w R b T t A n c l frame Pa pn pc k ν g hM hr hl hp hg aT hne hk h64 ht ho rfl η η rfl hz
  .obtain rfl:k+1=k':=by rw[←js];simp[iV,hz]
   exact Po w R b T t A n c l frame Pa pn pc k ν g hM hr hl hp hg aT hne hk h64 ht ho rfl η η hz
 by_cases zI:xc=13
 .subst zI
  obtain rfl:k+1=k':=by rw[←js];simp[iV]
  obtain rfl:oo g (ue (gj g x):Nat) (gj g y)=g':=by rw[←lY];simp[iV]
  exact Yb w R b T t A n c l frame Pa pn pc k ν g hM hr hl hp hg aT hne hk h64 ht ho rfl η η η η
 .obtain rfl:k+1=k':=by rw[←js];simp[iV,h9,BI,zI]
  obtain rfl:oo g x (mq t ν frame g (xc,x,y,z))=g':=by rw[←lY];simp[iV,h9,BI,zI]
  exact one_set w R b T t A n c l frame Pa pn pc k ν g hM hr hl hp hg aT hne hk h64 ht ho ⟨h0,h9,BI,zI⟩ η η (fun W hr' lY JP=>Ud W R b T t A n c frame Pa pn pc (k+1) ν g hM hr' lY JP aT ht xc x y z kY ⟨h0,h9,BI,zI⟩) LF
end
def ac5(w:κ)(F:Nat->Prop)(rep:κ->List Int->Bool->Prop)(d:Bool)(X:List Int)(e:Ending)(w':κ):Prop :=
 (∃n:Int,e=.returned (n:ξ))/\(∃g' d',rep w' g' d'/\pI g'/\(d'=false->d=false/\g'=X))/\fY F w w'
theorem fY.Pw{w1:κ}(e:Ext w w1)(h:mB w1 w' R F)(hR:w.heap.size<=R):fY F w w' :=
 ⟨h.os.trans e.os,h.tape.trans e.tape,h.output.trans e.output,aF e.size h.size,fun k hk hn=>(h.block k (eM hk e.size) η hn).trans (e.block k hk)⟩
def aeo(t ν:aD)(frame:Int)(l:List dM)(w1:κ)(R:Nat)(F:Nat->Prop)(rep:κ->List Int->Bool->Prop)(A:aS)(n c:Nat)(M:ξ)(Pa:aS)(pn pc:Nat)(d0:Bool)(G':List Int)(nv:ξ)(wr:κ):Prop :=
 ∃(i k:Nat) (g:List Int) (d:Bool),nv=.int .i64 (i:Nat)/\i<=200/\k<=l.length/\Rn wr R t A n c M frame Pa pn pc k/\rep wr g d/\pI g/\mB w1 wr R F/\(d=false->d0=false/\(runN t ν frame l (200-i) k g).1=G')
section
variable(w:κ)(b T:Nat)(t:aD)(A:aS)(n c:Nat)(l:List dM)(frame:Int)(Pa:aS)(pn pc:Nat)
theorem aep(ht:t.length<=1099511627776)(hl:Ro w A n c l)(hf:fD t l≠-1):τ prog 78 #[fX t A n c,.iface T (.pointer b),frame,.slice Pa pn pc] w fun e w'=>e=.returned (.int .i64 0)/\Ext w w':=by have kY:=fun W h=>O5 W t A n c l ht h (b:=false) (by rw[beq_eq_false_iff_ne];exact hf);unfold fX at*;have ku:=θ kY;clear kY hf;go_enter func78,ntmps78;go_wp2_with fail;refine(ku.o _ (hl.ext (Ext.alloc _ _))).mono ?_;rintro e w1 ⟨rfl,e1⟩;go_wp2;go_ret;exact⟨rfl,(Ext.alloc _ _).trans e1⟩
theorem abA(ν:aD)(g:List Int)(hM:vR T b F rep G S)(ht:t.length<=1099511627776)(hl:Ro w A n c l)(hp:Rb w Pa pn pc ν)(hg:rep w g d)(aT:pI g)(hA:0<n->∀a,A=some a->¬F a.block)(hP:0<pn->∀a,Pa=some a->¬F a.block)(hf:fD t l = -1):τ prog 78 #[fX t A n c,.iface T (.pointer b),frame,.slice Pa pn pc] w (ac5 w F rep d (runN t ν frame l 200 0 g).1):=by
 have kY:=fun W h=>O5 W t A n c l ht h (b:=true) (by rw[hf];rfl);obtain⟨oh,agy,_⟩:=Aw (Ey hf);have bW:=Hj hf;have hn:=hl.len;have hmx:=hl.max;unfold maxLen at hmx;unfold fX at*;have ku:=θ kY;have oc:=θ bW;have Hn:=θ hn;clear kY hf bW hn;obtain⟨G',Ub⟩:∃x,(runN t ν frame l 200 0 g).1=x:=⟨_,rfl⟩;rw[Ub];have HG:=θ Ub;clear Ub;go_enter func78,ntmps78;go_wp2_with fail;refine(ku.o _ (hl.ext (Ext.alloc _ _))).mono ?_;rintro e w1 ⟨rfl,e1⟩;have x1:=(Ext.alloc w _).trans e1;have c0:=e1.cell (show(w.alloc (.cells #[.string (bs t),.slice A n c] 65)).cell? w.heap.size=some (.string (bs t)) by go_simp);have c1:=e1.cell (show(w.alloc (.cells #[.string (bs t),.slice A n c] 65)).cell? (w.heap.size,1)=some (.slice A n c) by go_simp);clear e1;go_wp2_with fail;generalize hV:aB w1 _=V;have rV:Rn V w1.heap.size t A n c (.iface T (.pointer b)) frame Pa pn pc 0:=by subst hV;refine⟨?_,?_,?_,?_,?_,?_,?_⟩<;>go_simp
 have eV:Ext w1 V:=by subst hV;exact Ext.alloc _ _
 have xV:=x1.trans eV;have d1:=eV.cell c1;have hwR:w.heap.size<=w1.heap.size:=x1.size;have pz:w.heap.size<w1.heap.size:=mG w1 _ c0;have hne:¬F w1.heap.size:=fun e=>by have:=hM.lt _ _ _ hg _ e;omega
 clear hV c0 c1 eV x1;generalize w1.heap.size=R at*;go_loopw [10] (fun nv wr=>aeo t ν frame l V R F rep A n c (.iface T (.pointer b)) Pa pn pc d G' nv wr) (fun nv _=>200-(intOf nv).toNat)
 case atStart=>exact⟨0,0,g,d,rfl,η,η,rV,hM.ext hg xV,aT,mB.refl _ _ _,fun h=>⟨h,HG.o⟩⟩
 case round =>
  obtain⟨i,k,gc,dc,rfl,hi,hk,hr,oN,BZ,ve,hG⟩:=hrel;have tV:=θ hG;clear hG;have q1:wr.cell? (w.heap.size,1)=some (.slice A n c):=by rw[ac0 (a:=⟨w.heap.size,1,none⟩) (ve.block w.heap.size (mG V _ d1) η (fun e=>by have:=hM.lt _ _ _ hg _ e;omega))];exact d1
  obtain⟨r0,r1,r2,r3,r4,r5,r6⟩:=id hr;by_cases CG:i<200
  .have hid:=dQ ((i:Int)<200)
   by_cases jk:k<n
   .have hj:0<200-i:=by omega
    have hkd:=dQ (k<n) jk;go_wp2_with fail;apply iL trivial;repeat first|apply kZ q1 r5|apply lU trivial
    refine lex_nil ?_;intro W1 jN υ;clear υ;have hrW:=hr.ext jN;have Oc:=hM.ext oN jN;have cW:=ve.trans (mB.ai jN R F);have lW:Ro W1 A n c l:=Rd.chg hl xV hwR hA cW;have pW:∀X,mB W1 X R F->Rb X Pa pn pc ν:=fun X hX=>Rd.chg hp xV hwR hP (cW.trans hX);have jm:k<l.length:=by have:=Hn.o;omega
    have kY:=oc.o _ (dH jm);clear r0 r1 r2 r3 r4 r5 r6;obtain⟨f,hf⟩:∃f,200-i=f+1:=⟨199-i,η⟩;by_cases h0:l[k].1=0
    .have gf:(runN t ν frame l (200-i) k gc)=(gc,1):=by rw[hf];exact BH t ν frame l f k gc jm h0
     have eo:=X8 W1 R b T t A n c l frame Pa pn pc k ν gc hM hrW lW (pW _ (mB.refl _ _ _)) Oc BZ hne jm agy ht (xc:=l[k].1) (x:=l[k].2.1) (y:=l[k].2.2.1) (z:=l[k].2.2.2) rfl h0;have sB:=θ eo;have AA:=θ gf;clear eo gf h0 hf kY pW lW;go_wp2_with fail;refine τ.mono sB.o ?_;rintro e w2 ⟨rfl,uH,kL,sW⟩;have hG:=tV.o;rw[AA.o]at hG;have HG3:=θ hG;clear hG;clear hi hk CG jk hj jm hid hkd;go_wp2;go_ret;obtain⟨g9,d9,agA,ok9,h9⟩:=kL;exact⟨⟨_,rfl⟩,⟨g9,d9,agA,ok9,fun h=>by obtain⟨h1,h2⟩:=h9 h;obtain⟨h3,h4⟩:=HG3.o h1;exact⟨h3,h2.trans h4⟩⟩,fY.Pw xV (cW.trans sW) hwR⟩
    .have hgo:=JM t ν frame l f k gc jm h0
     rw[←hf]at hgo;obtain⟨k',js⟩:∃x,(iV t ν frame gc k l[k]).2=x:=⟨_,rfl⟩;obtain⟨g',lY⟩:∃x,(iV t ν frame gc k l[k]).1=x:=⟨_,rfl⟩;have amZ:pI g':=lY▸JL t ν frame BZ k l[k];have zJ:k'<=l.length:=js▸Ry kY jm;rw[js,lY]at hgo;have eo:=abz W1 R b T t A n c l frame Pa pn pc k ν gc hM hrW lW pW Oc BZ hne jm agy ht kY h0 js lY;have sB:=θ eo;have Hgo:=θ hgo;have Hf:=θ hf;clear eo hgo h0 hf kY pW lW js lY;go_wp2_with fail;refine τ.mono sB.o ?_;rintro e w2 ⟨rfl,uH,kL,sW⟩;obtain⟨g9,d9,agA,ok9,h9⟩:=kL;have H9:=θ h9;clear h9;go_wp2_with fail;have hG:=tV.o;rw[Hgo.o]at hG;dsimp only at hG
     have hfi:200-(i+1)=f:=by have:=Hf.o;omega
     go_roundw
     case rel=>exact⟨i+1,k',g9,d9,cR,η,zJ,uH,agA,ok9,cW.trans sW,fun h=>by obtain⟨h1,h2⟩:=H9.o h;rw[hfi,h2];exact hG h1⟩
     case measure=>exact dB
   .have gf:(runN t ν frame l (200-i) k gc)=(gc,0):=Ex t ν frame l _ k gc (by have:=Hn.o;omega)
    have hG:=tV.o;rw[gf]at hG;have HG3:=θ hG;clear hG gf;go_wp2_with fail;apply iL trivial;repeat first|apply kZ q1 r5|apply lU trivial
    refine lex_nil ?_;intro W1 jN υ;clear υ;go_wp2;go_ret;exact⟨⟨_,rfl⟩,⟨gc,dc,hM.ext oN jN,BZ,HG3.o⟩,fY.Pw xV (ve.trans (mB.ai jN R F)) hwR⟩
  .obtain rfl:i=200:=by omega
   have hG:=tV.o;rw[Yl,Tm]at hG;have HG3:=θ hG;clear hG;go_wp2_with fail;apply iL trivial;repeat first|apply iO (fun _ _ _=>trivial)|apply lU trivial
   refine lex_nil ?_;intro W1 jN υ;clear υ;go_wp2;go_ret;exact⟨⟨_,rfl⟩,⟨gc,dc,hM.ext oN jN,BZ,HG3.o⟩,fY.Pw xV (ve.trans (mB.ai jN R F)) hwR⟩
theorem abB(ν:aD)(g:List Int)(hM:vR T b F rep G S)(ht:t.length<=1099511627776)(hl:Ro w A n c l)(hp:Rb w Pa pn pc ν)(hg:rep w g d)(aT:pI g)(hA:0<n->∀a,A=some a->¬F a.block)(hP:0<pn->∀a,Pa=some a->¬F a.block){G':List Int}(hG:(nx t ν frame l g).1=G'):τ prog 78 #[fX t A n c,.iface T (.pointer b),frame,.slice Pa pn pc] w (ac5 w F rep d G'):=by
 subst hG;by_cases hf:fD t l = -1
 .have e:nx t ν frame l g=runN t ν frame l 200 0 g:=if_pos hf;rw[e];exact abA w b T t A n c l frame Pa pn pc ν g hM ht hl hp hg aT hA hP hf
 .have e:nx t ν frame l g=(g,0):=if_neg hf;rw[e];exact(aep w b T t A n c l frame Pa pn pc ht hl hf).mono fun _ _ ⟨h1,h2⟩=>⟨⟨0,h1⟩,⟨g,d,hM.ext hg h2,aT,fun h=>⟨h,rfl⟩⟩,fY.ai F h2⟩
end
theorem Ma(w:κ)(t:aD)(A:aS)(n c:Nat)(l:List dM)(frame:Int)(Pa:aS)(pn pc:Nat)(ν:aD)(g:List Int)(ht:t.length<=1099511627776)(hl:Ro w A n c l)(hp:Rb w Pa pn pc ν)(aT:pI g):τ prog 172 #[fX t A n c,.agg (jj g),frame,.slice Pa pn pc] w fun e w'=>e=.returned (.agg (jj (nx t ν frame l g).1))/\Ext w w':=by
 have rF:=aT.1;have fV:(jj g).size=32:=by rw[ox,rF]
 have ahX:=abv g rF;obtain⟨G',Ub⟩:∃x,(nx t ν frame l g).1=x:=⟨_,rfl⟩;have aiS:G'.length=32:=by rw[←Ub];exact(Lu t ν frame l aT).1
 rw[Ub];have HG':=θ Ub;have ac6:=θ aiS;clear Ub aiS;unfold fX;go_enter func172,ntmps172;go_wp2_with (with_reducible refine eA rfl 205 (.tmp 5) rfl rfl underlying205 bu (g:=g) ((mD.yU _ _ rF bT).gm.ext (Ext.alloc _ _)) ?_)
 generalize hV:aB (aB (aB (aB w _) _) _) _=V;have eV:Ext w V:=by subst hV;exact(((Ext.alloc _ _).trans (Ext.alloc _ _)).trans (Ext.alloc _ _)).trans (Ext.alloc _ _)
 have bR:mD V (w.heap.size+1+1) 205 nA:=by subst hV;exact(mD.yU _ _ rfl bT).ext (Ext.alloc _ _)
 have bC:Gm V (w.heap.size+1+1+1) g:=by subst hV;exact(mD.yU _ _ rF bT).gm
 clear hV;have bU:=abB V (w.heap.size+1+1+1) 323 t A n c l frame Pa pn pc ν g (O6 _) ht (hl.ext eV) (hp.ext eV) (d:=false) ⟨bC,rfl⟩ aT (fun h a ha=>by have:=Rd.lt hl η a ha;omega) (fun h a ha=>by have:=Rd.lt hp η a ha;omega) HG'.o;unfold fX at bU;have akZ:=θ bU;clear bU ahX fV rF aT;refine τ.mono akZ.o ?_;rintro e w1 ⟨⟨n9,rfl⟩,⟨g9,d9,⟨gW,hd9⟩,_,h9⟩,mW⟩;obtain⟨_,e9⟩:=h9 hd9;have e9:=e9.symm;subst e9;clear h9 hd9;have rW:mD w1 (w.heap.size+1+1) 205 nA:=bR.dD (mW.block _ bR.lt η);have eW:Ext w w1:=Wt eV ⟨mW.os,mW.tape,mW.output,mW.size,fun k hk=>mW.block k (eM hk eV.size) η⟩;go_wp2_with (first
  | (with_reducible refine eA rfl 205 (.tmp 21) rfl rfl underlying205 bu gW ?_)
  | (with_reducible refine fe rfl 205 (.tmp 8) (.tmp 22) rfl rfl rfl rW ac6.o bu ?_))
 have qT:=(rW.setRow ac6.o).gm;exact bodyPost_ret (v:=.agg (jj G')) (BS rfl _ rfl qT underlying205 bu) rfl ⟨rfl,eW.setRow η _⟩
def eG(t:aD)(l:List dM):Int->List Int->List (List UInt8)->List Int
 |_,g,[]=>g
 |f,g,p::ps=>eG t l (f+1) (nx t p f l g).1 ps
theorem jc(t:aD)(l:List dM):∀(ps:vo) (f:Int) {g:List Int},pI g->pI (eG t l f g ps)
 | [],_,_,h=>h
 |p::ps,f,_,h=>jc t l ps (f+1) (Lu t p f l h)
theorem xl(t:aD)(l:List dM):∀(a b:vo) (f:Int) (g:List Int),eG t l f g (a++b)=eG t l (f+a.length) (eG t l f g a) b
 | [],b,f,g=>by simp[eG]
 |p::a,b,f,g=>by
  rw[List.cons_append,eG,xl t l a b (f+1),eG,lf];congr 1
  omega
theorem ze(t:aD)(l:List dM)(f:Int)(g:List Int)(h:k<ps.length):eG t l f g (ps.take (k+1))=(nx t ps[k] (f+k) l (eG t l f g (ps.take k))).1:=by have e:(ps.take k).length=k:=dw;rw[yt h,xl,e];rfl
def hdr(h:aS×Nat×Nat):ξ:=.slice h.1 h.2.1 h.2.2
def Rp(w:κ)(A:aS)(n c:Nat)(ps:vo):Prop :=
 ∃hs:List (Option cJ×Nat×Nat),Rd w 1 A n c (hs.map hdr)/\hs.length=ps.length/\∀(i:Nat) h p,hs[i]?=some h->ps[i]?=some p->Rb w h.1 h.2.1 h.2.2 p
section
variable {w w':κ}{A:aS}{n c:Nat}{ps:vo}
section
variable(h:Rp w A n c ps)
include h
theorem Rp.ext(e:Ext w w'):Rp w' A n c ps:=by obtain⟨hs,h1,h2,h3⟩:=h;exact⟨hs,h1.ext e,h2,fun i a p ha hp=>(h3 i a p ha hp).ext e⟩
theorem Rp.len:n=ps.length:=by
 obtain⟨hs,h1,h2,_⟩:=h;have:=h1.1;simp at this
 omega
theorem Rp.max:n<=c/\c<=maxLen:=by obtain⟨hs,h1,_⟩:=h;exact⟨h1.2.1,h1.2.2.1⟩
theorem Rp.at_(hk:k<ps.length):∃b o Ai ni ci,A=some ⟨b,o,none⟩/\w.cell? ⟨b,o+k,none⟩=some (.slice Ai ni ci)/\Rb w Ai ni ci ps[k]:=by have hn:=h.len;obtain⟨hs,h1,h2,h3⟩:=h;obtain⟨b,o,e,u,hu,hc⟩:=h1.at_ (k:=k) η;have zJ:k<hs.length:=η;rw[List.getElem?_map,bf zJ]at hu;refine⟨b,o,hs[k].1,hs[k].2.1,hs[k].2.2,e,?_,h3 k _ _ (bf zJ) (bf hk)⟩;rw[hc,←hu];rfl
theorem Rp.take(hk:k<=n):Rp w A k c (ps.take k):=by
 obtain⟨hs,h1,h2,h3⟩:=h;have h4:=h1.take hk;rw[pK,←List.map_take]at h4;refine⟨hs.take k,h4,dw,fun i a p ha hp=>?_⟩;rw[List.getElem?_take]at ha hp;split at ha
 .rw[if_pos (by assumption)]at hp;exact h3 i a p ha hp
 .cases ha
theorem Rp.drop(hk:k<=n):Rp w (if c=k then A else A.map (·.add k)) (n-k) (c-k) (ps.drop k):=by obtain⟨hs,h1,h2,h3⟩:=h;have h4:=h1.drop hk;rw[pK,←List.map_drop]at h4;refine⟨hs.drop k,h4,dw,fun i a p ha hp=>?_⟩;rw[List.getElem?_drop]at ha hp;exact h3 _ a p ha hp
end
end
theorem Rp.keep(h:Rp w0 A n c ps)(e:Ext w0 w)(hb:w0.heap.size<=b)(hg:w.grownBy w' (some b)):Rp w' A n c ps:=by
 obtain⟨hs,h1,h2,h3⟩:=h;refine⟨hs,Rd.BY (h1.ext e) hg (fun h0 a ha=>?_),h2,fun i a p ha hp=>Rd.BY ((h3 i a p ha hp).ext e) hg (fun h0 a' ha'=>?_)⟩
 .have:=h1.lt η a ha;intro e2;have:=kI.inj e2;omega
 .have:=Rd.lt (h3 i a p ha hp) η a' ha';intro e2;have:=kI.inj e2;omega
theorem zf:(prog.info? 30).map (fun i=>(i.zero,i.size,i.bytes))=some (some (.slice none 0 0),1,24):=ey
def ahY(t:aD)(l:List dM)(f:Int)(g:List Int)(ps:vo)(w1:κ)(b:Nat)(iv:ξ)(wr:κ):Prop :=
 ∃k:Nat,iv=.int .i64 (k:Nat)/\k<=ps.length/\mD wr b 205 (eG t l f g (ps.take k))/\w1.grownBy wr (some b)
theorem Mc(w:κ)(t:aD)(A:aS)(n c:Nat)(l:List dM)(frame:Int)(PA:aS)(pn pc:Nat)(ps:vo)(g:List Int)(ht:t.length<=1099511627776)(hl:Ro w A n c l)(hp:Rp w PA pn pc ps)(aT:pI g)(h0:0<=frame)(h1:frame<=1000000)(qx:ps.length<=1000):τ prog 270 #[fX t A n c,.agg (jj g),frame,.slice PA pn pc] w fun e w'=>e=.returned (.agg (jj (eG t l frame g ps)))/\Ext w w':=by
 have rF:=aT.1;have hmx:=hp.max;have Md:=hp.len;unfold maxLen at hmx;unfold fX;have Hpn:=θ Md;obtain⟨G,hG⟩:∃x,eG t l frame g ps=x:=⟨_,rfl⟩;have L7:G.length=32:=by rw[←hG];exact(jc t l ps frame aT).1
 rw[hG];have HG:=θ hG;have Dq:=θ L7;clear Md hG L7;go_enter func270,ntmps270;go_wp2_with fail;generalize hV:aB (aB (aB w _) _) _=V;have eV:Ext w V:=by subst hV;exact((Ext.alloc _ _).trans (Ext.alloc _ _)).trans (Ext.alloc _ _)
 have bR:mD V (w.heap.size+1+1) 205 nA:=by subst hV;exact mD.yU _ _ (g:=nA) rfl bT
 have bS:mD V (w.heap.size+1) 205 g:=by subst hV;exact(mD.yU _ _ rF bT).ext (Ext.alloc _ _)
 have c0:V.cell? w.heap.size=some (.string (bs t)):=ir;have c1:V.cell? (w.heap.size,1)=some (.slice A n c):=ir;clear hV;obtain⟨b,hb⟩:∃b,w.heap.size+1=b:=⟨_,rfl⟩;rw[hb]at bS bR;have sj:w.heap.size<b:=η;have Hb:=θ hb;clear hb;rw[Hb.o];go_loopw [13] (fun iv wr=>ahY t l frame g ps V b iv wr) (fun iv _=>ps.length-(intOf iv).toNat)
 case atStart=>exact⟨0,rfl,η,bS,cX.refl _ _⟩
 case round =>
  obtain⟨k,rfl,hk,Ue,ve⟩:=hrel;have d0:wr.cell? w.heap.size=some (.string (bs t)):=ve.cell c0 dw;have d1:wr.cell? (w.heap.size,1)=some (.slice A n c):=ve.cell c1 dw;have rR:=bR.grown ve bT;have xR:=tv eV ve η;by_cases aX:k<pn
  .have jm:k<ps.length:=by have:=Hpn.o;omega
   have lW:Ro wr A n c l:=Rd.BY (Rd.ext hl eV) ve (fun h a ha=>by have:=Rd.lt hl η a ha;simp;omega);obtain⟨pb,po,Ai,ni,ci,rfl,vi,Ka⟩:=hp.at_ jm;have hpb:pb<w.heap.size:=mG w _ vi;have hc:wr.cell? (pb,po+k)=some (.slice Ai ni ci):=ve.cell (eV.cell vi) dw;have hr:Rb wr Ai ni ci ps[k]:=Rd.BY (Rd.ext Ka eV) ve (fun h a ha=>by have:=Rd.lt Ka η a ha;simp;omega);have hgo:=jc t l (ps.take k) frame aT;have uh:=ze t l frame g jm;have eH:=Ma wr t A n c l (frame+k) Ai ni ci ps[k] (eG t l frame g (ps.take k)) ht lW hr hgo;rw[←uh]at eH;unfold fX at eH;have kR:=θ eH;have V4:=θ (jc t l (ps.take (k+1)) frame aT).1;clear eH uh hgo hr lW Ka vi;obtain⟨G2,Fe⟩:∃x,eG t l frame g (ps.take (k+1))=x:=⟨_,rfl⟩;have tV:=θ Fe;rw[Fe]at kR V4;clear Fe;generalize eG t l frame g (ps.take k)=G1 at*;go_wp2_with (with_reducible refine eA rfl 205 (.tmp 5) rfl rfl underlying205 bu Ue.gm ?_)
   refine τ.mono kR.o ?_;rintro e w2 ⟨rfl,e2⟩;have hb3:=Ue.ext e2;go_wp2_with ((with_reducible refine uN rfl 205 (.tmp 5) (.tmp 24) rfl rfl rfl hb3 V4.o bu ?_);intro W3 b4 _ y3 _);go_roundw
   case rel=>exact⟨k+1,cR,jm,by rw[tV.o];exact b4,(ve.trans (e2.grownBy _)).trans y3⟩
   case measure=>exact dB
  .have hd:=dh (k<pn) aX
   have jm:k=ps.length:=by have:=Hpn.o;omega
   subst jm;have gf:eG t l frame g (ps.take ps.length)=G:=by rw[sU];exact HG.o
   rw[gf]at Ue;clear gf;go_wp2_with (first
    | (with_reducible refine eA rfl 205 (.tmp 5) rfl rfl underlying205 bu Ue.gm ?_)
    | (with_reducible refine fe rfl 205 (.tmp 8) (.tmp 26) rfl rfl rfl rR Dq.o bu ?_))
   exact bodyPost_ret (v:=.agg (jj G)) (BS rfl _ rfl (rR.setRow Dq.o).gm underlying205 bu) rfl ⟨rfl,xR.setRow η _⟩
theorem Ff{P:Program}{o:Oper}{a:Act}(ty:aY)(x y:Operand)(ho:o.op=.store ty x y)(hx:a.eval x=.pointer b)(hy:a.eval y=.agg (jj g'))(h:mD w b T g)(hg:g'.length=32)(hi:(P.info? ty).map (·.size)=some 32):(execOp a.eval o).run P w=.ok .skip (w.setRow b (jj g')):=by have hs:=run_storeVar_row (P:=P) w b T ty (jj g) (jj g') h.1 (by rw[hi,ox,hg]) (by rw[ox,ox,hg,h.2]) (RN g');unfold execOp;simp only[ho,hx,hy,Instr.storeAt,Instr.sureAddr,Sem.run_bind,Sem.run_pure,Result.andThen_ok,hs]
def AB(T:aY)(i:Nat)(σ:Nat->ξ)(w w':κ):Prop:=w.grownBy w' (if i=14 then mK (σ 13) else none)/\∀b gg,mD w b T gg->∃gg',mD w' b T gg'
theorem AB.ext(e:Ext w w'):AB T i σ w w':=⟨e.grownBy _,fun b gg h=>⟨gg,h.ext e⟩⟩
theorem AB.store{g0:Nat}(WL:σ 13=.pointer g0)(h:mD w g0 T g)(hg:g'.length=32):AB T 14 σ w (w.setRow g0 (jj g')):=by
 refine⟨?_,fun b gg hb=>?_⟩
 .rw[if_pos rfl,WL];exact⟨rfl,rfl,rfl,bT,fun k _ hk=>Go.setRow_other w g0 k _ (fun e=>hk (by rw[e];rfl))⟩
 .by_cases e:g0=b
  .subst e;exact⟨g',h.setRow hg⟩
  .exact⟨gg,hb.setRow_other e⟩
def aiT(T:aY)(m:Nat)(σ:Nat->ξ)(w:κ):Prop:=∃g0,σ 13=.pointer (some ⟨g0,0,none⟩)/\m<=g0/\∃gg,mD w g0 T gg
def aiU(T:aY)(g:List Int)(σ:Nat->ξ)(w:κ):Prop:=∃g0,σ 13=.pointer (some ⟨g0,0,none⟩)/\mD w g0 T g
theorem Uf{l:List Oper}:oy (AB T) 99 99 l 13 (aiT T m):=by
 refine⟨fun j σ v w hj _ h=>?_,fun j hj _ σ w w' _ h hr=>?_⟩
 .unfold aiT;rw[nL (fun e=>hj e.symm)];exact h
 .obtain⟨g0,h1,h2,gg,h3⟩:=h;obtain⟨gg',h4⟩:=hr.2 g0 gg h3;exact⟨g0,h1,h2,gg',h4⟩
theorem Ug{l:List Oper}(hb:iK l 14 13=true):oy (AB T) 99 99 l 14 (aiU T g):=by
 refine⟨fun j σ v w hj OG h=>?_,fun j hj _ σ w w' _ h hr=>?_⟩
 .unfold aiU;rw[nL (fun e=>by subst e;rw[hb]at OG;cases OG)];exact h
 .obtain⟨g0,h1,h2⟩:=h;have h3:=hr.1;rw[if_neg hj]at h3;exact⟨g0,h1,h2.grown h3 bT⟩
def ahZ(t:aD)(l:List dM)(f:Int)(g:List Int)(ps:vo)(w w1:κ)(gp b:Nat)(A:aS)(n c:Nat)(iv:ξ)(wr:κ):Prop :=
 ∃k:Nat,iv=.int .i64 (k:Nat)/\k<=ps.length/\mD wr b 69 (eG t l f g (ps.take k))/\mD wr (b+1) 69 nA/\wr.cell? gp=some (.string (bs t))/\wr.cell? (gp,1)=some (.slice A n c)/\Ext w wr
theorem Uh(w:κ)(t:aD)(A:aS)(n c:Nat)(l:List dM)(frame:Int)(PA:aS)(pn pc:Nat)(ps:vo)(g:List Int)(ht:t.length<=1099511627776)(hl:Ro w A n c l)(hp:Rp w PA pn pc ps)(aT:pI g)(h0:0<=frame)(h1:frame<=1000000)(qx:ps.length<=1000):τ prog 24 #[fX t A n c,.agg (jj g),frame,.slice PA pn pc] w fun e w'=>e=.returned (.agg (jj (eG t l frame g ps)))/\Ext w w':=by
 have rF:=aT.1;have hmx:=hp.max;have Md:=hp.len;unfold maxLen at hmx;unfold fX;have Hpn:=θ Md;obtain⟨G,hG⟩:∃x,eG t l frame g ps=x:=⟨_,rfl⟩;have L7:G.length=32:=by rw[←hG];exact(jc t l ps frame aT).1
 rw[hG];have HG:=θ hG;have Dq:=θ L7;clear Md hG L7;go_enter func24,ntmps24;go_wp2_with fail;obtain⟨b,hb⟩:∃b,w.heap.size+1=b:=⟨_,rfl⟩;have ng:w.heap.size+1+1=b+1:=η;have sj:w.heap.size<b:=η;rw[ng,hb];generalize hV:aB (aB (aB w _) _) _=V;have eV:Ext w V:=by subst hV;exact((Ext.alloc _ _).trans (Ext.alloc _ _)).trans (Ext.alloc _ _)
 have bR:mD V (b+1) 69 nA:=by subst hV;exact mD.yU _ _ (g:=nA) rfl dw
 have bS:mD V b 69 g:=by subst hV;exact(mD.yU _ _ rF dw).ext (Ext.alloc _ _)
 have c0:V.cell? w.heap.size=some (.string (bs t)):=ir;have c1:V.cell? (w.heap.size,1)=some (.slice A n c):=ir;clear hV hb ng;go_loopw [9] (fun iv wr=>ahZ t l frame g ps w V w.heap.size b A n c iv wr) (fun iv _=>ps.length-(intOf iv).toNat)
 case atStart=>exact⟨0,rfl,η,bS,bR,c0,c1,eV⟩
 case round =>
  obtain⟨k,rfl,hk,Ue,hbz,d0,d1,he⟩:=hrel;by_cases aX:k<pn
  .have jm:k<ps.length:=by have:=Hpn.o;omega
   obtain⟨pb,po,Ai,ni,ci,rfl,vi,Ka⟩:=hp.at_ jm;have hc:=he.cell vi;have hgo:=jc t l (ps.take k) frame aT;have uh:=ze t l frame g jm;have eH:=fun W h1 h2=>IB W t A n c l (frame+k) Ai ni ci (ps[k]'jm) (eG t l frame g (ps.take k)) ht h1 h2 hgo uh.symm rfl;unfold fX at eH;have kR:=θ eH;have V4:=θ (jc t l (ps.take (k+1)) frame aT).1;have Hl:=θ (hl.ext he);have Hr:=θ (Ka.ext he);clear eH uh hgo Ka vi;obtain⟨G2,Fe⟩:∃x,eG t l frame g (ps.take (k+1))=x:=⟨_,rfl⟩;have tV:=θ Fe;rw[Fe]at kR V4;clear Fe;generalize (nx t ps[k] (frame+k) l (eG t l frame g (ps.take k))).2=N at*;generalize eG t l frame g (ps.take k)=G1 at*;have akI:cQ.wrap (frame+(k:Int))=frame+(k:Int):=by rw[oU.wrap_i64];omega
   have Ik:(0:Int)<=(k:Int)/\(k:Int)<(pn:Int):=η;go_wp2_with fail;apply jx (F1:=99) (F2:=99) (R:=fC wr.heap.size) (Rs:=AB 69) (J:=fun _ _=>True) ey ey (nV _) (fun _ _ W=>AB.ext (Ext.refl W)) (fun _ _=>fC.size) (fun _ _ _ _ _ _ _ _ _=>trivial) (fun _ _ _=>Wt) (Ext.drew _) (fun _=>trivial);intro σ;repeat
    apply kj Γ Γ (nV _) (fun _ _ W=>AB.ext (Ext.refl W))
    .rfl
    .intro W' hR hJ υ
     have jO:Ext wr W':=hR;have d2:=jO.cell d0;have d3:=jO.cell d1;have d4:=jO.cell hc;first
      |exact JW 69 _ rfl rfl underlying69 eE (Ue.gm.ext jO)
      | (go_simp;first|done|with_reducible rfl)
    simp only[pu]
   apply EY (u:=.tuple #[.agg (jj G2),N]) Γ Γ
   .rfl
   .intro W';go_simp;exact⟨rfl,rfl⟩
   .intro W' hR hJ υ;have jO:Ext wr W':=hR;refine(kR.o _ (Hl.o.ext jO) (Hr.o.ext jO)).mono ?_;rintro e w' ⟨rfl,h9⟩;exact⟨rfl,fC.mono h9 hR.size,AB.ext h9⟩
   simp only[pu];repeat
    apply kj Γ Γ (nV _) (fun _ _ W=>AB.ext (Ext.refl W))
    .rfl
    .intro W' hR hJ υ;go_simp;first|done|with_reducible rfl
    simp only[pu]
   apply jy Γ Γ (Uf (T:=69) (m:=wr.heap.size))
   .rfl
   .intro W hR hJ υ;refine⟨.pointer W.heap.size,W.alloc (.cells XT 69),?_,fC.mono (Ext.alloc _ _) hR.size,AB.ext (Ext.alloc _ _),W.heap.size,iS,hR.size,nA,mD.zero _ _ rfl⟩;go_simp;first|done|rfl
   simp only[pu];apply nM Γ Γ (Ug (T:=69) (g:=G2) ey)
   .rfl
   .intro W hR hJ υ
    obtain⟨g0,WL,nC,gg,qE⟩:=υ.1 (by rfl);refine⟨W.setRow g0 (jj G2),by(refine Ff 69 (.tmp 10) (.tmp 29) rfl ?_ ?_ qE V4.o eE;exact WL;rfl),?_,AB.store WL qE V4.o,g0,?_,qE.setRow V4.o⟩
    .exact fW (row:=some g0) ⟨rfl,rfl,rfl,bT,fun k _ hk=>Go.setRow_other W g0 k _ (fun e=>hk (by rw[e]))⟩ hR.size (fun k e=>by cases e;exact nC)
    .rw[nL Γ];exact WL
   simp only[Act.put];repeat
    apply kj Γ Γ (nV _) (fun _ _ W=>AB.ext (Ext.refl W))
    .rfl
    .intro W' hR hJ υ;go_simp;first|done|with_reducible rfl
    simp only[pu]
   refine sX ?_;intro W hR gT υ;obtain⟨g0,WL,aiV⟩:=υ.1 rfl;obtain⟨g0',agB,nC,_⟩:=υ.2.1 rfl;rw[WL]at agB;obtain rfl:g0=g0':=by injection agB with h;injection h with h;injection h
   rw[WL];have jO:Ext wr W:=hR;have b1:=Ue.ext jO;have z1:=hbz.ext jO;have d0:=jO.cell d0;have d1:=jO.cell d1;have xR:=he.trans jO;clear hR υ gT WL agB jO Ue hbz he hc kR;go_wp2_with (first
    | (with_reducible refine eA rfl 69 (.tmp 10) rfl rfl underlying69 eE aiV.gm ?_)
    | ((with_reducible refine uN rfl 69 (.tmp 5) (.tmp 31) rfl rfl rfl b1 V4.o eE ?_);intro W3 b4 y4 g4 s4;clear s4;have z4:=z1.grown g4 bT;have d0:=g4.cell d0 dw;have d1:=g4.cell d1 dw;have x4:=y4 w xR η))
   go_roundw
   case rel=>exact⟨k+1,cR,jm,by rw[tV.o];exact b4,z4,d0,d1,x4⟩
   case measure=>exact dB
  .have hd:=dh (k<pn) aX
   have jm:k=ps.length:=by have:=Hpn.o;omega
   subst jm;have gf:eG t l frame g (ps.take ps.length)=G:=by rw[sU];exact HG.o
   rw[gf]at Ue;clear gf;go_wp2_with (first
    | (with_reducible refine eA rfl 69 (.tmp 5) rfl rfl underlying69 eE Ue.gm ?_)
    | (with_reducible refine fe rfl 69 (.tmp 8) (.tmp 32) rfl rfl rfl hbz Dq.o eE ?_))
   exact bodyPost_ret (v:=.agg (jj G)) (BS rfl _ rfl (hbz.setRow Dq.o).gm underlying69 eE) rfl ⟨rfl,he.setRow η _⟩
def uns(x:Int):Nat:=(x % 4294967296).toNat
theorem Px(x:Int):uns x<4294967296:=by unfold uns;omega
theorem Me(x:Int):uK.wrap x=(uns x:Nat):=by
 have:uK.wrap x=x % 4294967296:=by rfl
 rw[this];unfold uns;omega
theorem Fg(n:Nat)(h:n<4294967296):dK (eO n)=[.int .u8 (↑n / 16777216),.int .u8 (↑n / 65536 % 256),.int .u8 (↑n / 256 % 256),.int .u8 (↑n % 256)]:=by simp only[dK,eO,mF,tT];rw[aU η,aU η,aU η,aU η];simp
theorem xo(n:Nat)(w:κ)(h:n<4294967296):τ prog 31 #[.int .u32 (n:Nat)] w (Made w 5 1 (dK (eO n))):=by go_enter func31,ntmps31;go_wp2;go_ret;refine⟨_,_,_,rfl,?_,Ext.alloc _ _⟩;rw[Fg n h];exact Own.made w _ _ 1 _ 4 (aq _) Γ rfl
theorem Ui(x:Int)(w:κ)(hx:jQ x):τ prog 217 #[.int .i32 x] w (Made w 5 1 (dK (eO (uns x)))):=by have hu:=Me x;have h:=Px x;generalize uns x=n at*;go_enter func217,ntmps217;go_wp2;go_ret;refine⟨_,_,_,rfl,?_,Ext.alloc _ _⟩;rw[Fg n h];exact Own.made w _ _ 1 _ 4 (aq _) Γ rfl
def kC(g:List Int):List UInt8:=g.flatMap fun x=>eO (uns x)
theorem AD(w:κ)(A:aS)(n c:Nat)(a:aD)(B:aS)(m d:Nat)(b:aD)(ha:Rb w A n c a)(hb:Rb w B m d b):τ prog 303 #[.slice A n c,.slice B m d] w fun e w'=>e=.returned (.bool (a==b))/\w'=w:=by have h1:=fun W=>dS (P:=prog) W 30 9 5 underlying30 underlying5 underlying9 A n c a;have h2:=fun W=>dS (P:=prog) W 30 9 5 underlying30 underlying5 underlying9 B m d b;have k1:=h1 w ha;have k2:=h2 w hb;clear h1 h2;go_enter func303,ntmps303;go_wp2;go_ret;exact⟨rfl,rfl⟩
theorem Fh(h:k<g.length):kC (g.take (k+1))=kC (g.take k)++eO (uns (g.getD k 0)):=by unfold kC;rw[yt h,ny];simp[List.getD,bf h]
def GOf(w:κ)(g:List Int)(e:Ending)(w':κ):Prop:=∃B d,e=.returned (.slice B 128 d)/\Rb w' B 128 d (kC g)/\Ext w w'
def ac7(w:κ)(T:aY)(g:List Int)(v iv:ξ)(wr:κ):Prop :=
 ∃(k:Nat) (B:aS) (d:Nat),v=.slice B (4*k) d/\iv=.int .i64 (k:Nat)/\k<=32/\Own wr (w.heap.size+1) 5 1 B (4*k) d (dK (kC (g.take k)))/\mD wr w.heap.size T g/\Ext w wr
theorem zg(w:κ)(g:List Int)(aT:pI g):τ prog 23 #[.agg (jj g)] w (GOf w g):=by
 have hg:=aT.1;obtain⟨i0,hi,dx,dA,dN⟩:=info_parts dX;go_enter func23,ntmps23;go_wp2_with fail;go_loopw [3,4] (fun v iv wr=>ac7 w 69 g v iv wr) (fun _ iv _=>32-(intOf iv).toNat)
 case atStart=>exact⟨0,none,0,rfl,rfl,η,Own.dR _ _ _ _,mD.yU _ _ hg bT,Ext.alloc _ _⟩
 case round =>
  obtain⟨k,B,d,rfl,rfl,hk,ho,hb,he⟩:=hrel;by_cases aX:k<32
  .have hc:=(hb.gm.2 k aX).1
   have vr:=Fh (g:=g) (k:=k) η;have hu:=Me (g.getD k 0);have hul:=Px (g.getD k 0);generalize g.getD k 0=x at*;generalize uns x=n at*;have Htk:=θ vr;clear vr;have Ik:(0:Int)<=(k:Int)/\(k:Int)<32:=η;go_wp2_with fail;refine(xo n wr hul).mono ?_;rintro e w2 ⟨B2,m2,d2,rfl,xY,e2⟩;have Fa:m2=4:=by have:=xY.len;simp at this;rw[ay]at this;simp[eO]at this;omega
   subst Fa;have hoo:=ho.ext e2;have IC:=hb.ext e2;have afD:=e2.size;have DR:=hb.lt;clear ho hb hc hu;go_wp2_with (at_builtin;refine aN _ rfl _ _ 30 rfl (w.heap.size+1) 5 i0 (.int .u8 0) 1 1 underlying30 hi dx dA dN rfl Γ B (4*k) d _ rfl hoo B2 4 d2 _ rfl xY.rd (ez _) iQ η η ?_;intro B' d' w' wV lY hw');have hne:bn B≠some w.heap.size:=fun e=>by have:=hoo.ax _ e;omega
   go_roundw
   case rel =>refine⟨k+1,B',d',by rw[RV],cR,aX,?_,IC.grown lY hne,Ext.own (he.trans e2) lY (fun j hj=>by have:=hoo.ax j hj;omega)⟩;rw[Htk.o,aJ,RV];exact wV
   case measure=>exact dB
  .have hd:=dh (k<32) aX;have Gj:=dh ((k:Int)<32);obtain rfl:k=32:=η;rw[jL η]at ho;have Ho:=θ ho;clear ho;go_wp2;go_ret;exact⟨B,d,rfl,Rb.of Ho.o.rd rfl,he⟩
theorem Py(W:κ)(hg:g.length=32)(hk:k<32):(Instr.index 205 (.agg (jj g)) (k:ξ)).run prog W=.ok (.int .i32 (g.getD k 0)) W:=by
 have hc:(jj g)[k]?=some (.int .i32 (g.getD k 0)):=O7 η;have hs:(sizeOf 21).run prog W=.ok 1 W:=ey;unfold Instr.index;simp[asIntOf,Sem.run_bind,run_underlying underlying205,hs,part,hc]
 intro h;omega
theorem oD(w:κ)(g:List Int)(aT:pI g):τ prog 196 #[.agg (jj g)] w (GOf w g):=by
 have hg:=aT.1;obtain⟨i0,hi,dx,dA,dN⟩:=info_parts dX;have aiW:=fun W k h=>Py W hg (k:=k) h;have ak0:=θ aiW;clear aiW;go_enter func196,ntmps196;go_wp2_with ((with_reducible refine eA rfl 205 (.tmp 1) rfl rfl underlying205 bu (g:=g) ?hg ?_);case hg=>exact(mD.yU _ _ hg bT).gm)
 go_loopw [3,7] (fun v iv wr=>ac7 w 205 g v iv wr) (fun _ iv _=>32-(intOf iv).toNat)
 case atStart=>exact⟨0,none,0,rfl,rfl,η,Own.dR _ _ _ _,mD.yU _ _ hg bT,Ext.alloc _ _⟩
 case round =>
  obtain⟨k,B,d,rfl,rfl,hk,ho,hb,he⟩:=hrel;by_cases aX:k<32
  .have Gj:=dQ ((k:Int)<32)
   have Ik:=fun W=>ak0.o W k aX;have vr:=Fh (g:=g) (k:=k) η;have hxk:jQ (g.getD k 0):=by rw[List.getD_eq_getElem?_getD,bf η];exact aT.2 _ (dH η)
   have hul:=Px (g.getD k 0);generalize g.getD k 0=x at*;have Htk:=θ vr;clear vr;go_wp2_with fail;refine(Ui x wr hxk).mono ?_;rintro e w2 ⟨B2,m2,d2,rfl,xY,e2⟩;have Fa:m2=4:=by have:=xY.len;simp at this;rw[ay]at this;simp[eO]at this;omega
   subst Fa;have hoo:=ho.ext e2;have IC:=hb.ext e2;have afD:=e2.size;have DR:=hb.lt;clear ho hb;go_wp2_with (at_builtin;refine aN _ rfl _ _ 30 rfl (w.heap.size+1) 5 i0 (.int .u8 0) 1 1 underlying30 hi dx dA dN rfl Γ B (4*k) d _ rfl hoo B2 4 d2 _ rfl xY.rd (ez _) iQ η η ?_;intro B' d' w' wV lY hw');have hne:bn B≠some w.heap.size:=fun e=>by have:=hoo.ax _ e;omega
   go_roundw
   case rel =>refine⟨k+1,B',d',by rw[RV],cR,aX,?_,IC.grown lY hne,Ext.own (he.trans e2) lY (fun j hj=>by have:=hoo.ax j hj;omega)⟩;rw[Htk.o,aJ,RV];exact wV
   case measure=>exact dB
  .have hd:=dh (k<32) aX;have Gj:=dh ((k:Int)<32);obtain rfl:k=32:=η;rw[jL η]at ho;have Ho:=θ ho;clear ho;go_wp2;go_ret;exact⟨B,d,rfl,Rb.of Ho.o.rd rfl,he⟩
def ah0(w:κ)(a b:vo)(iv:ξ)(wr:κ):Prop:=∃k:Nat,iv=.int .i64 (k:Nat)/\k<=a.length/\a.take k=b.take k/\wr=w
theorem GL(w:κ)(A:aS)(n c:Nat)(a:vo)(B:aS)(m d:Nat)(b:vo)(ha:Rp w A n c a)(hb:Rp w B m d b):τ prog 302 #[.slice A n c,.slice B m d,.func (.func 303) #[] #[]] w fun e w'=>e=.returned (.bool (a==b))/\w'=w:=by
 have hn:=ha.len;have hm:=hb.len;have hmx:=ha.max;have afE:=hb.max;unfold maxLen at hmx afE;by_cases hnm:n=m
 .have hq:((n:Int) != (m:Int))=false:=by rw[hnm];simp
  have Hn:=θ hn;have Hm:=θ hm;have Hnm:=θ hnm;clear hn hm hnm;go_enter func302,ntmps302;go_wp2_with fail;go_loopw [17] (fun iv wr=>ah0 w a b iv wr) (fun iv _=>a.length-(intOf iv).toNat)
  case atStart=>exact⟨0,rfl,η,bT,rfl⟩
  case round =>
   obtain⟨k,rfl,hk,vr,rfl⟩:=hrel;have h1:=Hn.o;have h2:=Hm.o;have h3:=Hnm.o;by_cases aX:k<n
   .have hka:k<a.length:=by omega
    have hkb:k<b.length:=η;obtain⟨ba,oa,Ai,ni,ci,rfl,hca,hra⟩:=ha.at_ hka;obtain⟨bb,ob,Bi,mi,di,rfl,V5,J9⟩:=hb.at_ hkb;have am0:(0:Int)<=(k:Int)/\(k:Int)<(m:Int):=η;have uG:a[k]=b[k]->a.take (k+1)=b.take (k+1):=fun e=>by rw[yt hka,yt hkb,vr,e]
    have hne:a[k]≠b[k]->(a==b)=false:=fun e=>beq_eq_false_iff_ne.2 (fun e2=>e (by subst e2;rfl));have ah2:=θ uG;have Hne:=θ hne;have hbe:=fun W h1 h2=>AD W Ai ni ci (a[k]'hka) Bi mi di (b[k]'hkb) h1 h2;have Hbe:=θ hbe;clear uG hne hbe vr h1 h2 h3;generalize a[k]=x at*;generalize b[k]=y at*;go_wp2_with fail;refine(Hbe.o _ hra J9).mono ?_;rintro e w1 ⟨rfl,rfl⟩;cases hxy:x==y
    .have hf:=Hne.o (beq_eq_false_iff_ne.1 hxy);have Hf:=θ hf;clear hf;go_wp2;go_ret;exact⟨by rw[Hf.o];rfl,rfl⟩
    .have ht:=ah2.o (beq_iff_eq.1 hxy)
     have Ht:=θ ht;clear ht;go_wp2;go_roundw
     case rel=>exact⟨k+1,cR,hka,Ht.o,rfl⟩
     case measure=>exact dB
   .have hd:=dh (k<n) aX
    have vf:(a==b)=true:=by rw[beq_iff_eq];rw[jL η,jL η]at vr;exact vr
    have Hab:=θ vf;clear vr vf h1 h2 h3;go_wp2;go_ret;exact⟨by rw[Hab.o];rfl,rfl⟩
 .have hq:((n:Int) != (m:Int))=true:=by rw[bne_iff_ne];omega
  have vf:(a==b)=false:=beq_eq_false_iff_ne.2 (fun e=>hnm (by rw[hn,hm,e]));rw[vf];clear hn hm vf;go_enter func302,ntmps302;go_wp2;go_ret;exact⟨rfl,rfl⟩
theorem pe.own{B0:Nat}{cs:List ξ}{v:ξ}(h:pe B0 T cs v w)(hm:cs.length<=maxLen):∃g,v=.slice (some ⟨g,0,none⟩) cs.length cs.length/\Own w B0 T 1 (some ⟨g,0,none⟩) cs.length cs.length cs:=by obtain⟨g,hv,hg,h⟩:=h;exact⟨g,hv,bT,.inr ⟨g,_,cs.toArray,rfl,hg,h,aq _,hm,bT,bT⟩⟩
def oF(p:Pk):List UInt8:=[eB (if p.iA then 2 else 1),eB p.src,eB p.dst]
def nN(id:Int)(p:Pk):List UInt8:=aV id++if p.iA then [] else aV p.first++aV p.dP++aV p.frame++eO p.sum++aV p.ν.length++eF p.ν
def pL(id:Int)(p:Pk):List UInt8:=oF p++nN id p
def aG(id:Int)(p:Pk):List UInt8:=pL id p++eO (sn (pL id p))
theorem ur(k a b:Nat)(hk:k<256)(ha:a<256)(hb:b<256):dK [eB k,eB a,eB b]=[.int .u8 (k:Nat),.int .u8 (a:Nat),.int .u8 (b:Nat)]:=by simp[dK,aU hk,aU ha,aU hb]
theorem eN(n:Nat):(eO n).length=4:=rfl
theorem qA:∀(n:Nat) (l:aD) (a:UInt8),l.length<=n->(ko a l).length<=11*l.length
 |_,[],a,_=>by rw[th];simp
 |0,c::r,a,h=>by simp at h
 |n+1,c::r,a,h=>by rw[zb];have h1:=qz c r;have h2:=J4 c (c::r);have h3:=cI ((iE c (c::r):Nat):Int);have h4:=qA n ((c::r).drop (iE c (c::r))) c (by rw[Bq,h1];simp at h⊢;omega);rw[Bq]at h4;simp only[eU,lf,BF]at*;omega
theorem xu(id:Int)(p:Pk)(h:p.ν.length<=32):(pL id p).length<=500:=by have h1:=cI id;have h2:=cI p.first;have h3:=cI p.dP;have h4:=cI p.frame;have h5:=cI p.ν.length;have h6:=qA _ p.ν 0 (aq _);have h7:=eN p.sum;unfold pL oF nN eF;split<;>simp only[eU,lf,BF]<;>omega
theorem ID(id:Int)(p:Pk)(h:p.ν.length<=32):(aG id p).length<=504:=by have:=xu id p h;unfold aG;rw[eU,eN];omega
theorem AE(h:mw p):p.ν.length<=32:=by
 obtain⟨_,_,_,⟨_,_,e,_⟩|⟨_,_,_,_,e,_⟩⟩:=uo h
 .rw[e];simp
 .exact e
section
variable(a b c:Int)(w:κ)
theorem aeq:(Instr.index 421 (.agg #[a,b,c]) (.int .i64 0)).run prog w=.ok (a:ξ) w:=ey
theorem aer:(Instr.index 421 (.agg #[a,b,c]) (.int .i64 1)).run prog w=.ok (b:ξ) w:=ey
theorem aes:(Instr.index 421 (.agg #[a,b,c]) (.int .i64 2)).run prog w=.ok (c:ξ) w:=ey
end
def ah3(w w2:κ)(T:aY)(f:Nat->List UInt8)(v i:ξ)(wr:κ):Prop:=∃(j:Nat) (B:aS) (m d:Nat),i=.int .i64 (j:Nat)/\j<=3/\v=.slice B m d/\Own wr (w.heap.size+1) T 1 B m d (dK (f j))/\Ext w wr/\(∀o v,w2.cell? ⟨w.heap.size,o,none⟩=some v->wr.cell? ⟨w.heap.size,o,none⟩=some v)/\w2.heap.size<=wr.heap.size
section
variable(w:κ)(id:Int)(p:Pk)(A:aS)(n c:Nat)(hp:mw p)(hid:vb id)(hb:Rb w A n c p.ν)
include hp hid hb
theorem RX:τ prog 320 #[lB id p A n c] w (Made w 5 1 (dK (aG id p))):=by
 obtain⟨i0,hi,dx,dA,dN⟩:=info_parts dX;have hn:=hb.len;subst hn;have hmx:=hb.max;have kY:=fun W=>aem W id p A p.ν.length c hp hid rfl hmx;have ku:=θ kY;obtain⟨hs,hd,hne,hw⟩:=uo hp;unfold vb at hid;unfold lB at*;clear kY hp;have hlen:p.ν.length<=32:=by rcases hw with ⟨_,_,e,_⟩|⟨_,_,_,_,e,_⟩<;>simp[e]
 have DR:=xu id p hlen;obtain⟨Z,hZ⟩:∃Z,aG id p=Z:=⟨_,rfl⟩;rw[hZ];have HZ:=θ hZ;clear hZ;rcases hw with ⟨hq,hf,tO,K0,iU,tP⟩|⟨hq,hf,K0,iU,tO,tP⟩
 .have hk:fM p=2:=by simp[fM,hq]
  rw[hk]at ku⊢;clear hk;clear hmx hf tO K0 iU tP;have qU:pL id p=oF p++nN id p:=rfl;simp only[oF,nN,hq,if_true]at qU;have Fi:=θ qU;clear qU hq;have hsw:qO.wrap ((p.src:Nat):Int)=((p.src:Nat):Int):=Ec;have hdw:qO.wrap ((p.dst:Nat):Int)=((p.dst:Nat):Int):=Ec;go_enter func320,ntmps320;go_wp2_with fail;generalize hV:aB w _=V;have eV:Ext w V:=by subst hV;exact Ext.alloc _ _
  have q0:V.cell? w.heap.size=some (.int .i64 2):=ir;have q1:V.cell? (w.heap.size,1)=some (p.src:ξ):=ir;have q2:V.cell? (w.heap.size,2)=some (p.dst:ξ):=ir;have q3:V.cell? (w.heap.size,3)=some (id:ξ):=ir;have q4:V.cell? (w.heap.size,4)=some (p.first:ξ):=ir;have q5:V.cell? (w.heap.size,5)=some (.slice A p.ν.length c):=ir;have q6:V.cell? (w.heap.size,6)=some (p.dP:ξ):=ir;have q7:V.cell? (w.heap.size,7)=some (p.frame:ξ):=ir;have q8:V.cell? (w.heap.size,8)=some (.int .u32 (p.sum:Nat)):=ir;clear hV;refine(ku.o V).mono ?_;rintro e w1 ⟨rfl,e1⟩;have q0:=e1.cell q0;have q1:=e1.cell q1;have q2:=e1.cell q2;have q3:=e1.cell q3;have q4:=e1.cell q4;have q5:=e1.cell q5;have q6:=e1.cell q6;have q7:=e1.cell q7;have q8:=e1.cell q8;have x1:=eV.trans e1;have pz:w.heap.size+1<=w1.heap.size:=mG _ _ q0;clear e1 eV;have aX:w.heap.size<w1.heap.size:=pz;go_wp2_with fail;generalize hV1:aB w1 _=V1;have Ds:Ext w1 V1:=by subst hV1;exact Ext.alloc _ _
  have o1:Own V1 (w.heap.size+1) 5 1 (some ⟨w1.heap.size,0,none⟩) 3 3 (dK [eB 2,eB p.src,eB p.dst]):=by subst hV1;rw[ur 2 p.src p.dst Γ η η];exact Own.made w1 (w.heap.size+1) _ 1 _ 3 pz Γ rfl
  have q0:=Ds.cell q0;have q1:=Ds.cell q1;have q2:=Ds.cell q2;have q3:=Ds.cell q3;have q4:=Ds.cell q4;have q5:=Ds.cell q5;have q6:=Ds.cell q6;have q7:=Ds.cell q7;have q8:=Ds.cell q8;have x2:=x1.trans Ds;have xZ:w.heap.size+1<=V1.heap.size:=aF pz Ds.size;clear hV1 Ds x1 aX;refine(kg (w.heap.size+1) _ 3 3 _ id V1 η η o1 Γ xZ).mono ?_;rintro e w2 ⟨B,m,d,rfl,o2,g2,_⟩;have agC:∀g,bn (some (⟨w1.heap.size,0,none⟩:cJ))=some g->w.heap.size≠g:=fun g hg=>by simp[bn]at hg;omega
  have q0:=g2.cell q0 va;have q1:=g2.cell q1 va;have q2:=g2.cell q2 va;have q3:=g2.cell q3 va;have q4:=g2.cell q4 va;have q5:=g2.cell q5 va;have q6:=g2.cell q6 va;have q7:=g2.cell q7 va;have q8:=g2.cell q8 va;have x3:=Ext.own x2 g2 (fun k hk=>by simp[bn]at hk;omega);have Uj:w.heap.size+1<=w2.heap.size:=aF xZ g2.size;have aX:w.heap.size<w2.heap.size:=Uj;have hm:m<=13:=by have:=o2.len;have h9:=cI id;simp[ay]at this;omega
  clear o1 g2 x2 xZ pz agC;go_wp2_with fail;obtain⟨X,hX⟩:∃X,[eB 2,eB p.src,eB p.dst]++aV id=X:=⟨_,rfl⟩;rw[hX]at o2;have HX:Hq (X=pL id p):=θ (by rw[Fi.o,Af];exact hX.symm);clear hX;have Gk:=o2;have xX:=x3;have hbX:=Uj;clear q0 q1 q2 q3 q4 q5 q6 q7 q8;have Pz:sn X<4294967296:=Au X;refine(JS _ B m d X (Rb.of Gk.rd rfl)).mono ?_;rintro e w7 ⟨rfl,rfl⟩;go_wp2_with fail;refine(EM (sn X) _ Pz).mono ?_;rintro e w8 ⟨F,Fm,Fd,rfl,zE,e8⟩;have V6:Fm=4:=afb;subst V6;have Li:=Gk.ext e8;have xX8:=xX.trans e8;have Mf:w.heap.size+1<=w8.heap.size:=aF hbX e8.size;go_wp2_with (at_builtin;refine aN _ rfl _ _ 30 rfl (w.heap.size+1) 5 i0 (.int .u8 0) 1 1 underlying30 hi dx dA dN rfl Γ B m d _ rfl Li F 4 Fd _ rfl zE.rd (ez _) iQ η Mf ?_;intro E Ed VV fQ fN oY);go_ret;refine⟨E,_,Ed,rfl,?_,Ext.own xX8 fN (fun k hk=>afk)⟩;rw[←HZ.o];unfold aG;rw[aJ,←HX.o];exact fQ.mono (CH _)
 .have hk:fM p=1:=by simp[fM,hq]
  rw[hk]at ku⊢;clear hk;clear hmx tO;have qU:pL id p=oF p++nN id p:=rfl;simp only[oF,nN,hq,if_false,ac4]at qU;have Fi:=θ qU;clear qU hq;have hsw:qO.wrap ((p.src:Nat):Int)=((p.src:Nat):Int):=Ec;have hdw:qO.wrap ((p.dst:Nat):Int)=((p.dst:Nat):Int):=Ec;go_enter func320,ntmps320;go_wp2_with fail;generalize hV:aB w _=V;have eV:Ext w V:=by subst hV;exact Ext.alloc _ _
  have q0:V.cell? w.heap.size=some (.int .i64 1):=ir;have q1:V.cell? (w.heap.size,1)=some (p.src:ξ):=ir;have q2:V.cell? (w.heap.size,2)=some (p.dst:ξ):=ir;have q3:V.cell? (w.heap.size,3)=some (id:ξ):=ir;have q4:V.cell? (w.heap.size,4)=some (p.first:ξ):=ir;have q5:V.cell? (w.heap.size,5)=some (.slice A p.ν.length c):=ir;have q6:V.cell? (w.heap.size,6)=some (p.dP:ξ):=ir;have q7:V.cell? (w.heap.size,7)=some (p.frame:ξ):=ir;have q8:V.cell? (w.heap.size,8)=some (.int .u32 (p.sum:Nat)):=ir;clear hV;refine(ku.o V).mono ?_;rintro e w1 ⟨rfl,e1⟩;have q0:=e1.cell q0;have q1:=e1.cell q1;have q2:=e1.cell q2;have q3:=e1.cell q3;have q4:=e1.cell q4;have q5:=e1.cell q5;have q6:=e1.cell q6;have q7:=e1.cell q7;have q8:=e1.cell q8;have x1:=eV.trans e1;have pz:w.heap.size+1<=w1.heap.size:=mG _ _ q0;clear e1 eV;have aX:w.heap.size<w1.heap.size:=pz;go_wp2_with fail;generalize hV1:aB w1 _=V1;have Ds:Ext w1 V1:=by subst hV1;exact Ext.alloc _ _
  have o1:Own V1 (w.heap.size+1) 5 1 (some ⟨w1.heap.size,0,none⟩) 3 3 (dK [eB 1,eB p.src,eB p.dst]):=by subst hV1;rw[ur 1 p.src p.dst Γ η η];exact Own.made w1 (w.heap.size+1) _ 1 _ 3 pz Γ rfl
  have q0:=Ds.cell q0;have q1:=Ds.cell q1;have q2:=Ds.cell q2;have q3:=Ds.cell q3;have q4:=Ds.cell q4;have q5:=Ds.cell q5;have q6:=Ds.cell q6;have q7:=Ds.cell q7;have q8:=Ds.cell q8;have x2:=x1.trans Ds;have xZ:w.heap.size+1<=V1.heap.size:=aF pz Ds.size;clear hV1 Ds x1 aX;refine(kg (w.heap.size+1) _ 3 3 _ id V1 η η o1 Γ xZ).mono ?_;rintro e w2 ⟨B,m,d,rfl,o2,g2,_⟩;have agC:∀g,bn (some (⟨w1.heap.size,0,none⟩:cJ))=some g->w.heap.size≠g:=fun g hg=>by simp[bn]at hg;omega
  have q0:=g2.cell q0 va;have q1:=g2.cell q1 va;have q2:=g2.cell q2 va;have q3:=g2.cell q3 va;have q4:=g2.cell q4 va;have q5:=g2.cell q5 va;have q6:=g2.cell q6 va;have q7:=g2.cell q7 va;have q8:=g2.cell q8 va;have x3:=Ext.own x2 g2 (fun k hk=>by simp[bn]at hk;omega);have Uj:w.heap.size+1<=w2.heap.size:=aF xZ g2.size;have hm:m<=13:=by have:=o2.len;have h9:=cI id;simp[ay]at this;omega
  clear o1 g2 x2 xZ pz agC;go_wp2_with fail;obtain⟨X0,Yn⟩:∃X,[eB 1,eB p.src,eB p.dst]++aV id=X:=⟨_,rfl⟩;rw[Yn]at o2;have V7:=θ Yn;have am1:X0.length<=13:=by have:=o2.len;rw[ay]at this;omega
  clear Yn;obtain⟨f,Ye⟩:∃f:Nat->List UInt8,f=fun j=>X0++([(p.first:Int),(p.dP:Int),(p.frame:Int)].take j).flatMap aV:=⟨_,rfl⟩;have DJ:∀j,j<=3->(f j).length<=13+10*j:=by
   intro j hj;have h1:=cI p.first;have h2:=cI p.dP;have h3:=cI p.frame;rw[Ye];match j,hj with
   |0,_=>simp;omega
   |1,_=>simp;omega
   |2,_=>simp;omega
   |3,_=>simp;omega
  have Yf:∀j (h:j<3),f (j+1)=f j++aV ([(p.first:Int),(p.dP:Int),(p.frame:Int)][j]):=by
   intro j hj;rw[Ye];match j,hj with
   |0,_=>simp
   |1,_=>simp
   |2,_=>simp
  have aiX:f 0=X0:=by rw[Ye];simp
  have hf3:f 3=X0++(aV p.first++aV p.dP++aV p.frame):=by rw[Ye];simp
  have Yo:=θ DJ;have Hfs:=θ Yf;have Hf0:=θ aiX;have Hf3:=θ hf3;clear Ye DJ Yf aiX hf3;go_loopw [3,32] (fun v i wr=>ah3 w w2 5 f v i wr) (fun _ i _=>3-(intOf i).toNat)
  case atStart=>exact⟨0,B,m,d,rfl,Γ,rfl,by rw[Hf0.o];exact o2,x3,fun _ _ h=>h,aq _⟩
  case round =>
   obtain⟨j9,B9,m9,d9,rfl,hj9,rfl,o9,x9,c9,h9⟩:=hrel;obtain rfl|rfl|rfl|rfl:j9=0\/j9=1\/j9=2\/j9=3:=η
   .have iY:=Yo.o 0 Γ
    have hs9:=Hfs.o 0 Γ;have hm9:m9<=43:=afe;have Hs9:=θ hs9;clear hs9;have Ik:=aeq p.first p.dP p.frame wr;go_wp2_with fail;refine(kg (w.heap.size+1) _ m9 d9 _ (p.first:Nat) wr η η o9 η η).mono ?_;rintro e w9 ⟨C,cm,cd,rfl,o10,GF,_⟩;go_wp2;go_roundw
    case rel=>exact⟨1,C,_,_,cR,Γ,rfl,by rw[Hs9.o];exact o10,Ext.own x9 GF (fun k hk=>afp),fun o v hv=>GF.cell (c9 o v hv) (fun e=>af1),aF h9 GF.size⟩
    case measure=>simp[intOf]
   .have iY:=Yo.o 1 Γ
    have hs9:=Hfs.o 1 Γ;have hm9:m9<=43:=afe;have Hs9:=θ hs9;clear hs9;have Ik:=aer p.first p.dP p.frame wr;go_wp2_with fail;refine(kg (w.heap.size+1) _ m9 d9 _ (p.dP:Nat) wr η η o9 η η).mono ?_;rintro e w9 ⟨C,cm,cd,rfl,o10,GF,_⟩;go_wp2;go_roundw
    case rel=>exact⟨2,C,_,_,cR,Γ,rfl,by rw[Hs9.o];exact o10,Ext.own x9 GF (fun k hk=>afp),fun o v hv=>GF.cell (c9 o v hv) (fun e=>af1),aF h9 GF.size⟩
    case measure=>simp[intOf]
   .have iY:=Yo.o 2 Γ
    have hs9:=Hfs.o 2 Γ;have hm9:m9<=43:=afe;have Hs9:=θ hs9;clear hs9;have Ik:=aes p.first p.dP p.frame wr;go_wp2_with fail;refine(kg (w.heap.size+1) _ m9 d9 _ (p.frame:Nat) wr η η o9 η η).mono ?_;rintro e w9 ⟨C,cm,cd,rfl,o10,GF,_⟩;go_wp2;go_roundw
    case rel=>exact⟨3,C,_,_,cR,Γ,rfl,by rw[Hs9.o];exact o10,Ext.own x9 GF (fun k hk=>afp),fun o v hv=>GF.cell (c9 o v hv) (fun e=>af1),aF h9 GF.size⟩
    case measure=>simp[intOf]
   .have r5:=c9 _ _ q5
    have r8:=c9 _ _ q8;have am2:=Yo.o 3 Γ;have hm9:m9<=43:=afe;have RB:p.ν.length<=32:=hlen;have lE:w.heap.size+1<=wr.heap.size:=η;have yb:bn B9≠some w.heap.size:=fun e9=>by have h8:w.heap.size+1<=w.heap.size:=o9.ax _ e9;omega
    have Dl:∀g,bn B9=some g->g<wr.heap.size:=vU o9;have ak1:p.sum<4294967296:=tP;clear c9 q0 q1 q2 q3 q4 q5 q6 q7 q8;go_wp2_with fail;apply Ar 8 (gR B9) (oM 4 B9) (gJ 4 (w.heap.size+1) 5 B9 m9 d9 (dK (f 3))) (gJ.start o9);simp only[tk];repeat apply gF (fun _ h _ _=>h.cell r8 yb)
    apply uI (p:=rE wr.heap.size 5 (dK (eO p.sum))) Γ Γ (rE.aQ Dl)
    .intro W hR hJ υ;refine(EM p.sum W ak1).mono ?_;rintro e W' ⟨B,m,d,rfl,ho,hg⟩;exact⟨_,rfl,hg.grownBy _,.inr hg,B,m,d,rfl,ho.mono hR.size⟩
    intro v1;simp only[pu];apply aE (p:=rE (w.heap.size+1) 5 (dK (f 3)++dK (eO p.sum))) Γ Γ rE.CE
    .rfl
    .intro W hR hJ υ
     obtain⟨B2,m2,d2,rfl,xY⟩:=υ.1 rfl;have Fa:m2=4:=by have:=xY.len;simp[ay,eN]at this;omega
     exact jB W _ _ 30 rfl (w.heap.size+1) 5 i0 (.int .u8 0) 1 underlying30 hi dx dA dN rfl B9 m9 d9 (dK (f 3)) rfl (hJ rfl) B2 m2 d2 _ rfl xY.rd (ez _) iQ η (aF lE hR.size)
    intro v3;simp only[pu];repeat apply gF (fun _ h _ _=>h.cell r5 yb)
    refine aP ?_;intro W2 jO _ υ;obtain⟨D,Dm,Dd,rfl,uF⟩:=υ.1 rfl;simp only[dk];clear υ;have hDm:Dm<=47:=by have:=uF.len;simp only[ay,eU,pK,eN]at this;omega
    have eD:Ext w W2:=Ext.own x9 jO (fun k hk=>afp);have s5:=jO.cell r5 yb;have PC:w.heap.size+1<=W2.heap.size:=aF lE (gR.size jO);rw[←aJ]at uF;clear r5 r8 yb Dl o9 jO;go_wp2_with fail;refine(kg (w.heap.size+1) D Dm Dd _ (p.ν.length:Nat) W2 η η uF η PC).mono ?_;rintro e w4 ⟨E,Em,Ed,rfl,o4,g4,_⟩;have x4:=Ext.own eD g4 (fun k hk=>afm);have s5:=g4.cell s5 (fun e9=>afa);have hb4:w.heap.size+1<=w4.heap.size:=aF PC g4.size;have hEm:Em<=57:=by have:=o4.len;have h8:=cI (p.ν.length:Nat);simp only[ay,eU,pK,eN]at this;omega
    clear g4 uF eD PC;go_wp2_with fail;refine(X4 w4 A _ c p.ν ((Rb.ext hb x4)) η).mono ?_;rintro e w5 ⟨F,Fm,Fd,rfl,o5,e5⟩;have o4:=o4.ext e5;have x5:=x4.trans e5;have hb5:w.heap.size+1<=w5.heap.size:=aF hb4 e5.size;have V6:Fm<=352:=by have:=o5.len;have h8:=qA _ p.ν 0 (aq _);unfold eF at this;rw[ay]at this;omega
    clear s5 e5 hb4;go_wp2_with (at_builtin;refine aN _ rfl _ _ 30 rfl (w.heap.size+1) 5 i0 (.int .u8 0) 1 1 underlying30 hi dx dA dN rfl Γ E Em Ed _ rfl o4 F Fm Fd _ rfl o5.rd (ez _) iQ η hb5 ?_;intro XA Xd wX Gk hgX _);have hbX:w.heap.size+1<=wX.heap.size:=aF hb5 hgX.size;have xX:=Ext.own x5 hgX (fun k hk=>by have:=o4.ax k hk;omega);rw[←aJ]at Gk;obtain⟨X,hX⟩:∃X,f 3++eO p.sum++aV ((p.ν.length:Nat):Int)++eF p.ν=X:=⟨_,rfl⟩;rw[hX]at Gk;have HX:Hq (X=pL id p):=θ (by rw[Fi.o,←hX,Hf3.o,←V7.o];simp[ic])
    clear hX;generalize ak2:Em+Fm=Xm at*;clear ak2;have Pz:sn X<4294967296:=Au X;have hXm:Xm<=500:=by have:=Gk.len;have h9:=DR;rw[←HX.o]at h9;rw[ay]at this;omega
    refine(JS _ XA Xm Xd X (Rb.of Gk.rd rfl)).mono ?_;rintro e w7 ⟨rfl,rfl⟩;go_wp2_with fail;refine(EM (sn X) _ Pz).mono ?_;rintro e w8 ⟨F,Fm,Fd,rfl,zE,e8⟩;have V6:Fm=4:=afb;subst V6;have Li:=Gk.ext e8;have xX8:=xX.trans e8;have Mf:w.heap.size+1<=w8.heap.size:=aF hbX e8.size;go_wp2_with (at_builtin;refine aN _ rfl _ _ 30 rfl (w.heap.size+1) 5 i0 (.int .u8 0) 1 1 underlying30 hi dx dA dN rfl Γ XA Xm Xd _ rfl Li F 4 Fd _ rfl zE.rd (ez _) iQ η Mf ?_;intro E Ed VV fQ fN oY);go_ret;refine⟨E,_,Ed,rfl,?_,Ext.own xX8 fN (fun k hk=>afk)⟩;rw[←HZ.o];unfold aG;rw[aJ,←HX.o];exact fQ.mono (CH _)
theorem Mg:τ prog 13 #[lB id p A n c] w (Made w 5 1 (dK (aG id p))):=by
 obtain⟨i0,hi,dx,dA,dN⟩:=info_parts dX;have hn:=hb.len;subst hn;have hmx:=hb.max;have kY:=fun W=>abx W id p A p.ν.length c hp hid rfl hmx;have ku:=θ kY;obtain⟨hs,hd,hne,hw⟩:=uo hp;unfold vb at hid;unfold lB at*;clear kY hp;have hlen:p.ν.length<=32:=by rcases hw with ⟨_,_,e,_⟩|⟨_,_,_,_,e,_⟩<;>simp[e]
 have DR:=xu id p hlen;obtain⟨Z,hZ⟩:∃Z,aG id p=Z:=⟨_,rfl⟩;rw[hZ];have HZ:=θ hZ;clear hZ;rcases hw with ⟨hq,hf,tO,K0,iU,tP⟩|⟨hq,hf,K0,iU,tO,tP⟩
 .have hk:fM p=2:=by simp[fM,hq]
  rw[hk]at ku⊢;clear hk;clear hmx hf tO K0 iU tP;have qU:pL id p=oF p++nN id p:=rfl;simp only[oF,nN,hq,if_true]at qU;have Fi:=θ qU;clear qU hq;have hsw:qO.wrap ((p.src:Nat):Int)=((p.src:Nat):Int):=Ec;have hdw:qO.wrap ((p.dst:Nat):Int)=((p.dst:Nat):Int):=Ec;go_enter func13,ntmps13;go_wp2_with fail;generalize hV:aB w _=V;have eV:Ext w V:=by subst hV;exact Ext.alloc _ _
  have q0:V.cell? w.heap.size=some (.int .i64 2):=ir;have q1:V.cell? (w.heap.size,1)=some (p.src:ξ):=ir;have q2:V.cell? (w.heap.size,2)=some (p.dst:ξ):=ir;have q3:V.cell? (w.heap.size,3)=some (id:ξ):=ir;have q4:V.cell? (w.heap.size,4)=some (p.first:ξ):=ir;have q5:V.cell? (w.heap.size,5)=some (.slice A p.ν.length c):=ir;have q6:V.cell? (w.heap.size,6)=some (p.dP:ξ):=ir;have q7:V.cell? (w.heap.size,7)=some (p.frame:ξ):=ir;have q8:V.cell? (w.heap.size,8)=some (.int .u32 (p.sum:Nat)):=ir;clear hV;refine(ku.o V).mono ?_;rintro e w1 ⟨rfl,e1⟩;have r0:=e1.cell q0;have r1:=e1.cell q1;have r2:=e1.cell q2;have r3:=e1.cell q3;have r4:=e1.cell q4;have r5:=e1.cell q5;have r6:=e1.cell q6;have r7:=e1.cell q7;have r8:=e1.cell q8;have x1:=eV.trans e1;have pz:w.heap.size+1<=w1.heap.size:=mG _ _ r0;have aX:w.heap.size<w1.heap.size:=pz;clear e1 eV q0 q1 q2 q3 q4 q5 q6 q7 q8;go_wp2_with fail;apply Ar 13 (gR none) (oM 99 none) (gJ 99 (w.heap.size+1) 5 none 0 0 []) (gJ.start (Own.dR w1 (w.heap.size+1) 5 1));simp only[tk];repeat apply gF (fun _ h _ _=>aj (h.cell r0 kW) (aj (h.cell r1 kW) (h.cell r2 kW)))
  apply aE (p:=pe w1.heap.size 5 (dK [eB 2,eB p.src,eB p.dst])) Γ Γ (pe.aQ kW)
  .rfl
  .intro W hR hJ υ;refine⟨.slice W.heap.size ((dK [eB 2,eB p.src,eB p.dst])).length ((dK [eB 2,eB p.src,eB p.dst])).length,W.alloc (.cells ((dK [eB 2,eB p.src,eB p.dst])).toArray 5),?_,(Ext.alloc _ _).grownBy _,.inr (Ext.alloc _ _),W.heap.size,rfl,hR.size,heap_alloc_new W _⟩;rw[ur 2 p.src p.dst Γ η η];go_simp;first|done|rfl
  intro v2;simp only[pu];repeat apply gF (fun _ h _ _=>h.cell r3 kW)
  apply uI (p:=rE w1.heap.size 5 (dK (aV id))) Γ Γ (rE.aQ kW)
  .intro W hR hJ υ;refine(ou (id) W η η).mono ?_;rintro e W' ⟨B,m,d,rfl,ho,nC,_⟩;have hg:=dV nC;exact⟨_,rfl,hg.grownBy _,.inr hg,B,m,d,rfl,ho.mono hR.size⟩
  intro v1;simp only[pu];refine aP ?_;intro W2 hR _ υ;obtain⟨F,Fm,Fd,rfl,zE⟩:=υ.1 rfl;obtain⟨g,rfl,PD⟩:=pe.own (υ.2.1 rfl) (by simp[ay,maxLen]);simp only[dk];clear υ;have V6:Fm<=10:=by have:=zE.len;have:=cI id;rw[ay]at*;omega
  have eW:=Ext.own x1 hR (fun k hk=>by simp[bn]at hk);have sj:w.heap.size+1<=W2.heap.size:=aF pz (gR.size hR);have r0:=hR.cell r0 kW;have r1:=hR.cell r1 kW;have r2:=hR.cell r2 kW;have r3:=hR.cell r3 kW;have r4:=hR.cell r4 kW;have r5:=hR.cell r5 kW;have r6:=hR.cell r6 kW;have r7:=hR.cell r7 kW;have r8:=hR.cell r8 kW;have PD:=PD.mono pz;simp only[ay,lf,BF,Nat.zero_add,ac1]at PD⊢;have fo:some w.heap.size≠bn (some (⟨g,0,none⟩:cJ)):=fun e9=>by have h8:w.heap.size+1<=w.heap.size:=PD.ax _ e9.symm;omega
  clear hR pz aX;go_wp2_with (at_builtin;refine aN _ rfl _ _ 30 rfl (w.heap.size+1) 5 i0 (.int .u8 0) 1 1 underlying30 hi dx dA dN rfl Γ (some ⟨g,0,none⟩) 3 3 _ rfl PD F Fm Fd _ rfl zE.rd (ez _) iQ η sj ?_;intro B0 B0d B0w Ca pE _;have r0:=cX.cell pE r0 fo;have r1:=cX.cell pE r1 fo;have r2:=cX.cell pE r2 fo;have r3:=cX.cell pE r3 fo;have r4:=cX.cell pE r4 fo;have r5:=cX.cell pE r5 fo;have r6:=cX.cell pE r6 fo;have r7:=cX.cell pE r7 fo;have r8:=cX.cell pE r8 fo);have afF:w.heap.size+1<=B0w.heap.size:=aF sj pE.size;have xB0:=Ext.own eW pE (fun k hk=>by have:=PD.ax k hk;omega);rw[←aJ]at Ca;obtain⟨B0m,Yp⟩:∃m,3+Fm=m:=⟨_,rfl⟩;have ak3:B0m<=13:=η;rw[Yp]at Ca⊢;clear Yp V6 PD zE sj eW fo pE;obtain⟨X0,Yn⟩:∃X,[eB 2,eB p.src,eB p.dst]++aV id=X:=⟨_,rfl⟩;rw[Yn]at Ca;have V7:=θ Yn;clear Yn;obtain⟨X,hX⟩:∃X,X0=X:=⟨_,rfl⟩;subst hX;have HX:Hq (X0=pL id p):=θ (by rw[Fi.o,Af];exact V7.o.symm);have Gk:=Ca;have xX:=xB0;have hbX:=afF;have Pz:sn X0<4294967296:=Au X0;refine(EO _ B0 B0m B0d X0 (Rb.of Gk.rd rfl)).mono ?_;rintro e w7 ⟨rfl,rfl⟩;go_wp2_with fail;refine(xo (sn X0) _ Pz).mono ?_;rintro e w8 ⟨F,Fm,Fd,rfl,zE,e8⟩;have V6:Fm=4:=afb;subst V6;have Li:=Gk.ext e8;have xX8:=xX.trans e8;have Mf:w.heap.size+1<=w8.heap.size:=aF hbX e8.size;go_wp2_with (at_builtin;refine aN _ rfl _ _ 30 rfl (w.heap.size+1) 5 i0 (.int .u8 0) 1 1 underlying30 hi dx dA dN rfl Γ B0 B0m B0d _ rfl Li F 4 Fd _ rfl zE.rd (ez _) iQ η Mf ?_;intro E Ed VV fQ fN oY);go_ret;refine⟨E,_,Ed,rfl,?_,Ext.own xX8 fN (fun k hk=>afk)⟩;rw[←HZ.o];unfold aG;rw[aJ,←HX.o];exact fQ.mono (CH _)
 .have hk:fM p=1:=by simp[fM,hq]
  rw[hk]at ku⊢;clear hk;clear hmx tO;have qU:pL id p=oF p++nN id p:=rfl;simp only[oF,nN,hq,if_false,ac4]at qU;have Fi:=θ qU;clear qU hq;have hsw:qO.wrap ((p.src:Nat):Int)=((p.src:Nat):Int):=Ec;have hdw:qO.wrap ((p.dst:Nat):Int)=((p.dst:Nat):Int):=Ec;go_enter func13,ntmps13;go_wp2_with fail;generalize hV:aB w _=V;have eV:Ext w V:=by subst hV;exact Ext.alloc _ _
  have q0:V.cell? w.heap.size=some (.int .i64 1):=ir;have q1:V.cell? (w.heap.size,1)=some (p.src:ξ):=ir;have q2:V.cell? (w.heap.size,2)=some (p.dst:ξ):=ir;have q3:V.cell? (w.heap.size,3)=some (id:ξ):=ir;have q4:V.cell? (w.heap.size,4)=some (p.first:ξ):=ir;have q5:V.cell? (w.heap.size,5)=some (.slice A p.ν.length c):=ir;have q6:V.cell? (w.heap.size,6)=some (p.dP:ξ):=ir;have q7:V.cell? (w.heap.size,7)=some (p.frame:ξ):=ir;have q8:V.cell? (w.heap.size,8)=some (.int .u32 (p.sum:Nat)):=ir;clear hV;refine(ku.o V).mono ?_;rintro e w1 ⟨rfl,e1⟩;have r0:=e1.cell q0;have r1:=e1.cell q1;have r2:=e1.cell q2;have r3:=e1.cell q3;have r4:=e1.cell q4;have r5:=e1.cell q5;have r6:=e1.cell q6;have r7:=e1.cell q7;have r8:=e1.cell q8;have x1:=eV.trans e1;have pz:w.heap.size+1<=w1.heap.size:=mG _ _ r0;have aX:w.heap.size<w1.heap.size:=pz;clear e1 eV q0 q1 q2 q3 q4 q5 q6 q7 q8;go_wp2_with fail;apply Ar 13 (gR none) (oM 99 none) (gJ 99 (w.heap.size+1) 5 none 0 0 []) (gJ.start (Own.dR w1 (w.heap.size+1) 5 1));simp only[tk];repeat apply gF (fun _ h _ _=>aj (h.cell r0 kW) (aj (h.cell r1 kW) (h.cell r2 kW)))
  apply aE (p:=pe w1.heap.size 5 (dK [eB 1,eB p.src,eB p.dst])) Γ Γ (pe.aQ kW)
  .rfl
  .intro W hR hJ υ;refine⟨.slice W.heap.size ((dK [eB 1,eB p.src,eB p.dst])).length ((dK [eB 1,eB p.src,eB p.dst])).length,W.alloc (.cells ((dK [eB 1,eB p.src,eB p.dst])).toArray 5),?_,(Ext.alloc _ _).grownBy _,.inr (Ext.alloc _ _),W.heap.size,rfl,hR.size,heap_alloc_new W _⟩;rw[ur 1 p.src p.dst Γ η η];go_simp;first|done|rfl
  intro v2;simp only[pu];repeat apply gF (fun _ h _ _=>h.cell r3 kW)
  apply uI (p:=rE w1.heap.size 5 (dK (aV id))) Γ Γ (rE.aQ kW)
  .intro W hR hJ υ;refine(ou (id) W η η).mono ?_;rintro e W' ⟨B,m,d,rfl,ho,nC,_⟩;have hg:=dV nC;exact⟨_,rfl,hg.grownBy _,.inr hg,B,m,d,rfl,ho.mono hR.size⟩
  intro v1;simp only[pu];refine aP ?_;intro W2 hR _ υ;obtain⟨F,Fm,Fd,rfl,zE⟩:=υ.1 rfl;obtain⟨g,rfl,PD⟩:=pe.own (υ.2.1 rfl) (by simp[ay,maxLen]);simp only[dk];clear υ;have V6:Fm<=10:=by have:=zE.len;have:=cI id;rw[ay]at*;omega
  have eW:=Ext.own x1 hR (fun k hk=>by simp[bn]at hk);have sj:w.heap.size+1<=W2.heap.size:=aF pz (gR.size hR);have r0:=hR.cell r0 kW;have r1:=hR.cell r1 kW;have r2:=hR.cell r2 kW;have r3:=hR.cell r3 kW;have r4:=hR.cell r4 kW;have r5:=hR.cell r5 kW;have r6:=hR.cell r6 kW;have r7:=hR.cell r7 kW;have r8:=hR.cell r8 kW;have PD:=PD.mono pz;simp only[ay,lf,BF,Nat.zero_add,ac1]at PD⊢;have fo:some w.heap.size≠bn (some (⟨g,0,none⟩:cJ)):=fun e9=>by have h8:w.heap.size+1<=w.heap.size:=PD.ax _ e9.symm;omega
  clear hR pz aX;go_wp2_with (at_builtin;refine aN _ rfl _ _ 30 rfl (w.heap.size+1) 5 i0 (.int .u8 0) 1 1 underlying30 hi dx dA dN rfl Γ (some ⟨g,0,none⟩) 3 3 _ rfl PD F Fm Fd _ rfl zE.rd (ez _) iQ η sj ?_;intro B0 B0d B0w Ca pE _;have r0:=cX.cell pE r0 fo;have r1:=cX.cell pE r1 fo;have r2:=cX.cell pE r2 fo;have r3:=cX.cell pE r3 fo;have r4:=cX.cell pE r4 fo;have r5:=cX.cell pE r5 fo;have r6:=cX.cell pE r6 fo;have r7:=cX.cell pE r7 fo;have r8:=cX.cell pE r8 fo);have afF:w.heap.size+1<=B0w.heap.size:=aF sj pE.size;have xB0:=Ext.own eW pE (fun k hk=>by have:=PD.ax k hk;omega);rw[←aJ]at Ca;obtain⟨B0m,Yp⟩:∃m,3+Fm=m:=⟨_,rfl⟩;have ak3:B0m<=13:=η;rw[Yp]at Ca⊢;clear Yp V6 PD zE sj eW fo pE;obtain⟨X0,Yn⟩:∃X,[eB 1,eB p.src,eB p.dst]++aV id=X:=⟨_,rfl⟩;rw[Yn]at Ca;have V7:=θ Yn;clear Yn;have lM:bn B0≠some w.heap.size:=fun e9=>by have h8:w.heap.size+1<=w.heap.size:=Ca.ax _ e9;omega
  have Kb:∀g,bn B0=some g->g<B0w.heap.size:=vU Ca;apply Ar 8 (gR B0) (oM 4 B0) (gJ 4 (w.heap.size+1) 5 B0 B0m B0d (dK X0)) (gJ.start Ca);simp only[tk];repeat apply gF (fun _ h _ _=>h.cell r4 lM)
  apply uI (p:=rE B0w.heap.size 5 (dK (aV p.first))) Γ Γ (rE.aQ Kb)
  .intro W hR hJ υ;refine(ou (p.first) W η η).mono ?_;rintro e W' ⟨B,m,d,rfl,ho,nC,_⟩;have hg:=dV nC;exact⟨_,rfl,hg.grownBy _,.inr hg,B,m,d,rfl,ho.mono hR.size⟩
  intro v1;simp only[pu];apply aE (p:=rE (w.heap.size+1) 5 (dK X0++dK (aV p.first))) Γ Γ rE.CE
  .rfl
  .intro W hR hJ υ
   obtain⟨B2,m2,d2,rfl,xY⟩:=υ.1 rfl;have Fa:m2<=10:=by have:=xY.len;have h9:=cI (p.first);rw[ay]at this;omega
   exact jB W _ _ 30 rfl (w.heap.size+1) 5 i0 (.int .u8 0) 1 underlying30 hi dx dA dN rfl B0 B0m B0d (dK X0) rfl (hJ rfl) B2 m2 d2 _ rfl xY.rd (ez _) iQ η (aF afF hR.size)
  intro v3;simp only[pu];repeat apply gF (fun _ h _ _=>h.cell r6 lM)
  apply uI (p:=rE B0w.heap.size 5 (dK (aV p.dP))) Γ Γ (rE.aQ Kb)
  .intro W hR hJ υ;refine(ou (p.dP) W η η).mono ?_;rintro e W' ⟨B,m,d,rfl,ho,nC,_⟩;have hg:=dV nC;exact⟨_,rfl,hg.grownBy _,.inr hg,B,m,d,rfl,ho.mono hR.size⟩
  intro v4;simp only[pu];refine aP ?_;intro D1w hR _ υ;obtain⟨D1F,agD,ak4,rfl,zE⟩:=υ.1 rfl;obtain⟨D1,D1m,D1d,rfl,uF⟩:=υ.2.1 rfl;simp only[dk];clear υ;have Ir:D1m<=13+10:=by have:=uF.len;have h7:=Ca.len;have h9:=cI (p.first);simp only[ay,eU,pK]at this h7;omega
  have Fa:agD<=10:=by have:=zE.len;have h9:=cI (p.dP);rw[ay]at this;omega
  have eD:=Ext.own xB0 hR (fun k hk=>by have:=Ca.ax k hk;omega);have PC:w.heap.size+1<=D1w.heap.size:=aF afF (gR.size hR);have r0:=hR.cell r0 lM;have r1:=hR.cell r1 lM;have r2:=hR.cell r2 lM;have r3:=hR.cell r3 lM;have r4:=hR.cell r4 lM;have r5:=hR.cell r5 lM;have r6:=hR.cell r6 lM;have r7:=hR.cell r7 lM;have r8:=hR.cell r8 lM;rw[←aJ]at uF;clear lM Kb hR;have fo:some w.heap.size≠bn D1:=fun e9=>afa;go_wp2_with (at_builtin;refine aN _ rfl _ _ 30 rfl (w.heap.size+1) 5 i0 (.int .u8 0) 1 1 underlying30 hi dx dA dN rfl Γ D1 D1m D1d _ rfl uF D1F agD ak4 _ rfl zE.rd (ez _) iQ η PC ?_;intro E1 E1d E1w PE Dt _;have r0:=cX.cell Dt r0 fo;have r1:=cX.cell Dt r1 fo;have r2:=cX.cell Dt r2 fo;have r3:=cX.cell Dt r3 fo;have r4:=cX.cell Dt r4 fo;have r5:=cX.cell Dt r5 fo;have r6:=cX.cell Dt r6 fo;have r7:=cX.cell Dt r7 fo;have r8:=cX.cell Dt r8 fo);have aiY:w.heap.size+1<=E1w.heap.size:=aF PC Dt.size;have xE1:=Ext.own eD Dt (fun k hk=>afm);rw[←aJ]at PE;obtain⟨E1m,aiZ⟩:∃m,D1m+agD=m:=⟨_,rfl⟩;have am3:E1m<=33:=η;rw[aiZ]at PE⊢;clear aiZ Ir Fa uF zE PC eD fo Dt;have lN:bn E1≠some w.heap.size:=fun e9=>by have h8:w.heap.size+1<=w.heap.size:=PE.ax _ e9;omega
  have Kc:∀g,bn E1=some g->g<E1w.heap.size:=vU PE;apply Ar 8 (gR E1) (oM 4 E1) (gJ 4 (w.heap.size+1) 5 E1 E1m E1d (dK (X0++(aV p.first)++(aV p.dP)))) (gJ.start PE);simp only[tk];repeat apply gF (fun _ h _ _=>h.cell r7 lN)
  apply uI (p:=rE E1w.heap.size 5 (dK (aV p.frame))) Γ Γ (rE.aQ Kc)
  .intro W hR hJ υ;refine(ou (p.frame) W η η).mono ?_;rintro e W' ⟨B,m,d,rfl,ho,nC,_⟩;have hg:=dV nC;exact⟨_,rfl,hg.grownBy _,.inr hg,B,m,d,rfl,ho.mono hR.size⟩
  intro v1;simp only[pu];apply aE (p:=rE (w.heap.size+1) 5 (dK (X0++(aV p.first)++(aV p.dP))++dK (aV p.frame))) Γ Γ rE.CE
  .rfl
  .intro W hR hJ υ
   obtain⟨B2,m2,d2,rfl,xY⟩:=υ.1 rfl;have Fa:m2<=10:=by have:=xY.len;have h9:=cI (p.frame);rw[ay]at this;omega
   exact jB W _ _ 30 rfl (w.heap.size+1) 5 i0 (.int .u8 0) 1 underlying30 hi dx dA dN rfl E1 E1m E1d (dK (X0++(aV p.first)++(aV p.dP))) rfl (hJ rfl) B2 m2 d2 _ rfl xY.rd (ez _) iQ η (aF aiY hR.size)
  intro v3;simp only[pu];repeat apply gF (fun _ h _ _=>h.cell r8 lN)
  apply uI (p:=rE E1w.heap.size 5 (dK (eO p.sum))) Γ Γ (rE.aQ Kc)
  .intro W hR hJ υ;refine(xo p.sum W tP).mono ?_;rintro e W' ⟨B,m,d,rfl,ho,hg⟩;exact⟨_,rfl,hg.grownBy _,.inr hg,B,m,d,rfl,ho.mono hR.size⟩
  intro v4;simp only[pu];refine aP ?_;intro D2w hR _ υ;obtain⟨D2F,agE,ak5,rfl,zE⟩:=υ.1 rfl;obtain⟨D2,D2m,D2d,rfl,uF⟩:=υ.2.1 rfl;simp only[dk];clear υ;have Ir:D2m<=33+10:=by have:=uF.len;have h7:=PE.len;have h9:=cI (p.frame);simp only[ay,eU,pK]at this h7;omega
  have Fa:agE<=4:=by have:=zE.len;have h9:=eN p.sum;rw[ay]at this;omega
  have eD:=Ext.own xE1 hR (fun k hk=>by have:=PE.ax k hk;omega);have PC:w.heap.size+1<=D2w.heap.size:=aF aiY (gR.size hR);have r0:=hR.cell r0 lN;have r1:=hR.cell r1 lN;have r2:=hR.cell r2 lN;have r3:=hR.cell r3 lN;have r4:=hR.cell r4 lN;have r5:=hR.cell r5 lN;have r6:=hR.cell r6 lN;have r7:=hR.cell r7 lN;have r8:=hR.cell r8 lN;rw[←aJ]at uF;clear lN Kc hR;have fo:some w.heap.size≠bn D2:=fun e9=>afa;go_wp2_with (at_builtin;refine aN _ rfl _ _ 30 rfl (w.heap.size+1) 5 i0 (.int .u8 0) 1 1 underlying30 hi dx dA dN rfl Γ D2 D2m D2d _ rfl uF D2F agE ak5 _ rfl zE.rd (ez _) iQ η PC ?_;intro E2 E2d E2w Fj Du _;have r0:=cX.cell Du r0 fo;have r1:=cX.cell Du r1 fo;have r2:=cX.cell Du r2 fo;have r3:=cX.cell Du r3 fo;have r4:=cX.cell Du r4 fo;have r5:=cX.cell Du r5 fo;have r6:=cX.cell Du r6 fo;have r7:=cX.cell Du r7 fo;have r8:=cX.cell Du r8 fo);have ai0:w.heap.size+1<=E2w.heap.size:=aF PC Du.size;have xE2:=Ext.own eD Du (fun k hk=>afm);rw[←aJ]at Fj;obtain⟨E2m,ai1⟩:∃m,D2m+agE=m:=⟨_,rfl⟩;have am4:E2m<=47:=η;rw[ai1]at Fj⊢;clear ai1 Ir Fa uF zE PC eD fo Du;have lP:bn E2≠some w.heap.size:=fun e9=>by have h8:w.heap.size+1<=w.heap.size:=Fj.ax _ e9;omega
  have Ke:∀g,bn E2=some g->g<E2w.heap.size:=vU Fj;apply Ar 9 (gR E2) (oM 5 E2) (gJ 5 (w.heap.size+1) 5 E2 E2m E2d (dK ((X0++(aV p.first)++(aV p.dP))++(aV p.frame)++(eO p.sum)))) (gJ.start Fj);simp only[tk];repeat apply gF (fun _ h _ _=>h.cell r5 lP)
  apply uI (p:=rE E2w.heap.size 5 (dK (aV p.ν.length))) Γ Γ (rE.aQ Ke)
  .intro W hR hJ υ;refine(ou (p.ν.length) W η η).mono ?_;rintro e W' ⟨B,m,d,rfl,ho,nC,_⟩;have hg:=dV nC;exact⟨_,rfl,hg.grownBy _,.inr hg,B,m,d,rfl,ho.mono hR.size⟩
  intro v1;simp only[pu];apply aE (p:=rE (w.heap.size+1) 5 (dK ((X0++(aV p.first)++(aV p.dP))++(aV p.frame)++(eO p.sum))++dK (aV p.ν.length))) Γ Γ rE.CE
  .rfl
  .intro W hR hJ υ
   obtain⟨B2,m2,d2,rfl,xY⟩:=υ.1 rfl;have Fa:m2<=10:=by have:=xY.len;have h9:=cI (p.ν.length);rw[ay]at this;omega
   exact jB W _ _ 30 rfl (w.heap.size+1) 5 i0 (.int .u8 0) 1 underlying30 hi dx dA dN rfl E2 E2m E2d (dK ((X0++(aV p.first)++(aV p.dP))++(aV p.frame)++(eO p.sum))) rfl (hJ rfl) B2 m2 d2 _ rfl xY.rd (ez _) iQ η (aF ai0 hR.size)
  intro v3;simp only[pu];repeat apply gF (fun _ h _ _=>h.cell r5 lP)
  apply uI (p:=rE E2w.heap.size 5 (dK (eF p.ν))) Γ Γ (rE.aQ Ke)
  .intro W hR hJ υ;refine(TV W A _ c p.ν (Rb.ext hb (Ext.own xE2 hR (fun k hk=>by have:=Fj.ax k hk;omega))) η).mono ?_;rintro e W' ⟨B,m,d,rfl,ho,hg⟩;exact⟨_,rfl,hg.grownBy _,.inr hg,B,m,d,rfl,ho.mono hR.size⟩
  intro v4;simp only[pu];refine aP ?_;intro D3w hR _ υ;obtain⟨D3F,agF,ak6,rfl,zE⟩:=υ.1 rfl;obtain⟨D3,D3m,D3d,rfl,uF⟩:=υ.2.1 rfl;simp only[dk];clear υ;have Ir:D3m<=47+10:=by have:=uF.len;have h7:=Fj.len;have h9:=cI (p.ν.length);simp only[ay,eU,pK]at this h7;omega
  have Fa:agF<=352:=by have:=zE.len;have h9:=qA _ p.ν 0 (aq _);unfold eF at this;rw[ay]at this;omega
  have eD:=Ext.own xE2 hR (fun k hk=>by have:=Fj.ax k hk;omega);have PC:w.heap.size+1<=D3w.heap.size:=aF ai0 (gR.size hR);have r0:=hR.cell r0 lP;have r1:=hR.cell r1 lP;have r2:=hR.cell r2 lP;have r3:=hR.cell r3 lP;have r4:=hR.cell r4 lP;have r5:=hR.cell r5 lP;have r6:=hR.cell r6 lP;have r7:=hR.cell r7 lP;have r8:=hR.cell r8 lP;rw[←aJ]at uF;clear lP Ke hR;have fo:some w.heap.size≠bn D3:=fun e9=>afa;go_wp2_with (at_builtin;refine aN _ rfl _ _ 30 rfl (w.heap.size+1) 5 i0 (.int .u8 0) 1 1 underlying30 hi dx dA dN rfl Γ D3 D3m D3d _ rfl uF D3F agF ak6 _ rfl zE.rd (ez _) iQ η PC ?_;intro E3 E3d E3w afG Dv _;have r0:=cX.cell Dv r0 fo;have r1:=cX.cell Dv r1 fo;have r2:=cX.cell Dv r2 fo;have r3:=cX.cell Dv r3 fo;have r4:=cX.cell Dv r4 fo;have r5:=cX.cell Dv r5 fo;have r6:=cX.cell Dv r6 fo;have r7:=cX.cell Dv r7 fo;have r8:=cX.cell Dv r8 fo);have ak7:w.heap.size+1<=E3w.heap.size:=aF PC Dv.size;have xE3:=Ext.own eD Dv (fun k hk=>afm);rw[←aJ]at afG;obtain⟨E3m,ai2⟩:∃m,D3m+agF=m:=⟨_,rfl⟩;have am5:E3m<=409:=η;rw[ai2]at afG⊢;clear ai2 Ir Fa uF zE PC eD fo Dv;obtain⟨X,hX⟩:∃X,(((X0++(aV p.first)++(aV p.dP))++(aV p.frame)++(eO p.sum))++(aV p.ν.length)++(eF p.ν))=X:=⟨_,rfl⟩;rw[hX]at afG;have HX:Hq (X=pL id p):=θ (by rw[Fi.o,←hX,←V7.o];simp[ic])
  clear hX;have Gk:=afG;have xX:=xE3;have hbX:=ak7;have Pz:sn X<4294967296:=Au X;refine(EO _ E3 E3m E3d X (Rb.of Gk.rd rfl)).mono ?_;rintro e w7 ⟨rfl,rfl⟩;go_wp2_with fail;refine(xo (sn X) _ Pz).mono ?_;rintro e w8 ⟨F,Fm,Fd,rfl,zE,e8⟩;have V6:Fm=4:=afb;subst V6;have Li:=Gk.ext e8;have xX8:=xX.trans e8;have Mf:w.heap.size+1<=w8.heap.size:=aF hbX e8.size;go_wp2_with (at_builtin;refine aN _ rfl _ _ 30 rfl (w.heap.size+1) 5 i0 (.int .u8 0) 1 1 underlying30 hi dx dA dN rfl Γ E3 E3m E3d _ rfl Li F 4 Fd _ rfl zE.rd (ez _) iQ η Mf ?_;intro E Ed VV fQ fN oY);go_ret;refine⟨E,_,Ed,rfl,?_,Ext.own xX8 fN (fun k hk=>afk)⟩;rw[←HZ.o];unfold aG;rw[aJ,←HX.o];exact fQ.mono (CH _)
end
theorem Mh:(prog.info? 3).map (fun i=>(i.zero,i.size,i.bytes))=some (some (.int .i64 0),1,8):=ey
theorem mR:(prog.info? 34).map (·.size)=some 9:=ey
theorem fq:(prog.info? 176).map (·.size)=some 3:=ey
def Yq(l:List Nat):List ξ:=l.map fun k=>.int .i64 (k:Nat)
def dZ(me k:Nat):List Nat:=(List.range k).filter (·≠me)
theorem nW(me k:Nat):dZ me (k+1)=if k=me then dZ me k else dZ me k++[k]:=by
 unfold dZ;rw[List.range_succ,List.filter_append];by_cases h:k=me
 .rw[if_pos h,List.filter_cons_of_neg (by simp[h])];simp
 .rw[if_neg h,List.filter_cons_of_pos (by simp[h])];rfl
theorem uu(me k:Nat):(dZ me k).length<=k:=aF (List.length_filter_le _ _) bT
section
variable {w w':κ}{T T':Tg}{t b:Nat}{cf:Cf}{me qb:Nat}{ps:Nat->Nat}{c:Cr}{mk:List Nat}
theorem Mi(h:ct w T t b cf me qb ps c mk)(hk:bz cf me c mk):τ prog 305 #[π b] w fun e w'=>∃B d,e=.returned (.slice B (c.others me).length d)/\Own w' w.heap.size 3 1 B (c.others me).length d (Yq (c.others me))/\Ext w w':=by
 obtain⟨i0,hi,dx,dA,dN⟩:=info_parts Mh;have jW:=hk.ok.n8;have KY:=hk.me;have Kf:c.others me=dZ me cf.n:=af8;rw[Kf];obtain⟨PA,pc,MA,mc,EA,ec,h1,_,_,_⟩:=h.bn;have c1:=(coreC h1).c1;have oA:=(coreC h1).oA;unfold π;clear h h1 hk Kf;go_enter func305,ntmps305;go_wp2_with fail;go_loopw [3,10] (fun v iv wr=>∃(k:Nat) (B:aS) (m d:Nat),iv=.int .i64 (k:Nat)/\k<=cf.n/\v=.slice B m d/\m=(dZ me k).length/\Own wr w.heap.size 3 1 B m d (Yq (dZ me k))/\Ext w wr) (fun _ iv _=>cf.n-(intOf iv).toNat)
 case atStart=>exact⟨0,none,0,0,rfl,aM _,rfl,rfl,Own.dR _ _ _ _,Ext.refl _⟩
 case round =>
  obtain⟨k,B,m,d,rfl,jk,rfl,hm,hO,hE⟩:=hrel;have Hm:=θ hm;have TA:m<=k:=by rw[hm];exact uu me k
  clear hm;by_cases jm:k<cf.n
  .have tP:=nW me k
   have d1:=hE.cell c1;have fV:=hE.size;by_cases X5:k=me
   .subst X5
    rw[if_pos rfl]at tP;have PF:=θ tP;clear tP;go_wp2;go_roundw
    case rel=>exact⟨k+1,B,m,d,cR,η,rfl,by rw[PF.o];exact Hm.o,by rw[PF.o];exact hO,hE⟩
    case measure=>exact dB
   .rw[if_neg X5]at tP
    have PF:=θ tP;have agG:((k:Int)==(me:Int))=false:=kO;clear tP;go_wp2_with (at_builtin;refine ag _ rfl _ _ 22 rfl w.heap.size 3 i0 (.int .i64 0) 1 8 underlying22 hi dx dA dN rfl Γ B m d _ rfl hO 1 _ rfl rfl gA iQ η fV ?_;intro E Ed wy fQ fN oY);go_roundw
    case rel=>exact⟨k+1,E,m+1,Ed,cR,η,rfl,by rw[PF.o,eU,List.length_singleton,Hm.o],by rw[PF.o];unfold Yq;rw[gS];exact fQ,Ext.own hE fN hO.ax⟩
    case measure=>exact dB
  .obtain rfl:k=cf.n:=by omega
   go_wp2;go_ret;rw[←Hm.o];exact⟨B,d,rfl,hO,hE⟩
def kU(src dst:Nat)(B:aS)(n d:Nat):ξ:=.agg #[src,dst,.slice B n d]
theorem Uk(h:ct w T t b cf me qb ps c mk)(hk:bz cf me c mk)(p:Pk)(A:aS)(n d:Nat)(hp:mw p)(iF:p.src=me)(hb:Rb w A n d p.ν)(q0 q1 q2:Int):τ prog 306 #[π b,.agg #[(fM p:Int),q0,q1,q2,p.first,.slice A n d,p.dP,p.frame,.int .u32 (p.sum:Nat)],p.dst] w fun e w'=>∃B bd,e=.returned (kU me p.dst B (aG cf.id p).length bd)/\Own w' w.heap.size 5 1 B (aG cf.id p).length bd (dK (aG cf.id p))/\Ext w w':=by
 have hid:vb (cf.id:Nat):=af5;obtain⟨PA,pc,MA,mc,EA,ec,h1,_,_,_⟩:=h.bn;have c1:=(coreC h1).c1;have c2:=(coreC h1).c2;have nK:=θ fun W (e:Ext w W)=>RX W (cf.id:Nat) p A n d hp hid (hb.ext e);have aX:=h1.lt;unfold π lB kU at*;rw[iF]at nK;generalize fM p=kp at*;clear h h1 hk hp hid hb iF;go_enter func306,ntmps306;go_wp2_with fail;go_region
 go_wp2_with fail;generalize hW:κ.drew _=W0;have x0:Ext w W0:=by subst hW;exact((Ext.alloc _ _).trans (Ext.alloc _ _)).trans (Ext.drew _)
 have bP:Has W0 (fun _=>0) 0 w.heap.size [kp,me,p.dst,cf.id,p.first,.slice A n d,p.dP,p.frame,.int .u32 (p.sum:Nat)]:=by subst hW;exact((Has.new w (fun _=>0) _ 34 rfl).ext (Ext.alloc _ _)).ext (Ext.drew _)
 have bM:Has W0 (fun _=>0) 0 (w.heap.size+1) [(0:Int),(0:Int),.slice none 0 0]:=by subst hW;exact(Has.new (w.alloc _) (fun _=>0) _ 176 bT).ext (Ext.drew _)
 clear hW c1 c2;have k0:=bP.zc 0;have k1:=bP.zc 1;have k2:=bP.zc 2;have k3:=bP.zc 3;have k4:=bP.zc 4;have k5:=bP.zc 5;have k6:=bP.zc 6;have k7:=bP.zc 7;have k8:=bP.zc 8;generalize hg:w.heap.size+1=gm at*;have HM:=θ bM;have qT:w.heap.size<=gm:=η;have CI:=bM.lt;clear bM hg bP;apply lG 6;simp only[tk];repeat apply lx9 k0 k1 k2 k3 k4 k5 k6 k7 k8
 apply BC (p:=fun u W=>∃B bd,u=.slice B (aG cf.id p).length bd/\Own W W0.heap.size 5 1 B (aG cf.id p).length bd (dK (aG cf.id p))) (fun _ _ _ ⟨B,bd,hv,h1⟩ he=>⟨B,bd,hv,h1.ext he⟩)
 .intro W hR υ;refine(nK.o W (x0.trans hR)).mono ?_;rintro e w' ⟨B,m,bd,rfl,ho,he⟩;have hm:m=(aG cf.id p).length:=Ld;subst hm;exact⟨_,rfl,he,B,bd,rfl,ho.mono hR.size⟩
 intro v1;simp only[pu];refine lex_nil ?_;intro Wx ak υ;obtain⟨B,bd,rfl,hB⟩:=υ.1 rfl;clear υ k0 k1 k2 k3 k4 k5 k6 k7 k8;simp only[dk];have bM:=HM.o.ext ak;generalize hE:aG cf.id p=E at*;have CJ:[af .i64 (me:Nat),p.dst,.slice B E.length bd].length=3:=rfl;have DS:[af .i64 0,(0:Int),.slice none 0 0].length=3:=rfl;have zI:∀u∈[af .i64 (me:Nat),p.dst,.slice B E.length bd],u.oneCell'=true:=gA;go_wp2_with (first|(with_reducible refine bE rfl 176 (.tmp 6) (.tmp 27) rfl rfl (us:=[.int .i64 (me:Nat),.int .i64 (p.dst:Nat),.slice B E.length bd]) rfl bM CJ DS fq zI ?_;intro Z bZ gZ sZ));have xx:=x0.trans ak;have eZ:=Ext.own (B:=some ⟨gm,0,none⟩) xx gZ (fun k hk=>Ww);have hBZ:Own Z w.heap.size 5 1 B E.length bd (dK E):=(hB.kept gZ (by
  rcases hb:bn B with _|g
  .exact .inl rfl
  .refine .inr fun e=>?_;have h1:=hB.ax g hb;have h2:g=gm:=kI.inj e;omega)).mono x0.size
 subst hE;exact bodyPost_ret (sQ rfl _ rfl bZ underlying176 fq) rfl ⟨B,bd,rfl,hBZ,eZ⟩
end
def Off(B:aS)(A:aS)(p:aD):Prop:=0<p.length->∀g,bn A=some g->bn B≠some g
def tQ(w:κ)(base:Nat)(B:aS)(n d:Nat)(ps:vo):Prop :=
 base<=w.heap.size/\∃hs:List (Option cJ×Nat×Nat),Own w base 30 1 B n d (hs.map hdr)/\hs.length=ps.length/\∀(i:Nat) h p,hs[i]?=some h->ps[i]?=some p->(Rb w h.1 h.2.1 h.2.2 p/\Off B h.1 p)/\(0<p.length->∀g,bn h.1=some g->base<=g)
section
variable {w w' W wy:κ}{base:Nat}{A B E:aS}{n c d m Ed:Nat}{ps:vo}{l:aD}
theorem tQ.dR(hb:base<=w.heap.size):tQ w base none 0 0 []:=⟨hb,[],Own.dR _ _ _ _,rfl,fun i h p hi=>Ee⟩
section
variable(h:tQ w base B n d ps)
include h
theorem tQ.ext(e:Ext w w'):tQ w' base B n d ps:=by obtain⟨h0,hs,h1,h2,h3⟩:=h;exact⟨aF h0 e.size,hs,h1.ext e,h2,fun i a p ha hp=>⟨⟨(h3 i a p ha hp).1.1.ext e,(h3 i a p ha hp).1.2⟩,(h3 i a p ha hp).2⟩⟩
theorem tQ.rp:Rp w B n d ps:=by obtain⟨_,hs,h1,h2,h3⟩:=h;exact⟨hs,h1.rd,h2,fun i a p ha hp=>(h3 i a p ha hp).1.1⟩
theorem tQ.len:n=ps.length:=h.rp.len
end
theorem tQ.app{hs:List (Option cJ×Nat×Nat)}(De:base<=w.heap.size)(ho:Own w base 30 1 B n d (hs.map hdr))(hl:hs.length=ps.length)(he:∀(i:Nat) h p,hs[i]?=some h->ps[i]?=some p->(Rb w h.1 h.2.1 h.2.2 p/\Off B h.1 p)/\(0<p.length->∀g,bn h.1=some g->base<=g))(hx:Ext w W)(hr:Rb W A m c l)(hA:0<l.length->∀g,bn A=some g->w.heap.size<=g)(fQ:Own wy base 30 1 E (n+1) Ed (hs.map hdr++[.slice A m c]))(hg:W.grownBy wy (bn B))(hw:bn E=bn B\/∀k,bn E=some k->W.heap.size<=k):tQ wy base E (n+1) Ed (ps++[l]):=by
 refine⟨aF De (aF hx.size hg.size),hs++[(A,m,c)],by rw[gS];exact fQ,by simp[hl],fun i h p hi hp=>?_⟩;have key:∀A' m' c' (l':aD),Rb W A' m' c' l'->Off B A' l'->Rb wy A' m' c' l'/\Off E A' l':=by
  intro A' m' c' l' h1 h2;have hlen:=h1.len;refine⟨Rd.fc h1 fun h0 k hk=>hg.block k (Rd.Gf h1 h0 hk) (fun e=>h2 η k hk e.symm),fun h0 g kL=>?_⟩;rcases hw with h|h
  .rw[h];exact h2 h0 g kL
  .intro e;have:=h g e;have:=Rd.Gf h1 η kL;omega
 by_cases qV:i<hs.length
 .rw[kn qV]at hi;rw[kn η]at hp;obtain⟨⟨h1,h2⟩,h3⟩:=he i h p hi hp;exact⟨key _ _ _ _ (h1.ext hx) h2,h3⟩
 .have Yr:i=hs.length:=by
   have:=(List.getElem?_eq_some_iff.1 hi).1;simp at this
   omega
  subst Yr;rw[ij (aq _)]at hi;rw[hl,ij (aq _)]at hp;simp only[Yl,List.getElem?_cons_zero,kI.injEq]at hi hp;subst hi;subst hp;refine⟨key _ _ _ _ hr fun h0 g kL e=>?_,fun h0 g kL=>aF De (hA h0 g kL)⟩;have h1:=hA h0 g kL;obtain⟨a,ha,vf⟩:=Option.map_eq_some_iff.1 e;have:=(ho.gU a ha).2;rw[vf]at this;omega
end
theorem Rb.AF{o:Nat}(h:Rb w (some ⟨b,o,none⟩) n c l)(hk:k<n):Rb w (some ⟨b,o+k,none⟩) (n-k) (c-k) (l.drop k):=by have h2:=h.drop (Nat.le_of_lt hk);have:=h.max;rw[if_neg η]at h2;simp only[Option.map_some,cJ.add_lit]at h2;exact h2
theorem xz(n:Int):0<(aV n).length:=by unfold aV tX;split<;>simp
theorem RY(hj:j<l.length):0<iE l[j] (l.drop j)/\j+iE l[j] (l.drop j)<=l.length/\(∀h:j+iE l[j] (l.drop j)<l.length,l[j+iE l[j] (l.drop j)]≠l[j])/\(∀i (h1:j<=i) (h2:i<j+iE l[j] (l.drop j)) (h3:i<l.length),l[i]=l[j]):=by
 have hd:l.drop j=l[j]::l.drop (j+1):=yo hj;have hle:=J4 l[j] (l.drop j);rw[Bq]at hle;have key:∀(c:UInt8) (m:aD),(∀h:iE c m<m.length,m[iE c m]≠c)/\∀i (h:i<iE c m) (h2:i<m.length),m[i]=c:=by
  intro c m;induction m with
  |nil=>exact⟨fun h=>by simp[iE]at h,fun i h=>by simp[iE]at h⟩
  |cons x m ih =>
   by_cases e:x=c
   .subst e
    refine⟨fun h=>?_,fun i h h2=>?_⟩
    .simp only[qz]at h⊢;rw[L8];exact ih.1 Lh
    .rw[qz]at h
     cases i with
     |zero=>rfl
     |succ i=>rw[L8];exact ih.2 i η Gw
   .have h0:iE c (x::m)=0:=by simp[iE,e]
    refine⟨fun h=>?_,fun i h=>η⟩;simp only[h0];exact e
 have hk:=key l[j] (l.drop j);refine⟨by rw[hd,qz];omega,η,fun h=>?_,fun i h1 h2 h3=>?_⟩
 .have:=hk.1 tU;rw[Ix]at this;exact this
 .have:=hk.2 (i-j) η tU;rw[Ix]at this;simpa [show j+(i-j)=i by omega] using this
theorem RZ{x:UInt8}(hj:j<l.length):ko x (l.drop j)=aV ((iE l[j] (l.drop j):Nat):Int)++((l[j] ^^^ x)::ko l[j] (l.drop (j+iE l[j] (l.drop j)))):=by have hd:l.drop j=l[j]::l.drop (j+1):=yo hj;have:=zb x l[j] (l.drop (j+1));rw[←hd]at this;rw[this,ac2];simp[ic]
theorem Ys{a b:UInt8}(h:a≠b):(a ^^^ b).toNat≠0:=by intro e;apply h;have:a ^^^ b=0:=UInt8.toNat_inj.1 (by rw[e];rfl);exact UInt8.xor_eq_zero_iff.1 this
theorem Mj(x c:UInt8):x ^^^ (c ^^^ x)=c:=by rw[UInt8.xor_comm c x,←UInt8.xor_assoc,UInt8.xor_self,UInt8.zero_xor]
theorem IE{c:UInt8}(h:j+i<l.length)(hc:l[j+i]=c):l.take (j+i)++[c]=l.take (j+(i+1)):=by rw[←Nat.add_assoc,oz,bf h,hc];rfl
def ah4(T:aY)(w:κ)(l:aD)(v a i:ξ)(wr:κ):Prop :=
 ∃(k j:Nat) (B:aS) (d:Nat) (x:UInt8),i=.int .i64 (k:Nat)/\k<=(eF l).length/\j<=l.length/\v=.slice B j d/\a=.int .u8 (x.toNat:Nat)/\Own wr w.heap.size T 1 B j d (dK (l.take j))/\(eF l).drop k=ko x (l.drop j) /\
  (k=0->j=0)/\(0<k->∀h:j<l.length,l[j]≠x)/\Ext w wr
theorem PG(w:κ)(A:aS)(n c:Nat)(l:aD)(hb:Rb w A n c (eF l))(h32:l.length<=32):τ prog 323 #[.slice A n c,(32:Int)] w fun e w'=>∃B d,e=.returned (.tuple #[.slice B l.length d,(0:Int)])/\Own w' w.heap.size 5 1 B l.length d (dK l)/\Ext w w':=by
 obtain⟨i0,hi,dx,dA,dN⟩:=info_parts dX;have hn:=hb.len;subst hn;have hmx:=hb.max;have hLl:=qA _ l 0 (aq _);have am6:(eF l).length<=352:=by unfold eF;omega
 clear hLl;unfold maxLen at hmx;go_enter func323,ntmps323;go_wp2_with fail;go_loopw [6,7,8] (fun v a i wr=>ah4 5 w l v a i wr) (fun _ _ i _=>(eF l).length-(intOf i).toNat)
 case atStart=>exact⟨0,0,none,0,0,rfl,aM _,aM _,rfl,rfl,Own.dR _ _ _ _,rfl,fun _=>rfl,fun h=>absurd h Γ,Ext.refl _⟩
 case round =>
  obtain⟨k,j,B,d,x,rfl,hk,hj,rfl,rfl,ho,kz,vq,Dp,hx⟩:=hrel;by_cases iY:j<l.length
  .have Pb:=RZ (x:=x) iY
   obtain⟨Rq,RM,qw,hq3⟩:=RY iY;rw[Pb]at kz;clear Pb;obtain⟨u,hu⟩:∃u,l[j]=u:=⟨_,rfl⟩;have Yt:0<k->u≠x:=fun h=>hu▸Dp h iY;rw[hu]at Rq RM qw hq3 kz;generalize iE u (l.drop j)=q at*;obtain⟨g,hg⟩:∃g,(aV ((q:Nat):Int)).length=g:=⟨_,rfl⟩;have nC:0<g:=hg▸xz _;have afH:g<=10:=hg▸cI _;have hlen:=congrArg List.length kz;rw[Bq,eU,lf,hg]at hlen;have jk:k+g<(eF l).length:=η;have yL:Ef ((eF l).drop k)=(((q:Nat):Int),g,0):=by rw[kz,zT η η,hg]
   have Ml:(eF l)[k+g]=u ^^^ x:=by
    have h1:((eF l).drop k)[g]' tU=u ^^^ x:=by simp only[kz];rw[ac3 η];simp[hg]
    rw[Ix]at h1;exact h1
   have Mm:(eF l).drop (k+(g+1))=ko u (l.drop (j+q)):=by
    have h2:((eF l).drop k).drop (g+1)=ko u (l.drop (j+q)):=by rw[kz,Ym,hg,show g+1-g=1 by omega,Jt (by rw[hg];omega)];rfl
    rw[ac2]at h2;exact h2
   have Bl:=hb.ext hx;obtain⟨b,o,rfl,hc⟩:=Bl.at_ (k:=k+g) jk;rw[Ml]at hc;have hcut:=Bl.AF (k:=k) η;have hxb:=TU x (u ^^^ x);rw[Mj]at hxb;have hz:((u ^^^ x).toNat:Int)=0->k=0:=fun h=>by
    rcases rA k with h0|h0
    .exact h0
    .exact absurd η (Ys (Yt h0))
   have hxl:(u ^^^ x).toNat<256:=(u ^^^ x).toNat_lt;generalize (u ^^^ x).toNat=y at*;have hkg:cQ.wrap ((k:Int)+(g:Int))=((k+g:Nat):Int):=by rw[pS _ η];omega
   obtain⟨e,he⟩:∃e,k+g=e:=⟨_,rfl⟩;rw[he]at hkg hc;have BX:e<(eF l).length:=η;have Di:=dh ((eF l).length<=e);have hd3:=dh ((q:Int)<1);have Yu:=dh (q<1);have hd4:=dh ((32:Int)-(j:Int)<(q:Int));have jm:k<(eF l).length:=η;have hG:=fun W h=>RH (some ⟨b,o+k,none⟩) ((eF l).length-k) (c-k) ((eF l).drop k) W h;simp only[yL]at hG;have HG:=θ hG;have Hq2:=θ qw;have Hq3:=θ hq3;have Yv:=θ Mm;have He:=θ he;clear hG yL qw hq3 Mm kz Ml hlen he hg hu Dp Yt vq jk;have hy:(((y:Int)==0)=true/\(y==0)=true/\decide (0<k)=false/\decide ((0:Int)<(k:Int))=false)\/(((y:Int)==0)=false/\(y==0)=false):=by
    by_cases h:y=0
    .have EK:=hz η;exact .inl ⟨by rw[h];rfl,by rw[h];rfl,zG η,zG η⟩
    .exact .inr ⟨kO,by rw[beq_eq_false_iff_ne];exact h⟩
   clear hz;go_wp2_with fail;refine(HG.o wr hcut).mono ?_;rintro ev w9 ⟨rfl,rfl⟩;rcases hy with ⟨hy1,hy2,hy3,hy4⟩|⟨hy1,hy2⟩
   all_goals
    go_wp2_with fail;go_loopw [6,67] (fun v i wx=>∃(r:Nat) (C:aS) (cd:Nat),i=.int .i64 (r:Nat)/\r<=q/\v=.slice C (j+r) cd/\Own wx w.heap.size 5 1 C (j+r) cd (dK (l.take (j+r)))/\Ext w wx) (fun _ i _=>q-(intOf i).toNat)
    case atStart=>exact⟨0,B,d,rfl,aM _,rfl,ho,hx⟩
    case round =>
     obtain⟨r,C,cd,rfl,hr,rfl,xY,yc⟩:=hrel;by_cases hrq:r<q
     .have uh:l.take (j+r)++[u]=l.take (j+(r+1)):=IE η (Hq3.o _ η η η)
      have E4:=θ uh;clear uh;go_wp2_with (at_builtin;refine ag _ rfl _ _ 30 rfl w.heap.size 5 i0 (.int .u8 0) 1 1 underlying30 hi dx dA dN rfl Γ C (j+r) cd _ rfl xY 1 _ rfl rfl gA iQ η yc.size ?_;intro E Ed wy fQ fN oY);go_roundw
      case rel=>exact⟨r+1,E,Ed,cR,η,rfl,by rw[←E4.o,aJ];exact fQ,Ext.own yc fN xY.ax⟩
      case measure=>exact dB
     .obtain rfl:r=q:=by omega
      go_wp2;go_roundw
      case rel =>refine⟨k+(g+1),j+r,C,cd,u,cR,by have:=He.o;omega,RM,rfl,rfl,xY,Yv.o,fun h=>η,fun _ h=>Hq2.o h,yc⟩
      case measure=>exact dB
  .obtain rfl:j=l.length:=by omega
   have gf:k=(eF l).length:=by have:=congrArg List.length kz;rw[Db,th,Bq]at this;simp only[BF]at this;omega
   rw[sU]at ho;have Di:=dh (k<(eF l).length);clear kz vq Dp gf;go_wp2;go_ret2
   exact⟨B,d,rfl,ho,hx⟩
def abC(T:aY)(w:κ)(l:aD)(bv v a f:ξ)(wr:κ):Prop :=
 ∃(j:Nat) (B:aS) (d:Nat) (x:UInt8) (A:aS) (n c:Nat),bv=.slice A n c/\Rb w A n c (ko x (l.drop j))/\j<=l.length/\v=.slice B j d/\a=.int .u8 (x.toNat:Nat)/\f=.bool (decide (j=0))/\Own wr w.heap.size T 1 B j d (dK (l.take j)) /\
  (0<j->∀h:j<l.length,l[j]≠x)/\Ext w wr
def ac8:ξ->Nat|.slice _ n _=>n|_=>0
theorem Mn(w:κ)(A:aS)(n c:Nat)(l:aD)(hb:Rb w A n c (eF l))(h32:l.length<=32):τ prog 214 #[.slice A n c,(32:Int)] w fun e w'=>∃B d,e=.returned (.tuple #[.slice B l.length d,(0:Int)])/\Own w' w.heap.size 5 1 B l.length d (dK l)/\Ext w w':=by
 obtain⟨i0,hi,dx,dA,dN⟩:=info_parts dX;have hmx:=hb.max;unfold maxLen at hmx;go_enter func214,ntmps214;go_wp2_with fail;go_loopw [0,6,7,8] (fun bv v a f wr=>abC 5 w l bv v a f wr) (fun bv _ _ _ _=>ac8 bv)
 case atStart=>exact⟨0,none,0,0,A,n,c,rfl,hb,aM _,rfl,rfl,rfl,Own.dR _ _ _ _,fun h=>absurd h Γ,Ext.refl _⟩
 case round =>
  obtain⟨j,B,d,x,A,n,c,rfl,hb,hj,rfl,rfl,rfl,ho,Dp,hx⟩:=hrel;have hn:=hb.len;have hmx:=hb.max;have hLl:=qA _ (l.drop j) x (aq _);have amL:n<=352:=by rw[Bq]at hLl;omega
  clear hLl;unfold maxLen at hmx;by_cases iY:j<l.length
  .have Pb:=RZ (x:=x) iY
   obtain⟨Rq,RM,qw,hq3⟩:=RY iY;obtain⟨u,hu⟩:∃u,l[j]=u:=⟨_,rfl⟩;have Yt:0<j->u≠x:=fun h=>hu▸Dp h iY;rw[hu]at Rq RM qw hq3 Pb;generalize iE u (l.drop j)=q at*;rw[Pb]at hn hb;obtain⟨g,hg⟩:∃g,(aV ((q:Nat):Int)).length=g:=⟨_,rfl⟩;have nC:0<g:=hg▸xz _;have afH:g<=10:=hg▸cI _;rw[eU,lf,hg]at hn;have hgn:g<n:=η;have yL:=zT (n:=(q:Nat)) η η ((u ^^^ x)::ko u (l.drop (j+q)));rw[hg]at yL;have Bl:=hb.ext hx;have fV:0<n:=η;have Ul:n=(aV ((q:Nat):Int)++((u ^^^ x)::ko u (l.drop (j+q)))).length:=hb.len;obtain⟨b,o,rfl,hc⟩:=Bl.at_ (k:=g) η;have Ml:(aV ((q:Nat):Int)++((u ^^^ x)::ko u (l.drop (j+q))))[g]' η=u ^^^ x:=by rw[ac3 η];simp[hg]
   rw[Ml]at hc;have hdr:(aV ((q:Nat):Int)++((u ^^^ x)::ko u (l.drop (j+q)))).drop (g+1)=ko u (l.drop (j+q)):=by rw[Ym,hg,show g+1-g=1 by omega,Jt (by rw[hg];omega)];rfl
   have Mm:∃A',(if c=g+1 then some (⟨b,o,none⟩:cJ) else some ⟨b,o+(g+1),none⟩)=A'/\Rb w A' (n-(g+1)) (c-(g+1)) (ko u (l.drop (j+q))):=by
    have h9:=hb.drop (k:=g+1) η;rw[hdr]at h9;refine⟨_,rfl,?_⟩;split at h9
    .rename_i e9;rw[if_pos e9];exact h9
    .rename_i e9;rw[if_neg e9];simpa [cJ.add_lit] using h9
   have hxb:=TU x (u ^^^ x);rw[Mj]at hxb;have hz:(u ^^^ x).toNat=0->j=0:=fun h=>by
    rcases rA j with h0|h0
    .exact h0
    .exact absurd h (Ys (Yt h0))
   have hxl:(u ^^^ x).toNat<256:=(u ^^^ x).toNat_lt;have hG:=fun W h=>EL (some ⟨b,o,none⟩) n c _ W (hr:=(h:Rb W (some ⟨b,o,none⟩) n c (aV ((q:Nat):Int)++((u ^^^ x)::ko u (l.drop (j+q))))));simp only[yL]at hG;have HG:=θ (hG wr Bl);generalize (u ^^^ x).toNat=y at*;have hd3:=dh ((q:Int)<1);have Yu:=dh (q<1);have hd4:=dh ((32:Int)-(j:Int)<(q:Int));have hd5:((n:Int)==(g:Int))=false:=kO;have agH:(n==g)=false:=kO;have Hq2:=θ qw;have Hq3:=θ hq3;have Yv:=θ Mm;have Hhn:=θ hn;have hy:(((y:Int)==0)=true/\(y==0)=true/\decide (j=0)=true)\/(((y:Int)==0)=false/\(y==0)=false):=by
    by_cases h:y=0
    .have EK:=hz η;exact .inl ⟨by rw[h];rfl,by rw[h];rfl,zF EK⟩
    .exact .inr ⟨kO,by rw[beq_eq_false_iff_ne];exact h⟩
   clear hG yL qw hq3 Mm Ml hg hu Dp Yt Pb hdr Ul hn hb Bl hz;obtain⟨fb,hfb⟩:∃fb,decide (j=0)=fb:=⟨_,rfl⟩;rw[hfb]at hy⊢;clear hfb;go_wp2_with fail;refine HG.o.mono ?_;rintro ev w9 ⟨rfl,rfl⟩;rcases hy with ⟨hy1,hy2,rfl⟩|⟨hy1,hy2⟩
   all_goals
    go_wp2_with fail;go_loopw [6,12] (fun v i wx=>∃(r:Nat) (C:aS) (cd:Nat),i=.int .i64 (r:Nat)/\r<=q/\v=.slice C (j+r) cd/\Own wx w.heap.size 5 1 C (j+r) cd (dK (l.take (j+r)))/\Ext w wx) (fun _ i _=>q-(intOf i).toNat)
    case atStart=>exact⟨0,B,d,rfl,aM _,rfl,ho,hx⟩
    case round =>
     obtain⟨r,C,cd,rfl,hr,rfl,xY,yc⟩:=hrel;by_cases hrq:r<q
     .have uh:l.take (j+r)++[u]=l.take (j+(r+1)):=IE η (Hq3.o _ η η η)
      have E4:=θ uh;clear uh;go_wp2_with (at_builtin;refine ag _ rfl _ _ 30 rfl w.heap.size 5 i0 (.int .u8 0) 1 1 underlying30 hi dx dA dN rfl Γ C (j+r) cd _ rfl xY 1 _ rfl rfl gA iQ η yc.size ?_;intro E Ed wy fQ fN oY);go_roundw
      case rel=>exact⟨r+1,E,Ed,cR,η,rfl,by rw[←E4.o,aJ];exact fQ,Ext.own yc fN xY.ax⟩
      case measure=>exact dB
     .obtain rfl:r=q:=by omega
      obtain⟨A9,hA9,PI⟩:=Yv.o;have hgw:cQ.wrap ((g:Int)+1)=((g+1:Nat):Int):=by rw[pS _ η];omega
      go_wp2;go_roundw
      case rel=>exact⟨j+r,C,cd,u,A9,_,_,rfl,PI,RM,rfl,rfl,by rw[zG η],xY,fun _ h=>Hq2.o h,yc⟩
      case measure=>simp[ac8];omega
  .obtain rfl:j=l.length:=by omega
   have gf:n=0:=by rw[hn,Db,th];rfl
   rw[sU]at ho;subst gf;clear Dp hn;go_wp2;go_ret2
   exact⟨B,d,rfl,ho,hx⟩
structure V8(w:κ)(R:Nat)(A:aS)(n c:Nat)(l:aD):Prop where
 c0:w.cell? R=some (.slice A n c)
 c1:w.cell? (R,1)=some (.bool false)
 f0:w.frozen? R=false
 f1:w.frozen? (R,1)=false
 rb:Rb w A n c l
 ne:∀a,A=some a->a.block≠R
theorem aI(w:κ)(a:cJ)(v:ξ):w.grownBy (w.setCell a v) (some a.block) :=
 ⟨rfl,rfl,rfl,C4,fun k _ hk=>fC.heap_setCell w a v k (by rintro rfl;exact hk rfl)⟩
theorem Rb.grown(h:Rb w A n c l){row:Option Nat}(hg:w.grownBy w' row)(hne:∀a,A=some a->row≠some a.block):Rb w' A n c l:=Rd.grown h hg hne
theorem Rb.ai3(h:Rb w A n c l)(hk:k<=n)(h0:0<n):∃b o,A=some ⟨b,o,none⟩/\∃A',(if c=k then some (⟨b,o,none⟩:cJ) else some ⟨b,o+k,none⟩)=A'/\Rb w A' (n-k) (c-k) (l.drop k)/\(∀a,A'=some a->a.block=b):=by
 obtain⟨b,o,e,_⟩:=h.2.2.2 η;subst e;refine⟨b,o,rfl,_,rfl,?_,?_⟩
 .have h9:=h.drop hk
  split at h9
  .rename_i e9;rw[if_pos e9];exact h9
  .rename_i e9;rw[if_neg e9];simpa [cJ.add_lit] using h9
 .intro a ha;split at ha<;>(cases ha;rfl)
theorem nO(w:κ)(R:Nat)(A:aS)(n c:Nat)(x:Int)(l:aD)(hR:V8 w R A n c (aV x++l))(h0:-9223372036854775808<=x)(h1:x<=9223372036854775807):τ prog 321 #[.pointer R] w fun e w'=>e=.returned (x:ξ)/\w.grownBy w' (some R)/\∃A' n' c',V8 w' R A' n' c' l/\(∀a',A'=some a'->∃a,A=some a/\a'.block=a.block):=by
 obtain⟨c0,c1,f0,f1,hb,hne⟩:=hR;have hn:=hb.len;have hmx:=hb.max;unfold maxLen at hmx;obtain⟨g,hg⟩:∃g,(aV x).length=g:=⟨_,rfl⟩;have nC:0<g:=hg▸xz _;have afH:g<=10:=hg▸cI _;rw[eU,hg]at hn;have yL:=zT h0 h1 l;rw[hg]at yL;obtain⟨b,o,rfl,A',N8,hcut,qE⟩:=hb.ai3 (k:=g) η η;have hdr:(aV x++l).drop g=l:=by rw[Ym,←hg];simp
 rw[hdr]at hcut;have hbR:b≠R:=hne _ rfl;have hG:=fun W h=>RH (some ⟨b,o,none⟩) n c (aV x++l) W h;simp only[yL]at hG;have HG:=θ (hG w hb);have hgn:g<=n:=η;have Fk:=θ hcut;have PJ:=θ qE;clear hG yL hcut qE hdr hg hn hb hne;go_enter func321,ntmps321;go_wp2_with fail;refine HG.o.mono ?_;rintro ev w9 ⟨rfl,rfl⟩;go_wp2;go_ret;refine⟨rfl,aK (aI _ _ _) (aI _ _ _),A',n-g,c-g,⟨?_,?_,?_,?_,?_,?_⟩,fun a' ha=>⟨_,rfl,PJ.o a' ha⟩⟩
 .go_simp
 .go_simp
 .go_simp
 .go_simp
 .exact Rb.grown Fk.o (aK (aI _ _ _) (aI _ _ _)) (fun a ha e=>hbR ((PJ.o a ha).symm.trans (kI.inj e).symm))
 .intro a ha;rw[PJ.o a ha];exact hbR
theorem Um(n:Nat)(h:n<4294967296):((eO n).map (·.toNat))=[n / 16777216,n / 65536 % 256,n / 256 % 256,n % 256]:=by simp only[eO,mF,tT];rw[aU η,aU η,aU η,aU η]
theorem Yw(a b:Nat)(ha:a<16777216)(hb:b<256):bits .or .u32 ((a*256:Nat):Int) (b:Int)=((a*256+b:Nat):Int):=by
 rw[u32_or_nat _ _ η η];congr 1
 have:=Nat.shiftLeft_add_eq_or_of_lt (b:=b) (i:=8) η a;rw[Nat.shiftLeft_eq]at this;exact this.symm
def Fl(n k:Nat):Nat:=n / 256 ^ (4-k)
theorem Mo(w:κ)(R:Nat)(A:aS)(n c:Nat)(x:Nat)(l:aD)(hR:V8 w R A n c (eO x++l))(hx:x<4294967296):τ prog 322 #[.pointer R] w fun e w'=>e=.returned (.int .u32 (x:Nat))/\w.grownBy w' (some R)/\∃A' n' c',V8 w' R A' n' c' l/\(∀a',A'=some a'->∃a,A=some a/\a'.block=a.block):=by
 obtain⟨c0,c1,f0,f1,hb,hne⟩:=hR;have hn:=hb.len;have hmx:=hb.max;unfold maxLen at hmx;rw[eU,eN]at hn;obtain⟨b,o,rfl,A',N8,hcut,qE⟩:=hb.ai3 (k:=4) η η;have hdr:(eO x++l).drop 4=l:=rfl;rw[hdr]at hcut;have hbR:b≠R:=hne _ rfl;have hbt:∀k (hk:k<4),∃y:Nat,w.cell? (b,o+k)=some (.int .u8 (y:Nat))/\y<256/\Fl x (k+1)=Fl x k*256+y/\Fl x k<16777216:=by
  intro k hk;obtain⟨b',o',e,hc⟩:=hb.at_ (k:=k) af2;cases e
  refine⟨_,hc,UInt8.toNat_lt _,?_⟩;have h4:=Um x hx;have e4:((eO x++l)[k]' af2).toNat=([x / 16777216,x / 65536 % 256,x / 256 % 256,x % 256])[k]' Ta:=by rw[List.getElem_append_left (by rw[eN];exact hk)];simp only[←h4,List.getElem_map]
  rw[e4];unfold Fl;match k,hk with
  |0,_=>simp;omega
  |1,_=>simp;omega
  |2,_=>simp;omega
  |3,_=>simp;omega
 have hgn:4<=n:=η;have Fk:=θ hcut;have PJ:=θ qE;have Hbt:=θ hbt;have h00:Fl x 0=0:=by simp[Fl];omega
 have h40:Fl x 4=x:=by simp[Fl]
 have H40:=θ h40;have Gj:=dh ((n:Int)<4);clear hbt hcut qE hdr hn hb hne h40;go_enter func322,ntmps322;go_wp2_with fail;generalize hW:κ.setCell w _ _=W1;have gW:w.grownBy W1 (some R):=by subst hW;exact aI _ _ _
 have c0:W1.cell? R=some (.slice (b,o) n c):=qF;have c1:W1.cell? (R,1)=some (.bool false):=qF;have f0:W1.frozen? R=false:=qF;have f1:W1.frozen? (R,1)=false:=qF;clear hW;go_loop [3,31] (fun s i=>∃k:Nat,i=.int .i64 (k:Nat)/\k<=4/\s=.int .u32 (Fl x k:Nat)) (fun _ i=>4-(intOf i).toNat)
 case atStart=>exact⟨0,rfl,Γ,by rw[h00];rfl⟩
 case round =>
  obtain⟨k,rfl,hk,rfl⟩:=hrel;by_cases Od:k<4
  .obtain⟨y,hy,hy2,hs,aX⟩:=Hbt.o k Od
   have hy:=gW.cell hy (by simp;exact hbR);have Xt:=Yw _ _ aX hy2;rw[←hs]at Xt;have Hs:=θ hs;clear hs;obtain⟨z,hz⟩:∃z,Fl x (k+1)=z:=⟨_,rfl⟩;rw[hz]at Xt;have Hz:=θ hz;clear hz;generalize Fl x k=a at*;have am7:bits .or .u32 ((a:Int)*256) (y:Int)=(z:Nat):=by rw[←Xt];congr 1
   clear Xt;have Ej:uK.wrap ((a:Int)*256)=(a:Int)*256:=Ec;go_wp2;go_round
   case rel=>exact⟨k+1,cR,η,by rw[Hz.o]⟩
   case measure=>exact dB
  .obtain rfl:k=4:=by omega
   rw[H40.o];clear h00;go_wp2;go_ret;refine⟨rfl,aK gW (aI _ _ _),A',⟨n-4,c-4,?_,?_,?_,?_,?_,?_⟩,fun a' ha=>PJ.o a' ha⟩
   .go_simp
   .go_simp
   .go_simp
   .go_simp
   .exact Rb.grown Fk.o (aK gW (aI _ _ _)) (fun a ha e=>hbR ((PJ.o a ha).symm.trans (kI.inj e).symm))
   .intro a ha;rw[PJ.o a ha];exact hbR
def iq(id:Int)(p:Pk):List Int:=if p.iA=true then [id] else [id,(p.first:Nat),(p.dP:Nat),(p.frame:Nat)]
def AG(p:Pk):List UInt8:=if p.iA=true then [] else eO p.sum++(aV p.ν.length++eF p.ν)
theorem Un(id:Int)(p:Pk):nN id p=(iq id p).flatMap aV++AG p:=by unfold nN iq AG;split<;>simp[ic]
theorem Yx(id:Int)(p:Pk):(iq id p).length<=4/\0<(iq id p).length:=by unfold iq;split<;>simp
def AH(ns:List Int)(k:Nat):Nat:=((ns.take k).flatMap aV).length
theorem Uo(ns:List Int):AH ns 0=0:=by simp[AH]
theorem Up(hk:k<ns.length):AH ns (k+1)=AH ns k+(aV ns[k]).length:=by unfold AH;rw[oz,bf hk,ny,eU];simp
theorem IF(ns:List Int)(tl:aD)(k:Nat):(ns.flatMap aV++tl).drop (AH ns k)=(ns.drop k).flatMap aV++tl:=by
 have h:ns.flatMap aV=(ns.take k).flatMap aV++(ns.drop k).flatMap aV:=by rw[←ny,List.take_append_drop]
 rw[h,ic];unfold AH;rw[List.drop_left]
theorem R1(tl:aD)(hk:k<ns.length):(ns.flatMap aV++tl).drop (AH ns k)=aV ns[k]++((ns.drop (k+1)).flatMap aV++tl):=by rw[IF,yo hk,List.flatMap_cons,ic]
theorem abD(tl:aD)(hk:k<ns.length):AH ns k+(aV ns[k]).length<=(ns.flatMap aV++tl).length:=by
 have h:(ns.flatMap aV++tl).length-AH ns k=(aV ns[k]).length+((ns.drop (k+1)).flatMap aV++tl).length:=by rw[←Bq,R1 tl hk,eU]
 have:=zQ ns[k];omega
def lC(ns:List Int)(k:Nat):List ξ:=(ns.take k).map (.int .i64)++List.replicate (4-k) (.int .i64 0)
theorem aet(hk:k<=ns.length)(h4:ns.length<=4):(lC ns k).length=4:=by unfold lC;rw[eU,xN,tN,List.length_replicate];omega
theorem aeu(hk:k<ns.length)(h4:ns.length<=4):(lC ns k).set k (.int .i64 ns[k])=lC ns (k+1):=by
 have hl:((ns.take k).map (af .i64)).length=k:=by rw[xN,tN];omega
 unfold lC;rw[List.set_append_right _ _ η,hl,Yl];obtain⟨d,hd⟩:∃d,4-k=d+1:=⟨3-k,η⟩;rw[hd,show 4-(k+1)=d by omega,List.replicate_succ,List.set_cons_zero,oz,bf hk,gS];simp
theorem abE(ns:List Int):lC ns 0=[.int .i64 0,.int .i64 0,.int .i64 0,.int .i64 0]:=by simp[lC]
theorem aev(id:Int)(p:Pk)(hq:p.iA=true->p.first=0/\p.dP=0/\p.frame=0):lC (iq id p) (iq id p).length=[.int .i64 id,.int .i64 (p.first:Nat),.int .i64 (p.dP:Nat),.int .i64 (p.frame:Nat)]:=by
 unfold iq;split
 .rename_i h;obtain⟨h1,h2,h3⟩:=hq h;rw[h1,h2,h3];simp[lC]
 .simp[lC]
theorem Yy(s:Nat)(hs:s<4294967296)(hk:k<4):(s / 256 ^ (4-k)*256+((eO s)[k]'(by rw[eN];exact hk)).toNat) % 4294967296=s / 256 ^ (4-(k+1)):=by
 match k,hk with
 |0,_=>simp only[eO,RW];rw[aU η];simp;omega
 |1,_=>simp only[eO,RW,L8];rw[aU η];simp;omega
 |2,_=>simp only[eO,RW,L8];rw[aU η];simp;omega
 |3,_=>simp only[eO,RW,L8];rw[aU η];simp;omega
def zh(gP gL gR:Nat):Tg:=fun k=>if k=gP then 1 else if k=gL then 2 else if k=gR then 3 else 0
theorem ah5(gP gL gR:Nat):zh gP gL gR gP=1:=by simp[zh]
theorem ac9(h:gP<gL):zh gP gL gR gL=2:=by unfold zh;rw[if_neg η,if_pos rfl]
theorem ada(h:gP<gL)(h2:gR<gP):zh gP gL gR gR=3:=by unfold zh;rw[if_neg η,if_neg η,if_pos rfl]
theorem Yz(h:gP<gL)(h2:gR<gP)(hk:k<gR\/gL<k):zh gP gL gR k=0:=by unfold zh;rw[if_neg η,if_neg η,if_neg η]
def IG(K:Int)(id fi ac fr:ξ)(p:Pk)(B:ξ)(s:Nat):List ξ:=[.int .i64 K,.int .i64 (p.src:Nat),.int .i64 (p.dst:Nat),id,fi,B,ac,fr,.int .u32 (s:Nat)]
def zPk:List ξ:=[.int .i64 0,.int .i64 0,.int .i64 0,.int .i64 0,.int .i64 0,.slice none 0 0,.int .i64 0,.int .i64 0,.int .u32 0]
def adb(w:κ)(gP gL gR:Nat)(K:Int)(ns:List Int)(p:Pk)(iv av:ξ)(wr:κ):Prop :=
 ∃k:Nat,iv=.int .i64 (k:Nat)/\k<=ns.length/\av=.int .i64 (AH ns k:Nat)/\Has wr (zh gP gL gR) 1 gP (IG K (.int .i64 0) (.int .i64 0) (.int .i64 0) (.int .i64 0) p (.slice none 0 0) 0) /\
  Has wr (zh gP gL gR) 2 gL (lC ns k)/\Has wr (zh gP gL gR) 3 gR zPk/\Ext w wr
def upF(i:Nat):List Nat:=if i=9 then [3] else if i=11 then [4] else if i=13 then [6] else if i=15 then [7] else []
theorem Kg(i:Nat):∀j∈upF i,j∈[3,4,6,7]:=by
 unfold upF;repeat' split
 all_goals simp
theorem ah6{T:Tg}{t:Nat}{vs:List ξ}{K:Int}{B:ξ}{s:Nat}{i0 f0 a0 r0 id fi ac fr:ξ}(hl:vs.length=9)(h0:∀j,j∉[3,4,6,7]->vs[j]?=(IG K i0 f0 a0 r0 p B s)[j]?)(hv:Has w T t b vs)(h3:mP T t b [(3,id)] w)(h4:mP T t b [(4,fi)] w)(h6:mP T t b [(6,ac)] w)(h7:mP T t b [(7,fr)] w):Has w T t b (IG K id fi ac fr p B s):=by
 have key:∀{kv},mP T t b kv w->∀q∈kv,vs[q.1]?=some q.2:=by rintro kv ⟨v1,h1,h2⟩ q hq;rw[hv.uniq h1];exact h2 q hq
 have e:vs=IG K id fi ac fr p B s:=by
  apply List.ext_getElem?;intro i;match i with
  |0=>exact h0 0 Γ
  |1=>exact h0 1 Γ
  |2=>exact h0 2 Γ
  |3=>exact key h3 (3,_) (sP.2 rfl)
  |4=>exact key h4 (4,_) (sP.2 rfl)
  |5=>exact h0 5 Γ
  |6=>exact key h6 (6,_) (sP.2 rfl)
  |7=>exact key h7 (7,_) (sP.2 rfl)
  |8=>exact h0 8 Γ
  |n+9=>rw[L9 η,L9 (by simp[IG])]
 rw[←e];exact hv
end Go.Proofs.YtffcefoadaogbaaGreat
