/- A part of the proof. -/
import Derived.Test.YtffcefoadaogbaaGreatS4
namespace Go.Proofs.YtffcefoadaogbaaGreat
open Go.RowKit
open Go.Proofs.Tryz
set_option linter.unusedVariables false
set_option maxRecDepth 100000
set_option maxHeartbeats 16000000
open Go.World renaming alloc->aB,block_lt_of_cell?->mG
open _root_.Int renaming eq_ofNat_of_zero_le->IA,toNat_natCast->L6
open Go renaming World->κ,Value->ξ
variable{G':List Int}{N b:Nat}{w w':κ}
theorem Rd.BY{size:Nat}{A:aS}{n c:Nat}{xs:List ξ}(h:Rd w size A n c xs){row:Option Nat}(hg:w.grownBy w' row)(hne:0<n->∀a,A=some a->row≠some a.block):Rd w' size A n c xs:=by refine⟨h.1,h.2.1,h.2.2.1,fun hn=>?_⟩;exact(h.grown hg (hne (Nat.pos_of_ne_zero fun h0=>by subst h0;simp at hn))).2.2.2 hn
theorem jg(w:κ)(b o:Nat)(u:ξ):w.grownBy (w.setCell (b,o) u) (some b):=⟨rfl,rfl,rfl,C4,fun k _ hk=>Below.heap_setCell w _ u k (by rintro rfl;exact hk rfl)⟩
theorem tv{w0:κ}(e:Ext w0 w)(h:w.grownBy w' (some b))(hb:w0.heap.size<=b):Ext w0 w':=Below.trans e (fW h e.size (fun k hk=>by cases hk;exact hb))
def Yj(t ν:aD)(frame:Int)(l:List dM)(w1:κ)(b:Nat)(G':List Int)(N:Nat)(av nv:ξ)(wr:κ):Prop :=
 ∃(i k:Nat) (g:List Int),av=.int .i64 (k:Nat)/\nv=.int .i64 (i:Nat)/\i<=200/\k<=l.length/\Gm wr b g/\pI g/\w1.grownBy wr (some b)/\(runN t ν frame l (200-i) k g).1=G'/\(runN t ν frame l (200-i) k g).2+i=N
theorem jC{t ν:aD}{frame:Int}{l:List dM}{w2 wr':κ}{f i k k':Nat}{gc g':List Int}{op:dM}{av nv:ξ}(hc:op.1≠0)(Ob:Hq (op.1≠0->runN t ν frame l (f+1) k gc=((runN t ν frame l f (iV t ν frame gc k op).2 (iV t ν frame gc k op).1).1,(runN t ν frame l f (iV t ν frame gc k op).2 (iV t ν frame gc k op).1).2+1)))(tV:Hq ((runN t ν frame l (f+1) k gc).1=G'))(GK:Hq ((runN t ν frame l (f+1) k gc).2+i=N))(DQ:Hq ((iV t ν frame gc k op).2<=l.length))(yl:Hq (pI (iV t ν frame gc k op).1))(Hf:Hq (200-(i+1)=f))(hi:i<200)(eo:iV t ν frame gc k op=(g',k'))(hav:av=.int .i64 (k':Nat))(hnv:nv=.int .i64 ((i+1:Nat):Int))(kS:w2.grownBy wr' (some b))(qT:Gm wr' b g'):Yj t ν frame l w2 b G' N av nv wr':=by
 have h1:=Ob.o hc;have h2:=tV.o;have h3:=GK.o;have h4:=DQ.o;have h5:=yl.o;rw[eo]at h1 h4 h5;rw[h1]at h2 h3;dsimp only at h2 h3 h4 h5
 exact⟨i+1,k',g',hav,hnv,η,h4,qT,h5,kS,by rw[Hf.o];exact h2,by rw[Hf.o];omega⟩
def RU(w:κ)(g:List Int)(n:Nat)(e:Ending)(w':κ):Prop:=e=.returned (.tuple #[.agg (jj g),n])/\Ext w w'
theorem J8{g:List Int}{a b:Int}(h:a=b):Ending.returned (.tuple #[.agg (jj g),a])=.returned (.tuple #[.agg (jj g),b]):=by rw[h]
section
variable(w:κ)(t:aD)(A:aS)(n c:Nat)(l:List dM)(frame:Int)(Pa:aS)(pn pc:Nat)
theorem Yk(g:List Int)(ht:t.length<=1099511627776)(hl:Ro w A n c l)(aT:pI g)(hf:fD t l≠-1):Calls prog 39 #[fX t A n c,.agg (jj g),frame,.slice Pa pn pc] w (RU w g 0):=by
 have rF:=aT.1;obtain⟨r,hr⟩:∃r,fD t l=r:=⟨_,rfl⟩;rw[hr]at hf;have hrf:=fun W h=>EU W t A n c l ht h;rw[hr]at hrf;have J9:(r != -1)=true:=by rw[bne_iff_ne];exact hf
 unfold fX at*;have Hrf:=θ hrf;clear hrf hr hf;go_enter func39,ntmps39;go_wp2_with fail;generalize hV:aB (aB (aB w _) _) _=V;have eV:Ext w V:=by subst hV;exact((Ext.alloc _ _).trans (Ext.alloc _ _)).trans (Ext.alloc _ _)
 have bR:mD V (w.heap.size+1+1) 69 nA:=by subst hV;exact mD.yU _ _ (g:=nA) rfl bT
 have bG:Gm V (w.heap.size+1) g:=by subst hV;exact((mD.yU _ _ rF bT).ext (Ext.alloc _ _)).gm
 clear hV;refine(Hrf.o _ (hl.ext eV)).mono ?_;rintro e w1 ⟨rfl,e1⟩;have gW:=bG.ext e1;have rW:=bR.ext e1;go_wp2_with (first
  | (with_reducible refine eA rfl 69 (.tmp 5) rfl rfl underlying69 eE gW ?_)
  | (with_reducible refine fe rfl 69 (.tmp 8) (.tmp 19) rfl rfl rfl rW rF eE ?_))
 have qT:=(rW.setRow rF).gm;exact bodyPost_ret (v:=.tuple #[.agg (jj g),(0:Int)]) (uj rfl _ rfl rfl qT underlying69 eE) rfl ⟨rfl,(eV.trans e1).setRow η _⟩
theorem Ua(ν:aD)(g:List Int)(ht:t.length<=1099511627776)(hl:Ro w A n c l)(hp:Rb w Pa pn pc ν)(aT:pI g)(hf:fD t l = -1):Calls prog 39 #[fX t A n c,.agg (jj g),frame,.slice Pa pn pc] w (RU w (runN t ν frame l 200 0 g).1 (runN t ν frame l 200 0 g).2):=by
 have rF:=aT.1;have hrf:=fun W h=>EU W t A n c l ht h;rw[hf]at hrf;obtain⟨oh,agy,_⟩:=Aw (Ey hf);have bW:=Hj hf;have hn:=hl.len;have hmx:=hl.max;unfold maxLen at hmx;unfold fX at*;have Hrf:=θ hrf;have oc:=θ bW;have Hn:=θ hn;obtain⟨G',Ub⟩:∃x,(runN t ν frame l 200 0 g).1=x:=⟨_,rfl⟩;obtain⟨N,hN⟩:∃x,(runN t ν frame l 200 0 g).2=x:=⟨_,rfl⟩;have L7:G'.length=32:=by rw[←Ub];exact(JN t ν frame l 200 0 aT).1.1
 rw[Ub,hN];have HG:=θ Ub;have HN:=θ hN;have Dq:=θ L7;clear hrf hf bW hn Ub hN L7;go_enter func39,ntmps39;go_wp2_with fail;generalize hV:aB (aB (aB w _) _) _=V;have eV:Ext w V:=by subst hV;exact((Ext.alloc _ _).trans (Ext.alloc _ _)).trans (Ext.alloc _ _)
 have bR:mD V (w.heap.size+1+1) 69 nA:=by subst hV;exact mD.yU _ _ (g:=nA) rfl bT
 have bG:Gm V (w.heap.size+1) g:=by subst hV;exact((mD.yU _ _ rF bT).ext (Ext.alloc _ _)).gm
 have c0:V.cell? w.heap.size=some (.string (bs t)):=ir;have c1:V.cell? (w.heap.size,1)=some (.slice A n c):=ir;clear hV;refine(Hrf.o _ (hl.ext eV)).mono ?_;rintro e w1 ⟨rfl,e1⟩;have d0:=e1.cell c0;have d1:=e1.cell c1;go_wp2_with fail;refine(Im _ t ht).mono ?_;rintro e w2 ⟨B,d,rfl,hoB,e2⟩;have q1:=e2.cell d1;have e12:=e1.trans e2;have xW:=eV.trans e12;have gW:=bG.ext e12;have rW:=bR.ext e12;have hbB:∀k,bn B=some k->w.heap.size+1<k:=fun k hk=>by have:=hoB.ax k hk;have:=bG.lt;have:=e1.size;omega
 clear c0 c1 d0 d1 e1 e2 bG bR Hrf e12;obtain⟨b,hb⟩:∃b,w.heap.size+1=b:=⟨_,rfl⟩;have sj:w.heap.size<b:=η;have Hb:=θ hb;rw[hb]at gW rW hbB;clear hb;go_wp2_with fail;rw[Hb.o];generalize w1.heap.size=B1 at*;go_loopw [10,11] (fun av nv wr=>Yj t ν frame l w2 b G' N av nv wr) (fun _ nv _=>200-(intOf nv).toNat)
 case atStart=>exact⟨0,0,g,rfl,rfl,η,η,gW,aT,κ.grownBy.refl _ _,HG.o,HN.o⟩
 case round =>
  obtain⟨i,k,gc,rfl,rfl,hi,hk,oN,BZ,ve,hG,hN⟩:=hrel;have tV:=θ hG;have GK:=θ hN;clear hG hN;have p1:wr.cell? (w.heap.size,1)=some (.slice A n c):=ve.cell q1 dw;have rR:=rW.grown ve bT;have xR:=tv xW ve η;have lW:Ro wr A n c l:=Rd.BY (Rd.ext hl xW) ve (fun h a ha=>by have:=Rd.lt hl η a ha;simp;omega);have pW:Rb wr Pa pn pc ν:=Rd.BY (Rd.ext hp xW) ve (fun h a ha=>by have:=Rd.lt hp η a ha;simp;omega);have oW:=hoB.kept ve (.inr (fun e=>by have:=hbB b e;omega));by_cases bU:i<200/\k<n
  .obtain⟨CG,jk⟩:=bU
   have jm:k<l.length:=by have:=Hn.o;omega
   have kY:=oc.o _ (List.getElem_mem jm);obtain⟨ab,ao,rfl,o0,o1,o2,o3⟩:=lW.at_ jm;obtain⟨f,hf⟩:∃f,200-i=f+1:=⟨199-i,η⟩;have hfi:200-(i+1)=f:=η;have Dr:=θ (fun h0=>BH t ν frame l f k gc jm h0);have Ob:=θ (fun h0=>JM t ν frame l f k gc jm h0);have DQ:=θ (Ry (t:=t) (ν:=ν) (frame:=frame) (g:=gc) kY jm);have yl:=θ (JL t ν frame BZ k l[k]);have hw:=Aj kY;have amY:ab<wr.heap.size:=mG wr _ o0;have hbw:=oN.lt;rw[hf]at tV GK;have Hf:=θ hfi;clear hf hfi kY lW;generalize l[k]=op at*;obtain⟨xc,x,y,z⟩:=op;dsimp only at o0 o1 o2 o3 hw
   by_cases hx:xc=0
   .subst hx
    have gf:=Dr.o rfl;have hG:=tV.o;have hN:=GK.o;rw[gf]at hG hN;dsimp only at hG hN
    subst hG;have HN3:=θ hN;have g1:=oN.ext (Ext.alloc wr (.cells #[(0:Int),x,y,z] 127));have r1:=rR.ext (Ext.alloc wr (.cells #[(0:Int),x,y,z] 127));have x1:=xR.trans (Ext.alloc wr (.cells #[(0:Int),x,y,z] 127));clear hN gf Dr Ob DQ yl hw;go_wp2_with (first
      | (with_reducible refine eA rfl 69 (.tmp 5) rfl rfl underlying69 eE g1 ?_)
      | (with_reducible refine fe rfl 69 (.tmp 8) (.tmp 62) rfl rfl rfl r1 Dq.o eE ?_))
    exact bodyPost_ret (v:=.tuple #[.agg (jj gc),((i:Int)+1:Int)]) (uj rfl _ rfl rfl (r1.setRow Dq.o).gm underlying69 eE) rfl ⟨J8 (by have:=HN3.o;omega),x1.setRow η _⟩
   by_cases hx:xc=1
   .subst hx
    have B6:=Ext.alloc wr (.cells #[(1:Int),x,y,z] 127);have x0:0<=x:=η;have x1:x<=31:=η;obtain⟨sx,fx⟩:=oN.at_ (i:=x) η η;have ltx:x<32:=η;clear hw Dr;go_wp2;go_roundw
    case rel=>exact jC Bt Ob tV GK DQ yl Hf CG (g':=oo gc x (Ew y)) (k':=k+1) (by simp[iV,mq]) cR cR (((ve.trans (jg wr b _ _)).trans ((Ext.alloc _ _).grownBy _))) (by rw[mg];exact(oN.EV x0 x1 (Ew y)).ext (Ext.alloc _ _))
    case measure=>exact dB
   by_cases hx:xc=9
   .subst hx
    obtain⟨X,rfl⟩:=IA (show 0<=x by omega);have B6:=Ext.alloc wr (.cells #[(9:Int),X,y,z] 127);have g1:=oN.ext B6;clear hw Dr;go_wp2;go_roundw
    case rel=>exact jC Bt Ob tV GK DQ yl Hf CG (g':=gc) (k':=X) (by simp[iV]) cR cR (ve.trans (B6.grownBy _)) (g1)
    case measure=>exact dB
   by_cases hx:xc=10
   .subst hx
    obtain⟨Y,rfl⟩:=IA (show 0<=y by omega);have B6:=Ext.alloc wr (.cells #[(10:Int),x,Y,z] 127);have g1:=oN.ext B6;have x0:0<=x:=η;obtain⟨sx,fx⟩:=oN.at_ (i:=x) η η;have ltx:x<32:=η;clear hw Dr;by_cases hz:gj gc x=0
    .have dA:(gj gc x==0)=true:=by rw[hz];rfl
     have Hz:=θ hz;clear hz;go_wp2;go_roundw
     case rel=>exact jC Bt Ob tV GK DQ yl Hf CG (g':=gc) (k':=Y) (by simp[iV,Hz.o]) cR cR (ve.trans (B6.grownBy _)) (g1)
     case measure=>exact dB
    .have dA:(gj gc x==0)=false:=by rw[beq_eq_false_iff_ne];exact hz
     have Hz:=θ hz;clear hz;go_wp2;go_roundw
     case rel=>exact jC Bt Ob tV GK DQ yl Hf CG (g':=gc) (k':=k+1) (by simp[iV,Hz.o]) cR cR (ve.trans (B6.grownBy _)) (g1)
     case measure=>exact dB
   by_cases hx:xc=2
   .subst hx
    have x0:0<=x:=η;have x1:x<=31:=η;have y0:0<=y:=η;have y1:y<=31:=η;clear hw Dr;go_wp2_with fail;generalize wL:aB wr _=W1;have B6:Ext wr W1:=by subst wL;exact Ext.alloc _ _
    have v0:W1.cell? wr.heap.size=some (.int .i64 2):=pY;have v1:W1.cell? (wr.heap.size,1)=some (x:ξ):=pY;have v2:W1.cell? (wr.heap.size,2)=some (y:ξ):=pY;have v3:W1.cell? (wr.heap.size,3)=some (z:ξ):=pY;have g1:=oN.ext B6;clear wL;obtain⟨sx,fx⟩:=g1.at_ (i:=x) η η;have ltx:x<32:=η;obtain⟨sy,fy⟩:=g1.at_ (i:=y) η η;have lty:y<32:=η;apply lG 7;simp only[tk];repeat apply DH v1 v2 sy
    refine lex_nil ?_;intro W2 jO υ;clear υ;simp only[dk];have g2:=g1.ext jO;obtain⟨su,fu⟩:=g2.at_ (i:=x) η η;go_wp2;go_roundw
    case rel=>exact jC Bt Ob tV GK DQ yl Hf CG (g':=oo gc x (gj gc y)) (k':=k+1) (by simp[iV,mq]) cR cR (((ve.trans ((B6.trans jO).grownBy _)).trans (jg _ b _ _))) (g2.EV x0 x1 _)
    case measure=>exact dB
   by_cases hx:xc=11
   .subst hx
    have x0:0<=x:=η;have x1:x<=31:=η;have y0:0<=y:=η;have y1:y<=31:=η;have N9:=kf BZ y;clear hw Dr;go_wp2_with fail;generalize wL:aB wr _=W1;have B6:Ext wr W1:=by subst wL;exact Ext.alloc _ _
    have v0:W1.cell? wr.heap.size=some (.int .i64 11):=pY;have v1:W1.cell? (wr.heap.size,1)=some (x:ξ):=pY;have v2:W1.cell? (wr.heap.size,2)=some (y:ξ):=pY;have v3:W1.cell? (wr.heap.size,3)=some (z:ξ):=pY;have g1:=oN.ext B6;have p1:=pW.ext B6;clear wL;obtain⟨sx,fx⟩:=g1.at_ (i:=x) η η;have ltx:x<32:=η;obtain⟨sy,fy⟩:=g1.at_ (i:=y) η η;have lty:y<32:=η;apply lG 9;simp only[tk];repeat apply DH v1 v2 sy
    apply ck
    .rfl
    .intro W';go_simp;exact⟨rfl,rfl⟩
    .intro W' hR υ;refine(O8 _ Pa pn pc ν (p1.ext hR) _ N9).mono ?_;rintro e w' ⟨rfl,rfl⟩;exact⟨rfl,Ext.refl _⟩
    simp only[pu];repeat apply iO (fun _ _ _=>trivial)
    refine lex_nil ?_;intro W2 jO υ;clear υ;simp only[dk];have g2:=g1.ext jO;obtain⟨su,fu⟩:=g2.at_ (i:=x) η η;go_wp2;go_roundw
    case rel=>exact jC Bt Ob tV GK DQ yl Hf CG (g':=oo gc x (Lt ν (gj gc y))) (k':=k+1) (by simp[iV,mq]) cR cR (((ve.trans ((B6.trans jO).grownBy _)).trans (jg _ b _ _))) (g2.EV x0 x1 _)
    case measure=>exact dB
   by_cases hx:xc=12
   .subst hx
    have x0:0<=x:=η;have x1:x<=31:=η;have y0:0<=y:=η;have y1:y<=31:=η;have N9:=kf BZ y;clear hw Dr;obtain⟨r,hr⟩:∃r,ue (gj gc y)=r:=⟨_,rfl⟩;have hrl:=DI (gj gc y);rw[hr]at hrl;have Pv:=fun W=>RA W (gj gc y) N9;rw[hr]at Pv;have agz:=θ Pv;have Hr:=θ hr;clear Pv hr;go_wp2_with fail;generalize wL:aB wr _=W1;have B6:Ext wr W1:=by subst wL;exact Ext.alloc _ _
    have v0:W1.cell? wr.heap.size=some (.int .i64 12):=pY;have v1:W1.cell? (wr.heap.size,1)=some (x:ξ):=pY;have v2:W1.cell? (wr.heap.size,2)=some (y:ξ):=pY;have v3:W1.cell? (wr.heap.size,3)=some (z:ξ):=pY;have g1:=oN.ext B6;clear wL;obtain⟨sx,fx⟩:=g1.at_ (i:=x) η η;have ltx:x<32:=η;obtain⟨sy,fy⟩:=g1.at_ (i:=y) η η;have lty:y<32:=η;obtain⟨sr,fr⟩:=g1.at_ (i:=((r:Nat):Int)) η η;have ltr:((r:Nat):Int)<32:=η;rw[L6]at sr fr;apply lG 10;simp only[tk];repeat apply DH v1 v2 sy
    apply ck
    .rfl
    .intro W';go_simp;exact⟨rfl,rfl⟩
    .intro W' hR υ;refine(agz.o _).mono ?_;rintro e w' ⟨rfl,rfl⟩;exact⟨rfl,Ext.refl _⟩
    simp only[pu];repeat apply nh sr
    refine lex_nil ?_;intro W2 jO υ;clear υ;simp only[dk];have g2:=g1.ext jO;obtain⟨su,fu⟩:=g2.at_ (i:=x) η η;go_wp2;go_roundw
    case rel=>exact jC Bt Ob tV GK DQ yl Hf CG (g':=oo gc x (gj gc (r:Nat))) (k':=k+1) (by simp[iV,mq,Hr.o]) cR cR (((ve.trans ((B6.trans jO).grownBy _)).trans (jg _ b _ _))) (g2.EV x0 x1 _)
    case measure=>exact dB
   by_cases hx:xc=13
   .subst hx
    have x0:0<=x:=η;have x1:x<=31:=η;have y0:0<=y:=η;have y1:y<=31:=η;have hxk:=kf BZ x;clear hw Dr;obtain⟨r,hr⟩:∃r,ue (gj gc x)=r:=⟨_,rfl⟩;have hrl:=DI (gj gc x);rw[hr]at hrl;have Pv:=fun W=>RA W (gj gc x) hxk;rw[hr]at Pv;have agz:=θ Pv;have Hr:=θ hr;clear Pv hr;go_wp2_with fail;generalize wL:aB wr _=W1;have B6:Ext wr W1:=by subst wL;exact Ext.alloc _ _
    have v0:W1.cell? wr.heap.size=some (.int .i64 13):=pY;have v1:W1.cell? (wr.heap.size,1)=some (x:ξ):=pY;have v2:W1.cell? (wr.heap.size,2)=some (y:ξ):=pY;have v3:W1.cell? (wr.heap.size,3)=some (z:ξ):=pY;have g1:=oN.ext B6;clear wL;obtain⟨sx,fx⟩:=g1.at_ (i:=x) η η;have ltx:x<32:=η;obtain⟨sy,fy⟩:=g1.at_ (i:=y) η η;have lty:y<32:=η;obtain⟨sr,fr⟩:=g1.at_ (i:=((r:Nat):Int)) η η;have ltr:((r:Nat):Int)<32:=η;rw[L6]at sr fr;apply lG 10;simp only[tk];repeat apply kZ v1 sx
    apply ck
    .rfl
    .intro W';go_simp;exact⟨rfl,rfl⟩
    .intro W' hR υ;refine(agz.o _).mono ?_;rintro e w' ⟨rfl,rfl⟩;exact⟨rfl,Ext.refl _⟩
    simp only[pu];repeat apply kZ v2 sy
    refine lex_nil ?_;intro W2 jO υ;clear υ;simp only[dk];have g2:=g1.ext jO;obtain⟨su,fu⟩:=g2.at_ (i:=((r:Nat):Int)) η η;have ltu:((r:Nat):Int)<32:=η;rw[L6]at su fu;go_wp2;go_roundw
    case rel=>exact jC Bt Ob tV GK DQ yl Hf CG (g':=oo gc (r:Nat) (gj gc y)) (k':=k+1) (by simp[iV,Hr.o]) cR cR (((ve.trans ((B6.trans jO).grownBy _)).trans (jg _ b _ _))) (g2.EV (i:=(r:Nat)) η η _)
    case measure=>exact dB
   by_cases hx:xc=15
   .subst hx
    have x0:0<=x:=η;have x1:x<=31:=η;clear hw Dr;go_wp2_with fail;generalize wL:aB wr _=W1;have B6:Ext wr W1:=by subst wL;exact Ext.alloc _ _
    have v0:W1.cell? wr.heap.size=some (.int .i64 15):=pY;have v1:W1.cell? (wr.heap.size,1)=some (x:ξ):=pY;have v2:W1.cell? (wr.heap.size,2)=some (y:ξ):=pY;have v3:W1.cell? (wr.heap.size,3)=some (z:ξ):=pY;have g1:=oN.ext B6;clear wL;obtain⟨sx,fx⟩:=g1.at_ (i:=x) η η;have ltx:x<32:=η;apply lG 5;simp only[tk];repeat apply nh v1
    apply ck
    .rfl
    .intro W';go_simp;exact⟨rfl,rfl⟩
    .intro W' hR υ;refine(vL _ frame).mono ?_;rintro e w' ⟨rfl,rfl⟩;exact⟨rfl,Ext.refl _⟩
    simp only[pu];repeat apply iO (fun _ _ _=>trivial)
    refine lex_nil ?_;intro W2 jO υ;clear υ;simp only[dk];have g2:=g1.ext jO;obtain⟨su,fu⟩:=g2.at_ (i:=x) η η;go_wp2;go_roundw
    case rel=>exact jC Bt Ob tV GK DQ yl Hf CG (g':=oo gc x (Ew frame)) (k':=k+1) (by simp[iV,mq]) cR cR (((ve.trans ((B6.trans jO).grownBy _)).trans (jg _ b _ _))) (g2.EV x0 x1 _)
    case measure=>exact dB
   by_cases hx:xc=14
   .subst hx
    have x0:0<=x:=η;have x1:x<=31:=η;have y0:0<=y:=η;have y1:y<=31:=η;have N9:=kf BZ y;unfold jQ at N9;have B6:=Ext.alloc wr (.cells #[(14:Int),x,y,z] 127);obtain⟨sx,fx⟩:=oN.at_ (i:=x) η η;have ltx:x<32:=η;obtain⟨sy,fy⟩:=oN.at_ (i:=y) η η;have lty:y<32:=η;clear hw Dr;obtain⟨yv,hyv⟩:∃v,gj gc y=v:=⟨_,rfl⟩;have hru:vI t (gj gc y)=vI t yv:=by rw[hyv]
    have Hru:=θ hru;rw[hyv]at sy N9;clear hru hyv;by_cases zZ:yv<0
    .have hv:((vI t yv:Nat):Int)=0:=by unfold vI;rw[if_neg η];rfl
     have Hv:=θ hv;have Uc:=dh (0<=yv);clear hv;go_wp2;go_roundw
     case rel=>exact jC Bt Ob tV GK DQ yl Hf CG (g':=oo gc x 0) (k':=k+1) agc cR cR (((ve.trans (jg wr b _ _)).trans ((Ext.alloc _ _).grownBy _))) ((oN.EV x0 x1 _).ext (Ext.alloc _ _))
     case measure=>exact dB
    obtain⟨Y,rfl⟩:=IA (show 0<=yv by omega);by_cases KX:Y<(rs t).length
    .obtain⟨rb,ro,rfl,hrc⟩:=RI oW KX
     have hv:((vI t (Y:Nat):Nat):Int)=((rs t)[Y].1:Nat):=by unfold vI;rw[if_pos η,L6,List.getElem?_eq_getElem KX];rfl
     have Hv:=θ hv;have hrw:rb<wr.heap.size:=mG wr _ hrc;clear hv;generalize (rs t)[Y].1=rv at*;go_wp2;go_roundw
     case rel=>exact jC Bt Ob tV GK DQ yl Hf CG (g':=oo gc x (rv:Nat)) (k':=k+1) agc cR cR (((ve.trans (jg wr b _ _)).trans ((Ext.alloc _ _).grownBy _))) ((oN.EV x0 x1 _).ext (Ext.alloc _ _))
     case measure=>exact dB
    .have hv:((vI t (Y:Nat):Nat):Int)=0:=by unfold vI;rw[if_pos η,L6,List.getElem?_eq_none η];rfl
     have Hv:=θ hv;clear hv;go_wp2;go_roundw
     case rel=>exact jC Bt Ob tV GK DQ yl Hf CG (g':=oo gc x 0) (k':=k+1) agc cR cR (((ve.trans (jg wr b _ _)).trans ((Ext.alloc _ _).grownBy _))) ((oN.EV x0 x1 _).ext (Ext.alloc _ _))
     case measure=>exact dB
   by_cases hx:3<=xc/\xc<=8
   .have x0:0<=x:=by omega
    have x1:x<=31:=η;have y0:0<=y:=η;have y1:y<=31:=η;have z0:0<=z:=η;have z1:z<=31:=η;have N9:=kf BZ y;have hzk:=kf BZ z;have n0:(xc==0)=false:=kO;have n1:(xc==1)=false:=kO;have n2:(xc==2)=false:=kO;have n9:(xc==9)=false:=kO;have n10:(xc==10)=false:=kO;have n11:(xc==11)=false:=kO;have n12:(xc==12)=false:=kO;have n13:(xc==13)=false:=kO;have n14:(xc==14)=false:=kO;have n15:(xc==15)=false:=kO;clear hw Dr;go_wp2_with fail;generalize wL:aB wr _=W1;have B6:Ext wr W1:=by subst wL;exact Ext.alloc _ _
    have v0:W1.cell? wr.heap.size=some (xc:ξ):=pY;have v1:W1.cell? (wr.heap.size,1)=some (x:ξ):=pY;have v2:W1.cell? (wr.heap.size,2)=some (y:ξ):=pY;have v3:W1.cell? (wr.heap.size,3)=some (z:ξ):=pY;have g1:=oN.ext B6;clear wL;obtain⟨sx,fx⟩:=g1.at_ (i:=x) η η;have ltx:x<32:=η;obtain⟨sy,fy⟩:=g1.at_ (i:=y) η η;have lty:y<32:=η;obtain⟨sz,fz⟩:=g1.at_ (i:=z) η η;have ltz:z<32:=η;apply lG 14;simp only[tk];repeat apply WV v0 v1 v2 v3 sy sz
    apply ck
    .rfl
    .intro W';go_simp;exact⟨rfl,rfl⟩
    .intro W' hR υ;refine(Tr _ xc _ _ N9 hzk).mono ?_;rintro e w' ⟨rfl,rfl⟩;exact⟨rfl,Ext.refl _⟩
    simp only[pu];repeat apply iO (fun _ _ _=>trivial)
    refine lex_nil ?_;intro W2 jO υ;clear υ;simp only[dk];have g2:=g1.ext jO;obtain⟨su,fu⟩:=g2.at_ (i:=x) η η;go_wp2;go_roundw
    case rel=>exact jC Bt Ob tV GK DQ yl Hf CG (g':=oo gc x (Bv xc (gj gc y) (gj gc z))) (k':=k+1) (by simp only[iV,mq];rw[if_neg η,if_neg η,if_neg η,if_neg η,if_neg η,if_neg η,if_neg η,if_neg η,if_neg η]) cR cR (((ve.trans ((B6.trans jO).grownBy _)).trans (jg _ b _ _))) (g2.EV x0 x1 _)
    case measure=>exact dB
   omega
  by_cases CG:i<200
  .have jk:¬k<n:=fun h=>bU ⟨CG,h⟩
   have hkd:=dh (k<n) jk;have hid:=dQ ((i:Int)<200);have gf:runN t ν frame l (200-i) k gc=(gc,0):=Ex t ν frame l _ k gc (by have:=Hn.o;omega);have hG:=tV.o;have hN:=GK.o;rw[gf]at hG hN;dsimp only at hG hN
   subst hG;have HN3:=θ hN;clear hN gf bU jk;go_wp2_with (first
     | (with_reducible refine eA rfl 69 (.tmp 5) rfl rfl underlying69 eE oN ?_)
     | (with_reducible refine fe rfl 69 (.tmp 8) (.tmp 164) rfl rfl rfl rR Dq.o eE ?_))
   exact bodyPost_ret (v:=.tuple #[.agg (jj gc),((i:Int):Int)]) (uj rfl _ rfl rfl (rR.setRow Dq.o).gm underlying69 eE) rfl ⟨J8 (by have:=HN3.o;omega),xR.setRow η _⟩
  .obtain rfl:i=200:=by omega
   have gf:runN t ν frame l (200-200) k gc=(gc,0):=rfl;have hG:=tV.o;have hN:=GK.o;rw[gf]at hG hN;dsimp only at hG hN
   subst hG;have HN3:=θ hN;clear hN gf bU CG;go_wp2_with (first
     | (with_reducible refine eA rfl 69 (.tmp 5) rfl rfl underlying69 eE oN ?_)
     | (with_reducible refine fe rfl 69 (.tmp 8) (.tmp 164) rfl rfl rfl rR Dq.o eE ?_))
   exact bodyPost_ret (v:=.tuple #[.agg (jj gc),(200:Int)]) (uj rfl _ rfl rfl (rR.setRow Dq.o).gm underlying69 eE) rfl ⟨J8 (by have:=HN3.o;omega),xR.setRow η _⟩
theorem IB(ν:aD)(g:List Int)(ht:t.length<=1099511627776)(hl:Ro w A n c l)(hp:Rb w Pa pn pc ν)(aT:pI g)(hG:(nx t ν frame l g).1=G')(hN:(nx t ν frame l g).2=N):Calls prog 39 #[fX t A n c,.agg (jj g),frame,.slice Pa pn pc] w (RU w G' N):=by
 subst hG hN;by_cases hf:fD t l = -1
 .have e:nx t ν frame l g=runN t ν frame l 200 0 g:=if_pos hf;rw[e];exact Ua w t A n c l frame Pa pn pc ν g ht hl hp aT hf
 .have e:nx t ν frame l g=(g,0):=if_neg hf;rw[e];exact Yk w t A n c l frame Pa pn pc g ht hl aT hf
end
end Go.Proofs.YtffcefoadaogbaaGreat
