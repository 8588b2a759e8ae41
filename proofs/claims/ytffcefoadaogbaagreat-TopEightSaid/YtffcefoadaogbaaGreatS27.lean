/- A part of the proof. -/
import Derived.Test.YtffcefoadaogbaaGreatS24
import Derived.Test.YtffcefoadaogbaaGreatS26
namespace Go.Proofs.YtffcefoadaogbaaGreat
open Go.RowKit
open Go.Proofs.Tryz
set_option linter.all false
set_option maxRecDepth 100000
set_option maxHeartbeats 16000000
open _root_.List renaming getElem?_eq_getElem->bf,eq_nil_of_length_eq_zero->rz,length_eraseIdx->A7
open _root_.Nat renaming not_lt_zero->lF,le_refl->aq,zero_le->aM
def Rc(tb:Nat)(w:World):Nat:=match w.cell? tb with
 |some (.pointer (some a))=>match w.cell? ⟨a.block,2,none⟩ with
  |some (.slice _ n _)=>n
  |_=>0
 |_=>0
section
variable {w w':World}{T T':Tg}{tb:Nat}{cf:Cf}{ah:Bool}{s:Nat}{W W1:Wd}
section
variable(h:Gt w T tb cf ah s W)
include h
theorem Re:Rc tb w=W.au.length:=by obtain⟨wb,mb,m,r,hH,_,_,hr⟩:=h.at_;have c0:=hH.zc 0;have c2:=hr.hd.zc 2;unfold Rc;rw[c0];simp only[π];rw[c2]
theorem aiz:∃wb,w.cell? tb=some (.pointer (some ⟨wb,0,none⟩))/\(∃NA nc,w.cell? ⟨wb,2,none⟩=some (.slice NA W.au.length nc)):=by obtain⟨wb,mb,m,r,hH,_,_,hr⟩:=h.at_;exact⟨wb,hH.zc 0,_,_,hr.hd.zc 2⟩
theorem acr(hp:0<W.au.length):∃wb g nc,w.cell? tb=some (.pointer (some ⟨wb,0,none⟩))/\w.cell? ⟨wb,2,none⟩=some (.slice (some ⟨g,0,none⟩) W.au.length nc)/\w.cell? ⟨g,1,none⟩=some ((W.au[0].dst:Nat):Value)/\W.au.length<=nc:=by obtain⟨wb,mb,m,r,hH,_,_,hr⟩:=h.at_;have c0:=hH.zc 0;have c2:=hr.hd.zc 2;obtain⟨ns,a1,a2,a3⟩:=hr.au;obtain⟨g,D8,_,m0,m1,m2⟩:=wC a2 a1 hp;rw[D8]at c2;refine⟨wb,g,r.nc,c0,c2,?_,a2.1.rd.2.1⟩;rw[show(0:Nat)*3+1=1 from rfl]at m1;exact m1
theorem aaK{p:Nat}(hp:p<cf.n):∃wb gp pc q cb,w.cell? tb=some (.pointer (some ⟨wb,0,none⟩))/\w.cell? ⟨wb,1,none⟩=some (.slice (some ⟨gp,0,none⟩) cf.n pc)/\w.cell? ⟨gp,p,none⟩=some (.pointer (some ⟨q,0,none⟩))/\w.cell? ⟨q,0,none⟩=some (.pointer (some ⟨cb,0,none⟩))/\cf.n<=pc/\∀W2,Ext w W2->Calls prog 19 #[.pointer (some ⟨cb,0,none⟩)] W2 fun e w'=>e=.returned (((W.ps p).front:Nat):Value)/\w'=W2:=by obtain⟨wb,mb,m,r,hH,_,_,hr⟩:=h.at_;have q1:=hr.hd.zc 1;obtain⟨gp,tK,cp,_,_⟩:=hr.row.at_ (aO cf.n _ hp);rw[tK]at q1;have La:=hr.ps p hp;obtain⟨A9,n9,d9,Qa,_⟩:=La.bn;have Lb:=h.inv.cr p hp;have BR:=h.inv.ok.n2;have jW:=h.inv.ok.n8;exact⟨wb,gp,r.pc,r.qs p,r.cs p,hH.zc 0,q1,cp,Qa.zc 0,hr.row.rd.2.1,fun W2 e=>l9 (La.core.ext e) Lb.len η jW⟩
end
end
theorem S0{sm:bH->Nat->Nat}(hs:qL sm){n Ω χ N:Nat}{W:Wd}(h:Cm sm n Ω χ N W):∀j,j<=W.au.length->Cm sm n Ω χ N (pR j W)/\Flw n W (pR j W)
 |0,_=>⟨h,Flw.refl n W⟩
 |j+1,hj=>by
  obtain⟨h1,h2⟩:=S0 hs h j η;have hl:=xM W j;have hp:0<(pR j W).au.length:=η;show Cm sm n Ω χ N (C1 (pR j W))/\Flw n W (C1 (pR j W))
  rw[Gb hp];exact h2.step hs h1 (fun k hk=>⟨(h.eP.au k hk).src,(h.eP.au k hk).dst⟩) (bf hp)
theorem aaL(W:Wd):(pR W.au.length W).au=[]:=rz (by rw[xM];omega)
theorem acs{sm:bH->Nat->Nat}(jX:Nat):Ein sm 8 2 8 jX 0 0 0 (Wd.new 8 2) :=
 ⟨ae2 Γ Γ,fun q hq=>by
  show((Wd.new 8 2).line q q).length=_
  rw[tM 8 2 q q hq,List.length_replicate,if_neg (lF q)],fun i q hi hq _ _=>by
  show _=(Wd.new 8 2).line q q
  rw[tM 8 2 i q hq,tM 8 2 q q hq],fun a q ha=>absurd ha (lF a),aq _⟩
theorem VX(w:World)(rd:Int)(akz:-9223372036854775808<=rd)(akA:rd<=9223372036854775807)(wh:Int)(akB:-9223372036854775808<=wh)(akC:wh<=9223372036854775807)(ah:Bool):Calls prog 8 #[rd,wh,.bool ah] w (Yes w):=by
 have HB:=θ fun W=>VO W;have HS1:=θ fun W=>IK W rd 4 Γ Γ ⟨akz,akA⟩;have MQ:=θ fun W=>IK W wh 8 Γ Γ ⟨akB,akC⟩;have HC:=θ fun W=>YD W 8;have h4:rd.natAbs % 4<4:=Nat.mod_lt _ Γ;have h8:wh.natAbs % 8<8:=Nat.mod_lt _ Γ;generalize rd.natAbs % 4=rounds at*;generalize wh.natAbs % 8=jX at*;have aT:jA (R3 8):=ae4 Γ Γ;have HM:Hq (∀W,Calls prog 12 #[.agg #[(8:Int),(0:Int),(77:Int),(2:Int),(8:Int),(2:Int),(1:Int),(3:Int),(2:Int),(7:Int)],.bool ah] W fun e w'=>∃tb,e=.returned (.pointer (some ⟨tb,0,none⟩))/\ahl W w' tb (R3 8) ah):=θ fun W=>NX W (R3 8) aT ah;clear akz akA akB akC;unfold iC R3 at HC;go_enter func8,ntmps8;go_wp2_with fail;refine(HB.o _).mono ?_;rintro e w1 ⟨rfl,x1⟩;go_wp2_with fail;refine(HS1.o _).mono ?_;rintro e w3 ⟨rfl,hw⟩;have hw:=hw.symm;subst hw;go_wp2_with fail;refine(MQ.o _).mono ?_;rintro e w3 ⟨rfl,hw⟩;have hw:=hw.symm;subst hw;go_wp2_with fail;refine(HC.o _).mono ?_;rintro e wa ⟨rfl,x2⟩;have XA:=θ (x1.trans x2);clear x1 x2;go_wp2_with fail;refine(HM.o _).mono ?_;rintro e w4 ⟨tb,rfl,hTM⟩;obtain⟨T1,cw,SC⟩:=ae3 aT hTM;have l8:=θ cw;have HG1:=θ SC;clear hTM cw SC HB HS1 MQ HC HM;go_wp2_with fail;go_loopw [9] (fun iv wr=>∃(r s:Nat) (T':Tg) (W:Wd),iv=.int .i64 (r:Nat)/\r<=rounds/\s<=80*r/\Ξ uS w4 T1 wr T'/\Gt wr T' tb (R3 8) ah s W/\Ein yg 8 2 8 jX r 0 (8*r) W/\W.au=[]) (fun iv _=>rounds-(intOf iv).toNat)
 case atStart=>exact⟨0,0,T1,_,rfl,aM _,aq _,Ξ.refl _ l8.o.Δ,HG1.o,acs jX,rfl⟩
 case round =>
  obtain⟨r,s,T2,W,rfl,hr,hs,bq,Fe,hE2,BR⟩:=hrel;by_cases hrl:r<rounds
  .have jF:=dQ ((r:Int)<(rounds:Int))
   have Hrl:=θ hrl;have H2:=θ (And.intro bq (And.intro Fe hE2));clear bq Fe hE2 BR;go_wp2_with fail;go_loopw [10] (fun iv wr=>∃(p s:Nat) (T':Tg) (W:Wd),iv=.int .i64 (p:Nat)/\p<=8/\s<=80*r+2*p/\Ξ uS w4 T1 wr T'/\Gt wr T' tb (R3 8) ah s W/\Ein yg 8 2 8 jX r p (8*r+p) W) (fun iv _=>8-(intOf iv).toNat)
   case atStart=>exact⟨0,s,T2,W,rfl,aM _,η,H2.o.1,H2.o.2.1,H2.o.2.2⟩
   case round =>
    obtain⟨p,s3,T3,W3,rfl,hp,Sn,cT,hG3,KA⟩:=hrel;by_cases vQ:p<8
    .have Ce:=dQ ((p:Int)<8)
     have hmul:r*p<=3*8:=Nat.mul_le_mul η η;have pz:IntKind.i64.wrap ((r:Int)*(p:Int))=((r*p:Nat):Int):=by rw[←Int.natCast_mul];exact IntWalk.i64_in _ η
     have Hp:=θ (aaI hG3 cT.Δ η (p:=p) vQ ((r*p:Nat):Int) 0);have hE4:=KA.next pH vQ η η Γ η (byt ((r*p:Nat):Int));have HE4:=θ hE4;have jH:=θ cT;have DX:=θ vQ;generalize ((r*p:Nat):Int)=rp at*;unfold dy π at*;clear hG3 cT KA hE4 hmul;go_wp2_with fail;refine Hp.o.mono ?_;rintro e w5 ⟨rfl,T5,kT,hA5⟩;have Ht:=θ (SZ hA5 kT.Δ η (p:=p) DX.o 0 0);have qZ:=θ (jH.o.trans kT);unfold dy π at*;clear hA5 kT Hp;go_wp2_with fail;refine Ht.o.mono ?_;rintro e w6 ⟨rfl,T6,ri,On⟩;have HA6:=θ On;have Bp:=θ (qZ.o.trans ri);clear On ri Ht;go_wp2;go_roundw
     case rel=>exact⟨p+1,s3+1+1,T6,_,cR,by have:=DX.o;omega,η,Bp.o,HA6.o,HE4.o⟩
     case measure=>have:=DX.o;simp[intOf];omega
    .obtain rfl:p=8:=by omega
     have hnk:∀k∈W3.au,k.src<8/\k.dst<8:=fun k hk=>⟨(KA.cm.eP.au k hk).src,(KA.cm.eP.au k hk).dst⟩;have hrm:=KA.room;have H3:=θ (And.intro cT (And.intro hG3 KA));have Hnk:=θ hnk;clear cT hG3 KA hnk;go_wp2_with fail;go_loopw [43] (fun _ wr=>∃(s':Nat) (T':Tg) (W':Wd),s'+W'.au.length<=s3+W3.au.length/\Ξ uS w4 T1 wr T'/\Gt wr T' tb (R3 8) ah s' W'/\Cm yg 8 2 8 (8*r+8) W'/\VW 8 jX W3 W') (fun _ wr=>Rc tb wr)
     case atStart=>exact⟨s3,T3,W3,aq _,H3.o.1,H3.o.2.1,H3.o.2.2.cm,VW.refl _ _ _⟩
     case round =>
      obtain⟨s5,T5,W5,hs5,kT,hG5,KE,hF5⟩:=hrel;have t2:=hG5.cells.2;have Hln:=θ (Re hG5);by_cases qc:0<W5.au.length
      .obtain⟨wb,g,nc,t0,q2,d1,Gc⟩:=acr hG5 qc
       have f1':=dQ ((0:Int)<(W5.au.length:Int));have an6:=hG5.inv.eP.room;by_cases hdw:W5.au[0].dst=jX
       .have hde:W5.au[0].dst=jX:=hdw
        have kR:=θ (acp hG5 kT.Δ η qc 0 0);obtain⟨K7,hF6⟩:=hF5.drop pH KE Hnk.o (bf qc) hde;have acF:(W5.dropped 0).au.length+1=W5.au.length:=by
         show(W5.au.eraseIdx 0).length+1=_
         rw[A7,if_pos qc];omega
        have eq1:((W5.au[0].dst:Nat)==jX)=true:=by rw[hde];exact beq_self_eq_true _
        have eq2:((W5.au[0].dst:Int)==(jX:Int))=true:=by rw[hde];exact beq_self_eq_true _
        have HC6:=θ K7;have HF6:=θ hF6;have acG:=θ acF;have qZ:=θ kT;generalize W5.au[0].dst=kd at*;unfold dy π at*;clear K7 hF6 acF hG5 kT KE hF5;go_wp2_with fail;refine kR.o.mono ?_;rintro e w6 ⟨rfl,T6,ri,On⟩;have HA6:=θ On;have Bp:=θ (qZ.o.trans ri);clear On ri kR;go_wp2_with fail;refine⟨?_,?measure⟩
        (repeat apply Exists.intro)
        refine⟨?rel,rfl⟩
        case rel=>exact⟨s5+1,T6,_,by have:=acG.o;omega,Bp.o,HA6.o,HC6.o,HF6.o⟩
        case measure=>rw[Re HA6.o,Hln.o];have:=acG.o;omega
       .have kR:=θ (aco hG5 kT.Δ η qc 0 0)
        obtain⟨K7,hF6⟩:=hF5.send pH KE Hnk.o (bf qc);have acF:(W5.lX 0 W5.au[0]).au.length+1=W5.au.length:=by
         show(W5.au.eraseIdx 0).length+1=_
         rw[A7,if_pos qc];omega
        have eq1:((W5.au[0].dst:Nat)==jX)=false:=by rw[beq_eq_false_iff_ne];exact hdw
        have eq2:((W5.au[0].dst:Int)==(jX:Int))=false:=kO;have HC6:=θ K7;have HF6:=θ hF6;have acG:=θ acF;have qZ:=θ kT;generalize W5.au[0].dst=kd at*;unfold dy π at*;clear K7 hF6 acF hG5 kT KE hF5;go_wp2_with fail;refine kR.o.mono ?_;rintro e w6 ⟨rfl,T6,ri,On⟩;have HA6:=θ On;have Bp:=θ (qZ.o.trans ri);clear On ri kR;go_wp2_with fail;refine⟨?_,?measure⟩
        (repeat apply Exists.intro)
        refine⟨?rel,rfl⟩
        case rel=>exact⟨s5+1,T6,_,by have:=acG.o;omega,Bp.o,HA6.o,HC6.o,HF6.o⟩
        case measure=>rw[Re HA6.o,Hln.o];have:=acG.o;omega
      .have zZ:W5.au=[]:=rz η
       obtain⟨wb,t0,NA,nc,q2⟩:=aiz hG5;have f1:=dh (0<W5.au.length) qc;have f1':=dh ((0:Int)<(W5.au.length:Int));have HE6:=θ (H3.o.2.2.round hF5 KE zZ);have qZ:=θ kT;have HG5:=θ hG5;have Hn0:=θ zZ;have hz:W5.au.length=0:=η;clear zZ hG5 kT KE hF5;rw[hz]at q2;go_wp2;go_roundw
       case rel=>exact⟨r+1,s5,T5,W5,cR,by have:=Hrl.o;omega,η,qZ.o,HG5.o,HE6.o,Hn0.o⟩
       case measure=>have:=Hrl.o;simp[intOf];omega
  .obtain rfl:r=rounds:=by omega
   have H2:=θ (And.intro bq (And.intro Fe hE2));clear bq Fe hE2 BR;go_wp2_with fail;go_loopw [11] (fun iv wr=>∃(p s:Nat) (T':Tg) (W:Wd),iv=.int .i64 (p:Nat)/\p<=8/\s<=240+p/\Ξ uS w4 T1 wr T'/\Gt wr T' tb (R3 8) ah s W/\Eot yg 8 2 8 jX r p (8*r+p) W) (fun iv _=>8-(intOf iv).toNat)
   case atStart=>exact⟨0,s,T2,W,rfl,aM _,η,H2.o.1,H2.o.2.1,Eot.start H2.o.2.2⟩
   case round =>
    obtain⟨p,s3,T3,W3,rfl,hp,Sn,cT,hG3,KA⟩:=hrel;by_cases vQ:p<8
    .have Ce:=dQ ((p:Int)<8)
     have Ht:=θ (SZ hG3 cT.Δ η (p:=p) vQ 0 0);have HE4:=θ (KA.next pH vQ h8 η Γ η);have jH:=θ cT;have DX:=θ vQ;unfold dy π at*;clear hG3 cT KA;go_wp2_with fail;refine Ht.o.mono ?_;rintro e w6 ⟨rfl,T6,ri,On⟩;have HA6:=θ On;have Bp:=θ (jH.o.trans ri);clear On ri Ht;go_wp2;go_roundw
     case rel=>exact⟨p+1,s3+1,T6,_,cR,by have:=DX.o;omega,η,Bp.o,HA6.o,HE4.o⟩
     case measure=>have:=DX.o;simp[intOf];omega
    .obtain rfl:p=8:=by omega
     have hrm:=KA.room;have Hf:=θ (acm hG3 cT.Δ η);obtain⟨Wi,hF4⟩:=S0 pH KA.cm _ (aq _);have sI:=θ fun i (hi:i<8)=>KA.ae5 hF4 Wi (aaL W3) hi;have jH:=θ cT;generalize pR W3.au.length W3=W4 at*;unfold π at Hf;clear hG3 cT KA Wi hF4;go_wp2_with fail;refine Hf.o.mono ?_;rintro e w6 ⟨rfl,T6,ri,On⟩;have HA6:=θ On;have Bp:=θ (jH.o.trans ri);clear On ri Hf;go_wp2_with fail;go_loopw [12] (fun iv wr=>∃p:Nat,iv=.int .i64 (p:Nat)/\p<=8/\Ext w6 wr) (fun iv _=>8-(intOf iv).toNat)
     case atStart=>exact⟨0,rfl,aM _,Ext.refl _⟩
     case round =>
      obtain⟨q,rfl,hq,xq⟩:=hrel;have hGq:=HA6.o.ext xq;have t2:=hGq.cells.2;by_cases hql:q<8
      .have Ce:=dQ ((q:Int)<8)
       obtain⟨wb,gp,pc,qp,cb,t0,q1,pp,b0,Km,iU⟩:=aaK hGq (p:=q) hql;rw[sI.o q hql]at iU;have Hfq:=θ iU;have jI:q<(R3 8).n:=hql;have an7:=dQ ((q:Int)<((R3 8).n:Int));have hwr:=ej ((r:Int)+2);have agG:((2:Int)+(r:Int) != (r:Int)+2)=false:=by rw[bne_eq_false_iff_eq];omega
       have Hql:=θ hql;clear hGq iU;go_wp2_with fail;refine(Hfq.o _ (Ext.refl _)).mono ?_;rintro e w7 ⟨rfl,hw⟩;have hw:=hw.symm;subst hw;go_wp2;go_roundw
       case rel=>exact⟨q+1,cR,by have:=Hql.o;omega,xq⟩
       case measure=>have:=Hql.o;simp[intOf];omega
      .obtain rfl:q=8:=by omega
       obtain⟨wb,t0,G4⟩:=aaJ hGq η;have Hag:=θ (G4 _ (Ext.refl _));have hXr:Ext w wr:=by have h9:=l8.o.fresh Bp.o (fun k _ e=>by revert e;unfold uS tS wS mS;omega);exact(XA.o.trans (NW h9)).trans xq
       have HX:=θ hXr;clear hGq G4 hXr xq;go_wp2_with fail;refine Hag.o.mono ?_;rintro e w9 ⟨rfl,x9⟩;have hX9:=HX.o.trans x9;clear x9;go_wp2;go_ret;exact⟨rfl,hX9⟩
end Go.Proofs.YtffcefoadaogbaaGreat
