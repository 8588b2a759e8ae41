/- A part of the proof: texts put together and cut down by a program of mine (wip/gen/mini.py). -/
import Derived.Test.YtffcefoadaogbaaGreatS18
namespace Go.Proofs.YtffcefoadaogbaaGreat
open Go.RowKit
open Go.Proofs.Tryz
set_option linter.unusedVariables false
set_option maxRecDepth 100000
set_option maxHeartbeats 16000000
section
variable {ah:Bool} {w w' w0:World} {T T':Tg} {b:Nat} {cf:Cf} {tp:List UInt8} {ops:List OpT} {W W':Wd} {B:Nat}
theorem mt_step{m:Mb}(h:MtIn w T b cf tp ops ah m W B)(hu:Unborn w T)(hok:CfOk cf){W1:Wd}{B1:Nat}(hk1:∀ i,i<cf.n→CrOk cf i (W1.ps i) [])(hlog:∀ i,i<cf.n→(W1.log i).length≤1000000000)(fn a bb n:Int)(err:Nat)
  (hcase:((fn=1∨fn=2∨fn=8∨fn=7)∧∀ wb,Ext w wb→Calls prog 80 #[ptrV b,stepV fn a bb n] wb (Does (0 < ·) wb T (.int .i64 (err:Nat)) fun w' T'=>MtIn w' T' b cf tp ops ah m W1 B1))
   ∨((fn=3∨fn=5∨fn=4∨fn=6)∧∀ wb,Ext w wb→Calls prog 81 #[ptrV b,stepV fn a bb n] wb (Does (0 < ·) wb T (.int .i64 (err:Nat)) fun w' T'=>MtIn w' T' b cf tp ops ah m W1 B1))
   ∨((fn≤0∨9≤fn)∧err=1∧W1=W∧B1=B)) :
  Calls prog 52 #[ptrV b,stepV fn a bb n] w (Does (0 < ·) w T (.int .i64 (err:Nat)) fun w' T'=>MatchAt w' T' b cf tp ops ah W1.told B1):=by
 have HM:=hqd h;have Hcase:=hqd hcase;have x0:=Ext.alloc w (.cells #[.int .i64 fn,.int .i64 a,.int .i64 bb,.int .i64 n] 59);have hb:=(Has.new w T [.int .i64 fn,.int .i64 a,.int .i64 bb,.int .i64 n] 59 rfl);rw[hu _ (Nat.le_refl _)]at hb;have HT0:=hqd (Turn.of_ext (0 < ·) hu x0);have HU:=hqd hu;unfold stepV ptrV at *;clear h hcase hu;go_enter func52,ntmps52;go_upto_region 1 with fail
 generalize hW:World.alloc w _=W0 at *;generalize w.heap.size=gs at *;clear hW;have k0:=hb.cell (i:=0) rfl;have k1:=hb.cell (i:=1) rfl;have k2:=hb.cell (i:=2) rfl;have k3:=hb.cell (i:=3) rfl;go_upto_block 0 with fail
 go_cut [5] (fun v wx=>∃ T1,v = .int .i64 (err:Nat)∧Turn (0 < ·) w T wx T1∧MtIn wx T1 b cf tp ops ah m W1 B1)
 case first =>
  rcases Hcase.out with ⟨hfn,hC⟩|⟨hfn,hC⟩|⟨hfn,he,hw,hB⟩
  ·have HC:=hqd hC
   clear hC;rcases hfn with rfl|rfl|rfl|rfl
   all_goals
    go_wp2_with fail;refine(HC.out W0 x0).mono ?_;rintro e w1 ⟨rfl,T1,hT1,hM1⟩;have HM1:=hqd hM1;have HT1:=hqd (HT0.out.trans hT1);clear hM1 hT1;go_wp2_with fail;go_meet
    exact⟨T1,rfl,HT1.out,HM1.out⟩
  ·have HC:=hqd hC
   clear hC;rcases hfn with rfl|rfl|rfl|rfl
   all_goals
    go_wp2_with fail;refine(HC.out W0 x0).mono ?_;rintro e w1 ⟨rfl,T1,hT1,hM1⟩;have HM1:=hqd hM1;have HT1:=hqd (HT0.out.trans hT1);clear hM1 hT1;go_wp2_with fail;go_meet
    exact⟨T1,rfl,HT1.out,HM1.out⟩
  ·have HM1:=hqd (show MtIn W0 T b cf tp ops ah m W1 B1 by rw[hw,hB];exact HM.out.ext x0)
   have He:=hqd he;have e1:(fn==1)=false:=by rw[beq_eq_false_iff_ne];omega
   have e2:(fn==2)=false:=by rw[beq_eq_false_iff_ne];omega
   have e3:(fn==3)=false:=by rw[beq_eq_false_iff_ne];omega
   have e4:(fn==4)=false:=by rw[beq_eq_false_iff_ne];omega
   have e5:(fn==5)=false:=by rw[beq_eq_false_iff_ne];omega
   have e6:(fn==6)=false:=by rw[beq_eq_false_iff_ne];omega
   have e7:(fn==7)=false:=by rw[beq_eq_false_iff_ne];omega
   have e8:(fn==8)=false:=by rw[beq_eq_false_iff_ne];omega
   clear he hw hB hfn;go_wp2_with fail;go_meet
   exact⟨T,by rw[He.out];rfl,HT0.out,HM1.out⟩
 case rest =>
  obtain⟨T1,rfl,hT1,hM1⟩:=hcut;have hn2:=hok.n2;have hn8:=hok.n8;obtain⟨i0,hi,hz0,hz1,hz2⟩:=info_parts info_ev;obtain⟨g,hgA,_⟩:=hM1.row.at_ (range_map_get cf.n _ (show 0<cf.n by omega));obtain⟨gE,hgE,_⟩:=hM1.evs.at_ (range_map_get cf.n _ (show 0<cf.n by omega));have c0:=hM1.hd.cell (i:=0) rfl;rw[hgA]at c0;have HgA:=hqd hgA;have HgE:=hqd hgE;have HM1:=hqd hM1;have HT1:=hqd hT1;have Hk1:=hqd hk1;have Hlog:=hqd hlog;clear hM1 hT1 hgA hgE hb k0 k1 k2 k3 hk1 hlog;go_upto_region 16 with fail
  go_loopw [33] (fun iv wr=>∃(j:Nat) (T':Tg) (hs':Nat→Option Addr×Nat),iv = .int .i64 (j:Nat)∧j≤cf.n∧Turn (0 < ·) w T wr T'∧MtIn wr T' b cf tp ops ah {m with hs:=hs'} (tellK W1 j) B1) (fun iv _=>cf.n-(intOf iv).toNat)
  case atStart=>exact⟨0,T1,m.hs,rfl,Nat.zero_le _,HT1.out,HM1.out.start⟩
  case round =>
   obtain⟨j,T2,hs2,rfl,hj,hT2,hM2⟩:=hrel;have hu:=hT2.unborn;by_cases hjn:j<cf.n
   ·have hd1:decide (j<cf.n)=true:=decide_eq_true hjn
    have hd1':decide ((j:Int)<(cf.n:Int))=true:=decide_eq_true (by omega);obtain⟨g',hg',cA0,_,_⟩:=hM2.row.at_ (range_map_get cf.n _ hjn);have hgg:g'=g:=by
     have h9:m.A=some ⟨g',0,none⟩:=hg';rw[HgA.out]at h9;cases h9
     rfl
    rw[hgg]at cA0;obtain⟨gE',hgE',cE0,fE,tE⟩:=hM2.evs.at_ (range_map_get cf.n _ hjn);have hgg2:gE'=gE:=by
     have h9:m.EA=some ⟨gE',0,none⟩:=hgE';rw[HgE.out]at h9;cases h9
     rfl
    rw[hgg2]at cE0 tE;have cE:wr.cell? ⟨gE,j,none⟩=some (.slice (hs2 j).1 (W1.log j).length (hs2 j).2):=by rw[cE0];show some (Value.slice (hs2 j).1 ((tellK W1 j).log j).length (hs2 j).2)=_;rw[tellK_log]
    have cA:wr.cell? ⟨g,j,none⟩=some (.iface (pty ah) (.pointer (some ⟨m.bs j,0,none⟩))):=by rw[cA0];exact congrArg some (pv_eq ah (m.bs j))
    have c2:wr.cell? ⟨b,2,none⟩=some (.slice (some ⟨gE,0,none⟩) cf.n m.ec):=by
     have h9:=hM2.hd.cell (i:=2) rfl;rw[h9];show some (Value.slice m.EA cf.n m.ec)=_
     rw[HgE.out]
    have hTb:T2 b=1:=hM2.hd.1;have hRow:Row wr T2 (4+j) 197 1 (hs2 j).1 (W1.log j).length (hs2 j).2 ((W1.log j).map evC):=by
     have h9:=hM2.ev j hjn;rw[tellK_log]at h9;exact h9
    have hPl:PlayerAt ah wr T2 (m.ts j) (m.bs j) cf j tp ops (W1.ps j) B1:=by
     have h9:=hM2.ps j hjn;rw[tellK_ps]at h9;exact h9
    have h14:14≤m.ts j:=hM2.ts0 j hjn;have hCr:=Hk1.out j hjn;have hl8:(W1.ps j).ls.length≤8:=by rw[hCr.len];exact hn8
    have hl8a:∀ i,i<cf.n→((tellK W1 j).ps i).ls.length≤8:=fun i hi=>by
     have h9:((tellK W1 j).ps i).ls=(W1.ps i).ls:=by
      show(if i<j then {W1.ps i with evs:=[]} else W1.ps i).ls=_
      split<;>rfl
     rw[h9,(Hk1.out i hi).len];exact hn8
    have hev:=hCr.evs;have hlg:=Hlog.out j hjn;have hRowC:∀ q,blk (hs2 j).1=some q→T2 q=4+j:=hRow.2;have mm:=m_events ah (m.bs j);have ee:=e_events ah (m.bs j);have HM2:=hqd hM2;have HT2:=hqd hT2;have HRow:=hqd hRow;have HPl:=hqd hPl;have HCr:=hqd hCr;have Hl8a:=hqd hl8a;have hg9:tlC T2 ⟨b,2,none⟩:=Or.inl hTb;have hg8:tlC T2 ⟨gE,j,none⟩:=Or.inr tE;have Hg9:=hqd hg9;have Hg8:=hqd hg8;have Hst13:=hqd (tlP.stab (ah:=ah) (B:=B1) (tp:=tp) (ops:=ops) (q:=m.bs j) (c:=W1.ps j) h14 (show j<8 by omega) hok.workers hl8 hu);have Hst14:=hqd (tlQ.stab (ah:=ah) (B:=B1) (tp:=tp) (ops:=ops) (q:=m.bs j) (n:=(W1.log j).length+(W1.ps j).evs.length) (xs:=(W1.log j).map evC++(W1.ps j).evs.map evC) (c:=W1.ps j) h14 (show j<8 by omega) hok.workers hl8 hu);clear hM2 hT2 hRow hPl hCr hl8a cA0 cE0 fE hg' hgE' hgg hgg2 hTb hg9 hg8;go_upto_region 18 with fail
    apply wrH 15 (yR (tlF (m.ts j) j) (tlC T2) T2) (yRs (tlF (m.ts j) j) (tlC T2) T2) (yJ (tlF (m.ts j) j) T2 _) (yJ.start _ _ _);simp only[tk];repeat apply lxG (fun _ h _ _=>aj (h.cell Hg9.out c2) (h.cell Hg8.out cE))
    apply lexG_call (p:=fun v W=>wr.heap.size≤W.heap.size∧tlP ah T2 (m.ts j) (m.bs j) cf tp ops (W1.ps j) B1 j v W) (by decide) (by decide) Hst13.out
    ·rfl
    ·intro W
     go_simp;first|exact⟨rfl,rfl⟩|exact ee W
    ·intro W hR hJ hΦ
     have hTJ:=oR.turn hJ hu;have hno:∀ k,In (m.ts j) 40 k→¬ ∃ i,i≠13∧tlF (m.ts j) j i k:=fun k hk ⟨i,h1,h2⟩=>tlF_13 h14 (by omega) h1 hk h2;have hP:=HPl.out.turn hok.workers hl8 hTJ (fun⟨i,_,h⟩=>tlF_not (by unfold In;omega) (by omega) h) hno;refine(play_events hP HCr.out hTJ.unborn).mono ?_;rintro e w' ⟨v,rfl,T',hT',EA,ec,rfl,⟨tt,htt,hRw⟩,rfl,hsz,hP'⟩;have h1:oR (In (m.ts j) 40) T' W w':=Moved.of_turn hT';have h2:Stay (tlC T') W w':=fun p u hp hc=>h1.cell hc (fun h=>by unfold In at h;rcases hp with hp|hp<;>omega)
     exact⟨_,rfl,⟨h1.mono fun k hk=>⟨13,.inl ⟨rfl,hk⟩⟩,h2⟩,⟨h1.mono fun k hk=>.inl ⟨rfl,hk⟩,h2⟩,Nat.le_trans hR.1.size hT'.size,EA,ec,rfl,⟨tt,htt,hRw⟩,hP'⟩
    intro v13;simp only[pu];apply lexG_newO (p:=yP wr T2 (tlQ ah wr T2 (m.ts j) (m.bs j) cf tp ops (W1.ps j) B1 j ((W1.log j).length+(W1.ps j).evs.length) ((W1.log j).map evC++(W1.ps j).evs.map evC))) (by decide) (by decide) (fun i hi hb=>Hst14.out i (by rintro rfl;exact absurd hb (by decide)) hi)
    ·rfl
    ·intro W hR hJ hΦ
     exact exec_tell _ _ rfl hi hz0 hz1 hz2 h14 (by omega) hok.workers hl8 rfl (xv:=v13) rfl (hΦ.1 rfl) hu HRow.out hJ hlg hev
    intro v14;simp only[pu];refine lexG_nil ?_;intro Wx hR hap hΦ;obtain⟨T3,ht3,hu3,E,Ed,rfl,hRo3,hPl3⟩:=hΦ.1 rfl;clear hΦ hap;simp only[dk];have hT3:Turn (fun k=>∃ i,tlF (m.ts j) j i k) wr T2 Wx T3:=⟨hR.1.os,hR.1.tape,hR.1.output,hR.1.size,hR.1.block,ht3,hu3⟩;have hev3:=HM2.out.evs.turn hT3 (fun⟨i,h⟩=>tlF_not (by unfold In;omega) (by omega) h);obtain⟨gx,hgx,cx,fx,_⟩:=hev3.at_ (range_map_get cf.n _ hjn);have hgg3:gx=gE:=by
     have h9:m.EA=some ⟨gx,0,none⟩:=hgx;rw[HgE.out]at h9;cases h9
     rfl
    rw[hgg3]at cx fx;have hMt:=hqd (HM2.out.tell hok Hl8a.out hjn HgE.out hT3 hRo3 hPl3);have HR:=hqd hR;clear hR hT3 hev3 hgx hRo3 hPl3 hgg3 c2 cE cA;go_wp2_with fail;go_roundw
    case rel=>exact⟨j+1,T3,updF hs2 j (E,Ed),by go_num,by omega,HT2.out.trans hMt.out.1,hMt.out.2⟩
    case measure=>simp[intOf];omega
   ·obtain rfl:j=cf.n:=by omega
    have HM2:=hqd hM2;have HT2:=hqd hT2;clear hM2 hT2;go_wp2_with fail;go_ret;exact⟨rfl,T2,HT2.out,_,HM2.out.told⟩
end
section
variable {ah:Bool} {w w' w0:World} {T T':Tg} {b:Nat} {cf:Cf} {tp:List UInt8} {ops:List OpT} {W W':Wd} {B:Nat} {m:Mb}
theorem MtIn.net_(h:MtIn w T b cf tp ops ah m W B)(hok:CfOk cf)(hl:∀ i,i<cf.n→(W.ps i).ls.length≤8)(hT:Turn (In 12 2) w T w' T'){net':List Pk}(hN:NetAt w' T' 12 m.nb cf.id net'):MtIn w' T' b cf tp ops ah m {W with net:=net'} B:=by
 have hn8:=hok.n8;exact⟨h.hd.turn hT (by unfold In;omega),h.row.turn hT (by unfold In;omega),h.evs.turn hT (by unfold In;omega),fun i hi=>(h.ev i hi).turn hT (by unfold In;omega),hN,h.ts0,h.tsd,fun i hi=>(h.ps i hi).turn hok.workers (hl i hi) hT (by unfold In;omega) (fun q hq e=>by have:=h.ts0 i hi;unfold In at *;omega)⟩
theorem MtOk.len(hk:MtOk cf tp ops W B){i:Nat}(hi:i<cf.n):(W.ps i).ls.length≤8:=by rw[(hk.cr i hi).len];exact hk.ok.n8
theorem one_press(h:MtIn w T b cf tp ops ah m W B)(hk:MtOk cf tp ops W B)(hu:Unborn w T){p:Nat}(hp:p<cf.n)(u:UInt8)(x n:Int)(hx:IntKind.u8.wrap x=(u.toNat:Int))(hQ:WordsOk tp ops cf ((W.ps p).press p cf.window u)) :
  Calls prog 80 #[ptrV b,stepV 1 (p:Nat) x n] w (Does (0 < ·) w T (.int .i64 ((W.ps p).pressE p cf.window:Nat)) fun w' T'=>MtIn w' T' b cf tp ops ah m {W with ps:=updF W.ps p ((W.ps p).press p cf.window u)} (B+20)):=by
 have ht:=h.ts0 p hp;have H1:=hqd fun W2 (e:Ext w W2)=>mt_player (h.ext e) hp;have H2:=hqd fun W2 (e:Ext w W2)=>play_press ((h.ps p hp).ext e) u (hk.cr p hp) (hu.ext e) (by omega) hk.tp_ hQ (by have:=hk.big;omega);have HG:=hqd fun W2 (e:Ext w W2) w' T' (hT:Turn (In (m.ts p) 40) W2 T w' T') (hP:PlayerAt ah w' T' (m.ts p) (m.bs p) cf p tp ops ((W.ps p).press p cf.window u) (B+20))=>(h.ext e).player hk hp (by omega) hT hP;have HT:=hqd fun W2 (e:Ext w W2) w' T' (hT:Turn (In (m.ts p) 40) W2 T w' T')=>(Turn.of_ext (0 < ·) hu e).trans (hT.mono fun k hk=>by unfold In at hk;omega);have x0:=Ext.alloc w (.cells #[.int .i64 1,.int .i64 (p:Nat),.int .i64 x,.int .i64 n] 59);have hb:=(Has.new w T [.int .i64 1,.int .i64 (p:Nat),.int .i64 x,.int .i64 n] 59 rfl);have Hhx:=hqd hx;have mm:=m_press ah (m.bs p);have ee:=e_press ah (m.bs p) (.int .u8 (u.toNat:Nat));unfold stepV ptrV at *;clear h hk hu;go_enter func80,ntmps80;go_upto_region 1 with fail
 generalize hW:World.alloc w _=W0 at *;generalize w.heap.size=gs at *;clear hW;have k0:=hb.cell (i:=0) rfl;have k1:=hb.cell (i:=1) rfl;have k2:=hb.cell (i:=2) rfl;clear hb;go_wp2_with fail;refine(H1.out W0 x0).mono ?_;rintro e w1 ⟨rfl,hw⟩;have hw:=hw.symm;subst hw;rw[pv_eq];go_wp2_with fail;refine(H2.out W0 x0).mono ?_;rintro e w2 ⟨rfl,T2,hT2,hP2⟩;have HM2:=hqd (HG.out _ x0 _ _ hT2 hP2);have HT2:=hqd (HT.out _ x0 _ _ hT2);clear hT2 hP2;go_wp2_with fail;go_ret;exact⟨rfl,T2,HT2.out,HM2.out⟩
theorem one_tick(h:MtIn w T b cf tp ops ah m W B)(hk:MtOk cf tp ops W B)(hu:Unborn w T){p:Nat}(hp:p<cf.n)(x n:Int)(hnow:(W.ps p).now<1000000)(hn:W.net.length≤300)(hl:∀ k∈(W.ps p).ticks (smP tp ops) p,okPk k)(hk':CrOk cf p ((W.ps p).tick p) []) :
  Calls prog 80 #[ptrV b,stepV 2 (p:Nat) x n] w (Does (0 < ·) w T (.int .i64 ((0:Nat):Int)) fun w' T'=>MtIn w' T' b cf tp ops ah m {W with ps:=updF W.ps p ((W.ps p).tick p),net:=sentN W.net ((W.ps p).ticks (smP tp ops) p)} B):=by
 have ht:=h.ts0 p hp;have H1:=hqd fun W2 (e:Ext w W2)=>mt_player (h.ext e) hp;have H2:=hqd fun W2 (e:Ext w W2)=>play_tick ((h.ps p hp).ext e) (hk.cr p hp) (hu.ext e) hnow;have HG:=hqd fun W2 (e:Ext w W2) w' T' (hT:Turn (In (m.ts p) 40) W2 T w' T') (hP:PlayerAt ah w' T' (m.ts p) (m.bs p) cf p tp ops ((W.ps p).tick p) B)=>(h.ext e).player hk hp (Nat.le_refl _) hT hP;have HT:=hqd fun W2 (e:Ext w W2) w' T' (hT:Turn (In (m.ts p) 40) W2 T w' T')=>(Turn.of_ext (0 < ·) hu e).trans (hT.mono fun k hk=>by unfold In at hk;omega);have Hls:=hqd (show ∀ i,i<cf.n→(updF W.ps p ((W.ps p).tick p) i).ls.length≤8 from fun i hi=>by
  by_cases e:i=p
  ·subst e
   rw[updF_same,hk'.len];exact hk.ok.n8
  ·rw[updF_other _ _ e]
   exact hk.len hi)
 have x0:=Ext.alloc w (.cells #[.int .i64 2,.int .i64 (p:Nat),.int .i64 x,.int .i64 n] 59);have hb:=(Has.new w T [.int .i64 2,.int .i64 (p:Nat),.int .i64 x,.int .i64 n] 59 rfl);have mm:=m_tick ah (m.bs p);have ee:=e_tick ah (m.bs p);have Hok:=hqd hk.ok;have Hl:=hqd hl;unfold stepV ptrV at *;clear h hk hu hk' hl;go_enter func80,ntmps80;go_upto_region 1 with fail
 generalize hW:World.alloc w _=W0 at *;generalize w.heap.size=gs at *;clear hW;have k0:=hb.cell (i:=0) rfl;have k1:=hb.cell (i:=1) rfl;have k2:=hb.cell (i:=2) rfl;clear hb;go_wp2_with fail;refine(H1.out W0 x0).mono ?_;rintro e w1 ⟨rfl,hw⟩;have hw:=hw.symm;subst hw;rw[pv_eq];go_wp2_with fail;refine(H2.out W0 x0).mono ?_;rintro e w2 ⟨v,rfl,T2,hT2,B2,n2,d2,rfl,hMl,hP2⟩;have hM2:=HG.out _ x0 _ _ hT2 hP2;have Hgo:=hqd (mt_goes hM2 hT2.unborn hn hMl Hl.out);have HM2:=hqd hM2;have HT2:=hqd (HT.out _ x0 _ _ hT2);unfold ptrV at *;clear hT2 hP2 hM2 hMl;go_wp2_with fail;refine Hgo.out.mono ?_;rintro e w3 ⟨rfl,T3,hT3,hN3⟩;have HM3:=hqd (HM2.out.net_ Hok.out Hls.out hT3 hN3);have HT3:=hqd (HT2.out.trans (hT3.mono (S':=(0 < ·)) fun k hk=>by unfold In at hk;omega));clear hT3 hN3;go_wp2_with fail;go_ret;exact⟨rfl,T3,HT3.out,HM3.out⟩
end
def zM:List Value:=[.int .i64 0,.int .i64 0,.slice none 0 0]
def three(us:List Value):Prop:=∃ a b A n c,us=[.int .i64 a,.int .i64 b,.slice A n c]
def ShM(ty:TypeId)(g:Nat)(w:World):Prop:=∃ us,three us∧w.heap[g]?=some (.cells us.toArray ty)
def gmRs(K al m:Nat)(ty:TypeId)(i:Nat)(σ:Nat→Value)(w w':World):Prop:=Ext w w'∨(i=K∧∃ g,σ al = .pointer (some ⟨g,0,none⟩)∧m≤g∧w.grownBy w' (some g)∧ShM ty g w∧ShM ty g w')
structure GMtab(m:Nat)(ty:TypeId)(G:List Value→World→Prop):Prop where
 shp_:∀ us w,G us w→three us
 ext:∀ us w w',G us w→Ext w w'→G us w'
 shp:∀ us w w' g,m≤g→ShM ty g w→w.grownBy w' (some g)→G us w→G us w'
def gmV(i:Nat)(V:List Value→Value)(G:List Value→World→Prop)(σ:Nat→Value)(w:World):Prop:=∃ us,σ i=V us∧G us w
def gmA(m al:Nat)(ty:TypeId)(σ:Nat→Value)(w:World):Prop:=∃ g,σ al = .pointer (some ⟨g,0,none⟩)∧m≤g∧ShM ty g w
def gmS(m al:Nat)(ty:TypeId)(G:List Value→World→Prop)(σ:Nat→Value)(w:World):Prop:=∃ g us,σ al = .pointer (some ⟨g,0,none⟩)∧m≤g∧G us w∧w.heap[g]?=some (.cells us.toArray ty)
section
variable {K al m i:Nat} {ty:TypeId} {G:List Value→World→Prop} {V:List Value→Value} {l:List Oper} {w w' w0:World} {σ:Nat→Value}
theorem ShM.lt{g:Nat}(h:ShM ty g w):g<w.heap.size:=by
 obtain⟨_,_,h⟩:=h;exact(Array.getElem?_eq_some_iff.1 h).1
theorem ShM.ext{g:Nat}(h:ShM ty g w)(e:Ext w w'):ShM ty g w':=by
 have hl:=h.lt;obtain⟨us,h1,h2⟩:=h;exact⟨us,h1,(e.block g hl).trans h2⟩
theorem gmV.keeps(hG:GMtab m ty G):Keeps (gmRs K al m ty) 99 99 l i (gmV i V G):=by
 refine⟨fun j σ v w hj _ h=>?_,fun j hj _ σ w w' _ h hR=>?_⟩
 ·obtain⟨us,h1,h2⟩:=h
  exact⟨us,by rw[upd_ne (Ne.symm hj)];exact h1,h2⟩
 ·obtain⟨us,h1,h2⟩:=h
  refine⟨us,h1,?_⟩;rcases hR with e|⟨_,g,_,hm,hg,hs,_⟩
  ·exact hG.ext us w w' h2 e
  ·exact hG.shp us w w' g hm hs hg h2
theorem gmA.keeps:Keeps (gmRs K al m ty) 99 99 l al (gmA m al ty):=by
 refine⟨fun j σ v w hj _ h=>?_,fun j hj _ σ w w' _ h hR=>?_⟩
 ·obtain⟨g,h1,h2,h3⟩:=h
  exact⟨g,by rw[upd_ne (Ne.symm hj)];exact h1,h2,h3⟩
 ·obtain⟨g,h1,h2,h3⟩:=h
  refine⟨g,h1,h2,?_⟩;rcases hR with e|⟨_,g',e',hm,hg,hs,hs'⟩
  ·exact h3.ext e
  ·rw[h1]at e'
   cases e'
   exact hs'
theorem gmS.keeps(hG:GMtab m ty G)(hb:bef l K al=true):Keeps (gmRs K al m ty) 99 99 l K (gmS m al ty G):=by
 refine⟨fun j σ v w hj hn h=>?_,fun j hj _ σ w w' _ h hR=>?_⟩
 ·obtain⟨g,us,h1,h2⟩:=h
  refine⟨g,us,?_,h2⟩;rw[upd_ne (fun e=>by rw[← e,hb]at hn;cases hn)]
  exact h1
 ·obtain⟨g,us,h1,h2,h3,h4⟩:=h
  rcases hR with e|⟨e,_⟩
  ·exact⟨g,us,h1,h2,hG.ext us w w' h3 e,(e.block g (Array.getElem?_eq_some_iff.1 h4).1).trans h4⟩
  ·exact absurd e hj
theorem three.len{us:List Value}(h:three us):us.length=3∧∀ u∈us,u.oneCell'=true:=by
 obtain⟨a,b,A,n,c,rfl⟩:=h;exact⟨rfl,by simp[Value.oneCell']⟩
theorem gm_store{P:Program}(hG:GMtab m ty G)(hi:(P.info? ty).map (·.size)=some 3){g:Nat}{us:List Value}(hm:m≤g)(hs:ShM ty g w)(hg:G us w)(he:σ al = .pointer (some ⟨g,0,none⟩))(hK:al≠K) :
  ∃ W2,(∀(o:Oper) (a:Act) (x y:Operand),o.op = .store ty x y→a.eval x = .pointer (some ⟨g,0,none⟩)→a.eval y = .agg us.toArray→(execOp a.eval o).run P w = .ok .skip W2)∧(m≤w.heap.size→Below m w W2)∧gmRs K al m ty K σ w W2∧gmS m al ty G (upd σ K undef) W2:=by
 obtain⟨vs,h5,hb⟩:=id hs;have hus:=(hG.shp_ _ _ hg).len;have hgr:w.grownBy (w.setRow g us.toArray) (some g):=⟨rfl,rfl,rfl,by simp,fun k _ hk=>Go.setRow_other w g k _ (fun e=>hk (by rw[e]))⟩;have hb2:=setRow_heap w g vs.toArray us.toArray ty (0,0) hb;have hst:=run_storeVar_row (P:=P) w g ty ty vs.toArray us.toArray hb (by rw[hi];simp[hus.1]) (by simp[hus.1,h5.len.1]) (by rw[List.all_toArray];exact List.all_eq_true.2 hus.2);refine⟨w.setRow g us.toArray,fun o a x y ho hx hy=>?_,fun _=>⟨hgr.os,hgr.tape,hgr.output,hgr.size,fun k hk=>?_⟩,.inr ⟨rfl,g,he,hm,hgr,hs,us,hG.shp_ _ _ hg,hb2⟩,g,us,by rw[upd_ne hK];exact he,hm,hG.shp us w _ g hm hs hgr hg,hb2⟩
 ·unfold execOp
  simp only[ho,hx,hy,Instr.storeAt,Instr.sureAddr,Sem.run_bind,Sem.run_pure,Result.andThen_ok,hst]
 ·by_cases hk2:k<w.heap.size
  ·exact hgr.block k hk2 (fun e=>by cases e;omega)
  ·omega
end
section
variable {ty:TypeId} {w w':World} {m fr n d g:Nat} {ps:List (List UInt8)} {A:Option Addr}
theorem ShM.u8{o:Nat}{x:Int}(hs:ShM ty g w):w.cell? ⟨g,o,none⟩≠some (.int .u8 x):=by
 obtain⟨us,⟨a1,a2,A3,a4,a5,rfl⟩,hb⟩:=hs;rw[cell_of_row _ _ _ _ _ _ hb];intro h;match o,h with
 | 0,h=>cases h
 | 1,h=>cases h
 | 2,h=>cases h
 | _+3,h=>simp at h
def mlG(src dst m0:Nat)(l:List UInt8)(us:List Value)(w:World):Prop:=∃ B d,us=[.int .i64 (src:Nat),.int .i64 (dst:Nat),.slice B l.length d]∧Rb w B l.length d l∧∀ k,blk B=some k→m0≤k
theorem mlG.stab(src dst m0 m:Nat)(l:List UInt8):GMtab m 176 (mlG src dst m0 l):=by
 refine⟨?_,?_,?_⟩
 ·rintro us w ⟨B,d,rfl,_⟩
  exact⟨_,_,_,_,_,rfl⟩
 ·rintro us w w' ⟨B,d,h,hr,hg⟩ e
  exact⟨B,d,h,hr.ext e,hg⟩
 ·rintro us w w' g _ hs hg ⟨B,d,h,hr,hge⟩
  refine⟨B,d,h,Rd.of_blocks hr fun hn k hk=>hg.block k (Rd.lt' hr hn hk) (fun e=>?_),hge⟩;cases Option.some.inj e
  obtain⟨g',o,e',hc⟩:=hr.2.2.2 hn;rw[e']at hk;cases hk
  have hp0:0<l.length:=by omega
  have hb0:(bcs l)[0]?=some (.int .u8 ((l[0].toNat:Nat):Int)):=by
   unfold bcs;rw[List.getElem?_map,List.getElem?_eq_getElem hp0];rfl
  exact hs.u8 (hc 0 _ hb0)
end
section
variable {ah:Bool} {w w' w0:World} {T T':Tg} {b:Nat} {cf:Cf} {tp:List UInt8} {ops:List OpT} {W W':Wd} {B:Nat} {m:Mb}
theorem mt_player_of(hH:Has w T 1 b [.slice m.A cf.n m.lc,ptrV m.nb,.slice m.EA cf.n m.ec])(hR:Row w T 2 40 1 m.A cf.n m.lc ((List.range cf.n).map fun i=>pv ah (m.bs i))){p:Nat}(hp:p<cf.n):Calls prog 14 #[ptrV b,.int .i64 (p:Nat)] w fun e w'=>e = .returned (.iface (pty ah) (.pointer (some ⟨m.bs p,0,none⟩)))∧w'=w:=by
 have c0:=hH.cell (i:=0) rfl;obtain⟨g,hg,cg,_,_⟩:=hR.at_ (range_map_get cf.n _ hp);have hmx:=hR.rd.2.1;have e1:decide (cf.n≤p)=false:=decide_eq_false (by omega);have e2:decide ((p:Int)<0)=false:=decide_eq_false (by omega);rw[pv_eq]at cg;generalize (Value.iface (pty ah) (.pointer (some ⟨m.bs p,0,none⟩)))=v at *;rw[hg]at c0;unfold ptrV at *;clear hH hR hg;go_enter func14,ntmps14;go_wp2_with fail;go_ret;exact⟨rfl,rfl⟩
def recvE(c:Cr):Nat:=if c.closed then 6 else 0
def recvW(W:Wd)(i:Nat)(k:Pk):Wd:={W with ps:=updF W.ps k.dst ((W.ps k.dst).recv k.dst k),net:=W.net.eraseIdx i}
theorem mail_send(h:MtIn w T b cf tp ops ah m W B)(hk:MtOk cf tp ops W B)(hu:Unborn w T){i:Nat}(hi:i<W.net.length)(hn:W.net.length≤300)(hoks:∀ k∈W.net,okPk k)(hdst:W.net[i].dst<cf.n)(hsrc:W.net[i].src<cf.n)(hk':CrOk cf W.net[i].dst ((W.ps W.net[i].dst).recv W.net[i].dst W.net[i]) [])
  (hf9:W.net[i].quit=false→W.net[i].first≤((W.ps W.net[i].dst).ls.getD W.net[i].src []).length∧W.net[i].first+W.net[i].press.length≤1000) (hQ:WordsOk tp ops cf ((W.ps W.net[i].dst).recv W.net[i].dst W.net[i])) (x y:Int) :
  Calls prog 81 #[ptrV b,stepV 3 x y (i:Nat)] w (Does (0 < ·) w T (.int .i64 (recvE (W.ps W.net[i].dst):Nat)) fun w' T'=>MtIn w' T' b cf tp ops ah m (recvW W i W.net[i]) (B+20)):=by
 have hok9:=hoks _ (List.getElem_mem hi);have Hlk:=hqd fun W2 (e:Ext w W2)=>net_look (h.net.ext e) hoks hi;have Hdr:=hqd fun W2 (e:Ext w W2)=>net_drop (h.net.ext e) (hu.ext e) (by omega) hn hi;have HM:=hqd h;have Hk:=hqd hk;have HU:=hqd hu;have Hk':=hqd hk';have HQ:=hqd hQ;have Hf9:=hqd hf9;have Hok9:=hqd hok9;unfold recvW;generalize hkk:W.net[i]=k at *;have c1:=h.hd.cell (i:=1) rfl;have x0:=Ext.alloc w (.cells #[.int .i64 3,.int .i64 x,.int .i64 y,.int .i64 (i:Nat)] 59);have hb:=(Has.new w T [.int .i64 3,.int .i64 x,.int .i64 y,.int .i64 (i:Nat)] 59 rfl);rw[hu _ (Nat.le_refl _)]at hb;have hTb:T b=1:=h.hd.1;unfold stepV ptrV at *;clear h hk hu hk' hQ hf9 hok9;go_enter func81,ntmps81;go_upto_region 1 with fail
 generalize hW:World.alloc w _=W0 at *;generalize w.heap.size=gs at *;clear hW;replace c1:=x0.cell c1;have k0:=hb.cell (i:=0) rfl;have k3:=hb.cell (i:=3) rfl;have HC:∀ W2,Ext W0 W2→Calls prog 82 #[.pointer (some ⟨m.nb,0,none⟩),.int .i64 (i:Nat)] W2 fun e w'=>(∃ us,e = .returned (.tuple #[.agg us.toArray,.bool true])∧mlG k.src k.dst W0.heap.size (encPk cf.id k) us w')∧Ext W2 w':=fun W2 e=>by
  refine(Hlk.out W2 (x0.trans e)).mono ?_;rintro e9 w' ⟨B,bd,rfl,ho,e'⟩;exact⟨⟨_,rfl,B,bd,rfl,Rb.of ho.rd rfl,fun q hq=>Nat.le_trans e.size (ho.blk_ge q hq)⟩,e'⟩
 have HC:=hqd HC;apply wp_region_lexS (F1:=99) (F2:=99) (R:=Below W0.heap.size) (Rs:=gmRs 11 10 W0.heap.size 176) (J:=fun _ _=>True) (by kernel_rfl) (by kernel_rfl) (Below.refl _) (fun _ _ W=>.inl (Ext.refl W)) (fun _ _ h=>h.size) (fun _ _ _ _ _ _ _ _ _=>trivial) (fun _ _ _=>Below.trans) (Below.of_ext' (Ext.drew _) (Nat.le_refl _)) (fun _=>trivial);intro σ;apply lxS (fun _ h _ _=>aj ((Below.to_ext h).cell c1) ((Below.to_ext h).cell k3));apply lxS (fun _ h _ _=>aj ((Below.to_ext h).cell c1) ((Below.to_ext h).cell k3));apply lxS (fun _ h _ _=>aj ((Below.to_ext h).cell c1) ((Below.to_ext h).cell k3));apply lxS (fun _ h _ _=>aj ((Below.to_ext h).cell c1) ((Below.to_ext h).cell k3));apply lxS (fun _ h _ _=>aj ((Below.to_ext h).cell c1) ((Below.to_ext h).cell k3));apply lxS (fun _ h _ _=>aj ((Below.to_ext h).cell c1) ((Below.to_ext h).cell k3));apply lexS_call (p:=gmV 6 (fun us=>.tuple #[.agg us.toArray,.bool true]) (mlG k.src k.dst W0.heap.size (encPk cf.id k))) (by decide) (by decide) (gmV.keeps (mlG.stab _ _ _ _ _))
 ·rfl
 ·intro W
  go_simp;exact⟨rfl,rfl⟩
 ·intro W hR hJ hΦ
  refine(HC.out W (Below.to_ext hR)).mono ?_;rintro e w' ⟨⟨us,rfl,hg⟩,ee⟩;exact⟨_,rfl,Below.of_ext' ee hR.size,.inl ee,us,upd_eq,hg⟩
 simp only[pu];apply lexS_new (p:=gmV 7 (fun us=>.tuple #[.agg us.toArray,.bool true]) (mlG k.src k.dst W0.heap.size (encPk cf.id k))) (by decide) (by decide) (gmV.keeps (mlG.stab _ _ _ _ _))
 ·rfl
 ·intro W hR hJ hΦ
  obtain⟨us,e1,hg⟩:=hΦ.1 rfl;refine⟨_,W,?_,Below.refl _ _,.inl (Ext.refl _),us,upd_eq,hg⟩;simp only[e1];go_simp;first|done|rfl
 simp only[pu];apply lexS_new (p:=gmV 8 (fun us=>.agg us.toArray) (mlG k.src k.dst W0.heap.size (encPk cf.id k))) (by decide) (by decide) (gmV.keeps (mlG.stab _ _ _ _ _))
 ·rfl
 ·intro W hR hJ hΦ
  obtain⟨us,e1,hg⟩:=hΦ.1 rfl;refine⟨_,W,?_,Below.refl _ _,.inl (Ext.refl _),us,upd_eq,hg⟩;simp only[e1];go_simp;first|done|rfl
 simp only[pu];apply lexS_ex (u:=.bool true) (by decide) (by decide) (Below.refl _) (fun _ _ W=>.inl (Ext.refl W))
 ·rfl
 ·intro W hR hJ hΦ
  obtain⟨us,e1,hg⟩:=hΦ.2.1 rfl;simp only[e1];go_simp;first|done|rfl
 simp only[pu];apply lexS_new (p:=gmA W0.heap.size 10 176) (by decide) (by decide) gmA.keeps
 ·rfl
 ·intro W hR hJ hΦ
  refine⟨.pointer (some ⟨W.heap.size,0,none⟩),W.alloc (.cells zM.toArray 176),?_,Below.of_ext' (Ext.alloc _ _) hR.size,.inl (Ext.alloc _ _),W.heap.size,upd_eq,hR.size,zM,⟨_,_,_,_,_,rfl⟩,heap_alloc_new W _⟩;unfold zM;go_simp;first|done|rfl
 simp only[pu];apply lexS_store (p:=gmS W0.heap.size 10 176 (mlG k.src k.dst W0.heap.size (encPk cf.id k))) (by decide) (by decide) (gmS.keeps (mlG.stab _ _ _ _ _) (by kernel_rfl))
 ·rfl
 ·intro W hR hJ hΦ
  obtain⟨g8,e8,hm8,hs8⟩:=hΦ.1 rfl;obtain⟨us,e1,hg⟩:=hΦ.2.1 rfl;obtain⟨W2,r1,r2,r3,r4⟩:=gm_store (P:=prog) (K:=11) (al:=10) (m:=W0.heap.size) (σ:=σ) (mlG.stab _ _ _ _ _) size_mail hm8 hs8 hg e8 (by decide);exact⟨W2,r1 _ _ _ _ rfl e8 e1,r2 hR.size,r3,r4⟩
 simp only[Act.put];apply lxS (fun _ h _ _=>aj ((Below.to_ext h).cell c1) ((Below.to_ext h).cell k3));refine lexS_nil ?_;intro Wx hR hap hΦ;obtain⟨gx,us,e8,hgx,hG8,hb8⟩:=hΦ.1 rfl;have hWx:=Below.to_ext hR;clear hΦ hap hR;rw[e8];generalize σ 6=s6 at *;generalize σ 7=s7 at *;generalize σ 8=s8 at *;generalize σ 10=s10 at *;generalize σ 11=s11 at *;clear e8;obtain⟨MB,md,rfl,hRb,hge⟩:=hG8;have hgs0:T gs=0:=hb.1;have hgx0:T gx=0:=HU.out gx (Nat.le_trans x0.size hgx);have hB8:Has Wx T 0 gx [.int .i64 (k.src:Nat),.int .i64 (k.dst:Nat),.slice MB (encPk cf.id k).length md]:=⟨hgx0,_,hb8⟩;have xw:=x0.trans hWx;have k0:=hWx.cell k0;have k3:=hWx.cell k3;have c1:=hWx.cell c1;have hu:=HU.out.ext xw;have HDr:∀ W2,Ext Wx W2→Calls prog 115 #[.pointer (some ⟨m.nb,0,none⟩),.int .i64 (i:Nat)] W2 (Gives (In 12 2) W2 T fun v w' T'=>v = .bool true∧NetAt w' T' 12 m.nb cf.id (W.net.eraseIdx i)):=fun W2 e=>by
  refine(Hdr.out W2 (xw.trans e)).mono ?_;rintro e w' ⟨rfl,T',hT,hN⟩;exact⟨_,rfl,T',hT,rfl,hN⟩
 have HDr:=hqd HDr;have hgP:Grow (fun v w' T'=>v = .bool true∧NetAt w' T' 12 m.nb cf.id (W.net.eraseIdx i)):=by
  rintro v w T w' ⟨h1,h2⟩ e;exact⟨h1,h2.ext e⟩
 have hnb:¬ In 12 2 (T b):=by rw[hTb];unfold In;omega
 have hng:¬ In 12 2 (T gs):=by rw[hgs0];unfold In;omega
 have HB8:=hqd hB8;have HSb:=hqd (show Sb Wx T MB (encPk cf.id k).length md (encPk cf.id k) from⟨hRb,fun _ q hq=>HU.out q (Nat.le_trans x0.size (hge q hq))⟩);have Hxw:=hqd xw;have HT0:=hqd (Turn.of_ext (0 < ·) HU.out xw);clear hb hb8 hgx hge hRb hWx x0 xw hB8 hgx0 HC;go_upto_region 13 with fail
 apply wrG (oR (In 12 2) T) (oRs 6 (In 12 2) T) (oJ 6 _) (oJ.start _ _);repeat apply lxG (fun _ h _ _=>aj (h.cell c1 hnb) (h.cell k3 hng))
 apply lexG_call (p:=oP _ _ _ _) (by decide) (by decide) (oP.stab hgP _)
 ·rfl
 ·intro W
  go_simp;exact⟨rfl,rfl⟩
 ·intro W hR hJ hΦ
  exact one_call hu (hJ rfl) ((HDr.out) W (hJ rfl))
 intro v6;simp only[pu];refine lexG_nil ?_;intro Wx hR hap hΦ;obtain⟨T1,hT1,rfl,hN2⟩:=hΦ.1 rfl;clear hΦ hap;have hM2:=(HM.out.ext Hxw.out).net_ Hk.out.ok (fun i hi=>Hk.out.len hi) hT1 hN2;have hB9:=HB8.out.turn hT1 (by unfold In;omega);have hsb:=HSb.out.turn hT1 (by unfold In;omega);have hk2:MtOk cf tp ops {W with net:=W.net.eraseIdx i} B:=⟨Hk.out.ok,Hk.out.tp_,Hk.out.cr,Hk.out.big⟩;have h14:14≤m.ts k.dst:=hM2.ts0 _ hdst;have hu:=hT1.unborn;have g1:=hB9.cell (i:=1) rfl;have g2:=hB9.cell (i:=2) rfl;have mm:=m_recv ah (m.bs k.dst);have ee:=e_recv ah (m.bs k.dst) (.slice MB (encPk cf.id k).length md);have hnx:¬ In (m.ts k.dst) 40 (T1 gx):=by rw[hB9.1];unfold In;omega
 have hn1:¬ In (m.ts k.dst) 40 1:=by unfold In;omega
 have hn2:¬ In (m.ts k.dst) 40 2:=by unfold In;omega
 have Hpl:=hqd fun W3 (hR:oR (In (m.ts k.dst) 40) T1 Wx W3)=>mt_player_of (ah:=ah) (hM2.hd.moved hR hn1) (hM2.row.turn (oR.turn hR hu) hn2) hdst;have Hrc:∀ W3,Ext Wx W3→Calls prog (pRecv ah) #[.pointer (some ⟨m.bs k.dst,0,none⟩),.slice MB (encPk cf.id k).length md] W3 (Gives (In (m.ts k.dst) 40) W3 T1 fun v w' T'=>v = .int .i64 (recvE (W.ps k.dst):Nat)∧PlayerAt ah w' T' (m.ts k.dst) (m.bs k.dst) cf k.dst tp ops ((W.ps k.dst).recv k.dst k) (B+20)):=fun W3 e=>by
  refine(play_recv ((hM2.ps k.dst hdst).ext e) k (Hk.out.cr _ hdst) Hk'.out (hu.ext e) (by omega) Hk.out.tp_ Hok9.out rfl hsrc (hsb.rb.ext e) Hf9.out HQ.out (by have:=Hk.out.big;omega)).mono ?_;rintro e9 w' ⟨rfl,T',hT,hP⟩;refine⟨_,rfl,T',hT,?_,hP⟩;unfold recvE;split<;>rfl
 have Hrc:=hqd Hrc;have hgR:Grow (fun v w' T'=>v = .int .i64 (recvE (W.ps k.dst):Nat)∧PlayerAt ah w' T' (m.ts k.dst) (m.bs k.dst) cf k.dst tp ops ((W.ps k.dst).recv k.dst k) (B+20)):=by
  rintro v w T w' ⟨h1,h2⟩ e;exact⟨h1,h2.ext e⟩
 have HM2:=hqd hM2;have HT1:=hqd (HT0.out.trans (hT1.mono (S':=(0 < ·)) fun q hq=>by unfold In at hq;omega));have Hk2:=hqd hk2;clear hM2 hB9 hsb hk2 hT1 hnb hng hgP c1 k0 k3 hn1 hn2 hn;go_wp2_with fail;apply wrG (oR (In (m.ts k.dst) 40) T1) (oRs 6 (In (m.ts k.dst) 40) T1) (oJ 6 _) (oJ.start _ _);repeat apply lxG (fun _ h _ _=>aj (h.cell g1 hnx) (h.cell g2 hnx))
 apply lexG_callx (by decide) (by decide)
 ·rfl
 ·intro W
  go_simp;exact⟨rfl,rfl⟩
 ·intro W hR hJ hΦ
  refine((fun W3 hR=>Hpl.out W3 hR) W hR).mono ?_;rintro e w' ⟨rfl,ee⟩;have ex:Ext W w':=by first|exact ee|(subst ee;exact Ext.refl _)
  exact⟨rfl,oR.of_ext ex,.inr ex⟩
 simp only[pu];repeat apply lxG (fun _ h _ _=>aj (h.cell g1 hnx) (h.cell g2 hnx))
 apply lexG_call (p:=oP _ _ _ _) (by decide) (by decide) (oP.stab hgR _)
 ·rfl
 ·intro W
  go_simp;exact⟨rfl,rfl⟩
 ·intro W hR hJ hΦ
  exact one_call hu (hJ rfl) ((Hrc.out) W (hJ rfl))
 intro v9;simp only[pu];repeat apply lxG (fun _ _ _ hΦ=>oP_val (hΦ.1 rfl))
 refine lexG_nil ?_;intro Wy hR hap hΦ;obtain⟨T3,hT3,rfl,hP3⟩:=hΦ.1 rfl;clear hΦ hap;have HM3:=hqd (HM2.out.player Hk2.out hdst (by omega) hT3 hP3);have HT3:=hqd (HT1.out.trans (hT3.mono (S':=(0 < ·)) fun q hq=>by unfold In at hq;omega));clear hT3 hP3;go_wp2_with fail;go_ret;exact⟨rfl,T3,HT3.out,HM3.out⟩
end
theorem ev_nil_no(a:Addr)(n c:Nat)(w:World):(binOp BinOp.eql 152 (.slice (some a) n c) (.slice none 0 0)).run prog w = .ok (.bool false) w:=by kernel_rfl
theorem ev_nil_yes(n c:Nat)(w:World):(binOp BinOp.eql 152 (.slice none n c) (.slice none 0 0)).run prog w = .ok (.bool true) w:=by kernel_rfl
def Cpy(w:World)(n:Nat)(xs:List Value)(e:Ending)(w':World):Prop:=∃ B d,e = .returned (.slice B n d)∧Rd w' 1 B n d xs∧Ext w w'
theorem evclone_any(w:World)(A:Option Addr)(n c:Nat)(xs:List Value)(hr:Rd w 1 A n c xs)(h1:∀ u∈xs,u.oneCell'=true)(hn:n≤2000000000) :
  Calls prog 96 #[.slice A n c] w (Cpy w n xs):=by
 obtain⟨i0,hi,hz0,hz1,hz2⟩:=info_parts info_ev;have hl:=hr.1;rw[Nat.mul_one]at hl;cases A with
 | none =>
  have hn0:n=0:=by
   rcases Nat.eq_zero_or_pos n with h|h
   ·exact h
   ·obtain⟨_,_,e,_⟩:=hr.2.2.2 (by omega)
    cases e
  have hx:xs=[]:=List.eq_nil_of_length_eq_zero (by omega);subst hn0;subst hx;have hnil:=ev_nil_yes 0 c w;clear hr hl h1;go_enter func96,ntmps96;go_wp2_with fail;go_ret;exact⟨none,0,rfl,Rd.nil_ _ 1,Ext.refl _⟩
 | some a =>
  have hnil:=ev_nil_no a n c w;rcases Nat.eq_zero_or_pos n with h|h
  ·subst h
   have hx:xs=[]:=List.eq_nil_of_length_eq_zero hl;subst hx;clear hr hl h1;go_enter func96,ntmps96;go_wp2_with (at_builtin;refine wpList_append_zero _ rfl _ _ 152 rfl 197 i0 underlying152 hi _ 0 0 rfl (Nat.le_refl _) (some a) c rfl ?_);go_ret;exact⟨_,_,rfl,⟨rfl,Nat.le_refl _,Nat.zero_le _,fun h=>absurd h (by decide)⟩,Ext.alloc _ _⟩
  ·have Hr:=hqd hr
   clear hr;go_enter func96,ntmps96;go_wp2_with (at_builtin;refine wpList_append_full _ rfl _ _ 152 rfl 197 i0 (.agg #[.nilIface]) 1 16 underlying152 hi hz0 hz1 hz2 rfl (by decide) _ 0 [] rfl ⟨rfl,Nat.le_refl _,Nat.zero_le _,fun h=>absurd h (by decide)⟩ (some a) n c xs rfl (Hr.out.ext (Ext.alloc _ _)) h h1 (by unfold maxLen;omega) (by omega) ?_;intro B d wy hoE hxE);go_ret;rw[Nat.zero_add]at hoE;exact⟨B,d,rfl,hoE.rd,(Ext.alloc _ _).trans hxE⟩
section
variable {ah:Bool} {w w' w0:World} {T T':Tg} {b:Nat} {cf:Cf} {tp:List UInt8} {ops:List OpT} {W W':Wd} {B:Nat} {m:Mb}
theorem mt_events(h:MtIn w T b cf tp ops ah m W B){p:Nat}(hp:p<cf.n)(hl:(W.log p).length≤1000000000):Calls prog 64 #[ptrV b,.int .i64 (p:Nat)] w (Cpy w (W.log p).length ((W.log p).map evC)):=by
 have H1:=hqd (mt_player h hp);obtain⟨g,hg,cg,_,_⟩:=h.evs.at_ (range_map_get cf.n _ hp);have c2:w.cell? ⟨b,2,none⟩=some (.slice m.EA cf.n m.ec):=h.hd.cell (i:=2) rfl;have hmx:=h.evs.rd.2.1;have HC:=hqd (evclone_any w (m.hs p).1 _ (m.hs p).2 _ (h.ev p hp).rd (fun u hu=>by
  obtain⟨e,_,rfl⟩:=List.mem_map.1 hu;exact evC_one e) (by omega))
 rw[hg]at c2;unfold ptrV at *;clear h hg;go_enter func64,ntmps64;go_wp2_with fail;refine H1.out.mono ?_;rintro e w1 ⟨rfl,hw⟩;have hw:=hw.symm;subst hw;rw[pv_eq];go_wp2_with fail;refine HC.out.mono ?_;rintro e w2 ⟨B2,d,rfl,hr,he⟩;go_wp2_with fail;go_ret;exact⟨B2,d,rfl,hr,he⟩
end
def cf27:Cf:=⟨2,0,0,4,1,0,2,1,5⟩
theorem cf27_ok:CfOk cf27:=⟨by decide,by decide,by decide,by decide,by decide,by decide,by decide,by decide,by decide,by decide,by decide⟩
theorem crok_upd{cf:Cf}{f:Nat→Cr}(h:∀ i,i<cf.n→CrOk cf i (f i) []){p:Nat}{c:Cr}(hc:CrOk cf p c []):∀ i,i<cf.n→CrOk cf i (updF f p c i) []:=fun i hi=>by
 unfold updF;split
 ·rename_i e;rw[e];exact hc
 ·exact h i hi
theorem crok_told{cf:Cf}{W:Wd}(h:∀ i,i<cf.n→CrOk cf i (W.ps i) []):∀ i,i<cf.n→CrOk cf i (W.told.ps i) []:=fun i hi=>(h i hi).told
def bW0:Wd:=Wd.new 2 0
def bP1:Wd:={bW0 with ps:=updF bW0.ps 0 ((bW0.ps 0).press 0 cf27.window 5)}
def bP2:Wd:={bP1.told with ps:=updF bP1.told.ps 1 ((bP1.told.ps 1).press 1 cf27.window 6)}
def bP3:Wd:={bP2.told with ps:=updF bP2.told.ps 0 ((bP2.told.ps 0).tick 0),net:=sentN bP2.told.net ((bP2.told.ps 0).ticks (smP tp22 ops22) 0)}
def bK:Pk:={quit:=false,src:=0,dst:=1,first:=0,press:=[5],ack:=0,frame:=0,sum:=0}
theorem bP3_net:bP3.told.net=[bK]:=rfl
def bP4:Wd:=recvW bP3.told 0 bK
theorem bC0:∀ i,i<cf27.n→CrOk cf27 i (bW0.ps i) []:=fun i hi=>CrOk.new cf27_ok hi
theorem bC1:∀ i,i<cf27.n→CrOk cf27 i (bP1.ps i) []:=crok_upd bC0 ((bC0 0 (by decide)).press 5)
theorem bC1t:∀ i,i<cf27.n→CrOk cf27 i (bP1.told.ps i) []:=crok_told bC1
theorem bC2:∀ i,i<cf27.n→CrOk cf27 i (bP2.ps i) []:=crok_upd bC1t ((bC1t 1 (by decide)).press 6)
theorem bC2t:∀ i,i<cf27.n→CrOk cf27 i (bP2.told.ps i) []:=crok_told bC2
theorem bC3a:CrOk cf27 0 ((bP2.told.ps 0).tick 0) []:=(bC2t 0 (by decide)).tick (by decide) (by decide)
theorem bC3:∀ i,i<cf27.n→CrOk cf27 i (bP3.ps i) []:=crok_upd bC2t bC3a
theorem bC3t:∀ i,i<cf27.n→CrOk cf27 i (bP3.told.ps i) []:=crok_told bC3
theorem bK_ok:okPk bK:=by unfold okPk bK;simp
theorem bC4a:CrOk cf27 1 ((bP3.told.ps 1).recv 1 bK) []:=(bC3t 1 (by decide)).recvAny bK_ok (by decide)
theorem bC4:∀ i,i<cf27.n→CrOk cf27 i (bP4.ps i) []:=crok_upd bC3t bC4a
theorem bC4t:∀ i,i<cf27.n→CrOk cf27 i (bP4.told.ps i) []:=crok_told bC4
theorem quietW{tp:List UInt8}{l:List OpT}{cf:Cf}{c:Cr}(h:∀ i,i<cf.n→(c.words i).1=0):WordsOk tp l cf c:=fun i hi h0=>by
 have:=h i hi;omega
theorem bQ1:WordsOk tp22 ops22 cf27 ((bW0.ps 0).press 0 cf27.window 5):=quietW fun _ _=>rfl
theorem bQ2:WordsOk tp22 ops22 cf27 ((bP1.told.ps 1).press 1 cf27.window 6):=quietW fun _ _=>rfl
theorem bQ4:WordsOk tp22 ops22 cf27 ((bP3.told.ps 1).recv 1 bK):=quietW fun _ _=>rfl
theorem bT3:(bP2.told.ps 0).ticks (smP tp22 ops22) 0=[bK]:=rfl
theorem bF4:(bP4.told.ps 1).front=1:=rfl
theorem bN4:bP4.told.net=[]:=rfl
theorem bL(i:Nat):bW0.log i=[]∧bP1.told.log i=[]∧bP2.told.log i=[]∧bP3.told.log i=[]:=by
 refine⟨rfl,?_,?_,?_⟩
 ·match i with
  | 0=>rfl
  | i+1=>rfl
 ·match i with
  | 0=>rfl
  | 1=>rfl
  | i+2=>rfl
 ·match i with
  | 0=>rfl
  | 1=>rfl
  | i+2=>rfl
theorem bH4:bK.quit=false→bK.first≤((bP3.told.ps 1).ls.getD bK.src []).length∧bK.first+bK.press.length≤1000:=fun _=>⟨Nat.zero_le _,by decide⟩
theorem bM0:MtOk cf27 tp22 ops22 bW0 10:=⟨cf27_ok,by decide,bC0,by decide⟩
theorem bM1:MtOk cf27 tp22 ops22 bP1.told 30:=⟨cf27_ok,by decide,bC1t,by decide⟩
theorem bM2:MtOk cf27 tp22 ops22 bP2.told 50:=⟨cf27_ok,by decide,bC2t,by decide⟩
theorem bM3:MtOk cf27 tp22 ops22 bP3.told 50:=⟨cf27_ok,by decide,bC3t,by decide⟩
theorem Turn.to_ext0{w w':World}{T':Tg}(h:Turn (0 < ·) w (fun _=>0) w' T'):Ext w w':=⟨h.os,h.tape,h.output,h.size,fun k hk=>h.block k hk (Nat.lt_irrefl 0)⟩
section
variable {w:World} {T:Tg} {b:Nat} {m:Mb}
theorem bS1(h:MtIn w T b cf27 tp22 ops22 true m bW0 10)(hu:Unborn w T):Calls prog 52 #[ptrV b,stepV 1 0 5 0] w (Does (0 < ·) w T (.int .i64 0) fun w' T'=>MatchAt w' T' b cf27 tp22 ops22 true bP1.told 30) :=
 mt_step h hu cf27_ok (W1:=bP1) (B1:=30) bC1 (fun i _=>Nat.zero_le _) 1 0 5 0 0 (.inl ⟨.inl rfl,fun wb e=>one_press (h.ext e) bM0 (hu.ext e) (p:=0) (by decide) 5 5 0 rfl bQ1⟩)
theorem bS2(h:MtIn w T b cf27 tp22 ops22 true m bP1.told 30)(hu:Unborn w T):Calls prog 52 #[ptrV b,stepV 1 1 6 0] w (Does (0 < ·) w T (.int .i64 0) fun w' T'=>MatchAt w' T' b cf27 tp22 ops22 true bP2.told 50) :=
 mt_step h hu cf27_ok (W1:=bP2) (B1:=50) bC2 (fun i _=>by show(bP1.told.log i).length≤_;rw[(bL i).2.1];exact Nat.zero_le _) 1 1 6 0 0 (.inl ⟨.inl rfl,fun wb e=>one_press (h.ext e) bM1 (hu.ext e) (p:=1) (by decide) 6 6 0 rfl bQ2⟩)
theorem bS3(h:MtIn w T b cf27 tp22 ops22 true m bP2.told 50)(hu:Unborn w T):Calls prog 52 #[ptrV b,stepV 2 0 0 0] w (Does (0 < ·) w T (.int .i64 0) fun w' T'=>MatchAt w' T' b cf27 tp22 ops22 true bP3.told 50) :=
 mt_step h hu cf27_ok (W1:=bP3) (B1:=50) bC3 (fun i _=>by show(bP2.told.log i).length≤_;rw[(bL i).2.2.1];exact Nat.zero_le _) 2 0 0 0 0 (.inl ⟨.inr (.inl rfl),fun wb e=>one_tick (h.ext e) bM2 (hu.ext e) (p:=0) (by decide) 0 0 (by decide) (by decide) (by rw[bT3];intro k hk;rw[List.mem_singleton.1 hk];exact bK_ok) bC3a⟩)
theorem bS4(h:MtIn w T b cf27 tp22 ops22 true m bP3.told 50)(hu:Unborn w T):Calls prog 52 #[ptrV b,stepV 3 0 0 0] w (Does (0 < ·) w T (.int .i64 0) fun w' T'=>MatchAt w' T' b cf27 tp22 ops22 true bP4.told 70) :=
 mt_step h hu cf27_ok (W1:=bP4) (B1:=70) bC4 (fun i _=>by show(bP3.told.log i).length≤_;rw[(bL i).2.2.2];exact Nat.zero_le _) 3 0 0 0 0 (.inr (.inl ⟨.inl rfl,fun wb e=>mail_send (h.ext e) bM3 (hu.ext e) (i:=0) (show 0<bP3.told.net.length by rw[bP3_net];decide) (by rw[bP3_net];decide) (by rw[bP3_net];intro k hk;rw[List.mem_singleton.1 hk];exact bK_ok) (show bK.dst<2 by decide) (show bK.src<2 by decide) bC4a bH4 bQ4 0 0⟩))
theorem bS5(h:MtIn w T b cf27 tp22 ops22 true m bP4.told 70)(hu:Unborn w T):Calls prog 52 #[ptrV b,stepV 0 0 0 0] w (Does (0 < ·) w T (.int .i64 1) fun w' T'=>MatchAt w' T' b cf27 tp22 ops22 true bP4.told.told 70) :=
 mt_step h hu cf27_ok (W1:=bP4.told) (B1:=70) bC4t (fun i _=>by
  have:bP4.told.log i=[]:=by
   match i with
   | 0=>rfl
   | 1=>rfl
   | i+2=>rfl
  rw[this];exact Nat.zero_le _) 0 0 0 0 1 (.inr (.inr ⟨.inl (by decide),rfl,rfl,rfl⟩))
end
theorem w27_begun(w:World):Calls prog 40 #[] w fun e w'=>e = .returned (.bool true)∧Ext w w':=by
 have HP:=hqd fun W=>prog22_any W;have HN:=hqd fun W A (hRo:Ro W A 12 12 ops22)=>mt_new W (fun _=>0) (fun _ _=>rfl) (fun _ _=>.inl rfl) cf27 cf27_ok tp22 ops22 hRo (by decide) ops22_ok (by decide) true;go_enter func40,ntmps40;go_wp2_with fail;refine(HP.out _).mono ?_;rintro e w1 ⟨A,rfl,hRo,x1⟩;go_wp2_with fail;refine(HN.out w1 A hRo).mono ?_;rintro e w2 ⟨v,rfl,T2,hT2,b,m,rfl,hM,_⟩;have HM0:=hqd (show MtIn w2 T2 b cf27 tp22 ops22 true m bW0 10 from hM);have HT0:=hqd (hT2.mono (S':=(0 < ·)) (fun _ h=>h.elim));have X1:=hqd x1;clear hM hT2 hRo x1;unfold ptrV at *;go_wp2_with fail;refine(mt_player HM0.out (p:=0) (by decide)).mono ?_;rintro e w3 ⟨rfl,hw⟩;have hw:=hw.symm;subst hw;rw[pv_eq];go_wp2_with fail;refine(mt_multi HM0.out (p:=1) (by decide)).mono ?_;rintro e w3 ⟨rfl,hw⟩;have hw:=hw.symm;subst hw;rw[if_pos rfl];unfold ptrV at *;go_wp2_with fail;refine(mt_net HM0.out).mono ?_;rintro e w3 ⟨rfl,hw⟩;have hw:=hw.symm;subst hw;unfold ptrV at *;go_wp2_with fail;refine(bS1 HM0.out HT0.out.unborn).mono ?_;rintro e w3 ⟨rfl,T3,hT3,m3,hM3⟩;have HT3:=hqd (HT0.out.trans hT3);have HM3:=hqd hM3;clear hT3 hM3;go_wp2_with fail;refine(bS2 HM3.out HT3.out.unborn).mono ?_;rintro e w4 ⟨rfl,T4,hT4,m4,hM4⟩;have HT4:=hqd (HT3.out.trans hT4);have HM4:=hqd hM4;clear hT4 hM4 HT3 HM3;go_wp2_with fail;refine(bS3 HM4.out HT4.out.unborn).mono ?_;rintro e w5 ⟨rfl,T5,hT5,m5,hM5⟩;have HT5:=hqd (HT4.out.trans hT5);have HM5:=hqd hM5;clear hT5 hM5 HT4 HM4;go_wp2_with fail;refine(bS4 HM5.out HT5.out.unborn).mono ?_;rintro e w6 ⟨rfl,T6,hT6,m6,hM6⟩;have HT6:=hqd (HT5.out.trans hT6);have HM6:=hqd hM6;clear hT6 hM6 HT5 HM5;go_wp2_with fail;refine(mt_player HM6.out (p:=1) (by decide)).mono ?_;rintro e w7 ⟨rfl,hw⟩;have hw:=hw.symm;subst hw;rw[pv_eq];have mm:=m_conf true (m6.bs 1);have ee:=e_conf true (m6.bs 1);go_wp2_with fail;refine(play_confirmed (HM6.out.ps 1 (by decide)) (bC4t 1 (by decide)) (by decide)).mono ?_;rintro e w7 ⟨B7,d7,rfl,_,x7⟩;rw[bF4];have HM7:=hqd (HM6.out.ext x7);have HT7:=hqd (HT6.out.ext x7);have HL:=hqd (net_len HM7.out.net);rw[bN4]at HL;clear x7 HM6 HT6;go_wp2_with fail;refine(mt_net HM7.out).mono ?_;rintro e w8 ⟨rfl,hw⟩;have hw:=hw.symm;subst hw;unfold ptrV at *;go_wp2_with fail;refine HL.out.mono ?_;rintro e w8 ⟨rfl,hw⟩;have hw:=hw.symm;subst hw;go_wp2_with fail;refine(bS5 HM7.out HT7.out.unborn).mono ?_;rintro e w8 ⟨rfl,T8,hT8,m8,hM8⟩;have HT8:=hqd (HT7.out.trans hT8);have HM8:=hqd hM8;clear hT8 hM8 HT7 HM7;have hl0:bP4.told.told.log 0=[]:=rfl;have HE:=hqd (mt_events HM8.out (p:=0) (by decide) (by rw[hl0];exact Nat.zero_le _));rw[hl0]at HE;clear hl0;go_wp2_with fail;refine HE.out.mono ?_;rintro e w9 ⟨B9,d9,rfl,_,x9⟩;go_wp2_with fail;go_ret;exact⟨rfl,X1.out.trans (HT8.out.to_ext0.trans x9)⟩
theorem aheadL_game(tp:List UInt8)(l:List OpT){ls full:Lines}{tt:Nat}(hf:frontL ls≤tt)(hj:∀ k,k<frontL ls→jointL full k=jointL ls k) :
  foldN tp l (frontL ls:Nat) (gameAt tp l ls (frontL ls)) ((List.range (tt-frontL ls)).map fun j=>jointL full (frontL ls+j))=gameAt tp l full tt:=by
 obtain⟨d,hd⟩:∃ d,tt=frontL ls+d:=⟨tt-frontL ls,by omega⟩;subst hd;rw[Nat.add_sub_cancel_left];unfold gameAt;rw[List.range_add,List.map_append,foldN_app,List.map_map];have e1:(List.range (frontL ls)).map (jointL full)=(List.range (frontL ls)).map (jointL ls):=List.map_congr_left fun k hk=>hj k (List.mem_range.1 hk);rw[e1,List.length_map,List.length_range,Int.zero_add];rfl
theorem getD_pref{a b:List UInt8}(h:a <+: b){k:Nat}(hk:k<a.length):b.getD k 0=a.getD k 0:=by
 obtain⟨r,rfl⟩:=h;simp[List.getD_eq_getElem?_getD,List.getElem?_append_left hk]
theorem full_joint(kind o:Nat)(ls:Lines)(tt:Nat){k:Nat}(hk:k<frontL ls):jointL (fullL kind o ls tt) k=jointL ls k:=by
 unfold jointL fullL;rw[List.map_map];exact List.map_congr_left fun l hl=>getD_pref (moreL_pref kind o l _) (Nat.lt_of_lt_of_le hk (frontL_le ls l hl))
theorem dispG_game(tp:List UInt8)(l:List OpT)(kind o me:Nat)(c:Cr)(h:c.front≤c.head me):dispG tp l kind o me c=gameAt tp l (fullL kind o c.ls (c.head me)) (c.head me) :=
 aheadL_game tp l h fun k hk=>full_joint kind o c.ls _ hk
theorem bestTo_zero(last:Nat):∀ v,bestTo (fun _=>0) last v=last
 | 0=>rfl
 | v+1=>by rw[bestTo,bestTo_zero last v];simp
theorem firstL_last(o:Nat)(past:List UInt8):firstL 1 o past=lastL past:=by
 unfold firstL firstN;have:wgtL 1 o past=fun _=>0:=by funext v;simp[wgtL]
 rw[this,bestTo_zero];simp
theorem moreL_last(v:UInt8):∀ n,moreL 1 0 [v] n=List.replicate (n+1) v
 | 0=>rfl
 | n+1=>by
  rw[moreL,moreL_last v n,firstL_last];unfold lastL;rw[List.getLastD_eq_getLast?,List.getLast?_replicate];simp
  rw[← List.replicate_succ']
def L0(k:Nat):List UInt8:=1::(List.range k).map fun i=>UInt8.ofNat i
theorem L0_len(k:Nat):(L0 k).length=k+1:=by simp[L0]
theorem L0_succ(k:Nat):L0 (k+1)=L0 k++[UInt8.ofNat k]:=by
 unfold L0;rw[List.range_succ,List.map_append];rfl
theorem L0_pref{k m:Nat}(h:k≤m):L0 k <+: L0 m:=by
 obtain⟨d,rfl⟩:∃ d,m=k+d:=⟨m-k,by omega⟩;clear h;induction d with
 | zero=>exact List.prefix_refl _
 | succ d ih=>rw[← Nat.add_assoc,L0_succ];exact ih.trans (List.prefix_append _ _)
theorem front_two(a b:List UInt8):frontL [a,b]=min a.length b.length:=by simp[frontL]
theorem shown_right(tp:List UInt8)(l:List OpT)(v:UInt8){j m:Nat}(hj:j+1≤m){c c2:Cr}(h1:c.ls=[L0 (j+1),[v]])(h2:c2.ls=[L0 m,List.replicate (j+2) v]) :
  c2.front=j+2∧c.head 0=j+2∧c.front=1∧dispG tp l 1 0 0 c=gameAt tp l c2.ls (j+2):=by
 have hf2:c2.front=j+2:=by unfold Cr.front;rw[h2,front_two,L0_len,List.length_replicate];omega
 have hf:c.front=1:=by unfold Cr.front;rw[h1,front_two,L0_len];simp
 have hh:c.head 0=j+2:=by unfold Cr.head Cr.mine;rw[h1];simp[L0_len]
 refine⟨hf2,hh,hf,?_⟩;rw[dispG_game tp l 1 0 0 c (by omega),hh];refine gameAt_congr tp l fun k hk=>?_;rw[h1,h2];simp only[fullL,jointL,List.map_cons,List.map_nil];have e0:moreL 1 0 (L0 (j+1)) (j+2-(L0 (j+1)).length)=L0 (j+1):=by rw[L0_len,show j+2-(j+1+1)=0 by omega];rfl
 have e1:moreL 1 0 [v] (j+2-[v].length)=List.replicate (j+2) v:=by rw[show j+2-[v].length=j+1 by simp,moreL_last]
 rw[e0,e1];congr 1
 exact(getD_pref (L0_pref hj) (by rw[L0_len];omega)).symm
section
variable {cf:Cf} {c:Cr} {v:UInt8} {k m j:Nat}
structure TwoL(cf:Cf)(a b:List UInt8)(c:Cr):Prop where
 ls:c.ls=[a,b]
 open_:c.closed=false
 words:∀ i,(c.words i).1=0
 evs:c.evs=[]
 ok:CrOk cf 0 c []
theorem TwoL.quiet{a b:List UInt8}{tp:List UInt8}{l:List OpT}(h:TwoL cf a b c):WordsOk tp l cf c:=fun i _ h0=>by
 have:=h.words i;omega
theorem TwoL.new(hok:CfOk cf)(hn:cf.n=2)(hd:cf.delay=0):TwoL cf [] [] (Cr.new cf.n cf.delay) :=
 ⟨by rw[hn,hd];rfl,rfl,fun _=>rfl,rfl,CrOk.new hok (by omega)⟩
theorem TwoL.press{a b:List UInt8}(h:TwoL cf a b c)(x:UInt8)(h1:a.length<1000)(h2:a.length<min a.length b.length+cf.window):c.pressE 0 cf.window=0∧TwoL cf (a++[x]) b (c.press 0 cf.window x):=by
 have hh:c.head 0=a.length:=by unfold Cr.head Cr.mine;rw[h.ls];rfl
 have hf:c.front=min a.length b.length:=by unfold Cr.front;rw[h.ls,front_two]
 have he:c.pressE 0 cf.window=0:=by
  unfold Cr.pressE;rw[h.open_,if_neg (by decide),hh,hf,if_neg (by omega),if_neg (by omega)]
 refine⟨he,?_⟩;have hc:c.press 0 cf.window x={c with ls:=c.ls.set 0 (c.mine 0++[x])}:=by unfold Cr.press;rw[if_pos he]
 exact⟨by rw[hc];unfold Cr.mine;rw[h.ls];rfl,by rw[hc];exact h.open_,fun i=>by rw[hc];exact h.words i,by rw[hc];exact h.evs,h.ok.press x⟩
def onePk(f:Nat)(v:UInt8):Pk:={quit:=false,src:=1,dst:=0,first:=f,press:=[v]}
theorem onePk_ok(f:Nat)(v:UInt8)(hf:f≤1000):okPk (onePk f v):=by
 unfold okPk onePk;simp
 omega
theorem TwoL.recv{a b:List UInt8}(h:TwoL cf a b c)(v:UInt8)(hb:b.length<1000):TwoL cf a (b++[v]) (c.recv 0 (onePk b.length v)):=by
 have hls:(c.recv 0 (onePk b.length v)).ls=[a,b++[v]]:=by
  unfold Cr.recv;rw[h.open_];simp only[Bool.false_eq_true,if_false,onePk];rw[h.ls];unfold putLn;have ht:List.take (1000-b.length) [v]=[v]:=List.take_of_length_le (by simp;omega);simp[ht]
 refine⟨hls,?_,fun i=>?_,?_,h.ok.recvAny (onePk_ok _ v (by omega)) (by rw[h.evs];simp)⟩
 ·unfold Cr.recv
  rw[h.open_];simp only[Bool.false_eq_true,if_false,onePk]
 ·unfold Cr.recv
  rw[h.open_];simp only[Bool.false_eq_true,if_false,onePk];simp
  exact h.words i
 ·unfold Cr.recv
  rw[h.open_];simp only[Bool.false_eq_true,if_false,onePk];exact h.evs
end
def cfG:Cf:=⟨2,77,0,8,1,0,3,2,7⟩
theorem cfG_ok:CfOk cfG:=⟨by decide,by decide,by decide,by decide,by decide,by decide,by decide,by decide,by decide,by decide,by decide⟩
def gW(c:Cr):Wd:=⟨updF (fun _=>Cr.new 2 0) 0 c,[],fun _=>[]⟩
section
variable {ah:Bool} {w w':World} {T T':Tg} {b:Nat} {m:Mb} {x y:List UInt8} {c c':Cr} {B:Nat}
theorem gW_ok(h:TwoL cfG x y c):∀ i,i<cfG.n→CrOk cfG i ((gW c).ps i) []:=crok_upd (f:=fun _=>Cr.new 2 0) (fun i hi=>CrOk.new cfG_ok hi) h.ok
theorem gW_mk(h:TwoL cfG x y c)(hB:B≤600000000):MtOk cfG tp22 ops22 (gW c) B:=⟨cfG_ok,by decide,gW_ok h,hB⟩
theorem gW_upd(h:MtIn w T b cfG tp22 ops22 ah m {gW c with ps:=updF (gW c).ps 0 c'} B):MtIn w T b cfG tp22 ops22 ah m (gW c') B :=
 h.congr rfl (fun _ _=>rfl) fun i _=>by
  show updF (fun _=>Cr.new 2 0) 0 c' i=updF (updF (fun _=>Cr.new 2 0) 0 c) 0 c' i
  unfold updF;split<;>rfl
theorem gW_start(h:MtIn w T b cfG tp22 ops22 ah m (Wd.new cfG.n cfG.delay) B):MtIn w T b cfG tp22 ops22 ah m (gW (Cr.new cfG.n cfG.delay)) B :=
 h.congr rfl (fun _ _=>rfl) fun i _=>by
  show updF (fun _=>Cr.new 2 0) 0 (Cr.new 2 0) i=Cr.new 2 0
  unfold updF;split<;>rfl
theorem g_press(h:MtIn w T b cfG tp22 ops22 ah m (gW c) B)(h2:TwoL cfG x y c)(hu:Unborn w T)(u:UInt8)(hB:B≤1000000)(h3:x.length<1000)(h4:x.length<min x.length y.length+cfG.window) :
  Calls prog (pPress ah) #[.pointer (some ⟨m.bs 0,0,none⟩),.int .u8 (u.toNat:Nat)] w (Does (In (m.ts 0) 40) w T (.int .i64 0) fun w' T'=>MtIn w' T' b cfG tp22 ops22 ah m (gW (c.press 0 cfG.window u)) (B+20)):=by
 have hp:=h2.press u h3 h4;have h14:=h.ts0 0 (by decide);refine(play_press (h.ps 0 (by decide)) u h2.ok hu (by omega) (by decide) hp.2.quiet (by omega)).mono ?_;rintro e w' ⟨rfl,T',hT,hP⟩;refine⟨?_,T',hT,gW_upd (h.player (gW_mk h2 (by omega)) (p:=0) (by decide) (by omega) hT hP)⟩;show Ending.returned (.int .i64 (c.pressE 0 cfG.window:Nat))=_
 rw[hp.1];rfl
theorem g_recv(h:MtIn w T b cfG tp22 ops22 ah m (gW c) B)(h2:TwoL cfG x y c)(hu:Unborn w T)(v:UInt8)(hB:B≤1000000)(h3:y.length<1000){A:Option Addr}{n d:Nat}(hb:Rb w A n d (encPk (cfG.id:Nat) (onePk y.length v))) :
  Calls prog (pRecv ah) #[.pointer (some ⟨m.bs 0,0,none⟩),.slice A n d] w (Does (In (m.ts 0) 40) w T (.int .i64 0) fun w' T'=>MtIn w' T' b cfG tp22 ops22 ah m (gW (c.recv 0 (onePk y.length v))) (B+20)):=by
 have hp:=h2.recv v h3;have h14:=h.ts0 0 (by decide);refine(play_recv (h.ps 0 (by decide)) (onePk y.length v) h2.ok hp.ok hu (by omega) (by decide) (onePk_ok _ v (by omega)) rfl (show 1<2 by decide) hb (fun _=>?_) hp.quiet (by omega)).mono ?_
 ·show y.length≤(c.ls.getD 1 []).length∧y.length+1≤1000
  rw[h2.ls];exact⟨Nat.le_refl _,h3⟩
 rintro e w' ⟨rfl,T',hT,hP⟩;refine⟨?_,T',hT,gW_upd (h.player (gW_mk h2 (by omega)) (p:=0) (by decide) (by omega) hT hP)⟩;show Ending.returned (.int .i64 (if c.closed=true then 6 else 0))=_
 rw[h2.open_];rfl
theorem g_disp(h:MtIn w T b cfG tp22 ops22 ah m (gW c) B)(h2:TwoL cfG x y c)(hu:Unborn w T)(hB:B≤1000000) :
  Calls prog (pDisp ah) #[.pointer (some ⟨m.bs 0,0,none⟩)] w (Shown w (showG tp22 ops22 cfG 0 c) (showF 0 c)):=by
 have h14:=h.ts0 0 (by decide);exact play_display (h.ps 0 (by decide)) (by omega) hu h2.ok (by decide) (by omega)
theorem g_conf(h:MtIn w T b cfG tp22 ops22 ah m (gW c) B)(h2:TwoL cfG x y c)(hB:B≤1000000) :
  Calls prog (pConf ah) #[.pointer (some ⟨m.bs 0,0,none⟩)] w (Shown w (gameAt tp22 ops22 c.ls c.front) c.front) :=
 play_confirmed (h.ps 0 (by decide)) h2.ok (by omega)
theorem g_work(h:MtIn w T b cfG tp22 ops22 true m (gW c) B)(h2:TwoL cfG x y c)(hu:Unborn w T)(hB:B≤1000000)(i:Int) :
  Calls prog 16 #[.pointer (some ⟨m.bs 0,0,none⟩),.int .i64 i] w (Gives (In (m.ts 0) 40) w T fun v w' T'=>(∃ r,v = .bool r)∧MtIn w' T' b cfG tp22 ops22 true m (gW c) (B+1)):=by
 have h14:=h.ts0 0 (by decide);have h9:MultiAt w T (m.ts 0) (m.bs 0) cfG 0 tp22 ops22 c B:=h.ps 0 (by decide);refine(mul_work h9 (by omega) hu h2.ok (by decide) (by omega) i).mono ?_;rintro e w' ⟨v,rfl,T',hT,hr,hP⟩;exact⟨v,rfl,T',hT,hr,gW_upd (h.player (gW_mk h2 (by omega)) (p:=0) (c':=c) (by decide) (by omega) hT hP)⟩
end
section
variable {w:World} {T:Tg} {b:Nat} {cf:Cf} {m:Mb}
theorem mt_multi_of(hH:Has w T 1 b [.slice m.A cf.n m.lc,ptrV m.nb,.slice m.EA cf.n m.ec])(hR:Row w T 2 40 1 m.A cf.n m.lc ((List.range cf.n).map fun i=>pv true (m.bs i))){p:Nat}(hp:p<cf.n):Calls prog 15 #[ptrV b,.int .i64 (p:Nat)] w fun e w'=>e = .returned (ptrV (m.bs p))∧w'=w:=by
 have H1:=hqd (mt_player_of hH hR hp);generalize m.bs p=q at *;unfold ptrV pty at *;clear hH hR;rw[if_pos rfl]at H1;go_enter func15,ntmps15;go_wp2_with fail;refine H1.out.mono ?_;rintro e w1 ⟨rfl,hw⟩;subst hw;have hta:=ta_yes q;go_wp2_with fail;go_ret;exact⟨rfl,rfl⟩
end
theorem top_begun(w:World):Calls prog 9 #[] w fun e w'=>e = .returned (.bool true)∧Ext w w':=by
 have H2:∀ W,Calls prog 26 #[] W fun e w'=>e = .returned (.bool true)∧Ext W w':=by
  intro W;go_enter func26,ntmps26;go_wp2_with fail;refine(w27_begun _).mono ?_;rintro e w1 ⟨rfl,x1⟩;go_wp2_with fail;go_ret;exact⟨rfl,x1⟩
 have H2:=hqd H2;go_enter func9,ntmps9;go_wp2_with fail;refine(H2.out _).mono ?_;rintro e w1 ⟨rfl,x1⟩;go_wp2_with fail;go_ret;exact⟨rfl,x1⟩
def MadeP(w:World)(ah:Bool)(wb:Nat)(w':World):Prop:=∃ T' mb cs m,Turn (fun _=>False) w (fun _=>0) w' T'∧MtIn w' T' mb cfG tp22 ops22 ah m (Wd.new cfG.n cfG.delay) 10∧(∀ i,i<cfG.n→16<m.ts i)∧Has w' T' 14 wb (ptrV mb::cs)
def MadeT(w:World)(ah:Bool)(tb:Nat)(w':World):Prop:=∃ T' mb cs m wb,Turn (fun _=>False) w (fun _=>0) w' T'∧MtIn w' T' mb cfG tp22 ops22 ah m (Wd.new cfG.n cfG.delay) 10∧(∀ i,i<cfG.n→16<m.ts i)∧Has w' T' 14 wb (ptrV mb::cs)∧Has w' T' 0 tb [ptrV wb,.int .i64 2,.bool true]
theorem Turn.to_ext{w w':World}{T T':Tg}(h:Turn (fun _=>False) w T w' T')(_:∀ _:Unit,True):Ext w w':=⟨h.os,h.tape,h.output,h.size,fun k hk=>h.block k hk (fun h=>h)⟩
theorem MadeP.ext{w w1 w2:World}{ah:Bool}{wb:Nat}(h:MadeP w ah wb w1)(e:Ext w1 w2):MadeP w ah wb w2:=by
 obtain⟨T',mb,cs,m,h1,h2,h3,h4⟩:=h;exact⟨T',mb,cs,m,h1.ext e,h2.ext e,h3,h4.ext e⟩
theorem made_any(w:World)(ah:Bool):Calls prog 12 #[confV cfG 0,.bool ah] w fun e w'=>∃ tb,e = .returned (.pointer (some ⟨tb,0,none⟩))∧MadeT w ah tb w':=by
 have HP:=hqd fun W=>prog22_any W;have HN:=hqd fun W A (hRo:Ro W A 12 12 ops22)=>w27_new W cfG cfG_ok rfl tp22 ops22 hRo (by decide) ops22_ok (by decide) ah;have x0:=Ext.alloc w (.cells (confCells cfG 0).toArray 26);have hb:=(Has.new w (fun _=>0) (confCells cfG 0) 26 rfl);unfold confV confCells at *;go_enter func12,ntmps12;go_upto_region 1 with fail
 generalize hW:World.alloc w _=W0 at *;have hT0:Turn (fun _=>False) w (fun _=>0) W0 (fun _=>0):=Turn.of_ext _ (fun _ _=>rfl) x0;have HT0:=hqd hT0;generalize w.heap.size=gc at *;have k0:=hb.cell (i:=0) rfl;have k1:=hb.cell (i:=1) rfl;have k2:=hb.cell (i:=2) rfl;have k3:=hb.cell (i:=3) rfl;have k4:=hb.cell (i:=4) rfl;have k5:=hb.cell (i:=5) rfl;have k6:=hb.cell (i:=6) rfl;have k7:=hb.cell (i:=7) rfl;have k8:=hb.cell (i:=8) rfl;have k9:=hb.cell (i:=9) rfl;clear hb hW hT0 x0;apply wrN 4;simp only[tk];repeat apply lxA (fun _ h _=>aj (h.cell k0) (aj (h.cell k1) (aj (h.cell k2) (aj (h.cell k3) (aj (h.cell k4) (aj (h.cell k5) (aj (h.cell k6) (aj (h.cell k7) (aj (h.cell k8) (h.cell k9))))))))))
 apply lex_call (p:=fun u W=>∃ A,u=pAgg tp22 A 12 12∧Ro W A 12 12 ops22) (fun _ _ _ ⟨A,h1,h2⟩ he=>⟨A,h1,h2.ext he⟩)
 ·rfl
 ·intro W
  go_simp;exact⟨rfl,rfl⟩
 ·intro W hR hΦ
  refine(HP.out W).mono ?_;rintro e w' ⟨A,rfl,h1,h2⟩;exact⟨_,rfl,h2,A,rfl,h1⟩
 intro v1;simp only[pu];repeat apply lxA (fun _ h _=>h.cell k0)
 apply lex_call (p:=fun u W=>∃ wb,u=ptrV wb∧MadeP W0 ah wb W) (fun _ _ _ ⟨q,h1,h2⟩ he=>⟨q,h1,h2.ext he⟩)
 ·rfl
 ·intro W
  go_simp;exact⟨rfl,rfl⟩
 ·intro W hR hΦ
  obtain⟨A,rfl,hRo⟩:=hΦ.1 rfl;refine(HN.out W A hRo).mono ?_;rintro e w' ⟨wb,rfl,T',mb,cs,m,hT,hM,hts,hH⟩;refine⟨_,rfl,hT.to_ext (fun _=>trivial),wb,rfl,T',mb,cs,m,(Turn.of_ext _ (fun _ _=>rfl) hR).trans hT,hM,hts,hH⟩
 intro v2;simp only[pu];refine lex_nil ?_;intro Wx hWx hΦ;obtain⟨wb,rfl,hMP⟩:=hΦ.1 rfl;clear hΦ;simp only[dk];have k0:=hWx.cell k0;obtain⟨T',mb,cs,m,hT,hM,hts,hH⟩:=hMP;have HT:=hqd (HT0.out.trans hT);have HM:=hqd hM;have Hts:=hqd hts;have HH:=hqd hH;unfold ptrV at *;clear k1 k2 k3 k4 k5 k6 k7 k8 k9 hWx hT hM hts hH HP HN HT0;go_wp2_with fail;go_ret;have xe:=Ext.alloc Wx (.cells #[.pointer (some ⟨wb,0,none⟩),.int .i64 (cfG.n:Nat),.bool true] 37);have hn:=Has.new Wx T' [.pointer (some ⟨wb,0,none⟩),.int .i64 (cfG.n:Nat),.bool true] 37 rfl;rw[HT.out.unborn _ (Nat.le_refl _)]at hn;exact⟨_,rfl,T',mb,cs,m,wb,HT.out.ext xe,HM.out.ext xe,Hts.out,HH.out.ext xe,hn⟩
theorem info_str:(prog.info? 9).map (fun i=>(i.zero,i.size,i.bytes))=some (some (.string ByteArray.empty),1,16):=by kernel_rfl
theorem Ri.at9{w:World}{k:IntKind}{A:Option Addr}{n c:Nat}{l:List Int}(h:Ri w k A n c l){j:Nat}(hj:j<n) :
  ∃ b o,A=some ⟨b,o,none⟩∧w.cell? ⟨b,o+j,none⟩=some (.int k (l.getD j 0))∧(Lit.int k (l.getD j 0)).wf=true:=by
 obtain⟨b,o,e,u,hu,hc⟩:=h.1.at_ hj;have hl:j<l.length:=by have:=h.1.1;simp at this;omega
 rw[List.getElem?_map,List.getElem?_eq_getElem hl]at hu;simp only[Option.map_some,Option.some.injEq]at hu;have e2:l.getD j 0=l[j]:=by rw[List.getD_eq_getElem?_getD,List.getElem?_eq_getElem hl];rfl
 exact⟨b,o,e,by rw[hc,← hu,e2],by rw[e2];exact h.2 _ (List.getElem_mem hl)⟩
def tgS(t q:Nat):Prop:=q=15∨In t 40 q
def gS(v:UInt8)(mm j:Nat):Value:=.string (bs (gameL (gameAt tp22 ops22 [L0 mm,List.replicate (j+2) v] (j+2))))
structure G1(w1:World)(T1:Tg)(mb:Nat)(ah:Bool)(m:Mb)(xs:List Value)(x y:List UInt8)(A:Option Addr)(cp:Nat)(B:Nat)(wr:World)(T':Tg)(c:Cr):Prop where
 ts:16<m.ts 0
 hT:Turn (tgS (m.ts 0)) w1 T1 wr T'
 hM:MtIn wr T' mb cfG tp22 ops22 ah m (gW c) B
 h2:TwoL cfG x y c
 row:Row wr T' 15 9 1 A xs.length cp xs
section
variable {w1 wr w' w0:World} {T1 T' T2:Tg} {mb:Nat} {ah:Bool} {m:Mb} {xs:List Value} {x y x' y':List UInt8} {A:Option Addr} {cp B B':Nat} {c c':Cr} {b:Nat} {vs:List Value}
theorem G1.turn(h:G1 w1 T1 mb ah m xs x y A cp B wr T' c)(hT2:Turn (In (m.ts 0) 40) wr T' w' T2)(hM2:MtIn w' T2 mb cfG tp22 ops22 ah m (gW c') B')(h2:TwoL cfG x' y' c'):G1 w1 T1 mb ah m xs x' y' A cp B' w' T2 c' :=
 ⟨h.ts,h.hT.trans (hT2.mono (fun q hq=>.inr hq)),hM2,h2,h.row.turn hT2 (by have:=h.ts;unfold In;omega)⟩
theorem G1.ext(h:G1 w1 T1 mb ah m xs x y A cp B wr T' c)(e:Ext wr w'):G1 w1 T1 mb ah m xs x y A cp B w' T' c:=⟨h.ts,h.hT.ext e,h.hM.ext e,h.h2,h.row.ext e⟩
theorem G1.low(h:G1 w1 T1 mb ah m xs x y A cp B wr T' c){t:Nat}(hH:Has w1 T1 t b vs)(ht:t≤14):Has wr T' t b vs:=hH.turn h.hT (by have:=h.ts;unfold tgS In;omega)
theorem G1.push(h:G1 w1 T1 mb ah m xs x y A cp B wr T' c){E:Option Addr}{d:Nat}{u:Value}(ho:Own w' 0 9 1 E (xs.length+1) d (xs++[u]))(hg:wr.grownBy w' (blk A))(hw:Went wr A E):∃ T2,G1 w1 T1 mb ah m (xs++[u]) x y E d B w' T2 c:=by
 obtain⟨hT,hR⟩:=h.row.append h.hT.unborn ho hg hw;have h14:=h.hM.ts0 0 (by decide);refine⟨_,h.ts,h.hT.trans (hT.mono (fun q hq=>.inl hq)),?_,h.h2,by rw[List.length_append];exact hR⟩;exact h.hM.turn cfG_ok (fun i hi=>by rw[(gW_ok h.h2 i hi).len];decide) hT (fun k hk=>by omega) (fun i hi k hk e=>by
  have h1:=h.ts;rcases Nat.eq_zero_or_pos i with h0|h0
  ·subst h0;unfold In at hk;omega
  ·have h2:=h.hM.tsd 0 i h0 hi
   unfold In at hk;omega)
theorem G1.old{w wa w4:World}(hX:Ext w wa)(hT:Turn (fun _=>False) wa (fun _=>0) w4 T1)(h:G1 w4 T1 mb ah m xs x y A cp B wr T' c):Ext w wr∧∀ q,q<w.heap.size→T' q=0:=by
 have h9:=hT.fresh h.hT (fun k _ e=>by have:=h.ts;unfold tgS In at e;omega);exact⟨hX.trans (h9.to_ext fun _=>trivial),fun q hq=>h9.tag q (Nat.lt_of_lt_of_le hq hX.size)⟩
end
theorem show_right(v:UInt8){k mm:Nat}(hk:k+1≤mm){c:Cr}(h:TwoL cfG (L0 (k+1)) [v] c):showG tp22 ops22 cfG 0 c=gameAt tp22 ops22 [L0 mm,List.replicate (k+2) v] (k+2):=by
 obtain⟨_,h2,h3,h4⟩:=shown_right tp22 ops22 v hk (c:=c) (c2:={c with ls:=[L0 mm,List.replicate (k+2) v]}) h.ls rfl;unfold showG;rw[if_neg (by omega)];exact h4
def r1(w1:World)(T1:Tg)(mb:Nat)(ah:Bool)(m:Mb)(v:UInt8)(mm:Nat)(iv sv:Value)(wr:World):Prop :=
 ∃(k:Nat) (A:Option Addr) (cp B:Nat) (T':Tg) (c:Cr),iv = .int .i64 (k:Nat)∧k≤mm∧sv = .slice A k cp∧B≤100+100*k∧G1 w1 T1 mb ah m ((List.range k).map (gS v mm)) (L0 k) [v] A cp B wr T' c
def r2(w1:World)(T1:Tg)(mb:Nat)(ah:Bool)(m:Mb)(v:UInt8)(mm k:Nat)(A:Option Addr)(cp:Nat)(iv:Value)(wr:World):Prop :=
 ∃(j:Nat) (B:Nat) (T':Tg) (c:Cr),iv = .int .i64 (j:Nat)∧j≤5∧B≤120+100*k+j∧G1 w1 T1 mb ah m ((List.range (k+1)).map (gS v mm)) (L0 (k+1)) [v] A cp B wr T' c
def r3(w1:World)(T1:Tg)(mb:Nat)(ah:Bool)(m:Mb)(v:UInt8)(mm:Nat)(A:Option Addr)(cp:Nat)(iv:Value)(wr:World):Prop :=
 ∃(k:Nat) (B:Nat) (T':Tg) (c:Cr),iv = .int .i64 (k:Nat)∧k≤mm∧B≤1000+100*k∧G1 w1 T1 mb ah m ((List.range mm).map (gS v mm)) (L0 mm) (List.replicate (k+1) v) A cp B wr T' c
theorem top_guessed(w:World)(n0:Nat)(h0:n0<256)(f:Int)(hf1:-9223372036854775808≤f)(hf2:f≤9223372036854775807)(A:Option Addr)(len cap:Nat)(l:List Int)(hR:Ri w .i64 A len cap l)(ah:Bool) :
  Calls prog 3 #[.int .u8 (n0:Nat),.int .i64 f,.slice A len cap,.bool ah] w (Yes w):=by
 obtain⟨v,hv⟩:∃ v:UInt8,v.toNat=n0:=⟨UInt8.ofNat n0,by simp;omega⟩;subst hv;have HB:=hqd fun W=>top_begun W;have HS:=hqd fun W=>small_any W f 7 (by decide) (by decide) ⟨hf1,hf2⟩;have HS2:=hqd fun W (x:Int) (hx:-9223372036854775808≤x∧x≤9223372036854775807)=>small_any W x 2 (by decide) (by decide) hx;have HC:=hqd fun W=>conf_any W 2;have HM:=hqd fun W=>made_any W ah;have HRi:=hqd hR;have h7:f.natAbs % 7<7:=Nat.mod_lt _ (by decide);generalize f.natAbs % 7=r at *;obtain⟨mm,hmm⟩:∃ mm,mm=r+1:=⟨_,rfl⟩;have hw1:IntKind.i64.wrap (1+(r:Int))=(mm:Int):=by rw[IntWalk.i64_in _ (by omega)];omega
 have hm7:1≤mm∧mm≤7:=by omega
 clear hmm;clear hf1 hf2 hR h0;go_enter func3,ntmps3;go_wp2_with fail;refine(HB.out _).mono ?_;rintro e w1 ⟨rfl,x1⟩;go_wp2_with fail;refine(HS.out _).mono ?_;rintro e w2 ⟨rfl,hw⟩;have hw:=hw.symm;subst hw;go_wp2_with fail;refine(HC.out _).mono ?_;rintro e w3 ⟨rfl,x3⟩;have X3:=hqd (x1.trans x3);clear x1 x3;unfold confV cfT;go_wp2_with fail;generalize hWa:World.alloc w3 _=wa at *;have XA:=hqd (show Ext w wa from hWa▸X3.out.trans (Ext.alloc _ _));clear hWa X3;refine(HM.out _).mono ?_;rintro e w4 ⟨tb,rfl,T1,mb,cs,m,wb,hT1,hM1,hts1,hH1,hHt⟩;have HT1:=hqd hT1;have HM1:=hqd hM1;have Hts:=hqd (hts1 0 (by decide));have HH1:=hqd hH1;have HHt:=hqd hHt;have t0:w4.cell? ⟨tb,0,none⟩=some (.pointer (some ⟨wb,0,none⟩)):=hHt.cell (i:=0) rfl;have t2:w4.cell? ⟨tb,2,none⟩=some (.bool true):=hHt.cell (i:=2) rfl;have b0:w4.cell? ⟨wb,0,none⟩=some (.pointer (some ⟨mb,0,none⟩)):=hH1.cell (i:=0) rfl;clear hT1 hM1 hts1 hH1 hHt HB HS HC HM;have x5:=Ext.alloc w4 (.cells #[.int .u8 (v.toNat:Nat)] 5);have hb5:Rb (w4.alloc (.cells #[.int .u8 (v.toNat:Nat)] 5)) (some ⟨w4.heap.size,0,none⟩) 1 1 [v]:=Rb.of (Rd.made w4 5 1 [.int .u8 (v.toNat:Nat)] 1 rfl (by decide)) rfl;have HP:=hqd (renc_any _ 77 (onePk 0 v) _ _ _ (onePk_ok 0 v (by omega)) (by unfold okId;decide) hb5)
 unfold pkAgg at HP;clear hb5;go_wp2_with fail;generalize hW5:World.alloc w4 _=w5 at *;refine HP.out.mono ?_;rintro e w6 ⟨B,n6,d6,rfl,ho6,x6⟩;have X6:=hqd (x5.trans x6);have t0:=X6.out.cell t0;have t2:=X6.out.cell t2;have b0:=X6.out.cell b0;have HM6:=hqd (gW_start (HM1.out.ext X6.out));have HG:=hqd (show G1 w4 T1 mb ah m [] [] [] none 0 10 w6 T1 (Cr.new cfG.n cfG.delay) from⟨Hts.out,Turn.of_ext _ HT1.out.unborn X6.out,HM6.out,TwoL.new cfG_ok rfl rfl,Row.nil_ _ _ _ _ _⟩);have HB6:=hqd (show Sb w6 T1 B n6 d6 (encPk ((cfG.id:Nat):Int) (onePk ([]:List UInt8).length v)) from Sb.of_made (HT1.out.unborn.ext x5) ho6);clear x5 x6 hW5 HP ho6 HM6 X6;have mp:=m_press ah (m.bs 0);have ep:=e_press ah (m.bs 0) (.int .u8 1);have mr:=m_recv ah (m.bs 0);have er:=e_recv ah (m.bs 0) (.slice B n6 d6);go_wp2_with fail;refine(mt_player HG.out.hM (p:=0) (by decide)).mono ?_;rintro e w7 ⟨rfl,hw⟩;have hw:=hw.symm;subst hw;rw[pv_eq];go_wp2_with fail;refine(g_press HG.out.hM HG.out.h2 HG.out.hT.unborn 1 (by decide) (by decide) (by decide)).mono ?_;rintro e w8 ⟨rfl,T2,hT2,hM2⟩;have HG2:=hqd (HG.out.turn hT2 hM2 (HG.out.h2.press 1 (by decide) (by decide)).2);have HB8:=hqd (HB6.out.turn hT2 (by have:=Hts.out;unfold In;omega));have t0:w8.cell? ⟨tb,0,none⟩=some (.pointer (some ⟨wb,0,none⟩)):=(HG2.out.low HHt.out (by decide)).cell (i:=0) rfl;have t2:w8.cell? ⟨tb,2,none⟩=some (.bool true):=(HG2.out.low HHt.out (by decide)).cell (i:=2) rfl;have b0:w8.cell? ⟨wb,0,none⟩=some (.pointer (some ⟨mb,0,none⟩)):=(HG2.out.low HH1.out (by decide)).cell (i:=0) rfl;clear hT2 hM2 HG HB6;go_wp2_with fail;refine(mt_player HG2.out.hM (p:=0) (by decide)).mono ?_;rintro e w9 ⟨rfl,hw⟩;have hw:=hw.symm;subst hw;rw[pv_eq];go_wp2_with fail;refine(g_recv HG2.out.hM HG2.out.h2 HG2.out.hT.unborn v (by decide) (by decide) HB8.out.rb).mono ?_;rintro e w10 ⟨rfl,T3,hT3,hM3⟩;have HG3:=hqd (HG2.out.turn hT3 hM3 (HG2.out.h2.recv v (by decide)));clear hT3 hM3 HG2 HB8 mp ep mr er t0 t2 b0;go_wp2_with fail;go_loopw [14,13] (fun iv sv wr=>r1 w4 T1 mb ah m v mm iv sv wr) (fun iv _ _=>mm-(intOf iv).toNat)
 case atStart=>exact⟨0,none,0,50,T3,_,rfl,Nat.zero_le _,rfl,by omega,HG3.out⟩
 case round =>
  obtain⟨k,SA,sc,B,T0,c,rfl,hk,rfl,hB,hG⟩:=hrel;have HG:=hqd hG;have t0:wr.cell? ⟨tb,0,none⟩=some (.pointer (some ⟨wb,0,none⟩)):=(HG.out.low HHt.out (by decide)).cell (i:=0) rfl;have t2:wr.cell? ⟨tb,2,none⟩=some (.bool true):=(HG.out.low HHt.out (by decide)).cell (i:=2) rfl;have b0:wr.cell? ⟨wb,0,none⟩=some (.pointer (some ⟨mb,0,none⟩)):=(HG.out.low HH1.out (by decide)).cell (i:=0) rfl;clear hG;by_cases hkn:k<mm
  ·have hd1:decide (k<mm)=true:=decide_eq_true hkn
   have hd1':decide ((k:Int)<(mm:Int))=true:=decide_eq_true (by omega);obtain⟨u,hu⟩:∃ u,u=UInt8.ofNat k:=⟨_,rfl⟩;have hku:IntKind.u8.wrap (k:Int)=(u.toNat:Int):=by rw[hu,toNat_ofNat8 (by omega),IntWalk.u8_in _ (by omega)]
   have Hu:=hqd hu;clear hu;have mp:=m_press ah (m.bs 0);have ep:=e_press ah (m.bs 0) (.int .u8 (u.toNat:Nat));go_wp2_with fail;refine(mt_player HG.out.hM (p:=0) (by decide)).mono ?_;rintro e w7 ⟨rfl,hw⟩;have hw:=hw.symm;subst hw;rw[pv_eq];go_wp2_with fail;have hlw:(L0 k).length<min (L0 k).length [v].length+cfG.window:=by rw[L0_len];show k+1<min (k+1) 1+8;omega
   have hln:(L0 k).length<1000:=by rw[L0_len];omega
   refine(g_press HG.out.hM HG.out.h2 HG.out.hT.unborn u (by omega) hln hlw).mono ?_;rintro e w8 ⟨rfl,T2,hT2,hM2⟩;have h2n:TwoL cfG (L0 (k+1)) [v] (c.press 0 cfG.window u):=by rw[L0_succ,← Hu.out];exact(HG.out.h2.press u hln hlw).2
   have HG2:=hqd (HG.out.turn hT2 hM2 h2n);generalize c.press 0 cfG.window u=c2 at *;have t0:w8.cell? ⟨tb,0,none⟩=some (.pointer (some ⟨wb,0,none⟩)):=(HG2.out.low HHt.out (by decide)).cell (i:=0) rfl;have b0:w8.cell? ⟨wb,0,none⟩=some (.pointer (some ⟨mb,0,none⟩)):=(HG2.out.low HH1.out (by decide)).cell (i:=0) rfl;have md:=m_disp ah (m.bs 0);have ed:=e_disp ah (m.bs 0);have Hsh:=hqd (show_right v (k:=k) (mm:=mm) (by omega) h2n);clear hT2 hM2 h2n HG mp ep hlw hln;go_wp2_with fail;refine(mt_player HG2.out.hM (p:=0) (by decide)).mono ?_;rintro e w9 ⟨rfl,hw⟩;have hw:=hw.symm;subst hw;rw[pv_eq];go_wp2_with fail;refine(g_disp HG2.out.hM HG2.out.h2 HG2.out.hT.unborn (by omega)).mono ?_;rintro e w10 ⟨DB,dd,rfl,hDb,x10⟩;rw[Hsh.out]at hDb;have hcv:=run_string_of (P:=prog) w10 30 9 5 underlying30 underlying5 underlying9 _ _ _ _ hDb;have HG3:=hqd (HG2.out.ext x10);generalize hgs:bs (gameL (gameAt tp22 ops22 [L0 mm,List.replicate (k+2) v] (k+2)))=gs at *;have Hgs:=hqd hgs;clear hDb HG2 x10 t0 b0 md ed hgs t2;obtain⟨i0,hi,hz0,hz1,hz2⟩:=info_parts info_str;have Hrow:=hqd HG3.out.row.1;have hlr:((List.range k).map (gS v mm)).length=k:=by simp
   rw[hlr]at Hrow;go_upto_region 19 with (at_builtin;refine wpList_append_new _ rfl _ _ 50 rfl 0 9 i0 (.string ByteArray.empty) 1 16 underlying50 hi hz0 hz1 hz2 rfl (by decide) SA k sc _ rfl Hrow.out 1 _ rfl rfl (by simp[Value.oneCell']) (by unfold maxLen;omega) (by omega) (Nat.zero_le _) ?_;intro E Ed wy hoE hgE hwE)
   obtain⟨T3,hG4⟩:=HG3.out.push (u:=.string gs) (by rw[hlr];exact hoE) hgE hwE;rw[← Hgs.out,show(List.range k).map (gS v mm)++[Value.string (bs (gameL (gameAt tp22 ops22 [L0 mm,List.replicate (k+2) v] (k+2))))]=(List.range (k+1)).map (gS v mm) from by rw[List.range_succ,List.map_append];rfl]at hG4;have HG4:=hqd hG4;clear hG4 hoE hgE hwE HG3 Hrow hlr hi hz0 hz1 hz2 hcv;go_wp2_with fail;go_loopw [17] (fun jv wr=>r2 w4 T1 mb ah m v mm k E Ed jv wr) (fun jv _=>5-(intOf jv).toNat)
   case atStart=>exact⟨0,B+20,T3,c2,rfl,Nat.zero_le _,by omega,HG4.out⟩
   case round =>
    obtain⟨j,B2,T4,c3,rfl,hj,hB2,hG5⟩:=hrel;have HG5:=hqd hG5;clear hG5 HG4;have hwr:IntKind.i64.wrap ((k:Int)+(j:Int))=(k:Int)+(j:Int):=IntWalk.i64_in _ (by omega);by_cases h5:j<5
    ·have d5:decide (j<5)=true:=decide_eq_true h5
     have d5':decide ((j:Int)<5)=true:=decide_eq_true (by omega);by_cases hl:k+j<len
     ·have dl:decide (k+j<len)=true:=decide_eq_true hl
      have dl':decide ((k:Int)+(j:Int)<(len:Int))=true:=decide_eq_true (by omega);cases ah with
      | false =>
       go_wp2_with fail;go_roundw
       case rel=>exact⟨k+1,E,Ed,B2,T4,c3,by go_num,by omega,rfl,by omega,HG5.out⟩
       case measure=>simp[intOf];omega
      | true =>
       have hu:=HG5.out.hT.unborn;have hM:=HG5.out.hM;have h14:=HG5.out.ts;have hH0:=HG5.out.low HHt.out (by decide);have hHb:=HG5.out.low HH1.out (by decide);have t0:wr.cell? ⟨tb,0,none⟩=some (.pointer (some ⟨wb,0,none⟩)):=hH0.cell (i:=0) rfl;have b0:wr.cell? ⟨wb,0,none⟩=some (.pointer (some ⟨mb,0,none⟩)):=hHb.cell (i:=0) rfl;have n1:¬ In (m.ts 0) 40 (T4 tb):=by rw[hH0.1];unfold In;omega
       have n2:¬ In (m.ts 0) 40 (T4 wb):=by rw[hHb.1];unfold In;omega
       obtain⟨pb,po,hpA,hpc,hpw⟩:=HRi.out.at9 hl;subst hpA;obtain⟨hXw,hTw⟩:=G1.old XA.out HT1.out HG5.out;have pc:=hXw.cell hpc;have n3:¬ In (m.ts 0) 40 (T4 pb):=by rw[hTw pb (World.block_lt_of_cell? w _ hpc)];unfold In;omega
       have hbx:=bd_i64 hpw;have hb0:(0≤(k:Int)+(j:Int))=True:=eq_true (by omega);have hb1:((k:Int)+(j:Int)<(len:Int))=True:=eq_true (by omega);have hb2:((k:Int)+(j:Int)).toNat=k+j:=by omega
       have hhc:=HRi.out.1.2;have hlc:len≤cap∧cap≤maxLen:=⟨hhc.1,hhc.2.1⟩;generalize l.getD (k+j) 0=px at *;have hn1:¬ In (m.ts 0) 40 1:=by unfold In;omega
       have hn2:¬ In (m.ts 0) 40 2:=by unfold In;omega
       have Hmul:=hqd fun W3 (hR:oR (In (m.ts 0) 40) T4 wr W3)=>mt_multi_of (hM.hd.moved hR hn1) (hM.row.turn (oR.turn hR hu) hn2) (p:=0) (by decide);have Hwk:=hqd fun W3 (e:Ext wr W3)=>g_work (hM.ext e) HG5.out.h2 (hu.ext e) (by omega) ((px.natAbs % 2:Nat):Int);have Hsm:=hqd fun W3=>HS2.out W3 px hbx;have hgW:Grow (fun v w' T'=>(∃ r,v = .bool r)∧MtIn w' T' mb cfG tp22 ops22 true m (gW c3) (B2+1)):=by
        rintro v w T w' ⟨h1,h2⟩ e;exact⟨h1,h2.ext e⟩
       unfold ptrV at *;clear hM hH0 hHb hpc hpw hXw hTw hhc hn1 hn2;go_upto_region 22 with fail
       apply wrG (oR (In (m.ts 0) 40) T4) (oRs 15 (In (m.ts 0) 40) T4) (oJ 15 _) (oJ.start _ _);repeat apply lxG (fun _ h _ _=>aj (h.cell t0 n1) (h.cell b0 n2))
       apply lexG_callx (by decide) (by decide)
       ·rfl
       ·intro W
        go_simp;exact⟨rfl,rfl⟩
       ·intro W hR hJ hΦ
        refine((fun W hR=>Hmul.out W hR) W hR).mono ?_;rintro e w' ⟨rfl,ee⟩;have ex:Ext W w':=by first|exact ee|(subst ee;exact Ext.refl _)
        exact⟨rfl,oR.of_ext ex,.inr ex⟩
       simp only[pu];repeat apply lxG (fun _ h _ _=>h.cell pc n3)
       apply lexG_callx (by decide) (by decide)
       ·rfl
       ·intro W
        go_simp;exact⟨rfl,rfl⟩
       ·intro W hR hJ hΦ
        refine((fun W hR=>Hsm.out W) W hR).mono ?_;rintro e w' ⟨rfl,ee⟩;have ex:Ext W w':=by first|exact ee|(subst ee;exact Ext.refl _)
        exact⟨rfl,oR.of_ext ex,.inr ex⟩
       simp only[pu];apply lexG_call (p:=oP _ _ _ _) (by decide) (by decide) (oP.stab hgW _)
       ·rfl
       ·intro W
        go_simp;exact⟨rfl,rfl⟩
       ·intro W hR hJ hΦ
        exact one_call hu (hJ rfl) ((Hwk.out) W (hJ rfl))
       intro v1;simp only[pu];refine lexG_nil ?_;intro Wx hR hap hΦ;obtain⟨T1,hT1,hv1,hM6⟩:=hΦ.1 rfl;clear hΦ hap;have HG6:=hqd (HG5.out.turn hT1 hM6 HG5.out.h2);clear hT1 hM6 hu Hmul Hwk Hsm hgW t0 b0 n1 n2 n3 pc hv1 hR;go_wp2_with fail;go_roundw
       case rel=>exact⟨j+1,B2+1,T1,c3,by go_num,by omega,by omega,HG6.out⟩
       case measure=>simp[intOf];omega
     ·have dl:decide (k+j<len)=false:=decide_eq_false hl
      have dl':decide ((k:Int)+(j:Int)<(len:Int))=false:=decide_eq_false (by omega);go_wp2_with fail;go_roundw
      case rel=>exact⟨k+1,E,Ed,B2,T4,c3,by go_num,by omega,rfl,by omega,HG5.out⟩
      case measure=>simp[intOf];omega
    ·have d5:decide (j<5)=false:=decide_eq_false h5
     have d5':decide ((j:Int)<5)=false:=decide_eq_false (by omega);go_wp2_with fail;go_roundw
     case rel=>exact⟨k+1,E,Ed,B2,T4,c3,by go_num,by omega,rfl,by omega,HG5.out⟩
     case measure=>simp[intOf];omega
  ·obtain rfl:k=mm:=by omega
   have hd1:decide (k<k)=false:=decide_eq_false (by omega);have hg0:0<k:=by omega
   clear t0 t2 b0 hw1 hkn;go_wp2_with fail;go_loopw [18] (fun iv wr=>r3 w4 T1 mb ah m v k SA sc iv wr) (fun iv _=>k-(intOf iv).toNat)
   case atStart=>exact⟨0,B,T0,c,rfl,Nat.zero_le _,by omega,HG.out⟩
   case round =>
    obtain⟨i,B2,T2,c2,rfl,hi,hB2,hG2⟩:=hrel;have HG2:=hqd hG2;clear hG2 HG;have t0:wr.cell? ⟨tb,0,none⟩=some (.pointer (some ⟨wb,0,none⟩)):=(HG2.out.low HHt.out (by decide)).cell (i:=0) rfl;have t2:wr.cell? ⟨tb,2,none⟩=some (.bool true):=(HG2.out.low HHt.out (by decide)).cell (i:=2) rfl;by_cases hin:i<k
    ·have d1:decide (i<k)=true:=decide_eq_true hin
     have d1':decide ((i:Int)<(k:Int))=true:=decide_eq_true (by omega);obtain⟨i1,hi1⟩:∃ i1,i1=i+1:=⟨_,rfl⟩;obtain⟨i2,hi2⟩:∃ i2,i2=i+2:=⟨_,rfl⟩;have hw1:IntKind.i64.wrap (1+(i:Int))=(i1:Int):=by rw[IntWalk.i64_in _ (by omega)];omega
     have hw2:IntKind.i64.wrap (2+(i:Int))=(i2:Int):=by rw[IntWalk.i64_in _ (by omega)];omega
     have Hi1:=hqd hi1;have Hi2:=hqd hi2;clear hi1 hi2;have x5:=Ext.alloc wr (.cells #[.int .u8 (v.toNat:Nat)] 5);have hb5:Rb (wr.alloc (.cells #[.int .u8 (v.toNat:Nat)] 5)) (some ⟨wr.heap.size,0,none⟩) 1 1 [v]:=Rb.of (Rd.made wr 5 1 [.int .u8 (v.toNat:Nat)] 1 rfl (by decide)) rfl;have HP:=hqd (renc_any _ 77 (onePk i1 v) _ _ _ (onePk_ok i1 v (by have:=Hi1.out;omega)) (by unfold okId;decide) hb5)
     unfold pkAgg at HP;clear hb5;go_wp2_with fail;generalize hW5:World.alloc wr _=w5 at *;refine HP.out.mono ?_;rintro e w6 ⟨PB,pn,pd,rfl,ho6,x6⟩;have hyl:(List.replicate (i+1) v).length=i1:=by rw[List.length_replicate,Hi1.out]
     have HB6:=hqd (show Sb w6 T2 PB pn pd (encPk ((cfG.id:Nat):Int) (onePk (List.replicate (i+1) v).length v)) by rw[hyl];exact Sb.of_made (HG2.out.hT.unborn.ext x5) ho6);have HG3:=hqd (HG2.out.ext (x5.trans x6));have t0:w6.cell? ⟨tb,0,none⟩=some (.pointer (some ⟨wb,0,none⟩)):=(HG3.out.low HHt.out (by decide)).cell (i:=0) rfl;have b0:w6.cell? ⟨wb,0,none⟩=some (.pointer (some ⟨mb,0,none⟩)):=(HG3.out.low HH1.out (by decide)).cell (i:=0) rfl;have mr:=m_recv ah (m.bs 0);have er:=e_recv ah (m.bs 0) (.slice PB pn pd);clear x5 x6 hW5 HP ho6 HG2 hyl t2;go_wp2_with fail;refine(mt_player HG3.out.hM (p:=0) (by decide)).mono ?_;rintro e w7 ⟨rfl,hw⟩;have hw:=hw.symm;subst hw;rw[pv_eq];go_wp2_with fail;have hl9:(List.replicate (i+1) v).length<1000:=by rw[List.length_replicate];omega
     refine(g_recv HG3.out.hM HG3.out.h2 HG3.out.hT.unborn v (by omega) hl9 HB6.out.rb).mono ?_;rintro e w8 ⟨rfl,T3,hT3,hM3⟩;have h2n:TwoL cfG (L0 k) (List.replicate (i+1+1) v) (c2.recv 0 (onePk (List.replicate (i+1) v).length v)):=by
      rw[List.replicate_succ'];exact HG3.out.h2.recv v hl9
     have HG4:=hqd (HG3.out.turn hT3 hM3 h2n);generalize c2.recv 0 (onePk (List.replicate (i+1) v).length v)=c4 at *;have hfr:c4.front=i2:=by
      rw[Hi2.out];unfold Cr.front;rw[h2n.ls,front_two,L0_len,List.length_replicate];omega
     have Hgm:=hqd (show gameAt tp22 ops22 c4.ls i2=gameAt tp22 ops22 [L0 k,List.replicate (i+2) v] (i+2) by rw[h2n.ls,Hi2.out]);have t0:w8.cell? ⟨tb,0,none⟩=some (.pointer (some ⟨wb,0,none⟩)):=(HG4.out.low HHt.out (by decide)).cell (i:=0) rfl;have b0:w8.cell? ⟨wb,0,none⟩=some (.pointer (some ⟨mb,0,none⟩)):=(HG4.out.low HH1.out (by decide)).cell (i:=0) rfl;have mc:=m_conf ah (m.bs 0);have ec:=e_conf ah (m.bs 0);have HCf:=hqd (g_conf HG4.out.hM HG4.out.h2 (by omega));rw[hfr,Hgm.out]at HCf;clear hT3 hM3 h2n HG3 HB6 mr er hl9 hfr;go_wp2_with fail;refine(mt_player HG4.out.hM (p:=0) (by decide)).mono ?_;rintro e w9 ⟨rfl,hw⟩;have hw:=hw.symm;subst hw;rw[pv_eq];go_wp2_with fail;refine HCf.out.mono ?_;rintro e w10 ⟨DB,dd,rfl,hDb,x10⟩;have HG5:=hqd (HG4.out.ext x10);have hcv:=fun W (h:Ext w10 W)=>run_string_of (P:=prog) W 30 9 5 underlying30 underlying5 underlying9 _ _ _ _ (hDb.ext h);obtain⟨sg,hsg,sc0,_,_⟩:=HG5.out.row.at_ (i:=i) (v:=gS v k i) (by rw[List.getElem?_map,List.getElem?_range hin];rfl);unfold gS at sc0;generalize bs (gameL (gameAt tp22 ops22 [L0 k,List.replicate (i+2) v] (i+2)))=gs at *;have hsc:=HG5.out.row.rd.2;have hsl:((List.range k).map (gS v k)).length=k:=by simp
     rw[hsl]at hsc;have hmx:=hsc.2.1;have hcp:=hsc.1;subst hsg;have q1:((i:Int)<(k:Int))=True:=eq_true (by omega);have q2:(i<k)=True:=eq_true hin;have Hin:=hqd hin;clear hsc hsl HG4 HCf hDb x10 t0 b0 mc ec hin d1 d1';go_wp2_with fail;apply wrA trivial;repeat first|apply lxA (fun W' h _=>aj (h.cell sc0) (hcv W' h))|apply lxK trivial
     refine lex_nil ?_;intro Wx hWx hΦ;clear hΦ;have HG6:=hqd (HG5.out.ext hWx);clear hcv sc0;go_wp2_with fail;go_roundw
     case rel=>exact⟨i+1,B2+20,T3,c4,by go_num,by have:=Hin.out;omega,by omega,HG6.out⟩
     case measure=>have:=Hin.out;simp[intOf];omega
    ·obtain rfl:i=k:=by omega
     have d1:decide (i<i)=false:=decide_eq_false (by omega);go_wp2_with fail;go_ret;exact⟨rfl,(G1.old XA.out HT1.out HG2.out).1⟩
end Go.Proofs.YtffcefoadaogbaaGreat
