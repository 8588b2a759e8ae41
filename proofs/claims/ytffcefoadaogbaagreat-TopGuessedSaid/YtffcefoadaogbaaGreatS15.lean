/- A part of the proof: texts put together and cut down by a program of mine (wip/gen/mini.py). -/
import Derived.Test.YtffcefoadaogbaaGreatS14
import Derived.Deep.DeepCutAuto
namespace Go.Proofs.YtffcefoadaogbaaGreat
open Go.RowKit
open Go.Proofs.Tryz
set_option linter.unusedVariables false
set_option maxRecDepth 100000
set_option maxHeartbeats 16000000
section
variable {w w':World} {T T':Tg} {t b:Nat} {cf:Cf} {me:Nat} {tp:List UInt8} {ops:List OpT} {x:Mx} {c c':Cr} {s:Ms} {B:Nat}
def MoveP(t b:Nat)(cf:Cf)(me:Nat)(tp:List UInt8)(ops:List OpT)(x:Mx)(c:Cr)(s:Ms)(v:Value)(w':World)(T':Tg):Prop :=
 v = .tuple #[]∧∃ s',MIn w' T' t b cf me tp ops x c s'∧s'.fr=c.front∧s'.last≤s.last+1∧s'.tlast=s.tlast∧s'.epoch≤s.epoch+2
def MovI(t b:Nat)(cf:Cf)(me:Nat)(tp:List UInt8)(ops:List OpT)(x:Mx)(c:Cr)(s:Ms)(k:Nat)(w':World)(T':Tg)(s':Ms):Prop :=
 MIn w' T' t b cf me tp ops x c s'∧s'.base=s.base∧s'.fr=s.fr∧s'.last=s.last∧s'.tlast=s.tlast∧s'.epoch≤s.epoch+k∧s'.bl=[]
theorem MIn.moved(h:MIn w T t b cf me tp ops x c s)(ht:0<t)(hok:CfOk cf)(hl:c.ls.length≤8)(hbl:s.bl=[]){w1 w2 w3:World}{T1:Tg}{free':Nat}(hT1:Turn (In (t+7) 5) w T w1 T1)(hT2:Turn (In (t+7) 5) w1 T1 w2 T1)
  (hS:StoreAt w2 T1 (t+7) x.sb (4*cf.room) free' (s.last+1) (delG (s.gs++[(s.last+1,gameAt tp ops c.ls c.front)]) s.base)) (hT3:Turn (· = t) w2 T1 w3 T1) (hH:Has w3 T1 t b (mulC x tp (s.last+1) c.front)) :
  MIn w3 T1 t b cf me tp ops x c {s with base:=s.last+1,fr:=c.front,free:=free',last:=s.last+1,gs:=delG (s.gs++[(s.last+1,gameAt tp ops c.ls c.front)]) s.base}:=by
 have hT:=(hT1.trans hT2).mono (S':=fun j=>j=t∨In (t+7) 5 j) fun j hj=>.inr hj;have hT:=hT.trans (hT3.mono (S':=fun j=>j=t∨In (t+7) 5 j) fun j hj=>.inl hj);have htr:=h.tr;have hM:=h.ok;rw[hbl]at htr hM;refine⟨hH,h.op.turn hT (by unfold In;omega),h.row.turn hT (by unfold In;omega),h.nw,h.nk,fun j wb2 k2 h1 h2=>?_,hS.turn hT3 (fun k hk=>by unfold In at hk;omega),?_,h.jo.turn hT (by unfold In;omega) (by unfold In;omega),h.pl.turn hT (fun k hk=>by unfold In at *;omega),?_,?_⟩
 ·have hjl:=(List.getElem?_eq_some_iff.1 h1).1
  have:=h.nw;have:=hok.workers;exact(h.wk j wb2 k2 h1 h2).turn hT (by unfold In;omega)
 ·show TreeAt w3 T1 (t+12) x.tb x.sb cf.branches s.tlast s.epoch c.front s.bl
  rw[hbl];exact(htr.turn hT (by unfold In;omega) (by unfold In;omega) (by unfold In;omega)).re c.front
 ·show MOk tp ops c.front (s.last+1) (gameAt tp ops c.ls c.front) _ s.tlast s.bl s.ks
  rw[hbl];exact hM.moved h.st.ids_low c.front (gameAt_ok tp ops c.ls c.front)
 ·show ∀ y∈s.bl,_
  rw[hbl];exact fun y hy=>by simp at hy
theorem mul_move(h:MIn w T t b cf me tp ops x c s)(ht:0<t)(hk:CrOk cf me c [])(hu:Unborn w T)(hN:s.last≤900000000∧s.epoch≤900000000):Calls prog 276 #[ptrV b] w (Gives (In t 14) w T (MoveP t b cf me tp ops x c s)):=by
 have hok:=hk.ok;have hlen:=hk.len;have hl8:c.ls.length≤8:=by have:=hok.n8;omega
 have b0:=h.hd.cell (i:=0) rfl;have b8:=h.hd.cell (i:=8) rfl;have b4:=h.hd.cell (i:=4) rfl;have Hco:=hqd (plain_core h.pl);have Hqu:=hqd (core_queue h.pl.core);have Hfr:=hqd (queue_front h.pl.core.que hl8 (by have:=hok.n2;omega) hk.short);rw[show frontL c.ls=c.front from rfl]at Hfr;have HU:=hqd hu;have HM:=hqd h;by_cases hfe:c.front=s.fr
 ·have e1:((c.front:Int)==(s.fr:Int))=true:=by rw[beq_iff_eq,hfe]
  have HF:=hqd (show MoveP t b cf me tp ops x c s (.tuple #[]) w T from⟨rfl,s,h,hfe.symm,Nat.le_succ _,rfl,by omega⟩);unfold ptrV at *;clear h hfe;go_enter func276,ntmps276;go_wp2_with fail;refine Hco.out.mono ?_;rintro e w1 ⟨rfl,hw⟩;subst hw;go_wp2_with fail;refine Hqu.out.mono ?_;rintro e w1 ⟨rfl,hw⟩;subst hw;go_wp2_with fail;refine Hfr.out.mono ?_;rintro e w1 ⟨rfl,hw⟩;subst hw;go_wp2_with fail;go_end0
  exact⟨_,rfl,T,Turn.refl _ HU.out,HF.out⟩
 ·have e1:((c.front:Int)==(s.fr:Int))=false:=by rw[beq_eq_false_iff_ne];omega
  have HK:=hqd (tree_keep_move h.tr hok.branches h.st hu (by omega) (by omega) (by omega) (by omega) (by omega) (by have:=h.small hok;omega) h.ok.pics_nd h.ok.pics_in);have HD:=hqd (show ∀ w3 T3 v,Turn (fun j=>j=t+12∨j=t+12+1∨In (t+7) 5 j) w T w3 T3→DropP (t+12) x.tb x.sb cf.branches s.tlast s.epoch s.fr (t+7) (4*cf.room) s.free s.last s.bl s.gs (· = true) v w3 T3→Turn (In (t+3) 11) w T w3 T3∧∃ s1,MovI t b cf me tp ops x c s 1 w3 T3 s1 from fun w3 T3 v hT3 hP=>by
   obtain⟨fl,ep,free',q1,q2,q3,q4,q5⟩:=h.dropped hok hl8 hT3 hP;exact⟨hT3.mono fun j hj=>by unfold In at *;omega,_,q5,rfl,rfl,rfl,rfl,q3,sel_none _ _ (all_false q2)⟩)
  unfold ptrV at *;clear h hfe hu;go_enter func276,ntmps276;go_wp2_with fail;refine Hco.out.mono ?_;rintro e w1 ⟨rfl,hw⟩;subst hw;go_wp2_with fail;refine Hqu.out.mono ?_;rintro e w1 ⟨rfl,hw⟩;subst hw;go_wp2_with fail;refine Hfr.out.mono ?_;rintro e w1 ⟨rfl,hw⟩;subst hw;go_wp2_with fail;refine HK.out.mono ?_;rintro e w2 ⟨v,rfl,T2,hT2,hP2⟩;obtain⟨hT2,s1,hM1⟩:=HD.out w2 T2 v hT2 hP2;obtain⟨r,fl,ep,free',rfl,_⟩:=hP2;have HT2:=hqd hT2;have HM1:=hqd hM1;have b3:=hM1.1.hd.cell (i:=3) rfl;have b7:=hM1.1.hd.cell (i:=7) rfl;have Hpg:=hqd fun W (e:Ext w2 W)=>at_pages (hM1.1.st.ext e) (List.mem_map.2 ⟨_,hM1.1.ok.base_,rfl⟩) (by have:=hM1.2.2.2.1;omega);have Hhas:=hqd fun W (e:Ext w2 W)=>at_has (hM1.1.st.ext e) 4;obtain⟨fb,hfb⟩:∃ fb,decide (4≤s1.free)=fb:=⟨_,rfl⟩;have Hfb:=hqd hfb;rw[hfb]at Hhas;unfold ptrV at *;clear hT2 hM1 b0 b8 b4 hfb;go_wp2_with fail;apply wrA trivial;repeat apply lxA (fun _ h _=>aj (h.cell b3) (h.cell b7))
  apply lex_call (p:=fun u W=>∃ B d,u = .slice B 4 d) (fun _ _ _ h he=>h)
  ·rfl
  ·intro W
   go_simp;exact⟨rfl,rfl⟩
  ·intro W hR hΦ
   refine(Hpg.out W hR).mono ?_;rintro e w' ⟨⟨B,d,rfl⟩,he⟩;exact⟨_,rfl,he,B,d,rfl⟩
  intro v1;simp only[pu];apply lex_ex (u:=.int .i64 4) Ext.refl
  ·rfl
  ·intro W hR hΦ
   obtain⟨B,d,rfl⟩:=hΦ.1 rfl;go_simp;first|done|with_reducible rfl
  simp only[pu];apply lxC (fun W hR=>Hhas.out W hR);repeat apply lxA (fun _ h _=>h.cell b3)
  refine lex_nil ?_;intro Wx hWx hΦ;clear hΦ;have HM2:=hqd (show MovI t b cf me tp ops x c s 1 Wx T2 s1 from⟨HM1.out.1.ext hWx,HM1.out.2⟩);have HT3:=hqd (HT2.out.ext hWx);clear hWx b3 b7;go_upto_if 38 with fail
  go_cut [2] (fun fv wx=>∃ T3 s2,fv = .int .i64 (c.front:Nat)∧Turn (In (t+3) 11) w1 T wx T3∧MovI t b cf me tp ops x c s 2 wx T3 s2∧4≤s2.free)
  case first =>
   cases fb with
   | true =>
    have hf:4≤s1.free:=of_decide_eq_true Hfb.out;go_wp2_with fail;go_meet
    exact⟨T2,s1,rfl,HT3.out,⟨HM2.out.1,HM2.out.2.1,HM2.out.2.2.1,HM2.out.2.2.2.1,HM2.out.2.2.2.2.1,by have:=HM2.out.2.2.2.2.2.1;omega,HM2.out.2.2.2.2.2.2⟩,hf⟩
   | false =>
    have HR:=hqd (mul_rest HM2.out.1 hok hl8 HT3.out.unborn (by have:=HM2.out.2.2.2.1;have:=HM2.out.2.2.2.2.2.1;omega));unfold ptrV at *;go_wp2_with fail;refine HR.out.mono ?_;rintro e w4 ⟨v,rfl,T4,hT4,rfl,s2,q1,q2,q3,q4,q5,q6,q7,q8⟩;obtain⟨_,p1,p2,p3,p4,p5,p6⟩:=HM2.out;go_wp2_with fail;go_meet
    exact⟨T4,s2,rfl,HT3.out.trans hT4,⟨q1,by rw[q2,p1],by rw[q3,p2],by rw[q4,p3],by rw[q5,p4],by omega,q7⟩,q8⟩
  case rest =>
   obtain⟨T3,s2,rfl,hT3,⟨hM3,p1,p2,p3,p4,p5,p6⟩,hfree⟩:=hcut;have hN2:s2.last≤s.last∧s2.epoch≤s.epoch+2:=by omega
   have P4:=hqd p4;have P6:=hqd p6;clear p1 p2 p3 p4 p5 p6;have hu:Unborn wc T3:=hT3.unborn;have HT3:=hqd hT3;have c0:=hM3.hd.cell (i:=0) rfl;have c3:=hM3.hd.cell (i:=3) rfl;have hTb:T3 b=t:=hM3.hd.1;have hn0:¬ In (t+7) 5 (T3 b):=by rw[hTb];unfold In;omega
   obtain⟨PA,pn,pd,hPh,_⟩:=hM3.pl.blk;have hPT:¬ In (t+7) 5 (t+16):=by unfold In;omega
   have Hg:=hqd fun W (hR:oR (In (t+7) 5) T3 wc W)=>plain_game_has (hPh.moved hR hPT);have Hmk:=hqd fun W (e:Ext wc W)=>at_make (hM3.st.ext e) hfree (gameAt_ok tp ops c.ls c.front).1 (hu.ext e) (by omega) (by omega) (by have:=hM3.small hok;omega);have hgP:Grow (fun v w' T'=>v = .tuple #[.int .i64 ((s2.last+1:Nat):Int),.bool true]∧StoreAt w' T' (t+7) x.sb (4*cf.room) (s2.free-4) (s2.last+1) (s2.gs++[(s2.last+1,gameAt tp ops c.ls c.front)])):=by
    rintro v w T w' ⟨h1,h2⟩ e;exact⟨h1,h2.ext e⟩
   have HM3:=hqd hM3;have hbase:s2.base∈(s2.gs++[(s2.last+1,gameAt tp ops c.ls c.front)]).map Prod.fst:=List.mem_map.2 ⟨_,List.mem_append_left _ hM3.ok.base_,rfl⟩;have hsm:=hM3.small hok;unfold ptrV at *;clear hM3 hT3 hPh;go_wp2_with fail;apply wrG (oR (In (t+7) 5) T3) (oRs 9 (In (t+7) 5) T3) (oJ 9 _) (oJ.start _ _);repeat apply lxG (fun _ h _ _=>aj (h.cell c0 hn0) (h.cell c3 hn0))
   apply lexG_callx (by decide) (by decide)
   ·rfl
   ·intro W
    go_simp;exact⟨rfl,rfl⟩
   ·intro W hR hJ hΦ
    refine((fun W hR=>Hg.out W hR) W hR).mono ?_;rintro e w' ⟨rfl,ee⟩;have ex:Ext W w':=by first|exact ee|(subst ee;exact Ext.refl _)
    exact⟨rfl,oR.of_ext ex,.inr ex⟩
   simp only[pu];apply lexG_call (p:=oP _ _ _ _) (by decide) (by decide) (oP.stab hgP _)
   ·rfl
   ·intro W
    go_simp;exact⟨rfl,rfl⟩
   ·intro W hR hJ hΦ
    exact one_call hu (hJ rfl) ((Hmk.out) W (hJ rfl))
   intro v9;simp only[pu];repeat apply lxG (fun _ _ _ hΦ=>oP_val (hΦ.1 rfl))
   refine lexG_nil ?_;intro Wx hR hap hΦ;obtain⟨T1,hT1,rfl,hS1⟩:=hΦ.1 rfl;clear hΦ hap;have hu:=hT1.unborn;have hH1:=HM3.out.hd.turn hT1 (by unfold In;omega);have c3:=hH1.cell (i:=3) rfl;have c7:=hH1.cell (i:=7) rfl;have hn1:¬ In (t+7) 5 (T1 b):=by rw[hH1.1];unfold In;omega
   have Hdr:∀ W,Ext Wx W→Calls prog 77 #[ptrV x.sb,.int .i64 (s2.base:Nat)] W (Gives (In (t+7) 5) W T1 (fun v w' T'=>v = .bool true∧T'=T1∧∃ free',StoreAt w' T1 (t+7) x.sb (4*cf.room) free' (s2.last+1) (delG (s2.gs++[(s2.last+1,gameAt tp ops c.ls c.front)]) s2.base))):=fun W e=>by
    refine(at_drop (hS1.ext e) hbase (hu.ext e) (by omega) (by omega) (by simp;omega)).mono ?_;rintro e w' ⟨rfl,hT,free',_,hS⟩;exact⟨_,rfl,T1,hT,rfl,rfl,free',hS⟩
   have hgD:Grow (fun v w' T'=>v=Value.bool true∧T'=T1∧∃ free',StoreAt w' T1 (t+7) x.sb (4*cf.room) free' (s2.last+1) (delG (s2.gs++[(s2.last+1,gameAt tp ops c.ls c.front)]) s2.base)):=by
    rintro v w T w' ⟨h1,h2,free',h3⟩ e;exact⟨h1,h2,free',h3.ext e⟩
   have Hdr:=hqd Hdr;have HH1:=hqd hH1;have HT1:=hqd hT1;unfold ptrV at *;clear hT1 hH1 hS1;go_wp2_with fail;apply wrG (oR (In (t+7) 5) T1) (oRs 8 (In (t+7) 5) T1) (oJ 8 _) (oJ.start _ _);repeat apply lxG (fun _ h _ _=>aj (h.cell c3 hn1) (h.cell c7 hn1))
   apply lexG_call (p:=oP _ _ _ _) (by decide) (by decide) (oP.stab hgD _)
   ·rfl
   ·intro W
    go_simp;exact⟨rfl,rfl⟩
   ·intro W hR hJ hΦ
    exact one_call hu (hJ rfl) ((Hdr.out) W (hJ rfl))
   intro v8;simp only[pu];refine lexG_nil ?_;intro Wy hRy hap hΦ;obtain⟨T5,hT5,rfl,hTe,free',hS2⟩:=hΦ.1 rfl;clear hΦ hap;rw[hTe]at hT5;have hH2:=HH1.out.turn hT5 (by unfold In;omega);have c7:=hH2.cell (i:=7) rfl;have c8:=hH2.cell (i:=8) rfl;have f7:=hH2.free 7;have f8:=hH2.free 8;obtain⟨hT6,hH6⟩:=hH2.put (S:=(· = t)) hT5.unborn 7 (.int .i64 ((s2.last+1:Nat):Int)) rfl;obtain⟨hT7,hH7⟩:=hH6.put (S:=(· = t)) hT6.unborn 8 (.int .i64 (c.front:Nat)) rfl;have HF:=hqd (show MIn _ T1 t b cf me tp ops x c _ from HM3.out.moved ht hok hl8 P6.out HT1.out hT5 hS2 (hT6.trans hT7) (hH7.is rfl));have HTT:=hqd (show Turn (In t 14) w1 T _ T1 from(((HT3.out.mono (S':=In t 14) fun j hj=>by unfold In at *;omega).trans (HT1.out.mono (S':=In t 14) fun j hj=>by unfold In at *;omega)).trans (hT5.mono (S':=In t 14) fun j hj=>by unfold In at *;omega)).trans ((hT6.trans hT7).mono (S':=In t 14) fun j hj=>by unfold In;omega));clear hT5 hH2 hT6 hH6 hT7 hH7 hS2;go_wp2_with fail;go_end0
   exact⟨_,rfl,T1,HTT.out,rfl,_,HF.out,rfl,by show s2.last+1≤_;omega,P4.out,by show s2.epoch≤_;omega⟩
end
section
variable {w w':World} {T T':Tg} {t b:Nat} {cf:Cf} {me:Nat} {tp:List UInt8} {ops:List OpT} {x:Mx} {c c':Cr} {s:Ms} {B:Nat}
theorem line_any{l:List UInt8}(h:LineAt w T t b l)(f:Nat):Calls prog 193 #[.pointer (some ⟨b,0,none⟩),.int .i64 (f:Nat)] w fun e w'=>(∃(y:UInt8) (r:Bool),e = .returned (.tuple #[.int .u8 (y.toNat:Nat),.bool r]))∧w'=w:=by
 by_cases hf:f<l.length
 ·refine(line_at h hf).mono ?_
  rintro e w' ⟨rfl,hw⟩;exact⟨⟨_,_,rfl⟩,hw⟩
 ·refine(line_at_no h (by omega)).mono ?_
  rintro e w' ⟨rfl,hw⟩;exact⟨⟨0,_,rfl⟩,hw⟩
theorem mul_may{base fr:Nat}(hH:Has w T t b (mulC x tp base fr))(hP:PlainAt w T (t+16) x.xb cf me tp ops x.cb x.qb x.ps c c.front)(hk:CrOk cf me c [])(y:Br)(h:Option Addr×Nat)(hp:Sp w T h.1 y.press.length h.2 y.press)(hj:∀ p∈y.press,p.length=cf.n)(hok:okPs y.press)(hfr:fr≤1000) :
  Calls prog 278 #[ptrV b,brV fr y h] w fun e w'=>(∃ r,e = .returned (.bool r))∧Ext w w':=by
 have hlen:=hk.len;have hn8:=hk.ok.n8;obtain⟨A,pc⟩:=h;have b0:=hH.cell (i:=0) rfl;have b8:=hH.cell (i:=8) rfl;have Hco:=hqd fun W (e:Ext w W)=>plain_core (hP.ext e);have Hqu:=hqd fun W (e:Ext w W)=>core_queue (hP.core.ext e);have Hli:=hqd fun W (e:Ext w W) p (hp:p<cf.n)=>queue_line (hP.core.que.ext e) (by rw[hlen];exact hn8) (p:=p) (by rw[hlen];exact hp);have Hat:=hqd fun W (e:Ext w W) p (hp:p<cf.n) f=>line_any ((hP.core.que.line p (by rw[hlen];exact hp)).ext e) f;have hmx:=hp.rp.max;have hpn:=hok.1;have Hel:Hid (∀ k,k<y.press.length→∃ b o Ai ni ci pr,A=some ⟨b,o,none⟩∧w.cell? ⟨b,o+k,none⟩=some (.slice Ai ni ci)∧Rb w Ai ni ci pr∧pr.length=cf.n):=hqd fun k hk=>by
  obtain⟨b,o,Ai,ni,ci,h1,h2,h3,_⟩:=hp.at_ hk;exact⟨b,o,Ai,ni,ci,_,h1,h2,h3,hj _ (List.getElem_mem hk)⟩
 unfold maxLen at hmx;unfold ptrV brV brC at *;clear hH hP hp hj hok hk hlen;dsimp only at *
 generalize y.press.length=pl at *;go_enter func278,ntmps278;go_upto_region 1 with fail
 generalize hV:w.alloc _=V at *;have eV:Ext w V:=by subst hV;exact Ext.alloc _ _
 have k1:V.cell? ⟨w.heap.size,1,none⟩=some (.int .i64 (fr:Nat)):=by subst hV;go_simp
 have k2:V.cell? ⟨w.heap.size,2,none⟩=some (.slice A pl pc):=by subst hV;go_simp
 clear hV;generalize w.heap.size=g0 at *;replace b0:=eV.cell b0;go_wp2_with fail;refine(Hco.out _ eV).mono ?_;rintro e w1 ⟨rfl,hw⟩;have hw:=hw.symm;subst hw;go_wp2_with fail;refine(Hqu.out _ eV).mono ?_;rintro e w1 ⟨rfl,hw⟩;have hw:=hw.symm;subst hw;go_wp2_with fail;go_loopw [21] (fun iv wr=>∃ k:Nat,iv = .int .i64 (k:Nat)∧k≤pl∧Ext V wr) (fun iv _=>pl-(intOf iv).toNat)
 case atStart=>exact⟨0,rfl,Nat.zero_le _,Ext.refl _⟩
 case round =>
  obtain⟨k,rfl,hk,er⟩:=hrel;by_cases hkn:k<pl
  ·have hd1:decide (k<pl)=true:=decide_eq_true hkn
   obtain⟨gb,ob,Ai,ni,ci,pr,hA,cc,hr,hpr⟩:=Hel.out k hkn;subst hA;obtain rfl:ni=cf.n:=by rw[hr.len];exact hpr
   have hw:IntKind.i64.wrap ((fr:Int)+(k:Int))=(fr:Int)+(k:Int):=IntWalk.i64_in _ (by omega);have Hat2:=hqd fun W (e:Ext w W) p (hp:p<cf.n)=>Hat.out W e p hp (fr+k);simp only[Int.natCast_add]at Hat2;have cc:=er.cell (eV.cell cc);have hmr:=hr.max;unfold maxLen at hmr;have Hr:=hqd hr;clear hr hpr;obtain⟨wo,hwo⟩:∃ wo,wo=wr:=⟨_,rfl⟩;subst hwo;go_wp2_with fail;go_loopw [28] (fun iv wr=>∃ p:Nat,iv = .int .i64 (p:Nat)∧p≤cf.n∧Ext V wr) (fun iv _=>cf.n-(intOf iv).toNat)
   case atStart=>exact⟨0,rfl,Nat.zero_le _,er⟩
   case round =>
    obtain⟨p,rfl,hp,ei⟩:=hrel;by_cases hpn2:p<cf.n
    ·have hd2:decide (p<cf.n)=true:=decide_eq_true hpn2
     have hrl:=Hr.out.len;obtain⟨gp,op,hAi,cp⟩:=Hr.out.at_ (k:=p) (by omega);subst hAi;generalize pr[p]'(by omega)=xb at *;have cp:=ei.cell (eV.cell cp);have Hl:=hqd fun W (e:Ext w W)=>Hli.out W e p hpn2;have Ha:=hqd fun W (e:Ext w W)=>Hat2.out W e p hpn2;clear hrl;have k1r:=ei.cell k1;have e0:=eV.trans ei;go_wp2_with fail;apply wrA trivial;repeat apply lxA (fun _ h _=>h.cell k1r)
     apply lxC (fun W hR=>Hl.out W (e0.trans hR));repeat apply lxA (fun _ h _=>h.cell k1r)
     apply lex_call (p:=fun u W=>∃(y:UInt8) (r:Bool),u = .tuple #[.int .u8 (y.toNat:Nat),.bool r]) (fun _ _ _ h he=>h)
     ·rfl
     ·intro W
      go_simp;exact⟨rfl,rfl⟩
     ·intro W hR hΦ
      refine(Ha.out W (e0.trans hR)).mono ?_;rintro e w' ⟨⟨y,r,rfl⟩,he⟩;exact⟨_,rfl,by subst he;exact Ext.refl _,y,r,rfl⟩
     intro v1;simp only[pu];apply lex_new (p:=fun u W=>∃(y:UInt8) (r:Bool),u = .tuple #[.int .u8 (y.toNat:Nat),.bool r]) (fun _ _ _ h _=>h)
     ·rfl
     ·intro W hR hΦ
      obtain⟨y,r,rfl⟩:=hΦ.1 rfl;refine⟨_,W,?_,Ext.refl _,y,r,rfl⟩;go_simp;first|done|rfl
     intro v9;simp only[pu];apply lex_new (p:=fun u W=>∃ y:UInt8,u = .int .u8 (y.toNat:Nat)) (fun _ _ _ h _=>h)
     ·rfl
     ·intro W hR hΦ
      obtain⟨y,r,rfl⟩:=hΦ.1 rfl;refine⟨_,W,?_,Ext.refl _,y,rfl⟩;go_simp;first|done|rfl
     intro v2;simp only[pu];apply lex_new (p:=fun u W=>∃ r:Bool,u = .bool r) (fun _ _ _ h _=>h)
     ·rfl
     ·intro W hR hΦ
      obtain⟨y,r,rfl⟩:=hΦ.2.1 rfl;refine⟨_,W,?_,Ext.refl _,r,rfl⟩;go_simp;first|done|rfl
     intro v3;simp only[pu];apply lex_new (p:=fun u W=>∃ y:UInt8,u = .int .u8 (y.toNat:Nat)) (fun _ _ _ h _=>h)
     ·rfl
     ·intro W hR hΦ
      obtain⟨y,rfl⟩:=hΦ.2.1 rfl;refine⟨_,W,?_,Ext.refl _,y,rfl⟩;go_simp;first|done|rfl
     intro v4;simp only[pu];apply lex_new (p:=fun u W=>∃ r:Bool,u = .bool r) (fun _ _ _ h _=>h)
     ·rfl
     ·intro W hR hΦ
      obtain⟨r,rfl⟩:=hΦ.2.1 rfl;refine⟨_,W,?_,Ext.refl _,r,rfl⟩;go_simp;first|done|rfl
     intro v5;simp only[pu];refine lex_nil ?_;intro Wx hWx hΦ;obtain⟨r,rfl⟩:=hΦ.1 rfl;obtain⟨y,rfl⟩:=hΦ.2.1 rfl;clear hΦ;have ew:=ei.trans hWx;cases r with
     | true =>
      by_cases hyx:y.toNat=xb.toNat
      ·have e1:((y.toNat:Int) != (xb.toNat:Int))=false:=by rw[bne_eq_false_iff_eq];omega
       clear hyx;go_wp2_with fail;go_roundw
       case rel=>exact⟨p+1,by go_num,by omega,ew⟩
       case measure=>simp[intOf];omega
      ·have e1:((y.toNat:Int) != (xb.toNat:Int))=true:=by rw[bne_iff_ne];omega
       clear hyx;go_wp2_with fail;go_ret;exact⟨⟨_,rfl⟩,eV.trans ew⟩
     | false =>
      go_wp2_with fail;go_roundw
      case rel=>exact⟨p+1,by go_num,by omega,ew⟩
      case measure=>simp[intOf];omega
    ·obtain rfl:p=cf.n:=by omega
     have hd2:decide (cf.n<cf.n)=false:=decide_eq_false (by omega);go_wp2_with fail;go_roundw
     case rel=>exact⟨k+1,by go_num,by omega,ei⟩
     case measure=>simp[intOf];omega
  ·obtain rfl:k=pl:=by omega
   have hd1:decide (k<k)=false:=decide_eq_false (by omega);have k1r:=er.cell k1;have b8r:=er.cell (eV.cell b8);go_wp2_with fail;apply wrA trivial;repeat apply lxA (fun _ h _=>aj (h.cell k1r) (h.cell b8r))
   refine lex_nil ?_;intro Wx hWx hΦ;clear hΦ;go_wp2_with fail;go_ret;exact⟨⟨_,rfl⟩,(eV.trans er).trans hWx⟩
theorem mul_has{base fr fr' most tlast epoch:Nat}{bl:List Br}(hH:Has w T t b (mulC x tp base fr))(hTr:TreeAt w T (t+12) x.tb x.sb most tlast epoch fr' bl)(hm:most≤8)(hok:∀ y∈bl,okPs y.press){PA:Option Addr}{pn pc:Nat}{press:List (List UInt8)}(hp:Rp w PA pn pc press) :
  Calls prog 295 #[ptrV b,.slice PA pn pc] w fun e w'=>(∃ r,e = .returned (.bool r))∧Ext w w':=by
 have b4:=hH.cell (i:=4) rfl;have Hall:=hqd (tree_all hTr hm hok);have hpl:=hp.len;have hpm:=hp.max;have hbl8:bl.length≤8:=Nat.le_trans hTr.most8 hm;have Hpe:Hid (∀ k,k<pn→∃ b o Ai ni ci p,PA=some ⟨b,o,none⟩∧w.cell? ⟨b,o+k,none⟩=some (.slice Ai ni ci)∧Rb w Ai ni ci p):=hqd fun k hk=>by
  obtain⟨b,o,Ai,ni,ci,h1,h2,h3⟩:=hp.at_ (k:=k) (by omega);exact⟨b,o,Ai,ni,ci,_,h1,h2,h3⟩
 unfold ptrV maxLen at *;clear hH hTr hp hok hpl;go_enter func295,ntmps295;go_wp2_with fail;refine Hall.out.mono ?_;rintro e w2 ⟨B,d,rfl,e2,hB⟩;have HB:=hqd (hB (fun _=>0) (fun _ _=>rfl));have hdm:bl.length≤d:=by
  obtain⟨_,hs,_,h2,_⟩:=HB.out;exact h2.2.1
 obtain⟨N,hN⟩:∃ N,N=bl.length:=⟨_,rfl⟩;rw[← hN]at hbl8 hdm ⊢;have HN:=hqd hN;clear hB hN b4;go_wp2_with fail;go_loopw [16] (fun iv wr=>∃ k:Nat,iv = .int .i64 (k:Nat)∧k≤N∧Ext w2 wr) (fun iv _=>N-(intOf iv).toNat)
 case atStart=>exact⟨0,rfl,Nat.zero_le _,Ext.refl _⟩
 case round =>
  obtain⟨k,rfl,hk,er⟩:=hrel;by_cases hkn:k<N
  ·have hd1:decide (k<N)=true:=decide_eq_true hkn
   obtain⟨y,hy⟩:∃ y,bl[k]?=some y:=⟨_,List.getElem?_eq_getElem (by rw[← HN.out];exact hkn)⟩;obtain⟨g9,o9,⟨A1,c1⟩,hBe,hv,hsp⟩:=HB.out.elem hy;subst hBe;have hv1:∀ i v,(brC fr' y (A1,c1))[i]?=some v→wr.cell? ⟨g9,o9+k*5+i,none⟩=some v:=fun i v hi=>er.cell (hv i v hi);have k0:=hv1 0 _ rfl;have k1:=hv1 1 _ rfl;have k2:=hv1 2 _ rfl;have k3:=hv1 3 _ rfl;have k4:=hv1 4 _ rfl;rw[Nat.add_zero]at k0;have hsl:=hsp.len;have hsm:=hsp.rp.max;have Hse:Hid (∀ k,k<y.press.length→∃ b o Ai ni ci p,A1=some ⟨b,o,none⟩∧w2.cell? ⟨b,o+k,none⟩=some (.slice Ai ni ci)∧Rb w2 Ai ni ci p):=hqd fun k hk=>by
    obtain⟨b,o,Ai,ni,ci,h1,h2,h3⟩:=hsp.rp.at_ (k:=k) (by omega);exact⟨b,o,Ai,ni,ci,_,h1,h2,h3⟩
   unfold maxLen at hsm;dsimp only at *
   clear hv hv1 hsp hy hsl;generalize y.press.length=pl at *;generalize y.id=i1 at *;generalize y.done=i3 at *;generalize y.pic=i4 at *;clear y;go_upto_region 4 with fail
   have b9:=Has.new wr (fun _=>0) [.int .i64 (i1:Nat),.int .i64 (fr':Nat),.slice A1 pl c1,.int .i64 (i3:Nat),.int .i64 (i4:Nat)] 136 rfl;have ex1:=Ext.alloc wr (.cells #[.int .i64 (i1:Nat),.int .i64 (fr':Nat),.slice A1 pl c1,.int .i64 (i3:Nat),.int .i64 (i4:Nat)] 136);generalize hW:World.alloc wr _=W at *;obtain⟨gv,hgv⟩:∃ gv,gv=wr.heap.size:=⟨_,rfl⟩;rw[← hgv]at b9 ⊢;clear hW hgv k0 k1 k2 k3 k4;have j2:=b9.cell (i:=2) rfl;have j3:=b9.cell (i:=3) rfl;have eW:=er.trans ex1;clear b9 ex1;go_upto_region 5 with fail
   go_cut [38] (fun bv wx=>∃ bo:Bool,bv = .bool bo∧(bo=false→pl≤pn)∧wx=W)
   case first =>
    by_cases hA:pn<pl
    ·have a1:decide (pn<pl)=true:=decide_eq_true hA
     have a2:decide ((pn:Int)<(pl:Int))=true:=decide_eq_true (by omega);go_wp2_with fail;go_meet
     exact⟨true,rfl,fun h=>absurd h (by decide),rfl⟩
    ·have a1:decide (pn<pl)=false:=decide_eq_false hA
     have a2:decide ((pn:Int)<(pl:Int))=false:=decide_eq_false (by omega);by_cases hB:pl<pn
     ·have b1:decide (pl<pn)=true:=decide_eq_true hB
      have b2:decide ((pl:Int)<(pn:Int))=true:=decide_eq_true (by omega);by_cases hC:i3=pl
      ·have d1:((i3:Int)==(pl:Int))=true:=by rw[beq_iff_eq];omega
       clear hC;go_wp2_with fail;go_meet
       exact⟨true,rfl,fun h=>absurd h (by decide),rfl⟩
      ·have d1:((i3:Int)==(pl:Int))=false:=by rw[beq_eq_false_iff_ne];omega
       clear hC;go_wp2_with fail;go_meet
       exact⟨false,rfl,fun _=>by omega,rfl⟩
     ·have b1:decide (pl<pn)=false:=decide_eq_false hB
      have b2:decide ((pl:Int)<(pn:Int))=false:=decide_eq_false (by omega);go_wp2_with fail;go_meet
      exact⟨false,rfl,fun _=>by omega,rfl⟩
   case rest =>
    obtain⟨bo,rfl,hbo,hwx⟩:=hcut;have hwx:=hwx.symm;subst hwx;cases bo with
    | true =>
     go_wp2_with fail;go_roundw
     case rel=>exact⟨k+1,by go_num,by omega,eW⟩
     case measure=>simp[intOf];omega
    | false =>
     have hpp:=hbo rfl;clear hbo;go_wp2_with fail;obtain⟨wo,hwo⟩:∃ wo,wo=wr:=⟨_,rfl⟩;subst hwo;go_loopw [8,40] (fun sv iv wx=>∃(j:Nat) (bo:Bool),sv = .bool bo∧iv = .int .i64 (j:Nat)∧j≤pl∧Ext W wx) (fun _ iv _=>pl-(intOf iv).toNat)
     case atStart=>exact⟨0,true,rfl,rfl,Nat.zero_le _,Ext.refl _⟩
     case round =>
      obtain⟨j,bo,rfl,rfl,hj,ei⟩:=hrel;by_cases hjp:j<pl
      ·have hd2:decide (j<pl)=true:=decide_eq_true hjp
       have j2r:=ei.cell j2;cases bo with
       | true =>
        obtain⟨gs,os,As,ns,cs,p1,hAs,hcs,hrs⟩:=Hse.out j hjp;obtain⟨gp,op,Ap,np,cp,p2,hAp,hcp,hrp⟩:=Hpe.out j (by omega);subst hAs;subst hAp;have hcs:=(eW.trans ei).cell hcs;have hcp:=((e2.trans eW).trans ei).cell hcp;have hjn:j<pn:=by omega
        have hcv1:=hqd fun W' (e:Ext wr W')=>run_string_of W' 30 9 5 underlying30 underlying5 underlying9 As ns cs p1 (hrs.ext ((eW.trans ei).trans e));have hcv2:=hqd fun W' (e:Ext wr W')=>run_string_of W' 30 9 5 underlying30 underlying5 underlying9 Ap np cp p2 (hrp.ext (((e2.trans eW).trans ei).trans e));clear hrs hrp;go_wp2_with fail;apply wrA trivial;repeat first|apply lxA (fun W' h _=>aj (h.cell j2r) (aj (h.cell hcs) (aj (h.cell hcp) (aj (hcv1.out W' h) (hcv2.out W' h)))))|apply lxK trivial
        refine lex_nil ?_;intro Wx hWx hΦ;clear hΦ;go_wp2_with fail;go_roundw
        case rel=>exact⟨j+1,_,rfl,by go_num,by omega,ei.trans hWx⟩
        case measure=>simp[intOf];omega
       | false =>
        go_wp2_with fail;apply wrA trivial;repeat first|apply lxA (fun _ h _=>h.cell j2r)|apply lxK trivial
        refine lex_nil ?_;intro Wx hWx hΦ;clear hΦ;go_wp2_with fail;go_roundw
        case rel=>exact⟨j+1,_,rfl,by go_num,by omega,ei.trans hWx⟩
        case measure=>simp[intOf];omega
      ·obtain rfl:j=pl:=by omega
       have hd2:decide (j<j)=false:=decide_eq_false (by omega);cases bo with
       | true =>
        go_wp2_with fail;go_ret;exact⟨⟨_,rfl⟩,(e2.trans eW).trans ei⟩
       | false =>
        go_wp2_with fail;go_roundw
        case rel=>exact⟨k+1,by go_num,by omega,eW.trans ei⟩
        case measure=>simp[intOf];omega
  ·obtain rfl:k=N:=by omega
   have hd1:decide (k<k)=false:=decide_eq_false (by omega);go_wp2_with fail;go_ret;exact⟨⟨_,rfl⟩,e2.trans er⟩
end
def Zs(w:World)(g n:Nat):Prop:=∀ i,i<n→∃ x:UInt8,w.cell? ⟨g,i,none⟩=some (.int .u8 (x.toNat:Nat))∧w.frozen? ⟨g,i,none⟩=false
def Sw(g n:Nat)(w w':World):Prop:=w.grownBy w' (some g)∧Zs w' g n
section
variable {w w' w1:World} {g n:Nat}
theorem Zs.ext(h:Zs w g n)(e:Ext w w'):Zs w' g n:=fun i hi=>by
 obtain⟨x,h1,h2⟩:=h i hi;exact⟨x,e.cell h1,by
  have hl:=World.block_lt_of_cell? w _ h1;have:=e.block g hl;simp only[World.frozen?]at h2 ⊢;rw[this];exact h2⟩
theorem Sw.refl(h:Zs w g n):Sw g n w w:=⟨(Ext.refl w).grownBy _,h⟩
theorem Sw.trans(h:Sw g n w w1)(h':Sw g n w1 w'):Sw g n w w':=⟨grown_trans h.1 h'.1,h'.2⟩
theorem Sw.set(h:Sw g n w w1){i:Nat}(x:UInt8):Sw g n w (w1.setCell ⟨g,i,none⟩ (.int .u8 (x.toNat:Nat))):=by
 refine⟨grown_trans h.1 (set_grown _ _ _),fun j hj=>?_⟩;obtain⟨y,h1,h2⟩:=h.2 j hj;by_cases e:j=i
 ·subst e
  exact⟨x,by go_simp,by go_simp⟩
 ·have hne:(⟨g,j,none⟩:Addr)≠⟨g,i,none⟩:=fun h=>e (by injection h)
  exact⟨y,by go_simp,by go_simp⟩
def zR(g n:Nat)(w w':World):Prop:=w.grownBy w' (some g)∧(Zs w g n→Zs w' g n)
def zby(v:Value)(w:World):Prop:=∃ x:UInt8,v = .int .u8 (x.toNat:Nat)
theorem zR.refl(w:World):zR g n w w:=⟨(Ext.refl w).grownBy _,fun h=>h⟩
theorem zR.of_ext(e:Ext w w'):zR g n w w':=⟨e.grownBy _,fun h=>h.ext e⟩
theorem zR.trans(h:zR g n w w1)(h':zR g n w1 w'):zR g n w w':=⟨grown_trans h.1 h'.1,fun k=>h'.2 (h.2 k)⟩
theorem zR.set(w:World)(g n i:Nat)(x:UInt8):zR g n w (w.setCell ⟨g,i,none⟩ (.int .u8 (x.toNat:Nat))):=⟨set_grown _ _ _,fun h=>((Sw.refl h).set x).2⟩
theorem zR.sw(h:zR g n w w')(hz:Zs w g n):Sw g n w w':=⟨h.1,h.2 hz⟩
theorem zby.stab{Rs:Nat→World→World→Prop}{i:Nat}:∀ j,j≠i→∀ v w w',zby v w→Rs j w w'→zby v w':=fun _ _ _ _ _ h _=>h
theorem swap_range(w:World)(c:Nat)(h:Zs w g n)(hn:n≤256)(a b k:Nat)(ha:a+k≤n)(hb:b+k≤n)(cmp:Value):Calls prog 334 #[.slice (some ⟨g,0,none⟩) n c,.int .i64 (a:Nat),.int .i64 (b:Nat),.int .i64 (k:Nat),cmp] w fun e w'=>e = .returned (.tuple #[])∧Sw g n w w':=by
 have HZ:=hqd h;clear h;go_enter func334,ntmps334;go_wp2_with fail;go_loopw [10] (fun iv wr=>∃ i:Nat,iv = .int .i64 (i:Nat)∧i≤k∧Sw g n w wr) (fun iv _=>k-(intOf iv).toNat)
 case atStart=>exact⟨0,rfl,Nat.zero_le _,Sw.refl HZ.out⟩
 case round =>
  obtain⟨i,rfl,hi,hS⟩:=hrel;by_cases hik:i<k
  ·have hd1:decide (i<k)=true:=decide_eq_true hik
   have hw1:IntKind.i64.wrap ((a:Int)+(i:Int))=(a:Int)+(i:Int):=IntWalk.i64_in _ (by omega);have hw2:IntKind.i64.wrap ((b:Int)+(i:Int))=(b:Int)+(i:Int):=IntWalk.i64_in _ (by omega);have hw3:IntKind.i64.wrap ((i:Int)+1)=(i:Int)+1:=IntWalk.i64_in _ (by omega);have hn1:(0≤(a:Int)+(i:Int)∧(a:Int)+(i:Int)<(n:Int))=True:=eq_true (by omega);have hn2:(0≤(b:Int)+(i:Int)∧(b:Int)+(i:Int)<(n:Int))=True:=eq_true (by omega);have hn3:((a:Int)+(i:Int)).toNat=a+i:=by omega
   have hn4:((b:Int)+(i:Int)).toNat=b+i:=by omega
   have HS:=hqd hS;have HZ:=hqd hS.2;clear hS;go_wp2_with fail;apply wrG (zR g n) (fun _=>zR g n) (fun _ _=>True) (fun _=>trivial);repeat apply lxG (fun _ _ _ _=>trivial)
   apply lexG_new (p:=zby) (by decide) (by decide) zby.stab
   ·rfl
   ·intro W hR hJ hΦ
    obtain⟨x,h1,_⟩:=hR.2 HZ.out (b+i) (by omega);refine⟨_,W,?_,zR.refl _,zR.refl _,x,rfl⟩;go_simp;first|done|rfl
   intro v13;simp only[pu];repeat apply lxG (fun _ _ _ _=>trivial)
   apply lexG_new (p:=zby) (by decide) (by decide) zby.stab
   ·rfl
   ·intro W hR hJ hΦ
    obtain⟨x,h1,_⟩:=hR.2 HZ.out (a+i) (by omega);refine⟨_,W,?_,zR.refl _,zR.refl _,x,rfl⟩;go_simp;first|done|rfl
   intro v19;simp only[pu];repeat apply lxG (fun _ _ _ _=>trivial)
   apply lexG_eff (p:=fun _ _=>True) (by decide) (by decide) (fun _ _ _ _ _ _ _=>trivial)
   ·rfl
   ·intro W hR hJ hΦ
    obtain⟨y,h1,h2⟩:=hR.2 HZ.out (a+i) (by omega);obtain⟨x,hx⟩:=hΦ.2.1 rfl;refine⟨W.setCell ⟨_,a+i,none⟩ (.int .u8 (x.toNat:Nat)),?_,zR.set W _ _ (a+i) x,zR.set W _ _ (a+i) x,trivial⟩;simp only[hx];go_simp;first|done|rfl
   intro v21;simp only[Act.put];repeat apply lxG (fun _ _ _ _=>trivial)
   apply lexG_eff (p:=fun _ _=>True) (by decide) (by decide) (fun _ _ _ _ _ _ _=>trivial)
   ·rfl
   ·intro W hR hJ hΦ
    obtain⟨y,h1,h2⟩:=hR.2 HZ.out (b+i) (by omega);obtain⟨x,hx⟩:=hΦ.2.1 rfl;refine⟨W.setCell ⟨_,b+i,none⟩ (.int .u8 (x.toNat:Nat)),?_,zR.set W _ _ (b+i) x,zR.set W _ _ (b+i) x,trivial⟩;simp only[hx];go_simp;first|done|rfl
   intro v23;simp only[Act.put];refine lexG_nil ?_;intro Wx hRx hap hΦ;clear hΦ hap;have hS2:=HS.out.trans (hRx.sw HZ.out);clear hRx;go_wp2_with fail;go_roundw
   case rel=>exact⟨i+1,by go_num,by omega,hS2⟩
   case measure=>simp[intOf];omega
  ·obtain rfl:i=k:=by omega
   have hd1:decide (i<i)=false:=decide_eq_false (by omega);go_wp2_with fail;go_end0
   exact⟨rfl,hS⟩
end
section
variable {w w' w1:World} {g n:Nat}
theorem sort_rotate(w:World)(c:Nat)(h:Zs w g n)(hn:n≤256)(a m b:Nat)(ha:a<m)(hm:m<b)(hb:b≤n)(cmp:Value):Calls prog 333 #[.slice (some ⟨g,0,none⟩) n c,.int .i64 (a:Nat),.int .i64 (m:Nat),.int .i64 (b:Nat),cmp] w fun e w'=>e = .returned (.tuple #[])∧Sw g n w w':=by
 have HZ:=hqd h;have HSw:=hqd fun W (hz:Zs W g n) a b k h1 h2=>swap_range W c hz hn a b k h1 h2 cmp;have hw1:IntKind.i64.wrap ((m:Int)-(a:Int))=(m:Int)-(a:Int):=IntWalk.i64_in _ (by omega);have hw2:IntKind.i64.wrap ((b:Int)-(m:Int))=(b:Int)-(m:Int):=IntWalk.i64_in _ (by omega);have Hst:=hqd (show ∃ i j:Nat,Value.int .i64 ((m:Int)-(a:Int)) = .int .i64 (i:Nat)∧Value.int .i64 ((b:Int)-(m:Int)) = .int .i64 (j:Nat)∧1≤i∧i≤m∧1≤j∧m+j≤n∧Sw g n w w from⟨m-a,b-m,by congr 1;omega,by congr 1;omega,by omega,by omega,by omega,by omega,Sw.refl h⟩);clear h;go_enter func333,ntmps333;go_wp2_with fail;go_loopw [10,11] (fun iv jv wr=>∃ i j:Nat,iv = .int .i64 (i:Nat)∧jv = .int .i64 (j:Nat)∧1≤i∧i≤m∧1≤j∧m+j≤n∧Sw g n w wr) (fun iv jv _=>(intOf iv).toNat+(intOf jv).toNat)
 case atStart=>exact Hst.out
 case round =>
  obtain⟨i,j,rfl,rfl,hi1,him,hj1,hjn,hS⟩:=hrel;have hc1:(m:Int)-(i:Int)=((m-i:Nat):Int):=by omega
  have hw3:IntKind.i64.wrap ((m:Int)-(i:Int))=(m:Int)-(i:Int):=IntWalk.i64_in _ (by omega);by_cases hij:i=j
  ·subst hij
   have HC:=hqd (HSw.out wr hS.2 (m-i) m i (by omega) (by omega));rw[← hc1]at HC;clear hc1;go_wp2_with fail;refine HC.out.mono ?_;rintro e w2 ⟨rfl,hS2⟩;go_wp2_with fail;go_end0
   exact⟨rfl,hS.trans hS2⟩
  ·have hne:((i:Int) != (j:Int))=true:=by rw[bne_iff_ne];omega
   have hne2:(i==j)=false:=by rw[beq_eq_false_iff_ne];exact hij
   by_cases hlt:j<i
   ·have hd:decide (j<i)=true:=decide_eq_true hlt
    have hd':decide ((j:Int)<(i:Int))=true:=decide_eq_true (by omega);have hw4:IntKind.i64.wrap ((i:Int)-(j:Int))=(i:Int)-(j:Int):=IntWalk.i64_in _ (by omega);have HC:=hqd (HSw.out wr hS.2 (m-i) m j (by omega) (by omega));rw[← hc1]at HC;have HS:=hqd hS;clear hc1 hS;go_wp2_with fail;refine HC.out.mono ?_;rintro e w2 ⟨rfl,hS2⟩;go_wp2_with fail;go_roundw
    case rel=>exact⟨i-j,j,by congr 1;omega,rfl,by omega,by omega,hj1,hjn,HS.out.trans hS2⟩
    case measure=>simp[intOf];omega
   ·have hd:decide (j<i)=false:=decide_eq_false hlt
    have hd':decide ((j:Int)<(i:Int))=false:=decide_eq_false (by omega);have hw4:IntKind.i64.wrap ((j:Int)-(i:Int))=(j:Int)-(i:Int):=IntWalk.i64_in _ (by omega);have hw5:IntKind.i64.wrap ((m:Int)+(j:Int))=(m:Int)+(j:Int):=IntWalk.i64_in _ (by omega);have hw6:IntKind.i64.wrap ((m:Int)+(j:Int)-(i:Int))=(m:Int)+(j:Int)-(i:Int):=IntWalk.i64_in _ (by omega);have HC:=hqd (HSw.out wr hS.2 (m-i) (m+j-i) i (by omega) (by omega));rw[← hc1,show((m+j-i:Nat):Int)=(m:Int)+(j:Int)-(i:Int) by omega]at HC;have HS:=hqd hS;clear hc1 hS;go_wp2_with fail;refine HC.out.mono ?_;rintro e w2 ⟨rfl,hS2⟩;go_wp2_with fail;go_roundw
    case rel=>exact⟨i,j-i,rfl,by congr 1;omega,hi1,him,by omega,by omega,HS.out.trans hS2⟩
    case measure=>simp[intOf];omega
end
def zi(v:Value)(w:World):Prop:=∃ q:Int,v = .int .i64 q
theorem zi.stab{Rs:Nat→World→World→Prop}{i:Nat}:∀ j,j≠i→∀ v w w',zi v w→Rs j w w'→zi v w':=fun _ _ _ _ _ h _=>h
def cmpV(c1 c2 c3 c4:Nat):Value:=.func (.func 318) #[] #[.pointer (some ⟨c1,0,none⟩),.pointer (some ⟨c2,0,none⟩),.pointer (some ⟨c3,0,none⟩),.pointer (some ⟨c4,0,none⟩)]
def Cmp(w:World)(g c1 c2 c3 c4:Nat):Prop:=∀ W (x y:UInt8),w.grownBy W (some g)→Calls prog 318 #[.int .u8 (x.toNat:Nat),.int .u8 (y.toNat:Nat),.pointer (some ⟨c1,0,none⟩),.pointer (some ⟨c2,0,none⟩),.pointer (some ⟨c3,0,none⟩),.pointer (some ⟨c4,0,none⟩)] W fun e w'=>(∃ q:Int,e = .returned (.int .i64 q))∧Ext W w'
section
variable {w w' w1:World} {g n c1 c2 c3 c4:Nat}
theorem Cmp.grown(h:Cmp w g c1 c2 c3 c4)(hg:w.grownBy w1 (some g)):Cmp w1 g c1 c2 c3 c4:=fun W x y h1=>h W x y (grown_trans hg h1)
theorem sort_insertion(w:World)(c:Nat)(h:Zs w g n)(hn:n≤256)(a b:Nat)(ha:a≤n)(hb:b≤n)(hC:Cmp w g c1 c2 c3 c4):Calls prog 330 #[.slice (some ⟨g,0,none⟩) n c,.int .i64 (a:Nat),.int .i64 (b:Nat),cmpV c1 c2 c3 c4] w fun e w'=>e = .returned (.tuple #[])∧Sw g n w w':=by
 have HZ0:=hqd h;have HC:=hqd fun W (hs:Sw g n w W)=>hC.grown hs.1;have hw1:IntKind.i64.wrap ((a:Int)+1)=(a:Int)+1:=IntWalk.i64_in _ (by omega);have Hst:=hqd (show ∃ i:Nat,Value.int .i64 ((a:Int)+1) = .int .i64 (i:Nat)∧a+1≤i∧i≤257∧Sw g n w w from⟨a+1,rfl,Nat.le_refl _,by omega,Sw.refl h⟩);unfold cmpV;clear h hC;go_enter func330,ntmps330;go_wp2_with fail;go_loopw [8] (fun iv wr=>∃ i:Nat,iv = .int .i64 (i:Nat)∧a+1≤i∧i≤257∧Sw g n w wr) (fun iv _=>b-(intOf iv).toNat)
 case atStart=>exact Hst.out
 case round =>
  obtain⟨i,rfl,hi1,hi2,hS⟩:=hrel;by_cases hib:i<b
  ·have hd1:decide (i<b)=true:=decide_eq_true hib
   have hwi:IntKind.i64.wrap ((i:Int)+1)=(i:Int)+1:=IntWalk.i64_in _ (by omega);have HS:=hqd hS;clear hS;go_wp2_with fail;go_loopw [9] (fun jv wx=>∃ j:Nat,jv = .int .i64 (j:Nat)∧a≤j∧j≤i∧Sw g n w wx) (fun jv _=>(intOf jv).toNat)
   case atStart=>exact⟨i,rfl,by omega,Nat.le_refl _,HS.out⟩
   case round =>
    obtain⟨j,rfl,hj1,hji,hS⟩:=hrel;have HZ:=hqd hS.2;have HS:=hqd hS;have HCx:=hqd (HC.out wr hS);clear hS;by_cases hja:a<j
    ·have hd2:decide (a<j)=true:=decide_eq_true hja
     have hd2':decide ((a:Int)<(j:Int))=true:=decide_eq_true (by omega);have hwj:IntKind.i64.wrap ((j:Int)-1)=(j:Int)-1:=IntWalk.i64_in _ (by omega);have hn1:(1≤(j:Int)∧(j:Int)-1<(n:Int))=True:=eq_true (by omega);have hn2:((j:Int)-1).toNat=j-1:=by omega
     have hn3:(j<n)=True:=eq_true (by omega);have hn4:decide (j<n)=true:=decide_eq_true (by omega);go_wp2_with fail;apply wrH 15 (zR g n) (fun _=>zR g n) (fun _ _=>True) (fun _=>trivial);simp only[tk];repeat apply lxG (fun _ _ _ _=>trivial)
     apply lexG_new (p:=zby) (by decide) (by decide) zby.stab
     ·rfl
     ·intro W hR hJ hΦ
      obtain⟨x,h1,_⟩:=hR.2 HZ.out (j) (by omega);refine⟨_,W,?_,zR.refl _,zR.refl _,x,rfl⟩;go_simp;first|done|rfl
     intro v8;simp only[pu];repeat apply lxG (fun _ _ _ _=>trivial)
     apply lexG_new (p:=zby) (by decide) (by decide) zby.stab
     ·rfl
     ·intro W hR hJ hΦ
      obtain⟨x,h1,_⟩:=hR.2 HZ.out (j-1) (by omega);refine⟨_,W,?_,zR.refl _,zR.refl _,x,rfl⟩;go_simp;first|done|rfl
     intro v13;simp only[pu];apply lexG_call (p:=zi) (by decide) (by decide) zi.stab
     ·rfl
     ·intro W
      go_simp;exact⟨rfl,rfl⟩
     ·intro W hR hJ hΦ
      obtain⟨x1,rfl⟩:=hΦ.2.1 rfl;obtain⟨x2,rfl⟩:=hΦ.1 rfl;refine(HCx.out W x1 x2 hR.1).mono ?_;rintro e w' ⟨⟨q,rfl⟩,ee⟩;exact⟨_,rfl,zR.of_ext ee,zR.of_ext ee,q,rfl⟩
     intro v14;simp only[pu];refine lexG_nil ?_;intro Wx hRx hap hΦ;obtain⟨q,rfl⟩:=hΦ.1 rfl;clear hΦ hap;simp only[dk];have hS2:=HS.out.trans (hRx.sw HZ.out);have HZ:=hqd hS2.2;have HS:=hqd hS2;clear hS2 hRx;by_cases hq:q<0
     ·have hq1:decide (q<0)=true:=decide_eq_true hq
      go_wp2_with fail;apply wrG (zR g n) (fun _=>zR g n) (fun _ _=>True) (fun _=>trivial);repeat apply lxG (fun _ _ _ _=>trivial)
      apply lexG_new (p:=zby) (by decide) (by decide) zby.stab
      ·rfl
      ·intro W hR hJ hΦ
       obtain⟨x,h1,_⟩:=hR.2 HZ.out (j-1) (by omega);refine⟨_,W,?_,zR.refl _,zR.refl _,x,rfl⟩;go_simp;first|done|rfl
      intro v9;simp only[pu];repeat apply lxG (fun _ _ _ _=>trivial)
      apply lexG_new (p:=zby) (by decide) (by decide) zby.stab
      ·rfl
      ·intro W hR hJ hΦ
       obtain⟨x,h1,_⟩:=hR.2 HZ.out (j) (by omega);refine⟨_,W,?_,zR.refl _,zR.refl _,x,rfl⟩;go_simp;first|done|rfl
      intro v13;simp only[pu];repeat apply lxG (fun _ _ _ _=>trivial)
      apply lexG_eff (p:=fun _ _=>True) (by decide) (by decide) (fun _ _ _ _ _ _ _=>trivial)
      ·rfl
      ·intro W hR hJ hΦ
       obtain⟨y,h1,h2⟩:=hR.2 HZ.out (j) (by omega);obtain⟨x,hx⟩:=hΦ.2.1 rfl;refine⟨W.setCell ⟨_,j,none⟩ (.int .u8 (x.toNat:Nat)),?_,zR.set W _ _ (j) x,zR.set W _ _ (j) x,trivial⟩;simp only[hx];go_simp;first|done|rfl
      intro v15;simp only[Act.put];repeat apply lxG (fun _ _ _ _=>trivial)
      apply lexG_eff (p:=fun _ _=>True) (by decide) (by decide) (fun _ _ _ _ _ _ _=>trivial)
      ·rfl
      ·intro W hR hJ hΦ
       obtain⟨y,h1,h2⟩:=hR.2 HZ.out (j-1) (by omega);obtain⟨x,hx⟩:=hΦ.2.1 rfl;refine⟨W.setCell ⟨_,j-1,none⟩ (.int .u8 (x.toNat:Nat)),?_,zR.set W _ _ (j-1) x,zR.set W _ _ (j-1) x,trivial⟩;simp only[hx];go_simp;first|done|rfl
      intro v17;simp only[Act.put];refine lexG_nil ?_;intro Wx hRx hap hΦ;clear hΦ hap;have hS3:=HS.out.trans (hRx.sw HZ.out);clear hRx;go_wp2_with fail;go_roundw
      case rel=>exact⟨j-1,by congr 1;omega,by omega,by omega,hS3⟩
      case measure=>simp[intOf];omega
     ·have hq1:decide (q<0)=false:=decide_eq_false hq
      go_wp2_with fail;go_roundw
      case rel=>exact⟨i+1,by go_num,by omega,by omega,HS.out⟩
      case measure=>simp[intOf];omega
    ·have hd2:decide (a<j)=false:=decide_eq_false hja
     have hd2':decide ((a:Int)<(j:Int))=false:=decide_eq_false (by omega);go_wp2_with fail;apply wrG (zR g n) (fun _=>zR g n) (fun _ _=>True) (fun _=>trivial);repeat first|(apply lexG_ex (by decide) (by decide) zR.refl (fun _=>zR.refl);(· rfl);(· intro W hR hJ hΦ;go_simp;first|done|with_reducible rfl);simp only[pu])|(apply lexG_skip (by decide) (by decide);(· rfl);simp only[pu])
     refine lexG_nil ?_;intro Wx hRx hap hΦ;clear hΦ hap;have hS2:=HS.out.trans (hRx.sw HZ.out);clear hRx;go_wp2_with fail;go_roundw
     case rel=>exact⟨i+1,by go_num,by omega,by omega,hS2⟩
     case measure=>simp[intOf];omega
  ·have hd1:decide (i<b)=false:=decide_eq_false hib
   go_wp2_with fail;go_end0
   exact⟨rfl,hS⟩
end
section
variable {w w' w1:World} {g n c1 c2 c3 c4:Nat}
theorem merge_left(w:World)(c:Nat)(h:Zs w g n)(hn:n≤256)(a b:Nat)(ha:a+1<b)(hb:b≤n)(hC:Cmp w g c1 c2 c3 c4):Calls prog 331 #[.slice (some ⟨g,0,none⟩) n c,.int .i64 (a:Nat),.int .i64 ((a+1:Nat):Int),.int .i64 (b:Nat),cmpV c1 c2 c3 c4] w fun e w'=>e = .returned (.tuple #[])∧Sw g n w w':=by
 have HZ0:=hqd h;have HC:=hqd fun W (hs:Sw g n w W)=>hC.grown hs.1;have hw1:IntKind.i64.wrap (((a+1:Nat):Int)-(a:Int))=1:=by rw[IntWalk.i64_in _ (by omega)];omega
 obtain⟨m,hm⟩:∃ m,m=a+1:=⟨_,rfl⟩;have Hm:=hqd hm;rw[← hm]at hw1 ⊢;have hna:(a<n)=True:=eq_true (by omega);have hna':decide (a<n)=true:=decide_eq_true (by omega);have hmb:m<b:=by omega
 unfold cmpV;clear h hC hm;go_enter func331,ntmps331;go_wp2_with fail;go_loopw [10,11] (fun iv jv wr=>∃ i j:Nat,iv = .int .i64 (i:Nat)∧jv = .int .i64 (j:Nat)∧m≤i∧i≤j∧j≤b∧Sw g n w wr) (fun iv jv _=>(intOf jv).toNat-(intOf iv).toNat)
 case atStart=>exact⟨m,b,rfl,rfl,by omega,by omega,by omega,Sw.refl HZ0.out⟩
 case round =>
  obtain⟨i,j,rfl,rfl,hi1,hij,hjb,hS⟩:=hrel;have HS:=hqd hS;have HZ:=hqd hS.2;have HCx:=hqd (HC.out wr hS);clear hS;by_cases hlt:i<j
  ·have hd1:decide (i<j)=true:=decide_eq_true hlt
   obtain⟨h,hh,hih,hhj⟩:∃ h:Nat,((i:Int)+(j:Int)) / 2=(h:Nat)∧i≤h∧h<j:=⟨(i+j) / 2,by omega,by omega,by omega⟩;have hnh:(h<n)=True:=eq_true (by omega);have hnh':decide (h<n)=true:=decide_eq_true (by omega);have hwh:IntKind.i64.wrap ((h:Int)+1)=(h:Int)+1:=IntWalk.i64_in _ (by omega);go_wp2_with fail;clear hh;apply wrH 10 (zR g n) (fun _=>zR g n) (fun _ _=>True) (fun _=>trivial);simp only[tk];repeat apply lxG (fun _ _ _ _=>trivial)
   apply lexG_new (p:=zby) (by decide) (by decide) zby.stab
   ·rfl
   ·intro W hR hJ hΦ
    obtain⟨x,h1,_⟩:=hR.2 HZ.out (h) (by omega);refine⟨_,W,?_,zR.refl _,zR.refl _,x,rfl⟩;go_simp;first|done|rfl
   intro v4;simp only[pu];repeat apply lxG (fun _ _ _ _=>trivial)
   apply lexG_new (p:=zby) (by decide) (by decide) zby.stab
   ·rfl
   ·intro W hR hJ hΦ
    obtain⟨x,h1,_⟩:=hR.2 HZ.out (a) (by omega);refine⟨_,W,?_,zR.refl _,zR.refl _,x,rfl⟩;go_simp;first|done|rfl
   intro v8;simp only[pu];apply lexG_call (p:=zi) (by decide) (by decide) zi.stab
   ·rfl
   ·intro W
    go_simp;exact⟨rfl,rfl⟩
   ·intro W hR hJ hΦ
    obtain⟨x1,rfl⟩:=hΦ.2.1 rfl;obtain⟨x2,rfl⟩:=hΦ.1 rfl;refine(HCx.out W x1 x2 hR.1).mono ?_;rintro e w' ⟨⟨q,rfl⟩,ee⟩;exact⟨_,rfl,zR.of_ext ee,zR.of_ext ee,q,rfl⟩
   intro v9;simp only[pu];refine lexG_nil ?_;intro Wx hRx hap hΦ;obtain⟨q,rfl⟩:=hΦ.1 rfl;clear hΦ hap;simp only[dk];have HS2:=hqd (HS.out.trans (hRx.sw HZ.out));clear hRx;by_cases hq:q<0
   ·have hq1:decide (q<0)=true:=decide_eq_true hq
    go_wp2_with fail;go_roundw
    case rel=>exact⟨h+1,j,by go_num,rfl,by omega,by omega,by omega,HS2.out⟩
    case measure=>simp[intOf];omega
   ·have hq1:decide (q<0)=false:=decide_eq_false hq
    go_wp2_with fail;go_roundw
    case rel=>exact⟨i,h,rfl,rfl,by omega,by omega,by omega,HS2.out⟩
    case measure=>simp[intOf];omega
  ·have hd1:decide (i<j)=false:=decide_eq_false hlt
   have hwi:IntKind.i64.wrap ((i:Int)-1)=(i:Int)-1:=IntWalk.i64_in _ (by omega);go_wp2_with fail;go_loopw [13] (fun kv wx=>∃ k:Nat,kv = .int .i64 (k:Nat)∧a≤k∧k+1≤i∧Sw g n w wx) (fun kv _=>i-(intOf kv).toNat)
   case atStart=>exact⟨a,rfl,Nat.le_refl _,by have:=Hm.out;omega,HS.out⟩
   case round =>
    obtain⟨k,rfl,hk1,hk2,hS⟩:=hrel;have HS:=hqd hS;have HZ:=hqd hS.2;clear hS;by_cases hki:k+1<i
    ·have hd2:decide ((k:Int)<(i:Int)-1)=true:=decide_eq_true (by omega)
     have hwk:IntKind.i64.wrap ((k:Int)+1)=(k:Int)+1:=IntWalk.i64_in _ (by omega);have hn1:(0≤(k:Int)+1∧(k:Int)+1<(n:Int))=True:=eq_true (by omega);have hn1':((k:Int)+1<(n:Int))=True:=eq_true (by omega);have hn0:(0≤(k:Int)+1)=True:=eq_true (by omega);have hn2:((k:Int)+1).toNat=k+1:=by omega
     have hn3:(k<n)=True:=eq_true (by omega);go_wp2_with fail;apply wrG (zR g n) (fun _=>zR g n) (fun _ _=>True) (fun _=>trivial);repeat apply lxG (fun _ _ _ _=>trivial)
     apply lexG_new (p:=zby) (by decide) (by decide) zby.stab
     ·rfl
     ·intro W hR hJ hΦ
      obtain⟨x,h1,_⟩:=hR.2 HZ.out (k+1) (by omega);refine⟨_,W,?_,zR.refl _,zR.refl _,x,rfl⟩;go_simp;first|done|rfl
     intro v9;simp only[pu];repeat apply lxG (fun _ _ _ _=>trivial)
     apply lexG_new (p:=zby) (by decide) (by decide) zby.stab
     ·rfl
     ·intro W hR hJ hΦ
      obtain⟨x,h1,_⟩:=hR.2 HZ.out (k) (by omega);refine⟨_,W,?_,zR.refl _,zR.refl _,x,rfl⟩;go_simp;first|done|rfl
     intro v13;simp only[pu];repeat apply lxG (fun _ _ _ _=>trivial)
     apply lexG_eff (p:=fun _ _=>True) (by decide) (by decide) (fun _ _ _ _ _ _ _=>trivial)
     ·rfl
     ·intro W hR hJ hΦ
      obtain⟨y,h1,h2⟩:=hR.2 HZ.out (k) (by omega);obtain⟨x,hx⟩:=hΦ.2.1 rfl;refine⟨W.setCell ⟨_,k,none⟩ (.int .u8 (x.toNat:Nat)),?_,zR.set W _ _ (k) x,zR.set W _ _ (k) x,trivial⟩;simp only[hx];go_simp;first|done|rfl
     intro v15;simp only[Act.put];repeat apply lxG (fun _ _ _ _=>trivial)
     apply lexG_eff (p:=fun _ _=>True) (by decide) (by decide) (fun _ _ _ _ _ _ _=>trivial)
     ·rfl
     ·intro W hR hJ hΦ
      obtain⟨y,h1,h2⟩:=hR.2 HZ.out (k+1) (by omega);obtain⟨x,hx⟩:=hΦ.2.1 rfl;refine⟨W.setCell ⟨_,k+1,none⟩ (.int .u8 (x.toNat:Nat)),?_,zR.set W _ _ (k+1) x,zR.set W _ _ (k+1) x,trivial⟩;simp only[hx];go_simp;first|done|rfl
     intro v17;simp only[Act.put];refine lexG_nil ?_;intro Wx hRx hap hΦ;clear hΦ hap;have hS3:=HS.out.trans (hRx.sw HZ.out);clear hRx;go_wp2_with fail;go_roundw
     case rel=>exact⟨k+1,by go_num,by omega,by omega,hS3⟩
     case measure=>simp[intOf];omega
    ·have hd2:decide ((k:Int)<(i:Int)-1)=false:=decide_eq_false (by omega)
     go_wp2_with fail;exact bodyPost_ret (results_none rfl _ _ _) rfl ⟨rfl,HS.out⟩
end
section
variable {w w' w1:World} {g n c1 c2 c3 c4:Nat}
theorem merge_right(w:World)(c:Nat)(h:Zs w g n)(hn:n≤256)(a m:Nat)(ha:a+1<m)(hb:m+1≤n)(hC:Cmp w g c1 c2 c3 c4):Calls prog 331 #[.slice (some ⟨g,0,none⟩) n c,.int .i64 (a:Nat),.int .i64 (m:Nat),.int .i64 ((m+1:Nat):Int),cmpV c1 c2 c3 c4] w fun e w'=>e = .returned (.tuple #[])∧Sw g n w w':=by
 have HZ0:=hqd h;have HC:=hqd fun W (hs:Sw g n w W)=>hC.grown hs.1;have hw1:IntKind.i64.wrap (((m+1:Nat):Int)-(m:Int))=1:=by rw[IntWalk.i64_in _ (by omega)];omega
 have hw0:IntKind.i64.wrap ((m:Int)-(a:Int))=(m:Int)-(a:Int):=IntWalk.i64_in _ (by omega);have he0:((m:Int)-(a:Int)==1)=false:=by rw[beq_eq_false_iff_ne];omega
 obtain⟨b,hm⟩:∃ b,b=m+1:=⟨_,rfl⟩;have Hm:=hqd hm;rw[← hm]at hw1 ⊢;have hna:(m<n)=True:=eq_true (by omega);have hna':decide (m<n)=true:=decide_eq_true (by omega);unfold cmpV;clear h hC hm;go_enter func331,ntmps331;go_wp2_with fail;go_loopw [14,15] (fun iv jv wr=>∃ i j:Nat,iv = .int .i64 (i:Nat)∧jv = .int .i64 (j:Nat)∧a≤i∧i≤j∧j≤m∧Sw g n w wr) (fun iv jv _=>(intOf jv).toNat-(intOf iv).toNat)
 case atStart=>exact⟨a,m,rfl,rfl,by omega,by omega,by omega,Sw.refl HZ0.out⟩
 case round =>
  obtain⟨i,j,rfl,rfl,hi1,hij,hjb,hS⟩:=hrel;have HS:=hqd hS;have HZ:=hqd hS.2;have HCx:=hqd (HC.out wr hS);clear hS;by_cases hlt:i<j
  ·have hd1:decide (i<j)=true:=decide_eq_true hlt
   obtain⟨h,hh,hih,hhj⟩:∃ h:Nat,((i:Int)+(j:Int)) / 2=(h:Nat)∧i≤h∧h<j:=⟨(i+j) / 2,by omega,by omega,by omega⟩;have hnh:(h<n)=True:=eq_true (by omega);have hnh':decide (h<n)=true:=decide_eq_true (by omega);have hwh:IntKind.i64.wrap ((h:Int)+1)=(h:Int)+1:=IntWalk.i64_in _ (by omega);go_wp2_with fail;clear hh;apply wrH 10 (zR g n) (fun _=>zR g n) (fun _ _=>True) (fun _=>trivial);simp only[tk];repeat apply lxG (fun _ _ _ _=>trivial)
   apply lexG_new (p:=zby) (by decide) (by decide) zby.stab
   ·rfl
   ·intro W hR hJ hΦ
    obtain⟨x,h1,_⟩:=hR.2 HZ.out (m) (by omega);refine⟨_,W,?_,zR.refl _,zR.refl _,x,rfl⟩;go_simp;first|done|rfl
   intro v4;simp only[pu];repeat apply lxG (fun _ _ _ _=>trivial)
   apply lexG_new (p:=zby) (by decide) (by decide) zby.stab
   ·rfl
   ·intro W hR hJ hΦ
    obtain⟨x,h1,_⟩:=hR.2 HZ.out (h) (by omega);refine⟨_,W,?_,zR.refl _,zR.refl _,x,rfl⟩;go_simp;first|done|rfl
   intro v8;simp only[pu];apply lexG_call (p:=zi) (by decide) (by decide) zi.stab
   ·rfl
   ·intro W
    go_simp;exact⟨rfl,rfl⟩
   ·intro W hR hJ hΦ
    obtain⟨x1,rfl⟩:=hΦ.2.1 rfl;obtain⟨x2,rfl⟩:=hΦ.1 rfl;refine(HCx.out W x1 x2 hR.1).mono ?_;rintro e w' ⟨⟨q,rfl⟩,ee⟩;exact⟨_,rfl,zR.of_ext ee,zR.of_ext ee,q,rfl⟩
   intro v9;simp only[pu];refine lexG_nil ?_;intro Wx hRx hap hΦ;obtain⟨q,rfl⟩:=hΦ.1 rfl;clear hΦ hap;simp only[dk];have HS2:=hqd (HS.out.trans (hRx.sw HZ.out));clear hRx;by_cases hq:q<0
   ·have hq1:decide (q<0)=true:=decide_eq_true hq
    go_wp2_with fail;go_roundw
    case rel=>exact⟨i,h,rfl,rfl,by omega,by omega,by omega,HS2.out⟩
    case measure=>simp[intOf];omega
   ·have hq1:decide (q<0)=false:=decide_eq_false hq
    go_wp2_with fail;go_roundw
    case rel=>exact⟨h+1,j,by go_num,rfl,by omega,by omega,by omega,HS2.out⟩
    case measure=>simp[intOf];omega
  ·have hd1:decide (i<j)=false:=decide_eq_false hlt
   go_wp2_with fail;go_loopw [17] (fun kv wx=>∃ k:Nat,kv = .int .i64 (k:Nat)∧i≤k∧k≤m∧Sw g n w wx) (fun kv _=>(intOf kv).toNat)
   case atStart=>exact⟨m,rfl,by omega,by omega,HS.out⟩
   case round =>
    obtain⟨k,rfl,hk1,hk2,hS⟩:=hrel;have HS:=hqd hS;have HZ:=hqd hS.2;clear hS;by_cases hki:i<k
    ·have hd2:decide (i<k)=true:=decide_eq_true hki
     have hwk:IntKind.i64.wrap ((k:Int)-1)=(k:Int)-1:=IntWalk.i64_in _ (by omega);have hn1:(1≤(k:Int)∧(k:Int)-1<(n:Int))=True:=eq_true (by omega);have hn2:((k:Int)-1).toNat=k-1:=by omega
     have hn3:(k<n)=True:=eq_true (by omega);go_wp2_with fail;apply wrG (zR g n) (fun _=>zR g n) (fun _ _=>True) (fun _=>trivial);repeat apply lxG (fun _ _ _ _=>trivial)
     apply lexG_new (p:=zby) (by decide) (by decide) zby.stab
     ·rfl
     ·intro W hR hJ hΦ
      obtain⟨x,h1,_⟩:=hR.2 HZ.out (k-1) (by omega);refine⟨_,W,?_,zR.refl _,zR.refl _,x,rfl⟩;go_simp;first|done|rfl
     intro v9;simp only[pu];repeat apply lxG (fun _ _ _ _=>trivial)
     apply lexG_new (p:=zby) (by decide) (by decide) zby.stab
     ·rfl
     ·intro W hR hJ hΦ
      obtain⟨x,h1,_⟩:=hR.2 HZ.out (k) (by omega);refine⟨_,W,?_,zR.refl _,zR.refl _,x,rfl⟩;go_simp;first|done|rfl
     intro v13;simp only[pu];repeat apply lxG (fun _ _ _ _=>trivial)
     apply lexG_eff (p:=fun _ _=>True) (by decide) (by decide) (fun _ _ _ _ _ _ _=>trivial)
     ·rfl
     ·intro W hR hJ hΦ
      obtain⟨y,h1,h2⟩:=hR.2 HZ.out (k) (by omega);obtain⟨x,hx⟩:=hΦ.2.1 rfl;refine⟨W.setCell ⟨_,k,none⟩ (.int .u8 (x.toNat:Nat)),?_,zR.set W _ _ (k) x,zR.set W _ _ (k) x,trivial⟩;simp only[hx];go_simp;first|done|rfl
     intro v15;simp only[Act.put];repeat apply lxG (fun _ _ _ _=>trivial)
     apply lexG_eff (p:=fun _ _=>True) (by decide) (by decide) (fun _ _ _ _ _ _ _=>trivial)
     ·rfl
     ·intro W hR hJ hΦ
      obtain⟨y,h1,h2⟩:=hR.2 HZ.out (k-1) (by omega);obtain⟨x,hx⟩:=hΦ.2.1 rfl;refine⟨W.setCell ⟨_,k-1,none⟩ (.int .u8 (x.toNat:Nat)),?_,zR.set W _ _ (k-1) x,zR.set W _ _ (k-1) x,trivial⟩;simp only[hx];go_simp;first|done|rfl
     intro v17;simp only[Act.put];refine lexG_nil ?_;intro Wx hRx hap hΦ;clear hΦ hap;have hS3:=HS.out.trans (hRx.sw HZ.out);clear hRx;go_wp2_with fail;go_roundw
     case rel=>exact⟨k-1,by congr 1;omega,by omega,by omega,hS3⟩
     case measure=>simp[intOf];omega
    ·have hd2:decide (i<k)=false:=decide_eq_false hki
     go_wp2_with fail;exact bodyPost_ret (results_none rfl _ _ _) rfl ⟨rfl,HS.out⟩
end
end Go.Proofs.YtffcefoadaogbaaGreat
