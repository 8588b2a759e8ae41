/- The walk of the law CodeEq. -/
import Derived.Test.YtehelhennbcboaaCodL3
import Derived.Test.YtehelhennbcboaaCodQ2
namespace Go.Proofs.Ytehelhennbcboaa
open Go.RowKit

/-- What Encode hands back, as bytes. -/
def encV (t : List UInt8) (l : List OpT) : List UInt8 := if formL t l then encB t l else []
theorem encV_zero (t : List UInt8) (l : List OpT) : (encV t l = []) ↔ formL t l = false := by
  unfold encV
  cases hf : formL t l with
  | false => simp
  | true =>
    have := encB_pos t l
    simp only [if_pos]
    constructor
    · intro e; rw [e] at this; simp at this
    · intro e; cases e
theorem encV_most (t : List UInt8) (l : List OpT) : (encV t l).length ≤ 2660 := by
  unfold encV
  split
  · rename_i h; exact encB_most h
  · simp
theorem encV_eq {t t' : List UInt8} {l l' : List OpT} (h : encV t l ≠ []) (h' : encV t' l' ≠ []) : (encV t l == encV t' l') = eqP t t' l l' := by
  have hf : formL t l = true := by cases hf : formL t l with | true => rfl | false => exact absurd ((encV_zero t l).2 hf) h
  have hf' : formL t' l' = true := by cases hf : formL t' l' with | true => rfl | false => exact absurd ((encV_zero t' l').2 hf) h'
  unfold encV eqP
  rw [if_pos hf, if_pos hf']
  by_cases e : encB t l = encB t' l'
  · obtain ⟨rfl, rfl, _⟩ := enc_inj hf hf' [] (by rw [List.append_nil]; exact e)
    simp
  · rw [beq_eq_false_iff_ne.2 e]
    symm
    rw [Bool.and_eq_false_iff]
    by_cases e1 : t = t'
    · right
      rw [decide_eq_false_iff_not]
      rintro rfl
      exact e (by rw [e1])
    · left; exact decide_eq_false e1
theorem encode_v (w : World) (t : List UInt8) (A : Option Addr) (n c : Nat) (l : List OpT) (ht : t.length ≤ 1099511627776) (hl : Ro w A n c l) :
    Calls Try.prog 20 #[pAgg t A n c] w fun r w' => ∃ v, r = .returned v ∧ Ext w w' ∧ SlB (encV t l) v w' := by
  cases hf : formL t l with
  | false =>
    refine (encode_no w t A n c l ht hl hf).mono ?_
    rintro r w' ⟨rfl, e⟩
    exact ⟨_, rfl, e, none, 0, 0, rfl, by rw [(encV_zero t l).2 hf]; exact Rb.nil_ _⟩
  | true =>
    refine (encode_yes w t A n c l hl hf).mono ?_
    rintro r w' ⟨g, m, d, rfl, ho, _, e⟩
    exact ⟨_, rfl, e, _, m, d, rfl, Rb.of ho.rd (by unfold encV; rw [if_pos hf])⟩

/-- Two programs' boxes are written: which by which operation. -/
def eRow (g0 g1 i : Nat) : Option Nat := if i = 4 then some g0 else if i = 5 then some g1 else none
def eJ (g0 g1 : Nat) (t : List UInt8) (A : Option Addr) (n c : Nat) (t' : List UInt8) (A' : Option Addr) (n' c' : Nat) (i : Nat) (w : World) : Prop :=
  (i = 0 ∨ i = 4 → PBox w g0 t A n c) ∧ (i = 2 ∨ i = 5 → PBox w g1 t' A' n' c')
theorem eJ_stab {l : List Oper} {g0 g1 : Nat} {t : List UInt8} {A : Option Addr} {n c : Nat} {t' : List UInt8} {A' : Option Addr} {n' c' : Nat} (h1 : bef l 4 0 = true) (h2 : bef l 5 2 = true) (hne : g0 ≠ g1) (j i : Nat) (_σ : Nat → Value) (hij : i ≠ j) (hb : bef l i j = false) (w w' : World) (hJ : eJ g0 g1 t A n c t' A' n' c' j w) (hr : w.grownBy w' (eRow g0 g1 i)) :
    eJ g0 g1 t A n c t' A' n' c' j w' := by
  refine ⟨fun h => (hJ.1 h).grown hr ?_, fun h => (hJ.2 h).grown hr ?_⟩
  · unfold eRow
    split
    · rename_i e
      subst e
      rcases h with rfl | rfl
      · rw [h1] at hb; cases hb
      · exact absurd rfl hij
    · split
      · exact fun e => hne (Option.some.inj e).symm
      · simp
  · unfold eRow
    split
    · exact fun e => hne (Option.some.inj e)
    · split
      · rename_i e
        subst e
        rcases h with rfl | rfl
        · rw [h2] at hb; cases hb
        · exact absurd rfl hij
      · simp
theorem eKeeps {l : List Oper} {F1 F2 i g : Nat} {g0 g1 : Nat} {t : List UInt8} {A : Option Addr} {n c : Nat} (h : ∀ j, j ≠ i → eRow g0 g1 j ≠ some g) : Keeps (fun i _ w w' => w.grownBy w' (eRow g0 g1 i)) F1 F2 l i (fun _ w => PBox w g t A n c) :=
  ⟨fun _ _ _ _ _ _ h => h, fun j hj _ _ _ _ _ hp hr => hp.grown hr (h j hj)⟩
/-- A program laid into its box. -/
def put2 (w : World) (g : Nat) (t : List UInt8) (A : Option Addr) (n c : Nat) : World := (w.setCell ⟨g, 0, none⟩ (.string (bs t))).setCell ⟨g, 1, none⟩ (.slice A n c)
theorem put2_grown (w : World) (g : Nat) (t : List UInt8) (A : Option Addr) (n c : Nat) : w.grownBy (put2 w g t A n c) (some g) := grown_trans (grownSet w _ rfl _) (grownSet _ _ rfl _)

set_option maxRecDepth 100000 in
set_option maxHeartbeats 4000000 in
theorem eq_walk (w : World) (t : List UInt8) (A : Option Addr) (n c : Nat) (l : List OpT) (ht : t.length ≤ maxLen) (hl : Ro w A n c l) (_hok : ∀ o ∈ l, okO o)
    (t' : List UInt8) (A' : Option Addr) (n' c' : Nat) (l' : List OpT) (ht' : t'.length ≤ maxLen) (hl' : Ro w A' n' c' l') (_hok' : ∀ o ∈ l', okO o) :
    Calls Try.prog 10 #[pAgg t A n c, pAgg t' A' n' c'] w (Yes w) := by
  have hcut := fun W => pcut_any W t A n c 20 ht hl.max
  have hcut' := fun W => pcut_any W t' A' n' c' 20 ht' hl'.max
  have hm := hl.min_ 20
  have hm' := hl'.min_ 20
  have htl : (t.take 40).length ≤ 1099511627776 := by rw [List.length_take]; omega
  have htl' : (t'.take 40).length ≤ 1099511627776 := by rw [List.length_take]; omega
  generalize hta : t.take 40 = ta at *
  generalize htb : t'.take 40 = tb at *
  generalize l.take 20 = la at *
  generalize l'.take 20 = lb at *
  generalize min n 20 = na at *
  generalize min n' 20 = nb at *
  clear hta htb hl hl' ht ht' _hok _hok'
  obtain ⟨r, hr⟩ : ∃ r, eqP ta tb la lb = r := ⟨_, rfl⟩
  have heq := fun W h h' => eq_is W ta A na c la tb A' nb c' lb h h' hr
  have hreq := fun W h h' => req_is W ta A na c la tb A' nb c' lb h h' hr
  have henc := fun W h => encode_v W ta A na c la htl h
  have henc' := fun W h => encode_v W tb A' nb c' lb htl' h
  unfold pAgg at hcut hcut' heq hreq henc henc' ⊢
  have Hcut := Lib.hid hcut
  have Hcut' := Lib.hid hcut'
  have Heq := Lib.hid heq
  have Hreq := Lib.hid hreq
  have Henc := Lib.hid henc
  have Henc' := Lib.hid henc'
  have Hr := Lib.hid hr
  clear hcut hcut' heq hreq henc henc' hr
  go_enter Try.func10, Try.ntmps10
  go_wp2_with fail
  refine (begun5_any _).mono ?_
  rintro e w1 ⟨rfl, e1⟩
  have pb0 := ((PBox.new w 24 t A n c rfl).ext (Ext.alloc _ (.cells #[.string (bs t'), .slice A' n' c'] 24))).ext e1
  have pb1 := (PBox.new (w.alloc (.cells #[.string (bs t), .slice A n c] 24)) 24 t' A' n' c' (g := w.heap.size + 1) (by simp)).ext e1
  have x1 : Ext w w1 := ((Ext.alloc w _).trans (Ext.alloc _ _)).trans e1
  clear e1
  obtain ⟨g0, hg0⟩ : ∃ g, g = w.heap.size := ⟨_, rfl⟩
  obtain ⟨g1, hg1⟩ : ∃ g, g = w.heap.size + 1 := ⟨_, rfl⟩
  rw [← hg0] at pb0
  rw [← hg1] at pb1
  have hne : g0 ≠ g1 := by omega
  have hlo0 : w.heap.size ≤ g0 := by omega
  have hlo1 : w.heap.size ≤ g1 := by omega
  go_wp2_with fail
  rw [← hg1, ← hg0]
  apply wp_region_lexS (F1 := 99) (F2 := 99) (R := Below w.heap.size) (Rs := fun i _ w w' => w.grownBy w' (eRow g0 g1 i)) (J := eJ g0 g1 t A n c t' A' n' c') (by kernel_rfl) (by kernel_rfl) (Below.refl _) (fun _ _ W => (Ext.refl W).grownBy _) (fun _ _ => Below.size) (eJ_stab (by kernel_rfl) (by kernel_rfl) hne) (fun _ _ _ => Below.trans) (Below.mono (Ext.drew _) x1.size) (fun i => ⟨fun _ => pb0.ext (Ext.drew _), fun _ => pb1.ext (Ext.drew _)⟩)
  intro σ
  apply lexS_ex (by decide) (by decide) (Below.refl _) (fun _ _ W => (Ext.refl W).grownBy _)
  · rfl
  · intro W hR hJ hΦ
    have hp := hJ.1 (.inl rfl)
    rw [hg0] at hp
    obtain ⟨p0, p1, p2, p3⟩ := hp
    go_simp
    first | done | with_reducible rfl
  simp only [Act.put, List.setIfInBounds_toArray, List.set_cons_zero, List.set_cons_succ]
  apply lexS_callx (by decide) (by decide)
  · rfl
  · intro W
    go_simp
    exact ⟨rfl, rfl⟩
  · intro W hR hJ hΦ
    exact (Hcut.out W).mono fun _ _ h => ⟨h.1, Below.mono h.2 (Nat.le_trans x1.size hR.size), h.2.grownBy _⟩
  simp only [Act.put, List.setIfInBounds_toArray, List.set_cons_zero, List.set_cons_succ]
  apply lexS_ex (by decide) (by decide) (Below.refl _) (fun _ _ W => (Ext.refl W).grownBy _)
  · rfl
  · intro W hR hJ hΦ
    have hp := hJ.2 (.inl rfl)
    rw [hg1] at hp
    obtain ⟨p0, p1, p2, p3⟩ := hp
    go_simp
    first | done | with_reducible rfl
  simp only [Act.put, List.setIfInBounds_toArray, List.set_cons_zero, List.set_cons_succ]
  apply lexS_callx (by decide) (by decide)
  · rfl
  · intro W
    go_simp
    exact ⟨rfl, rfl⟩
  · intro W hR hJ hΦ
    exact (Hcut'.out W).mono fun _ _ h => ⟨h.1, Below.mono h.2 (Nat.le_trans x1.size hR.size), h.2.grownBy _⟩
  simp only [Act.put, List.setIfInBounds_toArray, List.set_cons_zero, List.set_cons_succ]
  apply lexS_store (by decide) (by decide) (eKeeps (g := g0) (t := ta) (A := A) (n := na) (c := c) (fun j hj => by unfold eRow; exact (by rw [if_neg hj]; split; exact fun e => hne (Option.some.inj e).symm; simp)))
  · rfl
  · intro W hR hJ hΦ
    have hp := hJ.1 (.inr rfl)
    have hgr := put2_grown W g0 ta A na c
    refine ⟨put2 W g0 ta A na c, ?_, below_of_grown hgr (Nat.le_trans x1.size hR.size) (fun k e => by cases e; exact hlo0), ?_, (hp.setT ta).set_ A na c⟩
    · rw [hg0] at hp
      obtain ⟨p0, p1, p2, p3⟩ := hp
      unfold put2
      rw [hg0]
      go_simp
      first | done | rfl
    · show W.grownBy _ (eRow g0 g1 4)
      unfold eRow
      rw [if_pos rfl]
      exact hgr
  simp only [Act.put]
  apply lexS_store (by decide) (by decide) (eKeeps (g := g1) (t := tb) (A := A') (n := nb) (c := c') (fun j hj => by unfold eRow; exact (by split; exact fun e => hne (Option.some.inj e); simp)))
  · rfl
  · intro W hR hJ hΦ
    have hp := hJ.2 (.inr rfl)
    have hgr := put2_grown W g1 tb A' nb c'
    refine ⟨put2 W g1 tb A' nb c', ?_, below_of_grown hgr (Nat.le_trans x1.size hR.size) (fun k e => by cases e; exact hlo1), ?_, (hp.setT tb).set_ A' nb c'⟩
    · rw [hg1] at hp
      obtain ⟨p0, p1, p2, p3⟩ := hp
      unfold put2
      rw [hg1]
      go_simp
      first | done | rfl
    · show W.grownBy _ (eRow g0 g1 5)
      unfold eRow
      rw [if_neg (by decide), if_pos rfl]
      exact hgr
  simp only [Act.put]
  refine lexS_nil ?_
  intro W hR _ hΦ
  have pa := hΦ.2.1 rfl
  have pb := hΦ.1 rfl
  have x2 : Ext w W := Below.trans x1 hR
  clear hΦ hR pb0 pb1 x1 Hcut Hcut' hg0 hg1 hlo0 hlo1 hne
  go_wp2_with fail
  apply wp_region_lex (R := Ext) (by kernel_rfl) (by kernel_rfl) Ext.refl (fun _ _ _ => Ext.trans) (Ext.drew _)
  apply lex_ex Ext.refl
  · rfl
  · intro V hR hΦ
    obtain ⟨p0, p1, p2, p3⟩ := pa.ext hR
    obtain ⟨q0, q1, q2, q3⟩ := pb.ext hR
    go_simp
    first | done | with_reducible rfl
  simp only [Act.put, List.setIfInBounds_toArray, List.set_cons_zero, List.set_cons_succ]
  apply lex_ex Ext.refl
  · rfl
  · intro V hR hΦ
    obtain ⟨p0, p1, p2, p3⟩ := pa.ext hR
    obtain ⟨q0, q1, q2, q3⟩ := pb.ext hR
    go_simp
    first | done | with_reducible rfl
  simp only [Act.put, List.setIfInBounds_toArray, List.set_cons_zero, List.set_cons_succ]
  apply lex_callx (u := .bool r)
  · rfl
  · intro V
    go_simp
    exact ⟨rfl, rfl⟩
  · intro V hR hΦ
    exact Heq.out V (hm.ext (x2.trans hR)) (hm'.ext (x2.trans hR))
  simp only [Act.put, List.setIfInBounds_toArray, List.set_cons_zero, List.set_cons_succ]
  apply lex_ex Ext.refl
  · rfl
  · intro V hR hΦ
    obtain ⟨p0, p1, p2, p3⟩ := pa.ext hR
    obtain ⟨q0, q1, q2, q3⟩ := pb.ext hR
    go_simp
    first | done | with_reducible rfl
  simp only [Act.put, List.setIfInBounds_toArray, List.set_cons_zero, List.set_cons_succ]
  apply lex_ex Ext.refl
  · rfl
  · intro V hR hΦ
    obtain ⟨p0, p1, p2, p3⟩ := pa.ext hR
    obtain ⟨q0, q1, q2, q3⟩ := pb.ext hR
    go_simp
    first | done | with_reducible rfl
  simp only [Act.put, List.setIfInBounds_toArray, List.set_cons_zero, List.set_cons_succ]
  apply lex_callx (u := .bool r)
  · rfl
  · intro V
    go_simp
    exact ⟨rfl, rfl⟩
  · intro V hR hΦ
    exact Hreq.out V (hm.ext (x2.trans hR)) (hm'.ext (x2.trans hR))
  simp only [Act.put, List.setIfInBounds_toArray, List.set_cons_zero, List.set_cons_succ]
  apply lex_ex Ext.refl
  · rfl
  · intro V hR hΦ
    obtain ⟨p0, p1, p2, p3⟩ := pa.ext hR
    obtain ⟨q0, q1, q2, q3⟩ := pb.ext hR
    go_simp
    first | done | with_reducible rfl
  simp only [Act.put, List.setIfInBounds_toArray, List.set_cons_zero, List.set_cons_succ]
  refine lex_nil ?_
  intro V hR _
  have pa := pa.ext hR
  have pb := pb.ext hR
  have x2 := x2.trans hR
  clear hR
  go_wp2_with fail
  apply wp_region_lex (R := Ext) (by kernel_rfl) (by kernel_rfl) Ext.refl (fun _ _ _ => Ext.trans) (Ext.drew _)
  apply lex_ex Ext.refl
  · rfl
  · intro V hR hΦ
    obtain ⟨p0, p1, p2, p3⟩ := pa.ext hR
    obtain ⟨q0, q1, q2, q3⟩ := pb.ext hR
    go_simp
    first | done | with_reducible rfl
  simp only [Act.put, List.setIfInBounds_toArray, List.set_cons_zero, List.set_cons_succ]
  apply lex_call (p := SlB (encV ta la)) (SlB.stab _)
  · rfl
  · intro V
    go_simp
    exact ⟨rfl, rfl⟩
  · intro V hR hΦ
    exact Henc.out V (hm.ext (x2.trans hR))
  intro v
  simp only [Act.put, List.setIfInBounds_toArray, List.set_cons_zero, List.set_cons_succ]
  apply lex_ex Ext.refl
  · rfl
  · intro V hR hΦ
    obtain ⟨p0, p1, p2, p3⟩ := pa.ext hR
    obtain ⟨q0, q1, q2, q3⟩ := pb.ext hR
    go_simp
    first | done | with_reducible rfl
  simp only [Act.put, List.setIfInBounds_toArray, List.set_cons_zero, List.set_cons_succ]
  apply lex_call (p := SlB (encV tb lb)) (SlB.stab _)
  · rfl
  · intro V
    go_simp
    exact ⟨rfl, rfl⟩
  · intro V hR hΦ
    exact Henc'.out V (hm'.ext (x2.trans hR))
  intro v2
  simp only [Act.put, List.setIfInBounds_toArray, List.set_cons_zero, List.set_cons_succ]
  apply lex_rel (p := SlB (encV ta la)) Ext.refl (SlB.stab _)
  · rfl
  · intro V hR hΦ
    refine ⟨_, ?_, hΦ.2.1 rfl⟩
    go_simp
    first | done | with_reducible rfl
  intro u6
  simp only [Act.put, List.setIfInBounds_toArray, List.set_cons_zero, List.set_cons_succ]
  apply lex_rel (p := SlB (encV tb lb)) Ext.refl (SlB.stab _)
  · rfl
  · intro V hR hΦ
    refine ⟨_, ?_, hΦ.2.1 rfl⟩
    go_simp
    first | done | with_reducible rfl
  intro u7
  simp only [Act.put, List.setIfInBounds_toArray, List.set_cons_zero, List.set_cons_succ]
  refine lex_nil ?_
  intro W3 hR hΦ
  obtain ⟨Y, Ym, Yd, rfl, hY⟩ := hΦ.2.1 rfl
  obtain ⟨Z, Zm, Zd, rfl, hZ⟩ := hΦ.1 rfl
  obtain ⟨_, _, _, rfl, _⟩ := hΦ.2.2.1 rfl
  obtain ⟨_, _, _, rfl, _⟩ := hΦ.2.2.2.1 rfl
  have pa := pa.ext hR
  have pb := pb.ext hR
  have x2 := x2.trans hR
  clear hR hΦ
  have hYn := hY.len
  have hZn := hZ.len
  subst hYn hZn
  have h1 := encV_most ta la
  have h2 := encV_most tb lb
  have hv := encV_eq (t := ta) (l := la) (t' := tb) (l' := lb)
  generalize encV ta la = ya at *
  generalize encV tb lb = yb at *
  clear h1 h2 Henc Henc'
  by_cases c1 : ya = []
  · have b1 : ((ya.length : Int) == 0) = true := by rw [c1]; rfl
    clear c1 hv
    go_wp2_with fail
    apply wp_region_lex (R := Ext) (by kernel_rfl) (by kernel_rfl) Ext.refl (fun _ _ _ => Ext.trans) (Ext.drew _)
    repeat
      first
        | (apply lex_ex Ext.refl
           · rfl
           · intro V hR hΦ
             have hcY := run_string_of (P := Try.prog) V 36 9 5 Try.underlying36 Try.underlying5 Try.underlying9 _ _ _ _ (hY.ext hR)
             have hcZ := run_string_of (P := Try.prog) V 36 9 5 Try.underlying36 Try.underlying5 Try.underlying9 _ _ _ _ (hZ.ext hR)
             obtain ⟨p0, p1, p2, p3⟩ := pa.ext hR
             obtain ⟨q0, q1, q2, q3⟩ := pb.ext hR
             go_simp
             first | done | with_reducible rfl
           simp only [Act.put, List.setIfInBounds_toArray, List.set_cons_zero, List.set_cons_succ])
        | (apply lex_skip
           · rfl
           simp only [Act.put, List.setIfInBounds_toArray, List.set_cons_zero, List.set_cons_succ])
    refine lex_nil ?_
    intro V hR _
    go_wp2_with fail
    go_ret
    exact ⟨rfl, x2.trans hR⟩
  have b1 : ((ya.length : Int) == 0) = false := by rw [beq_eq_false_iff_ne]; intro e; exact c1 (List.length_eq_zero_iff.1 (by omega))
  by_cases c2 : yb = []
  · have b2 : ((yb.length : Int) == 0) = true := by rw [c2]; rfl
    clear c1 c2 hv
    go_wp2_with fail
    apply wp_region_lex (R := Ext) (by kernel_rfl) (by kernel_rfl) Ext.refl (fun _ _ _ => Ext.trans) (Ext.drew _)
    repeat
      first
        | (apply lex_ex Ext.refl
           · rfl
           · intro V hR hΦ
             have hcY := run_string_of (P := Try.prog) V 36 9 5 Try.underlying36 Try.underlying5 Try.underlying9 _ _ _ _ (hY.ext hR)
             have hcZ := run_string_of (P := Try.prog) V 36 9 5 Try.underlying36 Try.underlying5 Try.underlying9 _ _ _ _ (hZ.ext hR)
             obtain ⟨p0, p1, p2, p3⟩ := pa.ext hR
             obtain ⟨q0, q1, q2, q3⟩ := pb.ext hR
             go_simp
             first | done | with_reducible rfl
           simp only [Act.put, List.setIfInBounds_toArray, List.set_cons_zero, List.set_cons_succ])
        | (apply lex_skip
           · rfl
           simp only [Act.put, List.setIfInBounds_toArray, List.set_cons_zero, List.set_cons_succ])
    refine lex_nil ?_
    intro V hR _
    go_wp2_with fail
    go_ret
    exact ⟨rfl, x2.trans hR⟩
  · have b2 : ((yb.length : Int) == 0) = false := by rw [beq_eq_false_iff_ne]; intro e; exact c2 (List.length_eq_zero_iff.1 (by omega))
    have hs := hv c1 c2
    rw [Hr.out] at hs
    clear c1 c2 hv
    go_wp2_with fail
    apply wp_region_lex (R := Ext) (by kernel_rfl) (by kernel_rfl) Ext.refl (fun _ _ _ => Ext.trans) (Ext.drew _)
    repeat
      first
        | (apply lex_ex Ext.refl
           · rfl
           · intro V hR hΦ
             have hcY := run_string_of (P := Try.prog) V 36 9 5 Try.underlying36 Try.underlying5 Try.underlying9 _ _ _ _ (hY.ext hR)
             have hcZ := run_string_of (P := Try.prog) V 36 9 5 Try.underlying36 Try.underlying5 Try.underlying9 _ _ _ _ (hZ.ext hR)
             obtain ⟨p0, p1, p2, p3⟩ := pa.ext hR
             obtain ⟨q0, q1, q2, q3⟩ := pb.ext hR
             go_simp
             first | done | with_reducible rfl
           simp only [Act.put, List.setIfInBounds_toArray, List.set_cons_zero, List.set_cons_succ])
        | (apply lex_skip
           · rfl
           simp only [Act.put, List.setIfInBounds_toArray, List.set_cons_zero, List.set_cons_succ])
    apply lex_callx (u := .bool r)
    · rfl
    · intro V
      go_simp
      exact ⟨rfl, rfl⟩
    · intro V hR hΦ
      exact Heq.out V (hm.ext (x2.trans hR)) (hm'.ext (x2.trans hR))
    simp only [Act.put, List.setIfInBounds_toArray, List.set_cons_zero, List.set_cons_succ]
    repeat
      first
        | (apply lex_ex Ext.refl
           · rfl
           · intro V hR hΦ
             have hcY := run_string_of (P := Try.prog) V 36 9 5 Try.underlying36 Try.underlying5 Try.underlying9 _ _ _ _ (hY.ext hR)
             have hcZ := run_string_of (P := Try.prog) V 36 9 5 Try.underlying36 Try.underlying5 Try.underlying9 _ _ _ _ (hZ.ext hR)
             obtain ⟨p0, p1, p2, p3⟩ := pa.ext hR
             obtain ⟨q0, q1, q2, q3⟩ := pb.ext hR
             go_simp
             first | done | with_reducible rfl
           simp only [Act.put, List.setIfInBounds_toArray, List.set_cons_zero, List.set_cons_succ])
        | (apply lex_skip
           · rfl
           simp only [Act.put, List.setIfInBounds_toArray, List.set_cons_zero, List.set_cons_succ])
    refine lex_nil ?_
    intro V hR _
    go_wp2_with fail
    go_ret
    exact ⟨rfl, x2.trans hR⟩
end Go.Proofs.Ytehelhennbcboaa
