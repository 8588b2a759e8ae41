/- The walk of code.Encode. -/
import Derived.Test.YtbmgiidecidojaaDoorCodF
import Derived.Test.YtbmgiidecidojaaDoorNumX
import Derived.Test.YtbmgiidecidojaaDoorReg
namespace Go.Proofs.YtbmgiidecidojaaDoor
open Go.RowKit

theorem rsF_span : ∀ (f : Nat) (l : List UInt8), l.length ≤ f → l.length ≤ 4 * (rsF f l).length
  | 0, l, h => by rw [List.eq_nil_of_length_eq_zero (Nat.le_zero.mp h)]; simp
  | f + 1, l, h => by
    unfold rsF
    split
    · rename_i e; rw [e]; simp
    · have h1 := dec_pos l
      have h2 := rsF_span f (l.drop (dec l).2) (by rw [List.length_drop]; omega)
      rw [List.length_drop] at h2
      rw [List.length_cons]; omega
theorem title_len {t : List UInt8} (h : titleL t = true) : t.length ≤ 80 := by
  unfold titleL at h
  simp only [Bool.and_eq_true, decide_eq_true_eq] at h
  have := rsF_span t.length t (Nat.le_refl _)
  have h2 := h.1.2
  unfold rs at h2
  omega

/-- A value that is a slice of these bytes, of the call's own from base on. -/
def SlO (base : Nat) (l : List UInt8) (v : Value) (w : World) : Prop := ∃ B m d, v = .slice B m d ∧ Own w base 5 1 B m d (bcs l)
theorem SlO.stab (base : Nat) (l : List UInt8) : ∀ v w w', SlO base l v w → Ext w w' → SlO base l v w' := fun _ _ _ ⟨B, m, d, hv, h⟩ he => ⟨B, m, d, hv, h.ext he⟩

/-- What Encode leaves. -/
def EncOf (w : World) (t : List UInt8) (l : List OpT) (r : Ending) (w' : World) : Prop :=
  (formL t l = false ∧ r = .returned (.slice none 0 0) ∧ Ext w w') ∨
  (formL t l = true ∧ ∃ g m d, r = .returned (.slice (some ⟨g, 0, none⟩) m d) ∧ Own w' w.heap.size 5 1 (some ⟨g, 0, none⟩) m d (bcs (encB t l)) ∧ Ext w w')
/-- The bytes behind k operations. -/
def encP (t : List UInt8) (l : List OpT) (k : Nat) : List UInt8 := bytesL t ++ putL l.length ++ putAll ((l.take k).flatMap nums)
theorem encP_succ (t : List UInt8) (l : List OpT) (k : Nat) (h : k < l.length) : encP t l (k + 1) = encP t l k ++ putAll (nums l[k]) := by
  unfold encP putAll
  rw [List.take_succ_eq_append_getElem h, List.flatMap_append, List.flatMap_append, ← List.append_assoc]
  simp
theorem encP_len {t : List UInt8} {l : List OpT} (h : t.length ≤ 80) (h2 : l.length ≤ 64) (k : Nat) : (encP t l k).length ≤ 2660 := by
  have h3 := putL_le t.length
  have h4 := putL_le l.length
  have h5 := putAll_le ((l.take k).flatMap nums)
  have h6 : ((l.take k).flatMap nums).length = 4 * (l.take k).length := by
    generalize l.take k = m
    clear h2 h4 h5
    induction m with
    | nil => rfl
    | cons o m ih => rw [List.flatMap_cons, List.length_append, ih]; simp [nums]; omega
  have h7 : (l.take k).length ≤ l.length := by rw [List.length_take]; omega
  unfold encP bytesL
  simp only [List.length_append]
  omega
def enRel (t : List UInt8) (l : List OpT) (w1 : World) (b i : Value) (w' : World) : Prop :=
  ∃ (k : Nat) (C : Option Addr) (m d : Nat), i = .int .i64 (k : Nat) ∧ k ≤ l.length ∧ b = .slice C m d ∧ l.all smallO = (l.drop k).all smallO ∧ Own w' w1.heap.size 5 1 C m d (bcs (encP t l k)) ∧ Ext w1 w'

def inRel (pre : List UInt8) (ns : List Int) (w1 : World) (b i : Value) (w' : World) : Prop :=
  ∃ (j : Nat) (C : Option Addr) (m d : Nat), i = .int .i64 (j : Nat) ∧ j ≤ ns.length ∧ b = .slice C m d ∧ (ns.take j).all smallI = true ∧ Own w' w1.heap.size 5 1 C m d (bcs (pre ++ putAll (ns.take j))) ∧ Ext w1 w'

set_option maxRecDepth 100000 in
set_option maxHeartbeats 4000000 in
theorem encode_any (w : World) (t : List UInt8) (A : Option Addr) (n c : Nat) (l : List OpT) (ht : t.length ≤ 1099511627776) (hl : Ro w A n c l) :
    Calls Tryd.prog 27 #[pAgg t A n c] w (EncOf w t l) := by
  unfold pAgg
  have hn := hl.len
  have hmx := hl.max
  unfold maxLen at hmx
  subst hn
  go_enter Tryd.func27, Tryd.ntmps27
  go_wp2_with fail
  refine (title_any _ t ht).mono ?_
  rintro e w1 ⟨rfl, e1⟩
  have e2 := (Ext.alloc w _).trans e1
  have c0 := e1.cell (show (w.alloc (.cells #[.string (bs t), .slice A l.length c] 26)).cell? ⟨w.heap.size, 0, none⟩ = some (.string (bs t)) by go_simp)
  have c1 := e1.cell (show (w.alloc (.cells #[.string (bs t), .slice A l.length c] 26)).cell? ⟨w.heap.size, 1, none⟩ = some (.slice A l.length c) by go_simp)
  by_cases hlt : titleL t = false ∨ l.length < 1 ∨ 64 < l.length
  · have Hf : RowKit.Hid (formL t l = false) := Lib.hid (by
      unfold formL
      rcases hlt with h | h | h
      · rw [h]; rfl
      · rw [decide_eq_false (show ¬ 1 ≤ l.length by omega)]; simp
      · rw [decide_eq_false (show ¬ l.length ≤ 64 by omega)]; simp)
    cases htt : titleL t
    · clear hlt
      go_wp2_with fail
      go_ret
      exact .inl ⟨Hf.out, rfl, e2⟩
    · rw [htt] at hlt
      by_cases h1 : l.length < 1
      · go_wp2_with fail
        go_ret
        exact .inl ⟨Hf.out, rfl, e2⟩
      · have h2 : 64 < l.length := by rcases hlt with h | h | h <;> first | cases h | omega
        clear hlt
        go_wp2_with fail
        go_ret
        exact .inl ⟨Hf.out, rfl, e2⟩
  have htt : titleL t = true := by cases h : titleL t <;> simp [h] at hlt ⊢
  have h1 : 1 ≤ l.length := by omega
  have h2 : l.length ≤ 64 := by omega
  have Hf : RowKit.Hid (formL t l = l.all smallO) := Lib.hid (by unfold formL; rw [htt, decide_eq_true h1, decide_eq_true h2]; rfl)
  have Htt := Lib.hid htt
  have ht80 := title_len htt
  rw [htt]
  clear hlt htt
  go_wp2_with fail
  apply wp_region_lex_tails 6 (R := Ext) (by decide) (by kernel_rfl) (by kernel_rfl) (by kernel_rfl) Ext.refl (fun _ _ _ => Ext.trans) (Ext.drew _)
  simp only [List.take_succ_cons, List.take_zero]
  repeat
    apply lex_ex Ext.refl
    · rfl
    · intro W hR hΦ
      have d0 := hR.cell c0
      have d1 := hR.cell c1
      go_simp
      first | done | with_reducible rfl
    simp only [Act.put, List.setIfInBounds_toArray, List.set_cons_zero, List.set_cons_succ]
  apply lex_call (p := SlO w1.heap.size (bytesL t)) (SlO.stab _ _)
  · rfl
  · intro W
    go_simp
    exact ⟨rfl, rfl⟩
  · intro W hR hΦ
    refine (bytes_any w1.heap.size none 0 0 [] t W (by omega) (Own.nil_ _ _ _ _) (by decide) hR.size).mono ?_
    rintro e W' ⟨B, m, d, rfl, ho, hg, _⟩
    exact ⟨_, rfl, ext_of_grown hg, B, m, d, rfl, ho⟩
  intro v
  simp only [Act.put, List.setIfInBounds_toArray, List.set_cons_zero, List.set_cons_succ]
  repeat
    apply lex_ex Ext.refl
    · rfl
    · intro W hR hΦ
      have d0 := hR.cell c0
      have d1 := hR.cell c1
      go_simp
      first | done | with_reducible rfl
    simp only [Act.put, List.setIfInBounds_toArray, List.set_cons_zero, List.set_cons_succ]
  refine lex_nil ?_
  intro W hR hΦ
  obtain ⟨B, m, d, rfl, ho⟩ := hΦ.1 rfl
  simp only [List.drop_succ_cons, List.drop_zero]
  clear hΦ
  have hbm : m = (bytesL t).length := by have := ho.len; rw [bcs_length] at this; omega
  have hb90 : (bytesL t).length ≤ 90 := by have := putL_le t.length; unfold bytesL; rw [List.length_append]; omega
  have Hbm := Lib.hid hbm
  clear hbm
  go_wp2_with fail
  refine (put_any w1.heap.size B m d (bytesL t) l.length W (by omega) (by omega) ho (by have := Hbm.out; omega) hR.size).mono ?_
  rintro e w2 ⟨B2, m2, d2, rfl, ho2, hg2, hw2⟩
  have e3 : Ext w1 w2 := Ext.own hR hg2 ho.blk_ge
  have c02 := e3.cell c0
  have c12 := e3.cell c1
  clear ho hg2 hw2 Hbm hR
  go_wp2_with fail
  go_loopw [3, 34] (fun b i w' => enRel t l w1 b i w') (fun _ i _ => l.length - (intOf i).toNat)
  case atStart => exact ⟨0, B2, m2, d2, rfl, Nat.zero_le _, rfl, rfl, by simpa [encP, putAll] using ho2, e3⟩
  case round =>
    obtain ⟨k, C, cm, cd, rfl, hk, rfl, ha, hoc, he⟩ := hrel
    obtain ⟨wo, rfl⟩ : ∃ wo : World, wo = wr := ⟨_, rfl⟩
    have Ha := Lib.hid ha
    clear ha
    by_cases hlt : k < l.length
    · obtain ⟨b, o, rfl, g0, g1, g2, g3⟩ := (hl.ext (e2.trans he)).at_ hlt
      have Hs := Lib.hid (show (l.drop k).all smallO = (smallO l[k] && (l.drop (k + 1)).all smallO) by rw [List.drop_eq_getElem_cons hlt, List.all_cons])
      have Hp := Lib.hid (encP_succ t l k hlt)
      generalize l[k] = op at *
      obtain ⟨x, a, b', c'⟩ := op
      dsimp only at g0 g1 g2 g3
      have i0 : ∀ W, (Instr.index 68 (.agg #[.int .i64 x, .int .i64 a, .int .i64 b', .int .i64 c']) (.int .i64 0)).run Tryd.prog W = .ok (.int .i64 x) W := fun _ => by kernel_rfl
      have i1 : ∀ W, (Instr.index 68 (.agg #[.int .i64 x, .int .i64 a, .int .i64 b', .int .i64 c']) (.int .i64 1)).run Tryd.prog W = .ok (.int .i64 a) W := fun _ => by kernel_rfl
      have i2 : ∀ W, (Instr.index 68 (.agg #[.int .i64 x, .int .i64 a, .int .i64 b', .int .i64 c']) (.int .i64 2)).run Tryd.prog W = .ok (.int .i64 b') W := fun _ => by kernel_rfl
      have i3 : ∀ W, (Instr.index 68 (.agg #[.int .i64 x, .int .i64 a, .int .i64 b', .int .i64 c']) (.int .i64 3)).run Tryd.prog W = .ok (.int .i64 c') W := fun _ => by kernel_rfl
      have hpl := encP_len ht80 h2 k
      generalize hpre : encP t l k = pre at *
      have Hpre := Lib.hid hpre
      clear hpre
      go_wp2_with fail
      go_loopw [3, 47] (fun b i w' => inRel pre [x, a, b', c'] w1 b i w') (fun _ i _ => 4 - (intOf i).toNat)
      case atStart => exact ⟨0, C, cm, cd, rfl, by simp, rfl, rfl, by simpa [putAll] using hoc.ext (Ext.alloc _ _), he.trans (Ext.alloc _ _)⟩
      case round =>
        obtain ⟨j, D, dm, dd, rfl, hj, rfl, hsm, hod, hed⟩ := hrel
        have Hsm := Lib.hid hsm
        clear hsm
        have hdm : dm ≤ 2700 := by
          have := hod.len
          rw [bcs_length, List.length_append] at this
          have h5 := putAll_le ([x, a, b', c'].take j)
          have h6 : ([x, a, b', c'].take j).length ≤ 4 := by rw [List.length_take]; exact Nat.min_le_right _ _
          omega
        have hcase : j = 0 ∨ j = 1 ∨ j = 2 ∨ j = 3 ∨ j = 4 := by simp at hj; omega
        rcases hcase with rfl | rfl | rfl | rfl | rfl
        · by_cases k1 : x < -2147483648
          · have Hb : RowKit.Hid (smallO (x, a, b', c') = false) := Lib.hid (by simp [smallO, smallI]; omega)
            go_wp2_with fail
            go_ret
            exact .inl ⟨by rw [Hf.out, Ha.out, Hs.out, Hb.out]; rfl, rfl, e2.trans hed⟩
          by_cases k2 : 2147483647 < x
          · have Hb : RowKit.Hid (smallO (x, a, b', c') = false) := Lib.hid (by simp [smallO, smallI]; omega)
            go_wp2_with fail
            go_ret
            exact .inl ⟨by rw [Hf.out, Ha.out, Hs.out, Hb.out]; rfl, rfl, e2.trans hed⟩
          · go_wp2_with fail
            refine (put_any w1.heap.size D dm dd _ x _ (by omega) (by omega) hod (by omega) hed.size).mono ?_
            rintro e w3 ⟨D2, dm2, dd2, rfl, hod2, hgd, hwd⟩
            go_wp2_with fail
            go_roundw
            case rel => exact ⟨1, D2, dm2, dd2, rfl, by simp, rfl, by have := Hsm.out; simp [smallI] at this ⊢; omega, by simpa [putAll] using hod2, Ext.own hed hgd hod.blk_ge⟩
            case measure => simp [intOf]
        · by_cases k1 : a < -2147483648
          · have Hb : RowKit.Hid (smallO (x, a, b', c') = false) := Lib.hid (by simp [smallO, smallI]; omega)
            go_wp2_with fail
            go_ret
            exact .inl ⟨by rw [Hf.out, Ha.out, Hs.out, Hb.out]; rfl, rfl, e2.trans hed⟩
          by_cases k2 : 2147483647 < a
          · have Hb : RowKit.Hid (smallO (x, a, b', c') = false) := Lib.hid (by simp [smallO, smallI]; omega)
            go_wp2_with fail
            go_ret
            exact .inl ⟨by rw [Hf.out, Ha.out, Hs.out, Hb.out]; rfl, rfl, e2.trans hed⟩
          · go_wp2_with fail
            refine (put_any w1.heap.size D dm dd _ a _ (by omega) (by omega) hod (by omega) hed.size).mono ?_
            rintro e w3 ⟨D2, dm2, dd2, rfl, hod2, hgd, hwd⟩
            go_wp2_with fail
            go_roundw
            case rel => exact ⟨2, D2, dm2, dd2, rfl, by simp, rfl, by have := Hsm.out; simp [smallI] at this ⊢; omega, by simpa [putAll] using hod2, Ext.own hed hgd hod.blk_ge⟩
            case measure => simp [intOf]
        · by_cases k1 : b' < -2147483648
          · have Hb : RowKit.Hid (smallO (x, a, b', c') = false) := Lib.hid (by simp [smallO, smallI]; omega)
            go_wp2_with fail
            go_ret
            exact .inl ⟨by rw [Hf.out, Ha.out, Hs.out, Hb.out]; rfl, rfl, e2.trans hed⟩
          by_cases k2 : 2147483647 < b'
          · have Hb : RowKit.Hid (smallO (x, a, b', c') = false) := Lib.hid (by simp [smallO, smallI]; omega)
            go_wp2_with fail
            go_ret
            exact .inl ⟨by rw [Hf.out, Ha.out, Hs.out, Hb.out]; rfl, rfl, e2.trans hed⟩
          · go_wp2_with fail
            refine (put_any w1.heap.size D dm dd _ b' _ (by omega) (by omega) hod (by omega) hed.size).mono ?_
            rintro e w3 ⟨D2, dm2, dd2, rfl, hod2, hgd, hwd⟩
            go_wp2_with fail
            go_roundw
            case rel => exact ⟨3, D2, dm2, dd2, rfl, by simp, rfl, by have := Hsm.out; simp [smallI] at this ⊢; omega, by simpa [putAll] using hod2, Ext.own hed hgd hod.blk_ge⟩
            case measure => simp [intOf]
        · by_cases k1 : c' < -2147483648
          · have Hb : RowKit.Hid (smallO (x, a, b', c') = false) := Lib.hid (by simp [smallO, smallI]; omega)
            go_wp2_with fail
            go_ret
            exact .inl ⟨by rw [Hf.out, Ha.out, Hs.out, Hb.out]; rfl, rfl, e2.trans hed⟩
          by_cases k2 : 2147483647 < c'
          · have Hb : RowKit.Hid (smallO (x, a, b', c') = false) := Lib.hid (by simp [smallO, smallI]; omega)
            go_wp2_with fail
            go_ret
            exact .inl ⟨by rw [Hf.out, Ha.out, Hs.out, Hb.out]; rfl, rfl, e2.trans hed⟩
          · go_wp2_with fail
            refine (put_any w1.heap.size D dm dd _ c' _ (by omega) (by omega) hod (by omega) hed.size).mono ?_
            rintro e w3 ⟨D2, dm2, dd2, rfl, hod2, hgd, hwd⟩
            go_wp2_with fail
            go_roundw
            case rel => exact ⟨4, D2, dm2, dd2, rfl, by simp, rfl, by have := Hsm.out; simp [smallI] at this ⊢; omega, by simpa [putAll] using hod2, Ext.own hed hgd hod.blk_ge⟩
            case measure => simp [intOf]
        · have Hso : RowKit.Hid (smallO (x, a, b', c') = true) := Lib.hid (by have := Hsm.out; simpa [smallO, and_assoc] using this)
          go_wp2_with fail
          go_roundw
          case rel => exact ⟨k + 1, D, dm, dd, by go_num, hlt, rfl, by rw [Ha.out, Hs.out, Hso.out, Bool.true_and], by rw [Hp.out]; simpa [nums] using hod, hed⟩
          case measure => simp [intOf]; omega
    · obtain rfl : k = l.length := by omega
      have hne : encP t l l.length = encB t l := by unfold encP encB; rw [List.take_length]
      have Hall := Lib.hid (show l.all smallO = true by rw [Ha.out, List.drop_length]; rfl)
      obtain ⟨g, hg⟩ : ∃ g, C = some ⟨g, 0, none⟩ := by
        rcases hoc.2 with ⟨hv, _⟩ | ⟨g, cap, cur, hv, _⟩
        · injection hv with _ h5 _
          have := hoc.len
          rw [bcs_length] at this
          have h6 := putL_pos t.length
          have h7 : 0 < (encP t l l.length).length := by unfold encP bytesL; simp only [List.length_append]; omega
          omega
        · injection hv with h5
          exact ⟨g, h5⟩
      subst hg
      rw [hne] at hoc
      clear hne
      go_wp2_with fail
      go_ret
      exact .inr ⟨by rw [Hf.out]; exact Hall.out, g, cm, cd, rfl, hoc.mono e2.size, e2.trans he⟩
end Go.Proofs.YtbmgiidecidojaaDoor
