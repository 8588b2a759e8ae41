/- The walks of check.Fault, check.May and the reference's Fault. -/
import Derived.Test.YtihegdjdgklbgaaCodE
import Derived.Test.YtihegdjdgklbgaaChkM
import Derived.Test.YtihegdjdgklbgaaChkR
namespace Go.Proofs.Ytihegdjdgklbgaa
set_option maxRecDepth 100000
open Go.RowKit

theorem badGo_cons (m k : Nat) (o : OpT) (l : List OpT) : badGo m k (o :: l) = if mayL o m then badGo m (k + 1) l else (k : Int) := rfl
theorem badGo_at {l : List OpT} {k : Nat} (m : Nat) (h : k < l.length) : badGo m k (l.drop k) = if mayL l[k] m then badGo m (k + 1) (l.drop (k + 1)) else (k : Int) := by
  rw [List.drop_eq_getElem_cons h, badGo_cons]
theorem form_small {t : List UInt8} {l : List OpT} (h : formL t l = true) : ∀ o ∈ l, okO o := by
  unfold formL at h
  simp only [Bool.and_eq_true, List.all_eq_true] at h
  intro o ho
  have := h.2 o ho
  simp only [smallO, smallI, Bool.and_eq_true, decide_eq_true_eq] at this
  unfold okO okI
  omega
theorem form_len {t : List UInt8} {l : List OpT} (h : formL t l = true) : 1 ≤ l.length ∧ l.length ≤ 64 ∧ t.length ≤ 80 := by
  unfold formL at h
  simp only [Bool.and_eq_true, decide_eq_true_eq] at h
  exact ⟨h.1.1.2, h.1.2, title_len h.1.1.1⟩
def ftRel (l : List OpT) (w : World) (r : Int) (i : Value) (w' : World) : Prop := ∃ k : Nat, i = .int .i64 (k : Nat) ∧ k ≤ l.length ∧ r = badGo l.length k (l.drop k) ∧ Ext w w'

set_option maxRecDepth 100000 in
set_option maxHeartbeats 4000000 in
theorem fault_any (w : World) (t : List UInt8) (A : Option Addr) (n c : Nat) (l : List OpT) (ht : t.length ≤ 1099511627776) (hl : Ro w A n c l) :
    Calls Try.prog 54 #[pAgg t A n c] w fun e w' => e = .returned (.int .i64 (faultL t l)) ∧ Ext w w' := by
  have hn := hl.len
  have hmx := hl.max
  unfold maxLen at hmx
  subst hn
  have hl1 := hl.ext (Ext.alloc w (.cells #[.string (bs t), .slice A l.length c] 24))
  have henc := encode_any _ t A l.length c l ht hl1
  unfold pAgg at *
  have Henc := Lib.hid henc
  have hnil := fun (W : World) (a : Option Addr) (n c : Nat) => Lib.run_eql_slice_nil (P := Try.prog) W 43 5 a n c 0 0 Try.underlying43
  clear henc
  go_enter Try.func54, Try.ntmps54
  go_wp2_with fail
  refine Calls.mono Henc.out ?_
  rintro e w1 (⟨hf, rfl, e1⟩ | ⟨hf, g, m, d, rfl, ho, e1⟩)
  · have Hf := Lib.hid hf
    clear hf
    go_wp2_with fail
    go_ret
    exact ⟨by unfold faultL; rw [Hf.out]; rfl, (Ext.alloc w _).trans e1⟩
  have e2 := (Ext.alloc w _).trans e1
  have c1 := e1.cell (show (w.alloc (.cells #[.string (bs t), .slice A l.length c] 24)).cell? ⟨w.heap.size, 1, none⟩ = some (.slice A l.length c) by go_simp)
  have hfl := form_len hf
  have hok := form_small hf
  have Hok := Lib.hid hok
  have Hr : RowKit.Hid (faultL t l = badGo l.length 0 l) := Lib.hid (by unfold faultL; rw [hf]; rfl)
  clear hf hok Henc
  go_wp2_with fail
  go_loopw [11] (fun i w' => ftRel l w1 (faultL t l) i w') (fun i _ => l.length - (intOf i).toNat)
  case atStart => exact ⟨0, rfl, Nat.zero_le _, Hr.out, Ext.refl _⟩
  case round =>
    obtain ⟨k, rfl, hk, hr, he⟩ := hrel
    have d1 := he.cell c1
    have hsz : w.heap.size < wr.heap.size := World.block_lt_of_cell? wr _ d1
    have Hr2 := Lib.hid hr
    clear hr
    by_cases hlt : k < l.length
    · obtain ⟨b, o, rfl, g0, g1, g2, g3⟩ := (hl.ext (e2.trans he)).at_ hlt
      have hs := badGo_at l.length hlt
      have hoi := (Hok.out _ (List.getElem_mem hlt)).1
      generalize l[k] = op at *
      obtain ⟨x, a, b', c'⟩ := op
      dsimp only at g0 g1 g2 g3
      have hmay := fun W => may_any W x a b' c' l.length hoi
      unfold opAgg at hmay
      have Hmay := Lib.hid hmay
      cases hm : mayL (x, a, b', c') l.length
      · rw [hm, if_neg (by simp)] at hs
        have Hs := Lib.hid hs
        have Hm := Lib.hid hm
        clear hs hm hmay hoi
        go_wp2_with fail
        refine (Hmay.out _).mono ?_
        rintro e w2 ⟨rfl, f2⟩
        rw [Hm.out]
        go_wp2_with fail
        go_ret
        exact ⟨by rw [Hr2.out, Hs.out]; rfl, e2.trans ((he.trans (Ext.alloc _ _)).trans f2)⟩
      · rw [hm, if_pos rfl] at hs
        have Hs := Lib.hid hs
        have Hm := Lib.hid hm
        clear hs hm hmay hoi
        go_wp2_with fail
        refine (Hmay.out _).mono ?_
        rintro e w2 ⟨rfl, f2⟩
        rw [Hm.out]
        go_wp2_with fail
        go_roundw
        case rel => exact ⟨k + 1, by go_num, hlt, by rw [Hr2.out, Hs.out], (he.trans (Ext.alloc _ _)).trans f2⟩
        case measure => simp [intOf]; omega
    · obtain rfl : k = l.length := by omega
      go_wp2_with fail
      go_ret
      exact ⟨by rw [Hr2.out, List.drop_length]; rfl, e2.trans he⟩

set_option maxHeartbeats 1000000 in
theorem may_is (w : World) (t : List UInt8) (A : Option Addr) (n c : Nat) (l : List OpT) (ht : t.length ≤ 1099511627776) (hl : Ro w A n c l) {b : Bool} (hb : (faultL t l == -1) = b) :
    Calls Try.prog 49 #[pAgg t A n c] w fun e w' => e = .returned (.bool b) ∧ Ext w w' := by
  have hl1 := hl.ext (Ext.alloc w (.cells #[.string (bs t), .slice A n c] 24))
  have hf := fault_any _ t A n c l ht hl1
  unfold pAgg at *
  have Hf := Lib.hid hf
  clear hf
  go_enter Try.func49, Try.ntmps49
  go_wp2_with fail
  refine Calls.mono Hf.out ?_
  rintro e w1 ⟨rfl, e1⟩
  go_wp2_with fail
  go_ret
  exact ⟨rfl, (Ext.alloc w _).trans e1⟩

set_option maxRecDepth 100000 in
set_option maxHeartbeats 4000000 in
theorem rfault_any (w : World) (t : List UInt8) (A : Option Addr) (n c : Nat) (l : List OpT) (ht : t.length ≤ 1099511627776) (hl : Ro w A n c l) :
    Calls Try.prog 31 #[pAgg t A n c] w fun e w' => e = .returned (.int .i64 (faultL t l)) ∧ Ext w w' := by
  have hn := hl.len
  have hmx := hl.max
  unfold maxLen at hmx
  subst hn
  have hl1 := hl.ext (Ext.alloc w (.cells #[.string (bs t), .slice A l.length c] 24))
  have hform := form_any _ t A l.length c l ht hl1
  unfold pAgg at *
  have Hform := Lib.hid hform
  clear hform
  go_enter Try.func31, Try.ntmps31
  go_wp2_with fail
  refine Calls.mono Hform.out ?_
  rintro e w1 ⟨rfl, e1⟩
  have e2 := (Ext.alloc w _).trans e1
  cases hf : formL t l
  · have Hf := Lib.hid hf
    clear hf
    go_wp2_with fail
    go_ret
    exact ⟨by unfold faultL; rw [Hf.out]; rfl, e2⟩
  have c1 := e1.cell (show (w.alloc (.cells #[.string (bs t), .slice A l.length c] 24)).cell? ⟨w.heap.size, 1, none⟩ = some (.slice A l.length c) by go_simp)
  have hfl := form_len hf
  have Hr : RowKit.Hid (faultL t l = badGo l.length 0 l) := Lib.hid (by unfold faultL; rw [hf]; rfl)
  clear hf Hform
  go_wp2_with fail
  go_loopw [3] (fun i w' => ftRel l w1 (faultL t l) i w') (fun i _ => l.length - (intOf i).toNat)
  case atStart => exact ⟨0, rfl, Nat.zero_le _, Hr.out, Ext.refl _⟩
  case round =>
    obtain ⟨k, rfl, hk, hr, he⟩ := hrel
    have d1 := he.cell c1
    have Hr2 := Lib.hid hr
    clear hr
    by_cases hlt : k < l.length
    · obtain ⟨b, o, rfl, g0, g1, g2, g3⟩ := (hl.ext (e2.trans he)).at_ hlt
      have hs := badGo_at l.length hlt
      generalize l[k] = op at *
      obtain ⟨x, a, b', c'⟩ := op
      dsimp only at g0 g1 g2 g3
      have hmay := fun W => rmay_any W x a b' c' l.length
      unfold opAgg at hmay
      have Hmay := Lib.hid hmay
      have Hs := Lib.hid hs
      clear hs hmay
      cases hm : mayL (x, a, b', c') l.length
      all_goals
        have Hm := Lib.hid hm
        clear hm
        go_wp2_with fail
        apply wp_region_lex (R := Ext) (by kernel_rfl) (by kernel_rfl) Ext.refl (fun _ _ _ => Ext.trans) (Ext.drew _)
        repeat
          apply lex_ex Ext.refl
          · rfl
          · intro W hR hΦ
            have q1 := hR.cell d1
            have p0 := hR.cell g0
            have p1 := hR.cell g1
            have p2 := hR.cell g2
            have p3 := hR.cell g3
            go_simp
            first | done | with_reducible rfl
          simp only [Act.put, List.setIfInBounds_toArray, List.set_cons_zero, List.set_cons_succ]
      · apply lex_callx (u := .bool false)
        · rfl
        · intro W
          go_simp
          exact ⟨rfl, rfl⟩
        · intro W hR hΦ
          exact (Hmay.out W).mono fun _ _ hh => ⟨by rw [hh.1, Hm.out], hh.2⟩
        simp only [Act.put, List.setIfInBounds_toArray, List.set_cons_zero, List.set_cons_succ]
        repeat
          apply lex_ex Ext.refl
          · rfl
          · intro W hR hΦ
            go_simp
            first | done | with_reducible rfl
          simp only [Act.put, List.setIfInBounds_toArray, List.set_cons_zero, List.set_cons_succ]
        refine lex_nil ?_
        intro W hR _
        go_wp2_with fail
        go_ret
        exact ⟨by rw [Hr2.out, Hs.out, Hm.out]; rfl, e2.trans (he.trans hR)⟩
      · apply lex_callx (u := .bool true)
        · rfl
        · intro W
          go_simp
          exact ⟨rfl, rfl⟩
        · intro W hR hΦ
          exact (Hmay.out W).mono fun _ _ hh => ⟨by rw [hh.1, Hm.out], hh.2⟩
        simp only [Act.put, List.setIfInBounds_toArray, List.set_cons_zero, List.set_cons_succ]
        repeat
          apply lex_ex Ext.refl
          · rfl
          · intro W hR hΦ
            go_simp
            first | done | with_reducible rfl
          simp only [Act.put, List.setIfInBounds_toArray, List.set_cons_zero, List.set_cons_succ]
        refine lex_nil ?_
        intro W hR _
        go_wp2_with fail
        go_roundw
        case rel => exact ⟨k + 1, by go_num, hlt, by rw [Hr2.out, Hs.out, Hm.out]; rfl, he.trans hR⟩
        case measure => simp [intOf]; omega
    · obtain rfl : k = l.length := by omega
      go_wp2_with fail
      go_ret
      exact ⟨by rw [Hr2.out, List.drop_length]; rfl, e2.trans he⟩
end Go.Proofs.Ytihegdjdgklbgaa
