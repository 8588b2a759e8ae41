/- The walks of the reference's small and Form. -/
import Derived.Test.YtbmgiidecidojaaDoorOpsP
import Derived.Test.YtbmgiidecidojaaDoorRuneT
namespace Go.Proofs.YtbmgiidecidojaaDoor
open Go.RowKit

theorem small_is (w : World) (n : Int) {b : Bool} (hb : smallI n = b) :
    Calls Tryd.prog 49 #[.int .i64 n] w fun e w' => e = .returned (.bool b) ∧ w = w' := by
  subst hb
  unfold smallI
  by_cases h : -2147483648 ≤ n
  · go_enter Tryd.func49, Tryd.ntmps49
    go_wp2_with fail
    go_ret
    exact ⟨by rw [decide_eq_true h]; rfl, rfl⟩
  · go_enter Tryd.func49, Tryd.ntmps49
    go_wp2_with fail
    go_ret
    exact ⟨by rw [decide_eq_false (show ¬ -2147483648 ≤ n by omega)]; rfl, rfl⟩

/-- A program as a value. -/
def pAgg (t : List UInt8) (A : Option Addr) (n c : Nat) : Value := .agg #[.string (bs t), .slice A n c]
def fmRel (l : List OpT) (w : World) (i : Value) (w' : World) : Prop := ∃ k : Nat, i = .int .i64 (k : Nat) ∧ k ≤ l.length ∧ l.all smallO = (l.drop k).all smallO ∧ Ext w w'

set_option maxRecDepth 100000 in
set_option maxHeartbeats 4000000 in
theorem form_any (w : World) (t : List UInt8) (A : Option Addr) (n c : Nat) (l : List OpT) (ht : t.length ≤ 1099511627776) (hl : Ro w A n c l) :
    Calls Tryd.prog 32 #[pAgg t A n c] w fun e w' => e = .returned (.bool (formL t l)) ∧ Ext w w' := by
  unfold pAgg
  have hn := hl.len
  have hmx := hl.max
  unfold maxLen at hmx
  subst hn
  go_enter Tryd.func32, Tryd.ntmps32
  go_wp2_with fail
  refine (rtitle_any _ t ht).mono ?_
  rintro e w1 ⟨rfl, e1⟩
  have e2 := (Ext.alloc w _).trans e1
  have c0 := e1.cell (show (w.alloc (.cells #[.string (bs t), .slice A l.length c] 26)).cell? ⟨w.heap.size, 0, none⟩ = some (.string (bs t)) by go_simp)
  have c1 := e1.cell (show (w.alloc (.cells #[.string (bs t), .slice A l.length c] 26)).cell? ⟨w.heap.size, 1, none⟩ = some (.slice A l.length c) by go_simp)
  by_cases hlt : titleL t = false ∨ l.length < 1 ∨ 64 < l.length
  · have Hf : RowKit.Hid (formL t l = false) := Lib.hid (by
      unfold formL
      rcases hlt with h | h | h
      · rw [h]; rfl
      · rw [decide_eq_false (show ¬ 1 ≤ l.length by omega)]; simp
      · rw [decide_eq_false (show ¬ l.length ≤ 64 by omega)]; simp)
    cases htt : titleL t
    · clear hlt
      go_wp2_with fail
      go_ret
      exact ⟨by rw [Hf.out]; rfl, e2⟩
    · rw [htt] at hlt
      by_cases h1 : l.length < 1
      · go_wp2_with fail
        go_ret
        exact ⟨by rw [Hf.out]; rfl, e2⟩
      · have h2 : 64 < l.length := by rcases hlt with h | h | h <;> first | cases h | omega
        clear hlt
        go_wp2_with fail
        go_ret
        exact ⟨by rw [Hf.out]; rfl, e2⟩
  have htt : titleL t = true := by cases h : titleL t <;> simp [h] at hlt ⊢
  have h1 : 1 ≤ l.length := by omega
  have h2 : l.length ≤ 64 := by omega
  have Hf : RowKit.Hid (formL t l = l.all smallO) := Lib.hid (by unfold formL; rw [htt, decide_eq_true h1, decide_eq_true h2]; rfl)
  rw [htt]
  clear hlt htt
  go_wp2_with fail
  go_loopw [3] (fun i w' => fmRel l w1 i w') (fun i _ => l.length - (intOf i).toNat)
  case atStart => exact ⟨0, rfl, Nat.zero_le _, rfl, Ext.refl _⟩
  case round =>
    obtain ⟨k, rfl, hk, ha, he⟩ := hrel
    have d0 := he.cell c0
    have d1 := he.cell c1
    have Ha := Lib.hid ha
    clear ha
    by_cases hlt : k < l.length
    · obtain ⟨b, o, rfl, g0, g1, g2, g3⟩ := (hl.ext (e2.trans he)).at_ hlt
      have Hs := Lib.hid (show (l.drop k).all smallO = (smallO l[k] && (l.drop (k + 1)).all smallO) by rw [List.drop_eq_getElem_cons hlt, List.all_cons])
      generalize l[k] = op at *
      obtain ⟨x, a, b', c'⟩ := op
      dsimp only at g0 g1 g2 g3
      cases q0 : smallI x
      · go_wp2_with fail
        refine (small_is _ x q0).mono ?_
        rintro e w2 ⟨rfl, rfl⟩
        have Q0 := Lib.hid q0
        clear q0
        go_wp2_with fail
        go_ret
        exact ⟨by rw [Hf.out, Ha.out, Hs.out]; simp [smallO, Q0.out], e2.trans (he.trans (Ext.alloc _ _))⟩
      go_wp2_with fail
      refine (small_is _ x q0).mono ?_
      rintro e w2 ⟨rfl, rfl⟩
      have Q0 := Lib.hid q0
      clear q0
      cases q1 : smallI a
      · go_wp2_with fail
        refine (small_is _ a q1).mono ?_
        rintro e w2 ⟨rfl, rfl⟩
        have Q1 := Lib.hid q1
        clear q1
        go_wp2_with fail
        go_ret
        exact ⟨by rw [Hf.out, Ha.out, Hs.out]; simp [smallO, Q1.out], e2.trans (he.trans (Ext.alloc _ _))⟩
      go_wp2_with fail
      refine (small_is _ a q1).mono ?_
      rintro e w2 ⟨rfl, rfl⟩
      have Q1 := Lib.hid q1
      clear q1
      cases q2 : smallI b'
      · go_wp2_with fail
        refine (small_is _ b' q2).mono ?_
        rintro e w2 ⟨rfl, rfl⟩
        have Q2 := Lib.hid q2
        clear q2
        go_wp2_with fail
        go_ret
        exact ⟨by rw [Hf.out, Ha.out, Hs.out]; simp [smallO, Q2.out], e2.trans (he.trans (Ext.alloc _ _))⟩
      go_wp2_with fail
      refine (small_is _ b' q2).mono ?_
      rintro e w2 ⟨rfl, rfl⟩
      have Q2 := Lib.hid q2
      clear q2
      cases q3 : smallI c'
      · go_wp2_with fail
        refine (small_is _ c' q3).mono ?_
        rintro e w2 ⟨rfl, rfl⟩
        have Q3 := Lib.hid q3
        clear q3
        go_wp2_with fail
        go_ret
        exact ⟨by rw [Hf.out, Ha.out, Hs.out]; simp [smallO, Q3.out], e2.trans (he.trans (Ext.alloc _ _))⟩
      go_wp2_with fail
      refine (small_is _ c' q3).mono ?_
      rintro e w2 ⟨rfl, rfl⟩
      have Q3 := Lib.hid q3
      clear q3
      go_wp2_with fail
      go_roundw
      case rel => exact ⟨k + 1, by go_num, hlt, by rw [Ha.out, Hs.out]; simp [smallO, Q0.out, Q1.out, Q2.out, Q3.out], he.trans (Ext.alloc _ _)⟩
      case measure => simp [intOf]; omega
    · obtain rfl : k = l.length := by omega
      go_wp2_with fail
      go_ret
      exact ⟨by rw [Hf.out, Ha.out, List.drop_length]; rfl, e2.trans he⟩
end Go.Proofs.YtbmgiidecidojaaDoor
