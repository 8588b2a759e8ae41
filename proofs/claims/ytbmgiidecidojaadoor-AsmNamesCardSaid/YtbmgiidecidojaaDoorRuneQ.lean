/- Plain Lean on decimal digits: the text of a number ('decL'), and that it reads as that number; the words of two texts with a blank between. No program in sight. -/
import Derived.Test.YtbmgiidecidojaaDoorRuneN
namespace Go.Proofs.YtbmgiidecidojaaDoor
open Go.RowKit

/-- The digits of a number; none of 0. -/
def dgF : Nat → Nat → List UInt8
  | 0, _ => []
  | f + 1, k => if k = 0 then [] else dgF f (k / 10) ++ [UInt8.ofNat (48 + k % 10)]
def dg0 (k : Nat) : List UInt8 := dgF k k
theorem dgF_enough : ∀ f g k : Nat, k ≤ f → k ≤ g → dgF f k = dgF g k
  | 0, 0, _, _, _ => rfl
  | 0, g + 1, k, h, _ => by obtain rfl : k = 0 := by omega
                            simp [dgF]
  | f + 1, 0, k, _, h => by obtain rfl : k = 0 := by omega
                            simp [dgF]
  | f + 1, g + 1, k, h, h' => by
    unfold dgF
    split
    · rfl
    · rw [dgF_enough f g (k / 10) (by omega) (by omega)]
theorem dg0_zero : dg0 0 = [] := rfl
theorem dg0_step {k : Nat} (h : k ≠ 0) : dg0 k = dg0 (k / 10) ++ [UInt8.ofNat (48 + k % 10)] := by
  unfold dg0
  obtain ⟨n, rfl⟩ : ∃ n, k = n + 1 := ⟨k - 1, by omega⟩
  conv => lhs; rw [dgF, if_neg h]
  rw [dgF_enough n ((n + 1) / 10) _ (by omega) (Nat.le_refl _)]
theorem dig_nat (k : Nat) : (UInt8.ofNat (48 + k % 10)).toNat = 48 + k % 10 := by simp; omega
theorem dg0_all : ∀ k : Nat, (dg0 k).all isDig = true := by
  intro k
  induction k using Nat.strongRecOn with
  | _ k ih =>
    by_cases h : k = 0
    · subst h; rfl
    · rw [dg0_step h, List.all_append, ih (k / 10) (by omega)]
      simp only [List.all_cons, List.all_nil, Bool.and_true, Bool.true_and, isDig, dig_nat]
      simp; omega
theorem vl_snoc (n : Nat) (l : List UInt8) (b : UInt8) : vl n (l ++ [b]) = 10 * vl n l + (b.toNat - 48) := by
  unfold vl; rw [List.foldl_append]; rfl
theorem vl_dg0 : ∀ k : Nat, vl 0 (dg0 k) = k := by
  intro k
  induction k using Nat.strongRecOn with
  | _ k ih =>
    by_cases h : k = 0
    · subst h; rfl
    · rw [dg0_step h, vl_snoc, ih (k / 10) (by omega), dig_nat]; omega
theorem bt_app {a b : List UInt8} {k : Nat} (h : k < a.length) : bt (a ++ b) k = bt a k := by
  unfold bt; rw [List.getD_eq_getElem?_getD, List.getD_eq_getElem?_getD, List.getElem?_append_left h]
theorem dg0_first : ∀ k : Nat, k ≠ 0 → dg0 k ≠ [] ∧ bt (dg0 k) 0 ≠ 48 := by
  intro k
  induction k using Nat.strongRecOn with
  | _ k ih =>
    intro h
    rw [dg0_step h]
    refine ⟨by simp, ?_⟩
    by_cases h9 : k / 10 = 0
    · rw [h9, dg0_zero, List.nil_append]
      show (UInt8.ofNat (48 + k % 10)).toNat ≠ 48
      rw [dig_nat]; omega
    · have := ih (k / 10) (by omega) h9
      rw [bt_app (List.length_pos_iff.mpr this.1)]
      exact this.2
theorem dg0_len : ∀ (m k : Nat), k < 10 ^ m → (dg0 k).length ≤ m
  | 0, k, h => by obtain rfl : k = 0 := by simpa using h
                  simp [dg0_zero]
  | m + 1, k, h => by
    by_cases h0 : k = 0
    · subst h0; simp [dg0_zero]
    · rw [dg0_step h0, List.length_append]
      have := dg0_len m (k / 10) (by rw [Nat.pow_succ] at h; omega)
      simp; omega
theorem bt_dg0_lt {k : Nat} (h : k ≠ 0) : 48 < bt (dg0 k) 0 ∧ bt (dg0 k) 0 ≤ 57 := by
  have h1 := dg0_first k h
  have h2 := take_digs (d := dg0 k) (p := (dg0 k).length) (k := 0) (by rw [List.take_length]; exact dg0_all k) (List.length_pos_iff.mpr h1.1) (Nat.le_refl _)
  omega

/-- A number of no sign as its text. -/
def natL (k : Nat) : List UInt8 := if k = 0 then [48] else dg0 k
/-- A number's text. -/
def decL (n : Int) : List UInt8 := (if n < 0 then [45] else []) ++ natL n.natAbs
theorem natL_ne (k : Nat) : natL k ≠ [] := by
  unfold natL
  split
  · simp
  · exact (dg0_first k ‹_›).1
theorem natL_all (k : Nat) : (natL k).all isDig = true := by
  unfold natL
  split
  · rfl
  · exact dg0_all k
theorem natL_vl (k : Nat) : vl 0 (natL k) = k := by
  unfold natL
  split
  · rename_i h; rw [h]; rfl
  · exact vl_dg0 k
theorem natL_first (k : Nat) : 48 ≤ bt (natL k) 0 ∧ bt (natL k) 0 ≤ 57 ∧ (bt (natL k) 0 = 48 → k = 0) := by
  unfold natL
  split
  · rename_i h; exact ⟨by decide, by decide, fun _ => h⟩
  · have := bt_dg0_lt ‹_›; omega
theorem natL_len {k : Nat} (h : k < 10 ^ 19) : 1 ≤ (natL k).length ∧ (natL k).length ≤ 19 := by
  refine ⟨List.length_pos_iff.mpr (natL_ne k), ?_⟩
  unfold natL
  split
  · simp
  · exact dg0_len 19 k h
theorem numD_nat {m : Bool} {k : Nat} (hk : k ≤ 2147483647 + (if m then 1 else 0)) (h0 : m = true → k ≠ 0) : numD m (natL k) = some (if m then -(k : Int) else k) := by
  rw [nd_some (natL_ne k) (natL_all k) (fun h => ?_) (by rw [natL_vl]; exact hk), natL_vl]
  obtain rfl := (natL_first k).2.2 h
  refine ⟨rfl, ?_⟩
  cases m
  · rfl
  · exact absurd rfl (h0 rfl)
theorem numL_nat {k : Nat} (hk : k ≤ 2147483647) : numL (natL k) = some (k : Int) := by
  have h := natL_first k
  unfold numL
  rw [if_neg (by omega), numD_nat (by simp; omega) (by simp)]; simp
theorem bt_cons (b : UInt8) (l : List UInt8) : bt (b :: l) 0 = b.toNat := rfl
theorem numL_dec {n : Int} (h0 : -2147483648 ≤ n) (h1 : n ≤ 2147483647) : numL (decL n) = some n := by
  unfold decL
  by_cases h : n < 0
  · rw [if_pos h]
    show numL (45 :: natL n.natAbs) = some n
    unfold numL
    rw [bt_cons, if_pos (by decide)]
    show numD true (natL n.natAbs) = some n
    rw [numD_nat (by simp; omega) (by intro _; omega)]
    simp; omega
  · rw [if_neg h, List.nil_append, numL_nat (by omega)]
    congr 1; omega
theorem decL_len {n : Int} (h0 : -9223372036854775808 ≤ n) (h1 : n ≤ 9223372036854775807) : (decL n).length ≤ 20 := by
  have := natL_len (k := n.natAbs) (by omega)
  unfold decL
  rw [List.length_append]
  split <;> simp <;> omega
theorem decL_ne (n : Int) : decL n ≠ [] := by
  unfold decL; intro h; exact natL_ne _ (List.append_eq_nil_iff.mp h).2
/-- No number begins so. -/
theorem numL_other {b : UInt8} (l : List UInt8) (h : b.toNat ≠ 45) (h' : b.toNat < 48 ∨ 57 < b.toNat) : numL (b :: l) = none := by
  unfold numL
  rw [bt_cons, if_neg h]
  exact nd_bad (p := 0) (by simp) h'
theorem numL_nought {l : List UInt8} (h : l ≠ []) : numL (48 :: l) = none := by
  unfold numL
  rw [bt_cons, if_neg (by decide)]
  exact nd_zero (by have := List.length_pos_iff.mpr h; simp; omega) rfl
theorem numL_twice (l : List UInt8) : numL (45 :: 45 :: l) = none := by
  unfold numL
  rw [bt_cons, if_pos (by decide)]
  exact nd_bad (p := 0) (by simp) (.inl (show (45 : UInt8).toNat < 48 by decide))

theorem wgo_join (a b : List UInt8) : ∀ cur, wgo (a ++ 32 :: b) cur = wgo a cur ++ wgo b [] := by
  induction a with
  | nil =>
    intro cur
    have h : blank 32 = true := rfl
    simp only [List.nil_append, wgo, h, if_true]
    split <;> simp
  | cons x a ih =>
    intro cur
    simp only [List.cons_append, wgo, ih]
    split
    · split <;> simp
    · rfl
theorem words_join (a b : List UInt8) : wordsL (a ++ 32 :: b) = wordsL a ++ wordsL b := wgo_join a b []
end Go.Proofs.YtbmgiidecidojaaDoor
