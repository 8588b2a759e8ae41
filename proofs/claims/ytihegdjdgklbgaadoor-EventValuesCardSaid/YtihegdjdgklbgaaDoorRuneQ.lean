/- Plain Lean on decimal digits: the text of a number (cut for the events' seat). -/
import Derived.Test.YtihegdjdgklbgaaDoorRows
import Derived.Test.YtihegdjdgklbgaaDoorKit
import Derived.Lib.ItoaNum
namespace Go.Proofs.YtihegdjdgklbgaaDoor
set_option maxRecDepth 100000
open Go.RowKit

def dgF : Nat → Nat → List UInt8
  | 0, _ => []
  | f + 1, k => if k = 0 then [] else dgF f (k / 10) ++ [UInt8.ofNat (48 + k % 10)]
def dg0 (k : Nat) : List UInt8 := dgF k k
theorem dgF_enough : ∀ f g k : Nat, k ≤ f → k ≤ g → dgF f k = dgF g k
  | 0, 0, _, _, _ => rfl
  | 0, g + 1, k, h, _ => by obtain rfl : k = 0 := by omega
                            simp [dgF]
  | f + 1, 0, k, _, h => by obtain rfl : k = 0 := by omega
                            simp [dgF]
  | f + 1, g + 1, k, h, h' => by
    unfold dgF
    split
    · rfl
    · rw [dgF_enough f g (k / 10) (by omega) (by omega)]
theorem dg0_zero : dg0 0 = [] := rfl
theorem dg0_step {k : Nat} (h : k ≠ 0) : dg0 k = dg0 (k / 10) ++ [UInt8.ofNat (48 + k % 10)] := by
  unfold dg0
  obtain ⟨n, rfl⟩ : ∃ n, k = n + 1 := ⟨k - 1, by omega⟩
  conv => lhs; rw [dgF, if_neg h]
  rw [dgF_enough n ((n + 1) / 10) _ (by omega) (Nat.le_refl _)]
theorem dg0_len : ∀ (m k : Nat), k < 10 ^ m → (dg0 k).length ≤ m
  | 0, k, h => by obtain rfl : k = 0 := by simpa using h
                  simp [dg0_zero]
  | m + 1, k, h => by
    by_cases h0 : k = 0
    · subst h0; simp [dg0_zero]
    · rw [dg0_step h0, List.length_append]
      have := dg0_len m (k / 10) (by rw [Nat.pow_succ] at h; omega)
      simp; omega
def natL (k : Nat) : List UInt8 := if k = 0 then [48] else dg0 k
def decL (n : Int) : List UInt8 := (if n < 0 then [45] else []) ++ natL n.natAbs
theorem dg0_first (k : Nat) (h : k ≠ 0) : dg0 k ≠ [] ∧ True := ⟨by rw [dg0_step h]; simp, trivial⟩
theorem dg0_dec : ∀ k : Nat, k ≠ 0 → dg0 k = Lib.decDigits k := by
  intro k
  induction k using Nat.strongRecOn with
  | ind k ih =>
    intro h
    rw [dg0_step h, Lib.decDigits]
    by_cases h9 : k < 10
    · rw [dif_pos h9, Nat.div_eq_of_lt h9, dg0_zero, Nat.mod_eq_of_lt h9]; rfl
    · rw [dif_neg h9, ih (k / 10) (by omega) (by omega)]
theorem natL_dec (k : Nat) : natL k = Lib.decDigits k := by
  unfold natL
  split
  · subst k; rw [Lib.decDigits]; rfl
  · exact dg0_dec k ‹_›
theorem itoa_dec {n : Int} (h : 0 ≤ n) : Lib.itoa n = decL n := by
  unfold Lib.itoa decL
  rw [if_neg (by omega), if_neg (by omega), natL_dec, show n.natAbs = n.toNat by omega]; rfl
theorem dig_nat (k : Nat) : (UInt8.ofNat (48 + k % 10)).toNat = 48 + k % 10 := by simp; omega
/-- What digits say. -/
def sayD (l : List UInt8) : Nat := l.foldl (fun n b => 10 * n + (b.toNat - 48)) 0
theorem sayD_snoc (l : List UInt8) (b : UInt8) : sayD (l ++ [b]) = 10 * sayD l + (b.toNat - 48) := by simp [sayD]
theorem sayD_dg0 : ∀ k : Nat, sayD (dg0 k) = k := by
  intro k
  induction k using Nat.strongRecOn with
  | ind k ih =>
    by_cases h : k = 0
    · subst h; rfl
    · rw [dg0_step h, sayD_snoc, ih (k / 10) (by omega), dig_nat]; omega
theorem natL_inj {a b : Nat} (h : natL a = natL b) : a = b := by
  have hs : ∀ k, sayD (natL k) = k := by
    intro k
    unfold natL
    split
    · subst k; rfl
    · exact sayD_dg0 k
  rw [← hs a, ← hs b, h]
theorem decL_inj {a b : Int} (ha : 0 ≤ a) (hb : 0 ≤ b) (h : decL a = decL b) : a = b := by
  unfold decL at h
  rw [if_neg (by omega), if_neg (by omega)] at h
  have := natL_inj h
  omega
theorem natL_len {k : Nat} (h : k < 10 ^ 19) : (natL k).length ≤ 19 := by
  unfold natL
  split
  · simp
  · exact dg0_len 19 k h
end Go.Proofs.YtihegdjdgklbgaaDoor
