/- The walks of package check's operations: asm.Takes, check.cell, check.may. -/
import Derived.Test.YtihegdjdgklbgaaOpsP
import Derived.Test.YtihegdjdgklbgaaProg
import Derived.LoopTactic
namespace Go.Proofs.Ytihegdjdgklbgaa
set_option maxRecDepth 100000
open Go.RowKit

set_option maxHeartbeats 1000000 in
theorem takes_any (w : World) (c : Int) (h0 : -9223372036854775808 ≤ c) (h1 : c ≤ 9223372036854775807) :
    Calls Try.prog 66 #[.int .i64 c] w fun e w' => e = .returned (.int .i64 (takesL c)) ∧ w = w' := by
  have hc : c = 0 ∨ c = 1 ∨ c = 2 ∨ c = 3 ∨ c = 4 ∨ c = 5 ∨ c = 6 ∨ c = 7 ∨ c = 8 ∨ c = 9 ∨ c = 10 ∨ c = 11 ∨ c = 12 ∨ c = 13 ∨ c = 14 ∨ c = 15 ∨ (c < 0 ∨ 15 < c) := by omega
  rcases hc with rfl | rfl | rfl | rfl | rfl | rfl | rfl | rfl | rfl | rfl | rfl | rfl | rfl | rfl | rfl | rfl | hc
  iterate 16
    · go_enter Try.func66, Try.ntmps66
      go_wp2_with fail
      go_ret
      exact ⟨rfl, rfl⟩
  have ht : takesL c = -1 := by
    unfold takesL
    rw [if_neg (by omega), if_neg (by omega), if_neg (by omega), if_neg (by omega)]
  have b : ∀ k : Int, 0 ≤ k → k ≤ 15 → (c == k) = false := fun k h h' => by rw [beq_eq_false_iff_ne]; omega
  have b0 := b 0 (by decide) (by decide)
  have b1 := b 1 (by decide) (by decide)
  have b2 := b 2 (by decide) (by decide)
  have b3 := b 3 (by decide) (by decide)
  have b4 := b 4 (by decide) (by decide)
  have b5 := b 5 (by decide) (by decide)
  have b6 := b 6 (by decide) (by decide)
  have b7 := b 7 (by decide) (by decide)
  have b8 := b 8 (by decide) (by decide)
  have b9 := b 9 (by decide) (by decide)
  have b10 := b 10 (by decide) (by decide)
  have b11 := b 11 (by decide) (by decide)
  have b12 := b 12 (by decide) (by decide)
  have b13 := b 13 (by decide) (by decide)
  have b14 := b 14 (by decide) (by decide)
  have b15 := b 15 (by decide) (by decide)
  have Ht := Lib.hid ht
  clear ht b hc
  go_enter Try.func66, Try.ntmps66
  go_wp2_with fail
  go_ret
  exact ⟨by rw [Ht.out]; rfl, rfl⟩

/-- Numbers that are cells'. -/
def ics (l : List Int) : List Value := l.map (Value.int .i64)
def cellRel (l : List Int) (i : Value) : Prop := ∃ k : Nat, i = .int .i64 (k : Nat) ∧ k ≤ l.length ∧ l.all cellI = (l.drop k).all cellI
theorem cell_any (w : World) (A : Option Addr) (n c : Nat) (l : List Int) (hr : Rd w 1 A n c (ics l)) (hl : l.length ≤ 3) :
    Calls Try.prog 67 #[.slice A n c] w fun e w' => e = .returned (.bool (l.all cellI)) ∧ w = w' := by
  have hn : n = l.length := by have := hr.1; simp [ics] at this; omega
  subst hn
  go_enter Try.func67, Try.ntmps67
  go_wp2_with fail
  go_loop [7] (fun i => cellRel l i) (fun i => l.length - (intOf i).toNat)
  case atStart => exact ⟨0, rfl, Nat.zero_le _, rfl⟩
  case round =>
    obtain ⟨k, rfl, hk, ha⟩ := hrel
    by_cases hlt : k < l.length
    · obtain ⟨b, o, rfl, u, hu, hc⟩ := Rd.at_ hr hlt
      have hu2 : u = .int .i64 l[k] := by
        unfold ics at hu
        rw [List.getElem?_map, List.getElem?_eq_getElem hlt] at hu
        exact (Option.some.inj hu).symm
      subst hu2
      rw [List.drop_eq_getElem_cons hlt, List.all_cons] at ha
      have Ha := Lib.hid ha
      clear ha hu
      generalize l[k] = x at *
      by_cases k1 : x < 0
      · go_wp2_with fail
        go_ret
        have : cellI x = false := by simp [cellI]; omega
        exact ⟨by rw [Ha.out, this]; rfl, rfl⟩
      by_cases k2 : 32 ≤ x
      · go_wp2_with fail
        go_ret
        have : cellI x = false := by simp [cellI]; omega
        exact ⟨by rw [Ha.out, this]; rfl, rfl⟩
      · have Hx : RowKit.Hid (cellI x = true) := Lib.hid (by simp [cellI]; omega)
        go_wp2_with fail
        go_round
        case rel => exact ⟨k + 1, by go_num, hlt, by rw [Ha.out, Hx.out]; rfl⟩
        case measure => simp [intOf]; omega
    · obtain rfl : k = l.length := by omega
      have Ha := Lib.hid ha
      clear ha
      go_wp2_with fail
      go_ret
      exact ⟨by rw [Ha.out, List.drop_length]; rfl, rfl⟩
end Go.Proofs.Ytihegdjdgklbgaa
