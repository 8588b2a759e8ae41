/- The walk of the law RunesDigits. -/
import Derived.Test.YtmlmeikfgbkhhaaRuneL6
namespace Go.Proofs.Ytmlmeikfgbkhhaa
open Go.RowKit

theorem natL_last {k : Nat} (h : k / 10 = 0) : natL k = [UInt8.ofNat (48 + k % 10)] := by
  unfold natL
  split
  · subst k; rfl
  · rw [dg0_step ‹_›, h, dg0_zero]; rfl
theorem natL_more {k : Nat} (h : k / 10 ≠ 0) : natL k = natL (k / 10) ++ [UInt8.ofNat (48 + k % 10)] := by
  unfold natL
  rw [if_neg (by omega), if_neg h, dg0_step (k := k) (by omega)]
def DgRel (n : Nat) (w : World) (s m : Value) (w' : World) : Prop :=
  ∃ (k : Nat) (t : List UInt8), s = .string (bs t) ∧ m = .int .i64 (k : Nat) ∧ k ≤ 2147483648 ∧ natL k ++ t = natL n ∧ t.length ≤ 19 ∧ Ext w w'
theorem dg_last {n k : Nat} {t : List UInt8} (h : natL k ++ t = natL n) (hk : k / 10 = 0) : UInt8.ofNat (48 + (k : Int) % 10).toNat :: t = natL n := by
  rw [← h, natL_last hk]
  have : (48 + (k : Int) % 10).toNat = 48 + k % 10 := by omega
  rw [this]; rfl
theorem dg_more {n k : Nat} {t : List UInt8} (h : natL k ++ t = natL n) (hk : k / 10 ≠ 0) : natL (k / 10) ++ (UInt8.ofNat (48 + (k : Int) % 10).toNat :: t) = natL n := by
  rw [← h, natL_more hk]
  have : (48 + (k : Int) % 10).toNat = 48 + k % 10 := by omega
  rw [this]; simp

set_option maxRecDepth 100000 in
set_option maxHeartbeats 800000 in
theorem digits_walk (w : World) (n : Int) (n0 : -2147483648 ≤ n) (n1 : n ≤ 2147483647) :
    Calls Try.prog 10 #[.int .i32 n] w (Yes w) := by
  have hN := natL_len (k := n.natAbs) (by omega)
  have Hdec := Lib.hid (numL_dec n0 n1)
  have hways : n < 0 ∧ RowKit.Hid (decL n = 45 :: natL n.natAbs) ∨ ¬ n < 0 ∧ RowKit.Hid (decL n = natL n.natAbs) := by
    unfold decL
    by_cases h : n < 0
    · rw [if_pos h]; exact .inl ⟨h, Lib.hid rfl⟩
    · rw [if_neg h]; exact .inr ⟨h, Lib.hid rfl⟩
  rcases hways with ⟨hs, Hs⟩ | ⟨hs, Hs⟩
  all_goals
    go_enter Try.func10, Try.ntmps10
    go_wp2_with fail
    refine (begun_any w).mono ?_
    rintro e w1 ⟨rfl, e1⟩
    go_wp2_with fail
    go_loopw [4, 5] (fun s m w' => DgRel n.natAbs w1 s m w') (fun _ m _ => (intOf m).toNat)
    case atStart => exact ⟨n.natAbs, [], rfl, by congr 1; omega, by omega, by simp, by simp, Ext.refl _⟩
    case round =>
      obtain ⟨k, t, rfl, rfl, hk, hn, ht, he⟩ := hrel
      have hcv := run_string_of (P := Try.prog) _ 37 9 5 Try.underlying37 Try.underlying5 Try.underlying9 _ _ _ _ (one_byte (w := wr) (x := 48 + (k : Int) % 10) (by omega) (by omega))
      have hcat : ((9223372036854775807 : Nat) < 1 + t.length) = False := eq_false (by omega)
      obtain ⟨u, hu⟩ : ∃ u, UInt8.ofNat (48 + (k : Int) % 10).toNat = u := ⟨_, rfl⟩
      rw [hu] at hcv
      have Hu := Lib.hid hu
      have Hn := Lib.hid hn
      clear hn hu
      by_cases hz : k / 10 = 0
      · have g : (((k : Int) / 10) == 0) = true := by rw [beq_iff_eq]; omega
        have hd := dg_last Hn.out hz
        rw [Hu.out] at hd
        have Hd := Lib.hid hd
        clear hd
        have hx := Lib.hid ((e1.trans he).trans (Ext.alloc wr (.cells #[.int .u8 (48 + (k : Int) % 10)] 5)))
        clear hz
        have q1 : numL (48 :: natL n.natAbs) = none := numL_nought (natL_ne _)
        have q2 : numL (43 :: natL n.natAbs) = none := numL_other _ (by decide) (by decide)
        have q3 : numL (32 :: decL n) = none := numL_other _ (by decide) (by decide)
        have q4 : numL (45 :: 45 :: natL n.natAbs) = none := numL_twice _
        have q5 := Hdec.out
        rw [Hs.out] at q3 q5
        rw [← Hd.out] at q1 q2 q3 q4 q5
        have Q1 := Lib.hid q1
        have Q2 := Lib.hid q2
        have Q3 := Lib.hid q3
        have Q4 := Lib.hid q4
        have Q5 := Lib.hid q5
        have hlu : t.length ≤ 20 := by omega
        clear q1 q2 q3 q4 q5 Hd Hdec Hs Hu Hn
        have k1 : ((9223372036854775807 : Nat) < 1 + (t.length + 1)) = False := eq_false (by omega)
        have k2 : ((9223372036854775807 : Nat) < 2 + (t.length + 1)) = False := eq_false (by omega)
        have k3 : ((9223372036854775807 : Nat) < 1 + (t.length + 1 + 1)) = False := eq_false (by omega)
        have z1 : ∀ z, ({ data := #[45] } : ByteArray) ++ bs z = bs (45 :: z) := fun z => bs_add [45] z
        have z2 : ∀ z, ({ data := #[48] } : ByteArray) ++ bs z = bs (48 :: z) := fun z => bs_add [48] z
        have z3 : ∀ z, ({ data := #[43] } : ByteArray) ++ bs z = bs (43 :: z) := fun z => bs_add [43] z
        have z4 : ∀ z, ({ data := #[32] } : ByteArray) ++ bs z = bs (32 :: z) := fun z => bs_add [32] z
        have z5 : ∀ z, ({ data := #[45, 45] } : ByteArray) ++ bs z = bs (45 :: 45 :: z) := fun z => bs_add [45, 45] z
        go_wp2_with fail
        refine (number_is _ _ ?_ Q5.out).mono ?_
        · simp only [List.length_cons]; omega
        rintro e w2 ⟨rfl, f2⟩
        have e2 := hx.out.trans f2
        clear f2 hx
        go_wp2_with fail
        refine (number_is _ _ ?_ Q1.out).mono ?_
        · simp only [List.length_cons]; omega
        rintro e w3 ⟨rfl, f3⟩
        have e3 := e2.trans f3
        clear f3 e2
        go_wp2_with fail
        refine (number_is _ _ ?_ Q2.out).mono ?_
        · simp only [List.length_cons]; omega
        rintro e w4 ⟨rfl, f4⟩
        have e4 := e3.trans f4
        clear f4 e3
        go_wp2_with fail
        refine (number_is _ _ ?_ Q3.out).mono ?_
        · simp only [List.length_cons]; omega
        rintro e w5 ⟨rfl, f5⟩
        have e5 := e4.trans f5
        clear f5 e4
        go_wp2_with fail
        refine (number_is _ _ ?_ Q4.out).mono ?_
        · simp only [List.length_cons]; omega
        rintro e w6 ⟨rfl, f6⟩
        have e6 := e5.trans f6
        clear f6 e5
        go_wp2_with fail
        go_ret
        exact ⟨rfl, e6⟩
      · have g : (((k : Int) / 10) == 0) = false := by rw [beq_eq_false_iff_ne]; omega
        have hd := dg_more Hn.out hz
        rw [Hu.out] at hd
        have Hd := Lib.hid hd
        have Hz := Lib.hid hz
        clear hd
        have Hl := Lib.hid (show t.length + 1 ≤ 19 from by
          have h1 := congrArg List.length Hn.out
          have h2 := (natL_ne k)
          have h3 := List.length_pos_iff.mpr h2
          rw [List.length_append] at h1
          omega)
        clear hz
        go_wp2_with fail
        go_roundw
        case rel => exact ⟨k / 10, _, rfl, rfl, by omega, Hd.out, Hl.out, he.trans (Ext.alloc _ _)⟩
        case measure => have := Hz.out; simp [intOf]; omega
end Go.Proofs.Ytmlmeikfgbkhhaa
