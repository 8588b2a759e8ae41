/- word.Mod, vm.sum; the reference's Round, Div, Mod, reckon. -/
import Derived.Test.YtihegdjdgklbgaaVmW
namespace Go.Proofs.Ytihegdjdgklbgaa
set_option maxRecDepth 100000
open Go.RowKit

theorem mod_is (w : World) (a : Int) (ha : ok32 a) : Calls Try.prog 55 #[.int .i32 a, .int .i64 32] w fun e w' => e = .returned (.int .i64 (remN a : Nat)) ∧ w' = w := by
  unfold ok32 at ha
  obtain ⟨m, hm, h1, h2⟩ : ∃ m : Int, a.tmod 32 = m ∧ -31 ≤ m ∧ m ≤ 31 := ⟨_, rfl, by have := Int.lt_tmod_of_pos a (show (0 : Int) < 32 by decide); omega, by have := Int.tmod_lt_of_pos a (show (0 : Int) < 32 by decide); omega⟩
  have h3 : a.tmod 32 = a % 32 ∨ a.tmod 32 = a % 32 - 32 := by
    rcases Int.le_total 0 a with h | h
    · left; exact Int.tmod_eq_emod_of_nonneg h
    · have := Int.tmod_add_mul_tdiv a 32
      omega
  by_cases hn : m < 0
  · have e : m + 32 = (remN a : Nat) := by unfold remN; omega
    go_enter Try.func55, Try.ntmps55
    go_wp2_with fail
    go_ret
    exact ⟨by simp, rfl⟩
  · have e : m = (remN a : Nat) := by unfold remN; omega
    go_enter Try.func55, Try.ntmps55
    go_wp2_with fail
    go_ret
    exact ⟨rfl, rfl⟩
theorem sum_is (w : World) (k a b : Int) : Calls Try.prog 61 #[.int .i64 k, .int .i32 a, .int .i32 b] w fun e w' => e = .returned (.int .i32 (sumN k a b)) ∧ w' = w := by
  by_cases h3 : k = 3
  · subst h3
    go_enter Try.func61, Try.ntmps61
    go_wp2_with fail
    refine (add_is _ _ _).mono ?_
    rintro e w1 ⟨rfl, rfl⟩
    go_wp2_with fail
    go_ret
    exact ⟨by simp [sumN], rfl⟩
  have b3 : (k == 3) = false := by rw [beq_eq_false_iff_ne]; exact h3
  by_cases h4 : k = 4
  · subst h4
    go_enter Try.func61, Try.ntmps61
    go_wp2_with fail
    refine (sub_is _ _ _).mono ?_
    rintro e w1 ⟨rfl, rfl⟩
    go_wp2_with fail
    go_ret
    exact ⟨by simp [sumN], rfl⟩
  have b4 : (k == 4) = false := by rw [beq_eq_false_iff_ne]; exact h4
  by_cases h5 : k = 5
  · subst h5
    go_enter Try.func61, Try.ntmps61
    go_wp2_with fail
    refine (mul_is _ _ _).mono ?_
    rintro e w1 ⟨rfl, rfl⟩
    go_wp2_with fail
    go_ret
    exact ⟨by simp [sumN], rfl⟩
  have b5 : (k == 5) = false := by rw [beq_eq_false_iff_ne]; exact h5
  by_cases h6 : k = 6
  · subst h6
    go_enter Try.func61, Try.ntmps61
    go_wp2_with fail
    refine (div_is _ _ _).mono ?_
    rintro e w1 ⟨rfl, rfl⟩
    go_wp2_with fail
    go_ret
    exact ⟨by simp [sumN], rfl⟩
  have b6 : (k == 6) = false := by rw [beq_eq_false_iff_ne]; exact h6
  by_cases h7 : k = 7
  · subst h7
    go_enter Try.func61, Try.ntmps61
    go_wp2_with fail
    refine (flag_is _ _).mono ?_
    rintro e w1 ⟨rfl, rfl⟩
    go_wp2_with fail
    go_ret
    exact ⟨by simp [sumN], rfl⟩
  have b7 : (k == 7) = false := by rw [beq_eq_false_iff_ne]; exact h7
  go_enter Try.func61, Try.ntmps61
  go_wp2_with fail
  refine (flag_is _ _).mono ?_
  rintro e w1 ⟨rfl, rfl⟩
  go_wp2_with fail
  go_ret
  exact ⟨by simp [sumN, h3, h4, h5, h6, h7]; congr 1, rfl⟩

/-- The reference's Round. -/
theorem round_is (w : World) (a : Int) : Calls Try.prog 35 #[.int .i64 a] w fun e w' => e = .returned (.int .i32 (w32 a)) ∧ w' = w := by
  obtain ⟨m, hm, h1, h2⟩ : ∃ m : Int, a.tmod 4294967296 = m ∧ -4294967295 ≤ m ∧ m ≤ 4294967295 := ⟨_, rfl, by have := Int.lt_tmod_of_pos a (show (0 : Int) < 4294967296 by decide); omega, by have := Int.tmod_lt_of_pos a (show (0 : Int) < 4294967296 by decide); omega⟩
  have h3 : a.tmod 4294967296 = a % 4294967296 ∨ a.tmod 4294967296 = a % 4294967296 - 4294967296 := by
    rcases Int.le_total 0 a with h | h
    · left; exact Int.tmod_eq_emod_of_nonneg h
    · have := Int.tmod_add_mul_tdiv a 4294967296
      omega
  obtain ⟨r, hr⟩ : ∃ r, w32 a = r := ⟨_, rfl⟩
  have hr2 := hr
  unfold w32 at hr2
  rw [hr]
  have hw : ∀ x : Int, -2147483648 ≤ x → x ≤ 2147483647 → IntKind.i32.wrap x = x := fun x _ _ => by rw [IntKind.wrap_i32]; omega
  by_cases hn : m < 0
  · by_cases hb : 2147483648 ≤ m + 4294967296
    · have e : m + 4294967296 - 4294967296 = r := by omega
      go_enter Try.func35, Try.ntmps35
      go_wp2_with fail
      go_ret
      exact ⟨rfl, rfl⟩
    · have e : m + 4294967296 = r := by omega
      go_enter Try.func35, Try.ntmps35
      go_wp2_with fail
      go_ret
      exact ⟨rfl, rfl⟩
  · by_cases hb : 2147483648 ≤ m
    · have e : m - 4294967296 = r := by omega
      go_enter Try.func35, Try.ntmps35
      go_wp2_with fail
      go_ret
      exact ⟨rfl, rfl⟩
    · have e : m = r := by omega
      go_enter Try.func35, Try.ntmps35
      go_wp2_with fail
      go_ret
      exact ⟨rfl, rfl⟩
theorem tdiv_bd {a b : Int} (ha : ok32 a) : -2147483648 ≤ a.tdiv b ∧ a.tdiv b ≤ 2147483648 := by
  unfold ok32 at ha
  have h := Int.natAbs_tdiv_le_natAbs a b
  omega
set_option maxHeartbeats 1000000 in
/-- The reference's Div, Mod: word's. -/
theorem rdiv_is (w : World) (a b : Int) (ha : ok32 a) (hb : ok32 b) : Calls Try.prog 46 #[.int .i32 a, .int .i32 b] w fun e w' => e = .returned (.int .i32 (divN a b)) ∧ w' = w := by
  have hbd := tdiv_bd (b := b) ha
  unfold ok32 at ha hb
  by_cases h0 : b = 0
  · subst h0
    go_enter Try.func46, Try.ntmps46
    go_wp2_with fail
    go_ret
    exact ⟨by simp [divN], rfl⟩
  have b0 : (b == 0) = false := by rw [beq_eq_false_iff_ne]; exact h0
  have hd : divN a b = w32 (a.tdiv b) := if_neg h0
  rw [hd]
  clear hd
  go_enter Try.func46, Try.ntmps46
  go_wp2_with fail
  refine (round_is _ _).mono ?_
  rintro e w1 ⟨rfl, rfl⟩
  go_wp2_with fail
  go_ret
  exact ⟨rfl, rfl⟩
theorem rmod_is (w : World) (a : Int) (ha : ok32 a) : Calls Try.prog 34 #[.int .i32 a, .int .i64 32] w fun e w' => e = .returned (.int .i64 (remN a : Nat)) ∧ w' = w := by
  unfold ok32 at ha
  obtain ⟨m, hm, h1, h2⟩ : ∃ m : Int, a.tmod 32 = m ∧ -31 ≤ m ∧ m ≤ 31 := ⟨_, rfl, by have := Int.lt_tmod_of_pos a (show (0 : Int) < 32 by decide); omega, by have := Int.tmod_lt_of_pos a (show (0 : Int) < 32 by decide); omega⟩
  have h3 : a.tmod 32 = a % 32 ∨ a.tmod 32 = a % 32 - 32 := by
    rcases Int.le_total 0 a with h | h
    · left; exact Int.tmod_eq_emod_of_nonneg h
    · have := Int.tmod_add_mul_tdiv a 32
      omega
  by_cases hn : m < 0
  · have e : m + 32 = (remN a : Nat) := by unfold remN; omega
    go_enter Try.func34, Try.ntmps34
    go_wp2_with fail
    go_ret
    exact ⟨by simp, rfl⟩
  · have e : m = (remN a : Nat) := by unfold remN; omega
    go_enter Try.func34, Try.ntmps34
    go_wp2_with fail
    go_ret
    exact ⟨rfl, rfl⟩
/-- The reference's reckon. -/
theorem reckon_is (w : World) (k a b : Int) (ha : ok32 a) (hb : ok32 b) : Calls Try.prog 36 #[.int .i64 k, .int .i32 a, .int .i32 b] w fun e w' => e = .returned (.int .i32 (sumN k a b)) ∧ w' = w := by
  have hdiv := fun W => rdiv_is W a b ha hb
  have hmul : -4611686018427387904 ≤ a * b ∧ a * b ≤ 4611686018427387904 := by
    have h : (a * b).natAbs ≤ 2147483648 * 2147483648 := by
      rw [Int.natAbs_mul]
      exact Nat.mul_le_mul (by unfold ok32 at ha; omega) (by unfold ok32 at hb; omega)
    omega
  unfold ok32 at ha hb
  by_cases h3 : k = 3
  · subst h3
    go_enter Try.func36, Try.ntmps36
    go_wp2_with fail
    refine (round_is _ _).mono ?_
    rintro e w1 ⟨rfl, rfl⟩
    go_wp2_with fail
    go_ret
    exact ⟨by simp [sumN], rfl⟩
  have b3 : (k == 3) = false := by rw [beq_eq_false_iff_ne]; exact h3
  by_cases h4 : k = 4
  · subst h4
    go_enter Try.func36, Try.ntmps36
    go_wp2_with fail
    refine (round_is _ _).mono ?_
    rintro e w1 ⟨rfl, rfl⟩
    go_wp2_with fail
    go_ret
    exact ⟨by simp [sumN], rfl⟩
  have b4 : (k == 4) = false := by rw [beq_eq_false_iff_ne]; exact h4
  by_cases h5 : k = 5
  · subst h5
    go_enter Try.func36, Try.ntmps36
    go_wp2_with fail
    refine (round_is _ _).mono ?_
    rintro e w1 ⟨rfl, rfl⟩
    go_wp2_with fail
    go_ret
    exact ⟨by simp [sumN], rfl⟩
  have b5 : (k == 5) = false := by rw [beq_eq_false_iff_ne]; exact h5
  by_cases h6 : k = 6
  · subst h6
    go_enter Try.func36, Try.ntmps36
    go_wp2_with fail
    refine (hdiv _).mono ?_
    rintro e w1 ⟨rfl, rfl⟩
    go_wp2_with fail
    go_ret
    exact ⟨by simp [sumN], rfl⟩
  have b6 : (k == 6) = false := by rw [beq_eq_false_iff_ne]; exact h6
  by_cases h7 : k = 7
  · subst h7
    by_cases hab : a < b
    · go_enter Try.func36, Try.ntmps36
      go_wp2_with fail
      go_ret
      exact ⟨by simp [sumN, flagN, hab], rfl⟩
    · have hab' : decide (a < b) = false := decide_eq_false hab
      go_enter Try.func36, Try.ntmps36
      go_wp2_with fail
      go_ret
      exact ⟨by simp [sumN, flagN, hab'], rfl⟩
  have b7 : (k == 7) = false := by rw [beq_eq_false_iff_ne]; exact h7
  by_cases hab : a = b
  · subst hab
    go_enter Try.func36, Try.ntmps36
    go_wp2_with fail
    go_ret
    exact ⟨by simp [sumN, flagN, h3, h4, h5, h6, h7], rfl⟩
  · have hab' : (a == b) = false := by rw [beq_eq_false_iff_ne]; exact hab
    go_enter Try.func36, Try.ntmps36
    go_wp2_with fail
    go_ret
    exact ⟨by simp [sumN, flagN, h3, h4, h5, h6, h7, hab], rfl⟩
end Go.Proofs.Ytihegdjdgklbgaa
