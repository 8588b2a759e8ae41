/- The walks of the laws RunesText, RunesBytes. -/
import Derived.Test.YtmlmeikfgbkhhaaRuneB
import Derived.Test.YtmlmeikfgbkhhaaRuneT
namespace Go.Proofs.Ytmlmeikfgbkhhaa
open Go.RowKit

set_option maxRecDepth 100000 in
theorem cut_any (w : World) (l : List UInt8) (n : Nat) :
    Calls Try.prog 12 #[.string (bs l), .int .i64 (n : Nat)] w fun e w' => e = .returned (.string (bs (l.take n))) ∧ w = w' := by
  by_cases h : n < l.length
  · go_enter Try.func12, Try.ntmps12
    go_wp2_with fail
    go_ret
    exact ⟨by simp, rfl⟩
  · have e : l.take n = l := List.take_of_length_le (by omega)
    rw [e]
    go_enter Try.func12, Try.ntmps12
    go_wp2_with fail
    go_ret
    exact ⟨rfl, rfl⟩
theorem atL_in {l : List UInt8} {n : Int} {k : Nat} (hk : n = k) (h : k < (rs l).length) : atL l n = ((rs l)[k]).1 := by
  subst hk
  unfold atL
  rw [if_pos (by omega), Int.toNat_natCast, List.getElem?_eq_getElem h]; rfl
theorem atL_out {l : List UInt8} {n : Int} (h : n < 0 ∨ ((rs l).length : Int) ≤ n) : atL l n = 0 := by
  unfold atL
  by_cases h0 : 0 ≤ n
  · rw [if_pos h0, List.getElem?_eq_none (by omega)]; rfl
  · rw [if_neg h0]

set_option maxRecDepth 100000 in
set_option maxHeartbeats 2000000 in
theorem text_walk (w : World) (s : List UInt8) (_hs : s.length ≤ maxLen) (n : Int) (n0 : -9223372036854775808 ≤ n) (n1 : n ≤ 9223372036854775807) :
    Calls Try.prog 3 #[.string (bs s), .int .i64 n] w (Yes w) := by
  have hcut := fun W => cut_any W s 100
  have Hcut := Lib.hid hcut
  have hl : (s.take 100).length ≤ 1099511627776 := by rw [List.length_take]; omega
  have hrl := rs_len (s.take 100)
  clear hcut
  go_enter Try.func3, Try.ntmps3
  go_wp2_with fail
  refine (begun_any w).mono ?_
  rintro e w1 ⟨rfl, e1⟩
  go_wp2_with fail
  refine (Hcut.out _).mono ?_
  rintro e w2 ⟨rfl, rfl⟩
  clear Hcut
  generalize s.take 100 = l at *
  go_wp2_with fail
  refine (runes_any w1 l hl).mono ?_
  rintro e w3 ⟨B, d, rfl, ho, e3⟩
  have e4 := e1.trans e3
  clear e1 e3
  by_cases hin : 0 ≤ n ∧ n < ((rs l).length : Int)
  · obtain ⟨k, rfl⟩ := Int.eq_ofNat_of_zero_le hin.1
    have hk : k < (rs l).length := by omega
    obtain ⟨b, o, rfl, hcell⟩ := rune_at ho hk
    have Hat := Lib.hid (congrArg (fun x : Nat => (x : Int)) (atL_in (n := (k : Int)) rfl hk))
    clear hin
    go_wp2_with fail
    refine (valid_any _ l hl).mono ?_
    rintro e w5 ⟨rfl, e5⟩
    have e6 := e4.trans e5
    clear e4 e5
    go_wp2_with fail
    refine (count_any _ l hl).mono ?_
    rintro e w7 ⟨rfl, e7⟩
    have e8 := e6.trans e7
    clear e6 e7
    go_wp2_with fail
    refine (at_is _ l hl _ n0 n1 Hat.out).mono ?_
    rintro e w9 ⟨rfl, e9⟩
    have e10 := e8.trans e9
    clear e8 e9
    go_wp2_with fail
    refine (title_any _ l hl).mono ?_
    rintro e w11 ⟨rfl, e11⟩
    have e12 := e10.trans e11
    clear e10 e11
    go_wp2_with fail
    refine (rtitle_any _ l hl).mono ?_
    rintro e w13 ⟨rfl, e13⟩
    have e14 := e12.trans e13
    clear e12 e13
    go_wp2_with fail
    go_ret
    exact ⟨by simp, e14⟩
  · have Hat := Lib.hid (congrArg (fun x : Nat => (x : Int)) (atL_out (l := l) (n := n) (by omega)))
    have hcase : n < 0 ∨ 0 ≤ n ∧ ((rs l).length : Int) ≤ n := by omega
    clear hin
    rcases hcase with hc | ⟨hc, hd⟩
    all_goals
      go_wp2_with fail
      refine (valid_any _ l hl).mono ?_
      rintro e w5 ⟨rfl, e5⟩
      have e6 := e4.trans e5
      clear e4 e5
      go_wp2_with fail
      refine (count_any _ l hl).mono ?_
      rintro e w7 ⟨rfl, e7⟩
      have e8 := e6.trans e7
      clear e6 e7
      go_wp2_with fail
      refine (at_is _ l hl _ n0 n1 Hat.out).mono ?_
      rintro e w9 ⟨rfl, e9⟩
      have e10 := e8.trans e9
      clear e8 e9
      go_wp2_with fail
      refine (title_any _ l hl).mono ?_
      rintro e w11 ⟨rfl, e11⟩
      have e12 := e10.trans e11
      clear e10 e11
      go_wp2_with fail
      refine (rtitle_any _ l hl).mono ?_
      rintro e w13 ⟨rfl, e13⟩
      have e14 := e12.trans e13
      clear e12 e13
      go_wp2_with fail
      go_ret
      exact ⟨by simp, e14⟩
end Go.Proofs.Ytmlmeikfgbkhhaa
