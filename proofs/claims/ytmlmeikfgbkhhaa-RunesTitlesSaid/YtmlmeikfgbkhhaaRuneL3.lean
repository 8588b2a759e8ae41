/- The walk of the law RunesAt. -/
import Derived.Test.YtmlmeikfgbkhhaaRuneL1
import Derived.Test.YtmlmeikfgbkhhaaReg
namespace Go.Proofs.Ytmlmeikfgbkhhaa
open Go.RowKit

theorem bt_app {a b : List UInt8} {k : Nat} (h : k < a.length) : bt (a ++ b) k = bt a k := by
  unfold bt; rw [List.getD_eq_getElem?_getD, List.getD_eq_getElem?_getD, List.getElem?_append_left h]
theorem cnt_app {a b : List UInt8} {k : Nat} (h : cnt a k) : cnt (a ++ b) k := ⟨by rw [List.length_append]; have := h.1; omega, by rw [bt_app h.1]; exact h.2⟩
theorem dec_app {a b : List UInt8} (ha : a ≠ []) (hw : wellR (dec a) = true) : dec (a ++ b) = dec a := by
  have h0 := List.length_pos_iff.mpr ha
  rcases dec_ways a with ⟨h, e⟩ | ⟨h1, h2, h3, h4, e⟩ | ⟨h1, h2, h3, h4, h5, h6, e⟩ | ⟨h1, h2, h3, h4, h5, h6, h7, e⟩ | ⟨_, e⟩
  · rw [e, dec_low (by rw [bt_app h0]; exact h), bt_app h0]
  · have hc : c2 (a ++ b) = c2 a := by unfold c2; rw [bt_app h0, bt_app h2.1]
    rw [dec_c2 (by rw [bt_app h0]; exact h3), if_pos ⟨cnt_app h2, by rw [hc]; exact h4⟩, hc, e]
  · have hc : c3 (a ++ b) = c3 a := by unfold c3; rw [bt_app h0, bt_app h2.1, bt_app h3.1]
    rw [dec_c3 (by rw [bt_app h0]; exact h4), if_pos ⟨cnt_app h2, cnt_app h3, by rw [hc]; exact h5, by rw [hc]; exact h6⟩, hc, e]
  · have hc : c4 (a ++ b) = c4 a := by unfold c4; rw [bt_app h0, bt_app h2.1, bt_app h3.1, bt_app h4.1]
    rw [dec_c4 (by rw [bt_app h0]; exact h5), if_pos ⟨cnt_app h2, cnt_app h3, cnt_app h4, by rw [hc]; exact h6, by rw [hc]; exact h7⟩, hc, e]
  · rw [e] at hw; simp [wellR] at hw
theorem rs_app : ∀ (n : Nat) (a b : List UInt8), a.length ≤ n → goodL a = true → rs (a ++ b) = rs a ++ rs b
  | 0, a, b, h, _ => by rw [List.eq_nil_of_length_eq_zero (Nat.le_zero.mp h)]; rfl
  | n + 1, a, b, h, hg => by
    by_cases ha : a = []
    · subst ha; rfl
    · have h1 := rs_cons ha
      unfold goodL at hg
      rw [h1, List.all_cons, Bool.and_eq_true] at hg
      have hd := dec_app (b := b) ha hg.1
      have hp := (dec_pos a).1
      have hle := dec_le (List.length_pos_iff.mpr ha)
      rw [rs_cons (l := a ++ b) (by simp [ha]), hd, h1, List.drop_append_of_le_length hle, rs_app n _ b (by rw [List.length_drop]; omega) hg.2]
      rfl
theorem good_app {a b : List UInt8} (ha : goodL a = true) (hb : goodL b = true) : goodL (a ++ b) = true := by
  unfold goodL at *
  rw [rs_app _ a b (Nat.le_refl _) ha, List.all_append, ha, hb]; rfl
theorem atL_app {a b : List UInt8} (ha : goodL a = true) (n : Nat) : atL (a ++ b) n = if n < (rs a).length then atL a n else atL b ((n : Int) - (rs a).length) := by
  by_cases h : n < (rs a).length
  · rw [if_pos h]
    unfold atL
    rw [if_pos (by omega), if_pos (by omega), Int.toNat_natCast, rs_app _ a b (Nat.le_refl _) ha, List.getElem?_append_left h]
  · rw [if_neg h]
    unfold atL
    rw [if_pos (by omega), if_pos (by omega), Int.toNat_natCast, rs_app _ a b (Nat.le_refl _) ha, List.getElem?_append_right (by omega)]
    congr 3; omega

set_option maxRecDepth 100000 in
set_option maxHeartbeats 4000000 in
theorem at_walk (w : World) (s : List UInt8) (_hs : s.length ≤ maxLen) (t : List UInt8) (_ht : t.length ≤ maxLen) (n : Int) (n0 : -9223372036854775808 ≤ n) (n1 : n ≤ 9223372036854775807) :
    Calls Try.prog 9 #[.string (bs s), .string (bs t), .int .i64 n] w (Yes w) := by
  have Hc1 := Lib.hid fun W => cut_any W s 40
  have Hc2 := Lib.hid fun W => cut_any W t 40
  have hla : (s.take 40).length ≤ 40 := by rw [List.length_take]; omega
  have hlb : (t.take 40).length ≤ 40 := by rw [List.length_take]; omega
  go_enter Try.func9, Try.ntmps9
  go_wp2_with fail
  refine (begun_any w).mono ?_
  rintro e w1 ⟨rfl, e1⟩
  go_wp2_with fail
  refine (Hc1.out _).mono ?_
  rintro e w2 ⟨rfl, rfl⟩
  go_wp2_with fail
  refine (Hc2.out _).mono ?_
  rintro e w2 ⟨rfl, rfl⟩
  clear Hc1 Hc2
  generalize s.take 40 = a at *
  generalize t.take 40 = b at *
  have hra := rs_len a
  have hrb := rs_len b
  cases hga : goodL a
  · go_wp2_with fail
    refine (valid_is _ a (by omega) hga).mono ?_
    rintro e w5 ⟨rfl, e5⟩
    go_wp2_with fail
    go_ret
    exact ⟨rfl, e1.trans e5⟩
  cases hgb : goodL b
  · go_wp2_with fail
    refine (valid_is _ a (by omega) hga).mono ?_
    rintro e w5 ⟨rfl, e5⟩
    go_wp2_with fail
    refine (valid_is _ b (by omega) hgb).mono ?_
    rintro e w6 ⟨rfl, e6⟩
    go_wp2_with fail
    go_ret
    exact ⟨rfl, (e1.trans e5).trans e6⟩
  by_cases hn : n < 0 ∨ 100 < n
  · have hcase : n < 0 ∨ 0 ≤ n ∧ 100 < n := by omega
    clear hn
    rcases hcase with hn | ⟨hn, hn'⟩
    all_goals
      go_wp2_with fail
      refine (valid_is _ a (by omega) hga).mono ?_
      rintro e w5 ⟨rfl, e5⟩
      go_wp2_with fail
      refine (valid_is _ b (by omega) hgb).mono ?_
      rintro e w6 ⟨rfl, e6⟩
      go_wp2_with fail
      go_ret
      exact ⟨rfl, (e1.trans e5).trans e6⟩
  obtain ⟨N, rfl⟩ := Int.eq_ofNat_of_zero_le (show 0 ≤ n by omega)
  have hN : N ≤ 100 := by omega
  clear hn n0 n1
  go_wp2_with fail
  refine (valid_is _ a (by omega) hga).mono ?_
  rintro e w5 ⟨rfl, e5⟩
  go_wp2_with fail
  refine (valid_is _ b (by omega) hgb).mono ?_
  rintro e w6 ⟨rfl, e6⟩
  have e7 := (e1.trans e5).trans e6
  clear e1 e5 e6
  go_wp2_with fail
  refine (count_any _ a (by omega)).mono ?_
  rintro e w8 ⟨rfl, e8⟩
  have e9 := e7.trans e8
  clear e7 e8
  go_wp2_with fail
  refine (at_any _ a (by omega) N (by omega) (by omega)).mono ?_
  rintro e w10 ⟨rfl, e10⟩
  have e11 := e9.trans e10
  clear e9 e10
  have hcat : ((9223372036854775807 : Nat) < a.length + b.length) = False := eq_false (by omega)
  have hab : (a ++ b).length ≤ 1099511627776 := by rw [List.length_append]; omega
  have hat := atL_app (b := b) hga N
  have hgab := good_app hga hgb
  have hcn : ((rs (a ++ b)).length : Int) = (rs a).length + (rs b).length := by rw [rs_app _ a b (Nat.le_refl _) hga, List.length_append]; omega
  have Hgab := Lib.hid hgab
  have Hcn := Lib.hid hcn
  by_cases hk : N < (rs a).length
  · rw [if_pos hk] at hat
    have Hat := Lib.hid (congrArg (fun x : Nat => (x : Int)) hat)
    clear hat hgab hcn hga hgb
    go_wp2_with fail
    refine (at_is _ (a ++ b) hab N (by omega) (by omega) Hat.out).mono ?_
    rintro e w13 ⟨rfl, e13⟩
    have e14 := e11.trans e13
    clear e11 e13
    go_wp2_with fail
    refine (count_is _ (a ++ b) hab Hcn.out).mono ?_
    rintro e w15 ⟨rfl, e15⟩
    have e16 := e14.trans e15
    clear e14 e15
    go_wp2_with fail
    refine (count_any _ b (by omega)).mono ?_
    rintro e w17 ⟨rfl, e17⟩
    have e18 := e16.trans e17
    clear e16 e17
    go_wp2_with fail
    refine (valid_is _ (a ++ b) hab Hgab.out).mono ?_
    rintro e w19 ⟨rfl, e19⟩
    have e20 := e18.trans e19
    clear e18 e19
    go_wp2_with fail
    go_ret
    exact ⟨by first | rfl | simp, e20⟩
  · rw [if_neg hk] at hat
    have Hat := Lib.hid (congrArg (fun x : Nat => (x : Int)) hat)
    clear hat hgab hcn hga hgb
    go_wp2_with fail
    refine (at_any _ b (by omega) ((N : Int) - (rs a).length) (by omega) (by omega)).mono ?_
    rintro e w12 ⟨rfl, e12⟩
    replace e11 := e11.trans e12
    clear e12
    go_wp2_with fail
    refine (at_is _ (a ++ b) hab N (by omega) (by omega) Hat.out).mono ?_
    rintro e w13 ⟨rfl, e13⟩
    have e14 := e11.trans e13
    clear e11 e13
    go_wp2_with fail
    refine (count_is _ (a ++ b) hab Hcn.out).mono ?_
    rintro e w15 ⟨rfl, e15⟩
    have e16 := e14.trans e15
    clear e14 e15
    go_wp2_with fail
    refine (count_any _ b (by omega)).mono ?_
    rintro e w17 ⟨rfl, e17⟩
    have e18 := e16.trans e17
    clear e16 e17
    go_wp2_with fail
    refine (valid_is _ (a ++ b) hab Hgab.out).mono ?_
    rintro e w19 ⟨rfl, e19⟩
    have e20 := e18.trans e19
    clear e18 e19
    go_wp2_with fail
    go_ret
    exact ⟨by first | rfl | simp, e20⟩
end Go.Proofs.Ytmlmeikfgbkhhaa
