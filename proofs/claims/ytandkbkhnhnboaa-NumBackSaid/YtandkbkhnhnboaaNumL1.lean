/- The walks of the laws NumAny, NumLong, NumFour, NumCut. -/
import Derived.Test.YtandkbkhnhnboaaNumB
namespace Go.Proofs.Ytandkbkhnhnboaa
open Go.RowKit

set_option maxRecDepth 100000 in
set_option maxHeartbeats 1000000 in
theorem any_walk (w : World) (A : Option Addr) (n c : Nat) (l : List UInt8) (hr : Rb w A n c l) :
    Calls Try.prog 4 #[.slice A n c] w (Yes w) := by
  go_enter Try.func4, Try.ntmps4
  go_wp2_with fail
  refine (begun_any w).mono ?_
  rintro e w1 ⟨rfl, e1⟩
  go_wp2_with fail
  refine (short_any A n c 60 w1 hr.max).mono ?_
  rintro e w2 ⟨rfl, rfl⟩
  have hr1 : Rb w1 A (min n 60) c (l.take (min n 60)) := (hr.ext e1).take (by omega)
  go_wp2_with fail
  refine (get_any _ _ _ _ _ hr1).mono ?_
  rintro e w2 ⟨rfl, rfl⟩
  go_wp2_with fail
  refine (rget_any _ _ _ _ _ hr1).mono ?_
  rintro e w2 ⟨rfl, rfl⟩
  go_wp2_with fail
  refine (text_any _ _ _ _ _ hr1).mono ?_
  rintro e w2 ⟨rfl, rfl⟩
  go_wp2_with fail
  refine (rtext_any _ _ _ _ _ hr1).mono ?_
  rintro e w2 ⟨rfl, rfl⟩
  go_wp2_with fail
  go_ret
  exact ⟨rfl, e1⟩
set_option maxRecDepth 100000 in
theorem or128b : ∀ n : Nat, n < 256 → ∃ m : Nat, m < 256 ∧ bits BinOp.or IntKind.u8 (n : Int) 128 = (m : Int) := by
  intro n hn
  exact ⟨n % 128 + 128, by omega, or128_nat n hn⟩

/-- What holds at the head of NumLong's loop: some bytes in a slice of the call's own. -/
def LongRel (w : World) (N : Nat) (v i : Value) (wr : World) : Prop :=
  ∃ B m d pre k, v = .slice B m d ∧ i = .int .i64 (k : Nat) ∧ Own wr w.heap.size 5 1 B m d (bcs pre) ∧ Ext w wr ∧ m = k ∧ k ≤ N

set_option maxRecDepth 100000 in
set_option maxHeartbeats 1000000 in
theorem long_walk (w : World) (n : Int) (_h0 : -9223372036854775808 ≤ n) (_h1 : n ≤ 9223372036854775807) (x : Nat) (hx : x < 256) (y : Nat) (hy : y < 256) :
    Calls Try.prog 5 #[.int .i64 n, .int .u8 (x : Nat), .int .u8 (y : Nat)] w (Yes w) := by
  obtain ⟨i, hi, hz0, hz1, hz2⟩ := info_parts info_u8
  by_cases hn : n < 0 ∨ 14 < n
  · rcases hn with hn | hn
    all_goals
      go_enter Try.func5, Try.ntmps5
      go_wp2_with fail
      refine (begun_any w).mono ?_
      rintro e w1 ⟨rfl, e1⟩
      go_wp2_with fail
      go_ret
      exact ⟨rfl, e1⟩
  · obtain ⟨N, rfl⟩ := Int.eq_ofNat_of_zero_le (show 0 ≤ n by omega)
    have hN : N ≤ 14 := by omega
    clear hn _h0 _h1
    obtain ⟨z, hz, hor⟩ := or128b y hy
    go_enter Try.func5, Try.ntmps5
    go_wp2_with fail
    refine (begun_any w).mono ?_
    rintro e w1 ⟨rfl, e1⟩
    go_wp2_with fail
    go_loopw [8, 9] (fun v i wr => LongRel w N v i wr) (fun _ i _ => N - (intOf i).toNat)
    case atStart => exact ⟨none, 0, 0, [], 0, rfl, rfl, Own.nil_ _ _ _ _, e1, rfl, Nat.zero_le _⟩
    case round =>
      obtain ⟨B, m, d, pre, k, rfl, rfl, ho, e2, hm, hmN⟩ := hrel
      subst hm
      have hb := e2.size
      by_cases hlt : m < N
      · go_wp2_with (at_builtin; refine wpList_append_new _ rfl _ _ 22 rfl w.heap.size 5 i (.int .u8 0) 1 1 Try.underlying22 hi hz0 hz1 hz2 rfl (by decide) B m d _ rfl ho 1 _ rfl rfl (by simp [Value.oneCell']) (by unfold maxLen; omega) (by omega) hb ?_; intro B' d' w2 ho' hg' hw')
        go_roundw
        case rel =>
          refine ⟨B', m + 1, d', pre ++ [UInt8.ofNat z], m + 1, rfl, by go_num, ?_, e2.own hg' ho.blk_ge, rfl, hlt⟩
          rw [bcs_append, cell_byte hz]
          exact ho'
        case measure => simp [intOf]; omega
      · go_wp2_with (at_builtin; refine wpList_append_new _ rfl _ _ 22 rfl w.heap.size 5 i (.int .u8 0) 1 1 Try.underlying22 hi hz0 hz1 hz2 rfl (by decide) B m d _ rfl ho 1 _ rfl rfl (by simp [Value.oneCell']) (by unfold maxLen; omega) (by omega) hb ?_; intro B' d' w2 ho' hg' hw')
        have hr : Rb w2 B' (m + 1) d' (pre ++ [UInt8.ofNat x]) := Rb.of ho'.rd (by rw [bcs_append, cell_byte hx])
        have e3 : Ext w w2 := e2.own hg' ho.blk_ge
        refine (get_any _ _ _ _ _ hr).mono ?_
        rintro e w3 ⟨rfl, rfl⟩
        go_wp2_with fail
        refine (rget_any _ _ _ _ _ hr).mono ?_
        rintro e w3 ⟨rfl, rfl⟩
        go_wp2_with fail
        go_ret
        exact ⟨rfl, e3⟩

theorem less_four (a b : Nat) (ha : a < 4294967296) (hb : b < 4294967296) : Op.bytesLess (fourL a) (fourL b) = decide (a < b) := by
  have lt (p q : Nat) (hp : p < 256) (hq : q < 256) : (UInt8.ofNat p < UInt8.ofNat q) = (p < q) := by
    rw [UInt8.lt_iff_toNat_lt, toNat_ofNat8 hp, toNat_ofNat8 hq]
  have eq (p q : Nat) (hp : p < 256) (hq : q < 256) : (UInt8.ofNat p == UInt8.ofNat q) = decide (p = q) := by
    rw [Bool.eq_iff_iff]
    simp only [beq_iff_eq, decide_eq_true_eq]
    constructor
    · intro h
      have := congrArg UInt8.toNat h
      rwa [toNat_ofNat8 hp, toNat_ofNat8 hq] at this
    · rintro rfl; rfl
  unfold fourL
  simp only [Op.bytesLess, lt _ _ (show a / 16777216 < 256 by omega) (show b / 16777216 < 256 by omega), lt _ _ (show a / 65536 % 256 < 256 by omega) (show b / 65536 % 256 < 256 by omega), lt _ _ (show a / 256 % 256 < 256 by omega) (show b / 256 % 256 < 256 by omega), lt _ _ (show a % 256 < 256 by omega) (show b % 256 < 256 by omega),
    eq _ _ (show a / 16777216 < 256 by omega) (show b / 16777216 < 256 by omega), eq _ _ (show a / 65536 % 256 < 256 by omega) (show b / 65536 % 256 < 256 by omega), eq _ _ (show a / 256 % 256 < 256 by omega) (show b / 256 % 256 < 256 by omega), eq _ _ (show a % 256 < 256 by omega) (show b % 256 < 256 by omega)]
  rw [Bool.eq_iff_iff]
  simp only [Bool.or_eq_true, Bool.and_eq_true, decide_eq_true_eq, Bool.and_false, Bool.or_false]
  omega
theorem four_inj (a b : Nat) (ha : a < 4294967296) (hb : b < 4294967296) : fourL a = fourL b ↔ a = b := by
  constructor
  · intro h
    unfold fourL at h
    simp only [List.cons.injEq, and_true] at h
    obtain ⟨h1, h2, h3, h4⟩ := h
    have h1 := congrArg UInt8.toNat h1
    have h2 := congrArg UInt8.toNat h2
    have h3 := congrArg UInt8.toNat h3
    have h4 := congrArg UInt8.toNat h4
    rw [toNat_ofNat8 (by omega), toNat_ofNat8 (by omega)] at h1 h2 h3 h4
    omega
  · rintro rfl; rfl

set_option maxRecDepth 100000 in
set_option maxHeartbeats 1000000 in
theorem four_walk (w : World) (a : Nat) (ha : a < 4294967296) (b : Nat) (hb : b < 4294967296) :
    Calls Try.prog 8 #[.int .u32 (a : Nat), .int .u32 (b : Nat)] w (Yes w) := by
  go_enter Try.func8, Try.ntmps8
  go_wp2_with fail
  refine (begun_any w).mono ?_
  rintro e w1 ⟨rfl, e1⟩
  go_wp2_with fail
  refine (four_any a w1 ha).mono ?_
  rintro e w2 ⟨A2, m2, d2, rfl, ho2, e2⟩
  have hm2 : m2 = 4 := by have := ho2.len; rw [bcs_length, four_len] at this; omega
  subst hm2
  go_wp2_with fail
  refine (four_any b w2 hb).mono ?_
  rintro e w3 ⟨A3, m3, d3, rfl, ho3, e3⟩
  have hm3 : m3 = 4 := by have := ho3.len; rw [bcs_length, four_len] at this; omega
  subst hm3
  have hcv2 := run_string_of (P := Try.prog) w3 22 9 5 Try.underlying22 Try.underlying5 Try.underlying9 _ _ _ _ ((Rb.of ho2.rd rfl).ext e3)
  have hcv3 := run_string_of (P := Try.prog) w3 22 9 5 Try.underlying22 Try.underlying5 Try.underlying9 _ _ _ _ (Rb.of ho3.rd rfl)
  have h1 := less_four a b ha hb
  have h2 : (fourL a == fourL b) = ((a : Int) == (b : Int)) := by
    rw [Bool.eq_iff_iff]
    simp only [beq_iff_eq, four_inj a b ha hb]
    omega
  go_wp2_with fail
  go_ret
  exact ⟨rfl, e1.trans (e2.trans e3)⟩
end Go.Proofs.Ytandkbkhnhnboaa
