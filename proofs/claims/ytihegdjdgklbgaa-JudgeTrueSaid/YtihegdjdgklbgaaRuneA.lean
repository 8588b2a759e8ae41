/- The walks of package runes: Count, At. -/
import Derived.Test.YtihegdjdgklbgaaRuneV
namespace Go.Proofs.Ytihegdjdgklbgaa
set_option maxRecDepth 100000
open Go.RowKit

/-- The n-th rune; 0, where there is none. -/
def atL (l : List UInt8) (n : Int) : Nat := if 0 ≤ n then (((rs l)[n.toNat]?).map (·.1)).getD 0 else 0

def AtRel (w : World) (l : List UInt8) (N : Nat) (n : Value) (w' : World) : Prop :=
  ∃ p k : Nat, w' = w.iter (bs l) p ∧ n = .int .i64 ((N : Int) - k) ∧ k ≤ N ∧ k ≤ p ∧ p ≤ l.length ∧ (rs l)[N]? = (rs (l.drop p))[N - k]?
def AtNeg (w : World) (l : List UInt8) (N : Int) (n : Value) (w' : World) : Prop :=
  ∃ p k : Nat, ∃ m : Int, w' = w.iter (bs l) p ∧ n = .int .i64 m ∧ (m = N - k ∨ m = N - k + 18446744073709551616) ∧ -9223372036854775808 ≤ m ∧ m ≤ 9223372036854775807 ∧ k ≤ p ∧ p ≤ l.length

set_option maxRecDepth 100000 in
set_option maxHeartbeats 1000000 in
theorem at_any (w : World) (l : List UInt8) (hl : l.length ≤ 1099511627776) (n : Int) (h0 : -9223372036854775808 ≤ n) (h1 : n ≤ 9223372036854775807) :
    Calls Try.prog 60 #[.string (bs l), .int .i64 n] w fun e w' => e = .returned (.int .i32 (atL l n : Nat)) ∧ Ext w w' := by
  unfold atL
  by_cases hn : 0 ≤ n
  · rw [if_pos hn]
    obtain ⟨N, rfl⟩ := Int.eq_ofNat_of_zero_le hn
    rw [Int.toNat_natCast]
    go_enter Try.func60, Try.ntmps60
    go_wp2_with fail
    go_loopw [1] (fun n w' => AtRel w l N n w') (fun _ w' => l.length - w'.iterPos w.heap.size)
    case atStart => exact ⟨0, 0, rfl, by simp, Nat.zero_le _, Nat.zero_le _, Nat.zero_le _, by simp⟩
    case round =>
      obtain ⟨p, k, rfl, rfl, hkN, hk, hp, hr⟩ := hrel
      by_cases hlt : p < l.length
      · have hnx := next_yes w l p hlt
        have hd := dec_at_le hlt
        rw [rs_at hlt] at hr
        generalize dec (l.drop p) = d at *
        have Hr := Lib.hid hr
        clear hr
        by_cases hz : k = N
        · subst hz
          have hsub : (k : Int) - k = 0 := by omega
          rw [hsub]
          go_wp2_with fail
          go_ret
          have hr := Hr.out
          rw [Nat.sub_self] at hr
          exact ⟨by rw [hr]; rfl, Ext.iter _ _⟩
        · have hb : ((N : Int) - k == 0) = false := by rw [beq_eq_false_iff_ne]; omega
          go_wp2_with fail
          go_roundw
          case rel =>
            refine ⟨_, k + 1, rfl, by go_num, by omega, by omega, hd.2, ?_⟩
            rw [Hr.out, show N - k = (N - (k + 1)) + 1 by omega]
            rfl
          case measure => simp; omega
      · obtain rfl : p = l.length := by omega
        have hnx := next_no w l l.length hlt
        rw [rs_end (Nat.le_refl _)] at hr
        have Hr := Lib.hid hr
        clear hr
        go_wp2_with fail
        go_ret
        exact ⟨by rw [Hr.out]; rfl, Ext.iter _ _⟩
  · rw [if_neg hn]
    go_enter Try.func60, Try.ntmps60
    go_wp2_with fail
    go_loopw [1] (fun n' w' => AtNeg w l n n' w') (fun _ w' => l.length - w'.iterPos w.heap.size)
    case atStart => exact ⟨0, 0, n, rfl, rfl, by omega, h0, h1, Nat.zero_le _, Nat.zero_le _⟩
    case round =>
      obtain ⟨p, k, m, rfl, rfl, hm, hm0, hm1, hk, hp⟩ := hrel
      by_cases hlt : p < l.length
      · have hnx := next_yes w l p hlt
        have hd := dec_at_le hlt
        generalize dec (l.drop p) = d at *
        have hb : (m == 0) = false := by rw [beq_eq_false_iff_ne]; omega
        have hw : ∃ q : Int, IntKind.i64.wrap (m - 1) = q ∧ (q = n - (k + 1 : Nat) ∨ q = n - (k + 1 : Nat) + 18446744073709551616) ∧ -9223372036854775808 ≤ q ∧ q ≤ 9223372036854775807 := by
          by_cases hmin : m = -9223372036854775808
          · subst hmin
            exact ⟨9223372036854775807, rfl, by omega, by decide, by decide⟩
          · exact ⟨m - 1, IntWalk.i64_in _ (by omega), by omega, by omega, by omega⟩
        obtain ⟨q, hq, hq1, hq2, hq3⟩ := hw
        have Hm := Lib.hid hm
        have Hq := Lib.hid hq1
        clear hm hq1
        go_wp2_with fail
        go_roundw
        case rel => exact ⟨_, k + 1, q, rfl, rfl, Hq.out, hq2, hq3, by omega, hd.2⟩
        case measure => simp; omega
      · obtain rfl : p = l.length := by omega
        have hnx := next_no w l l.length hlt
        go_wp2_with fail
        go_ret
        exact ⟨rfl, Ext.iter _ _⟩
end Go.Proofs.Ytihegdjdgklbgaa
