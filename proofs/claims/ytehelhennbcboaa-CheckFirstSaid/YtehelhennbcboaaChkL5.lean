/- The walk of the law CheckCells. -/
import Derived.Test.YtehelhennbcboaaChkL4
namespace Go.Proofs.Ytehelhennbcboaa
open Go.RowKit

/-- An operation with halts behind it. -/
def haltsL (o : OpT) (k : Nat) : List OpT := o :: List.replicate k ((0 : Int), (0 : Int), (0 : Int), (0 : Int))
theorem haltsL_succ (o : OpT) (k : Nat) : haltsL o (k + 1) = haltsL o k ++ [((0 : Int), (0 : Int), (0 : Int), (0 : Int))] := by
  unfold haltsL; rw [List.replicate_succ', List.cons_append]
theorem haltsL_len (o : OpT) (k : Nat) : (haltsL o k).length = k + 1 := by simp [haltsL]
theorem kind_of (x : Int) : ∃ r : Int, (IntKind.i64.wrap (x.tmod 16 + 16)).tmod 16 = r ∧ (x.tmod 16 + 16).tmod 16 = r ∧ 0 ≤ r ∧ r ≤ 15 ∧ -15 ≤ x.tmod 16 ∧ x.tmod 16 ≤ 15 := by
  have h1 : -16 < x.tmod 16 := Int.lt_tmod_of_pos x (by decide)
  have h2 : x.tmod 16 < 16 := Int.tmod_lt_of_pos x (by decide)
  have e : IntKind.i64.wrap (x.tmod 16 + 16) = x.tmod 16 + 16 := by rw [IntKind.wrap_i64]; omega
  have h3 : (x.tmod 16 + 16).tmod 16 = (x.tmod 16 + 16) % 16 := Int.tmod_eq_emod_of_nonneg (by omega)
  exact ⟨_, by rw [e], rfl, by rw [h3]; omega, by rw [h3]; omega, by omega, by omega⟩

set_option maxRecDepth 100000 in
set_option maxHeartbeats 4000000 in
theorem cells_walk (w : World) (x : Int) (_x0 : -9223372036854775808 ≤ x) (_x1 : x ≤ 9223372036854775807) (a : Int) (_a0 : -9223372036854775808 ≤ a) (_a1 : a ≤ 9223372036854775807) (b : Int) (_b0 : -9223372036854775808 ≤ b) (_b1 : b ≤ 9223372036854775807) (c : Int) (_c0 : -9223372036854775808 ≤ c) (_c1 : c ≤ 9223372036854775807) (n : Int) (_n0 : -9223372036854775808 ≤ n) (_n1 : n ≤ 9223372036854775807) :
    Calls Try.prog 6 #[.int .i64 x, .int .i64 a, .int .i64 b, .int .i64 c, .int .i64 n] w (Yes w) := by
  clear _x0 _x1 _a0 _a1 _b0 _b1 _c0 _c1 _n0 _n1
  obtain ⟨r, hr1, hr2, hr3, hr4, hr5, hr6⟩ := kind_of x
  by_cases hn : n < 0 ∨ 10 < n
  · rcases hn with hn | hn
    all_goals
      go_enter Try.func6, Try.ntmps6
      go_wp2_with fail
      refine (begun7_any _).mono ?_
      rintro e w1 ⟨rfl, e1⟩
      go_wp2_with fail
      go_ret
      exact ⟨rfl, e1⟩
  obtain ⟨N, rfl⟩ := Int.eq_ofNat_of_zero_le (show 0 ≤ n by omega)
  have hN : N ≤ 10 := by omega
  obtain ⟨q, hq⟩ : ∃ q, faultL [99, 101, 108, 108, 115] (haltsL (r, a, b, c) N) = q := ⟨_, rfl⟩
  have hf := fun W A d h => fault_is W [99, 101, 108, 108, 115] A (1 + N) d (haltsL (r, a, b, c) N) (by decide) h hq
  have hrf := fun W A d h => rfault_is W [99, 101, 108, 108, 115] A (1 + N) d (haltsL (r, a, b, c) N) (by decide) h hq
  have hm := fun W A d h => may_is W [99, 101, 108, 108, 115] A (1 + N) d (haltsL (r, a, b, c) N) (by decide) h (b := q == -1) (by rw [hq])
  unfold pAgg at hf hrf hm
  have Hf := Lib.hid hf
  have Hrf := Lib.hid hrf
  have Hm := Lib.hid hm
  clear hf hrf hm hq hn
  obtain ⟨i0, hi, hz0, hz1, hz2⟩ := info_parts info_op
  go_enter Try.func6, Try.ntmps6
  go_wp2_with fail
  refine (begun7_any _).mono ?_
  rintro e w1 ⟨rfl, e1⟩
  go_wp2_with fail
  generalize hW0 : World.alloc (World.alloc w1 _) _ = W0
  have x0 : Ext w1 W0 := by subst hW0; exact (Ext.alloc _ _).trans (Ext.alloc _ _)
  have hG : Grow W0 w1.heap.size (w1.heap.size + 1) [99, 101, 108, 108, 115] (some ⟨w1.heap.size, 0, none⟩) 1 1 (haltsL (r, a, b, c) 0) := by
    subst hW0
    refine ⟨PBox.new _ _ _ _ _ _ (by simp), ?_, by simp [blk], by omega⟩
    exact (Own.made w1 w1.heap.size 30 4 (opcs [(r, a, b, c)]) 1 (Nat.le_refl _) (by decide) rfl).ext (Ext.alloc _ _)
  clear hW0
  go_loopw [13] (fun i w' => ∃ (k : Nat) (B : Option Addr) (d : Nat), i = .int .i64 (k : Nat) ∧ k ≤ N ∧ Grow w' w1.heap.size (w1.heap.size + 1) [99, 101, 108, 108, 115] B (1 + k) d (haltsL (r, a, b, c) k) ∧ Ext w1 w') (fun i _ => N - (intOf i).toNat)
  case atStart => exact ⟨0, _, 1, rfl, Nat.zero_le _, hG, x0⟩
  case round =>
    obtain ⟨k, B, d, rfl, hk, hg, he⟩ := hrel
    obtain ⟨p0, p1, p2, p3⟩ := id hg.1
    by_cases hlt : k < N
    · go_wp2_with (at_builtin; refine wpList_append_new _ rfl _ _ 22 rfl w1.heap.size 30 i0 (.agg #[.int .i64 0, .int .i64 0, .int .i64 0, .int .i64 0]) 4 32 Try.underlying22 hi hz0 hz1 hz2 rfl (by decide) B (1 + k) d _ rfl hg.2.1 1 (ocs (0, 0, 0, 0)) rfl rfl (by simp [ocs, Value.oneCell']) (by unfold maxLen; omega) (by omega) hg.lt ?_; intro B' d' w' ho' hg' hw'; obtain ⟨q0, q1, q2, q3⟩ := hg.mid hg')
      go_roundw
      case rel => exact ⟨k + 1, B', d', by go_num, hlt, by rw [haltsL_succ]; exact hg.push hg' ho' hw', hg.out (Nat.le_refl _) he hg' _⟩
      case measure => simp [intOf]; omega
    · obtain rfl : k = N := by omega
      go_wp2_with fail
      refine (Hrf.out _ _ _ hg.ro).mono ?_
      rintro e w3 ⟨rfl, e3⟩
      have hG3 := hg.ext e3
      clear p0 p1 p2 p3
      obtain ⟨p0, p1, p2, p3⟩ := id hG3.1
      go_wp2_with fail
      refine (Hf.out _ _ _ hG3.ro).mono ?_
      rintro e w4 ⟨rfl, e4⟩
      have hG4 := hG3.ext e4
      clear p0 p1 p2 p3
      obtain ⟨p0, p1, p2, p3⟩ := id hG4.1
      go_wp2_with fail
      refine (Hm.out _ _ _ hG4.ro).mono ?_
      rintro e w5 ⟨rfl, e5⟩
      go_wp2_with fail
      go_ret
      exact ⟨by simp, (((e1.trans he).trans e3).trans e4).trans e5⟩
end Go.Proofs.Ytehelhennbcboaa
