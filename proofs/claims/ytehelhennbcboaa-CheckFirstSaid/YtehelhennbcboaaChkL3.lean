/- The walk of the law CheckOp. -/
import Derived.Test.YtehelhennbcboaaChkL2
import Derived.Test.YtehelhennbcboaaBox
namespace Go.Proofs.Ytehelhennbcboaa
open Go.RowKit

def timesL (k : Nat) : List OpT := (List.range k).map fun i : Nat => ((15 : Int), ((i : Nat) : Int), (0 : Int), (0 : Int))
theorem timesL_succ (k : Nat) : timesL (k + 1) = timesL k ++ [(15, (k : Int), 0, 0)] := by unfold timesL; rw [List.range_succ, List.map_append]; rfl
theorem timesL_len (k : Nat) : (timesL k).length = k := by simp [timesL]
theorem badGo_app : ∀ (a b : List OpT) (m k : Nat), (∀ o ∈ a, mayL o m = true) → badGo m k (a ++ b) = badGo m (k + a.length) b
  | [], b, m, k, _ => by simp
  | o :: a, b, m, k, h => by
    rw [List.cons_append, badGo_cons, if_pos (h o (List.mem_cons_self ..)), badGo_app a b m (k + 1) (fun x hx => h x (List.mem_cons_of_mem _ hx)), List.length_cons]
    congr 1; omega
theorem times_may {k n : Nat} (hk : k ≤ 32) : ∀ o ∈ timesL k, mayL o n = true := by
  intro o ho
  unfold timesL at ho
  obtain ⟨i, hi, rfl⟩ := List.mem_map.1 ho
  have := List.mem_range.1 hi
  simp [may_15, cellI]; omega
theorem op_fault (t : List UInt8) (o : OpT) {k : Nat} (hk : k ≤ 20) : faultL t (timesL k ++ [o]) = -1 ∨ faultL t (timesL k ++ [o]) = k ∨ faultL t (timesL k ++ [o]) = -2 := by
  unfold faultL
  split
  · rw [badGo_app _ _ _ _ (times_may (by omega)), timesL_len, badGo_cons, Nat.zero_add]
    split
    · exact .inl rfl
    · exact .inr (.inl rfl)
  · exact .inr (.inr rfl)

set_option maxRecDepth 100000 in
set_option maxHeartbeats 4000000 in
theorem op_walk (w : World) (x a b c : Int) (_hx : okI x) (_ha : okI a) (_hb : okI b) (_hc : okI c) (n : Int) (_n0 : -9223372036854775808 ≤ n) (_n1 : n ≤ 9223372036854775807) :
    Calls Try.prog 4 #[opAgg (x, a, b, c), .int .i64 n] w (Yes w) := by
  unfold opAgg
  clear _hx _ha _hb _hc _n0 _n1
  by_cases hn : n < 0 ∨ 20 < n
  · rcases hn with hn | hn
    all_goals
      go_enter Try.func4, Try.ntmps4
      go_wp2_with fail
      refine (begun7_any _).mono ?_
      rintro e w1 ⟨rfl, e1⟩
      go_wp2_with fail
      go_ret
      exact ⟨rfl, (Ext.alloc w _).trans e1⟩
  obtain ⟨N, rfl⟩ := Int.eq_ofNat_of_zero_le (show 0 ≤ n by omega)
  have hN : N ≤ 20 := by omega
  obtain ⟨r, hr⟩ : ∃ r, faultL [111, 110, 101] (timesL N ++ [(x, a, b, c)]) = r := ⟨_, rfl⟩
  have hways := op_fault [111, 110, 101] (x, a, b, c) hN
  rw [hr] at hways
  have hf := fun W A d h => fault_is W [111, 110, 101] A (N + 1) d (timesL N ++ [(x, a, b, c)]) (by decide) h hr
  have hrf := fun W A d h => rfault_is W [111, 110, 101] A (N + 1) d (timesL N ++ [(x, a, b, c)]) (by decide) h hr
  unfold pAgg at hf hrf
  have Hf := Lib.hid hf
  have Hrf := Lib.hid hrf
  have Hways := Lib.hid hways
  clear hf hrf hr hways hn
  obtain ⟨i0, hi, hz0, hz1, hz2⟩ := info_parts info_op
  go_enter Try.func4, Try.ntmps4
  go_wp2_with fail
  refine (begun7_any _).mono ?_
  rintro e w1 ⟨rfl, e1⟩
  have x1 := (Ext.alloc w _).trans e1
  have c0 := e1.cell (show (w.alloc (.cells #[.int .i64 x, .int .i64 a, .int .i64 b, .int .i64 c] 30)).cell? ⟨w.heap.size, 0, none⟩ = some (.int .i64 x) by go_simp)
  have c1 := e1.cell (show (w.alloc (.cells #[.int .i64 x, .int .i64 a, .int .i64 b, .int .i64 c] 30)).cell? ⟨w.heap.size, 1, none⟩ = some (.int .i64 a) by go_simp)
  have c2 := e1.cell (show (w.alloc (.cells #[.int .i64 x, .int .i64 a, .int .i64 b, .int .i64 c] 30)).cell? ⟨w.heap.size, 2, none⟩ = some (.int .i64 b) by go_simp)
  have c3 := e1.cell (show (w.alloc (.cells #[.int .i64 x, .int .i64 a, .int .i64 b, .int .i64 c] 30)).cell? ⟨w.heap.size, 3, none⟩ = some (.int .i64 c) by go_simp)
  clear e1
  go_wp2_with fail
  go_loopw [7] (fun i w' => ∃ (k : Nat) (B : Option Addr) (d : Nat), i = .int .i64 (k : Nat) ∧ k ≤ N ∧ Grow w' w1.heap.size w1.heap.size [111, 110, 101] B k d (timesL k) ∧ Ext w1 w') (fun i _ => N - (intOf i).toNat)
  case atStart => exact ⟨0, none, 0, rfl, Nat.zero_le _, Grow.start w1 _ _ rfl, Ext.alloc _ _⟩
  case round =>
    obtain ⟨k, B, d, rfl, hk, hg, he⟩ := hrel
    obtain ⟨p0, p1, p2, p3⟩ := id hg.1
    by_cases hlt : k < N
    · go_wp2_with (at_builtin; refine wpList_append_new _ rfl _ _ 22 rfl w1.heap.size 30 i0 (.agg #[.int .i64 0, .int .i64 0, .int .i64 0, .int .i64 0]) 4 32 Try.underlying22 hi hz0 hz1 hz2 rfl (by decide) B k d _ rfl hg.2.1 1 (ocs (15, (k : Int), 0, 0)) rfl rfl (by simp [ocs, Value.oneCell']) (by unfold maxLen; omega) (by omega) hg.lt ?_; intro B' d' w' ho' hg' hw'; obtain ⟨q0, q1, q2, q3⟩ := hg.mid hg')
      go_roundw
      case rel => exact ⟨k + 1, B', d', by go_num, hlt, by rw [timesL_succ]; exact hg.push hg' ho' hw', hg.out (Nat.le_refl _) he hg' _⟩
      case measure => simp [intOf]; omega
    · obtain rfl : k = N := by omega
      have d0 := he.cell c0
      have d1 := he.cell c1
      have d2 := he.cell c2
      have d3 := he.cell c3
      go_wp2_with (at_builtin; refine wpList_append_new _ rfl _ _ 22 rfl w1.heap.size 30 i0 (.agg #[.int .i64 0, .int .i64 0, .int .i64 0, .int .i64 0]) 4 32 Try.underlying22 hi hz0 hz1 hz2 rfl (by decide) B k d _ rfl hg.2.1 1 (ocs (x, a, b, c)) rfl rfl (by simp [ocs, Value.oneCell']) (by unfold maxLen; omega) (by omega) hg.lt ?_; intro B' d' w' ho' hg' hw'; obtain ⟨q0, q1, q2, q3⟩ := hg.mid hg')
      have hG := hg.push hg' ho' hw'
      have x2 := x1.trans (hg.out (Nat.le_refl _) he hg' (.slice B' (k + 1) d'))
      clear ho' hg' hw' q0 q1 q2 q3 p0 p1 p2 p3 d0 d1 d2 d3 hg he c0 c1 c2 c3
      refine (Hrf.out _ _ _ hG.ro).mono ?_
      rintro e w3 ⟨rfl, e3⟩
      have hG3 := hG.ext e3
      obtain ⟨p0, p1, p2, p3⟩ := id hG3.1
      have x3 := x2.trans e3
      go_wp2_with fail
      refine (Hf.out _ _ _ hG3.ro).mono ?_
      rintro e w4 ⟨rfl, e4⟩
      have x4 := x3.trans e4
      clear p0 p1 p2 p3
      by_cases r1 : r = -1
      · subst r1
        go_wp2_with fail
        go_ret
        exact ⟨rfl, x4⟩
      by_cases r2 : r = k
      · have b1 : (r == -1) = false := by rw [beq_eq_false_iff_ne]; exact r1
        have b2 : (r == (k : Int)) = true := by rw [beq_iff_eq]; exact r2
        clear r1 r2
        go_wp2_with fail
        go_ret
        exact ⟨rfl, x4⟩
      · have b1 : (r == -1) = false := by rw [beq_eq_false_iff_ne]; exact r1
        have b2 : (r == (k : Int)) = false := by rw [beq_eq_false_iff_ne]; exact r2
        have b3 : (r == -2) = true := by rw [beq_iff_eq]; have := Hways.out; omega
        clear r1 r2
        go_wp2_with fail
        go_ret
        exact ⟨rfl, x4⟩
end Go.Proofs.Ytehelhennbcboaa
