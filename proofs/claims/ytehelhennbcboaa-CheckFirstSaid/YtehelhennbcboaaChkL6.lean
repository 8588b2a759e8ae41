/- The walk of the law CheckFirst. -/
import Derived.Test.YtehelhennbcboaaChkL5
import Derived.Test.YtehelhennbcboaaRow
namespace Go.Proofs.Ytehelhennbcboaa
open Go.RowKit

def badV (l : List Int) (i : Nat) : Int := if (i : Int) ∈ l then 32 else i
def firstL (l : List Int) (k : Nat) : List OpT := (List.range k).map fun i : Nat => ((15 : Int), badV l i, (0 : Int), (0 : Int))
def firstI (l : List Int) : Nat → Int
  | 0 => -1
  | k + 1 => if firstI l k < 0 ∧ (k : Int) ∈ l then k else firstI l k
theorem firstL_succ (l : List Int) (k : Nat) : firstL l (k + 1) = firstL l k ++ [(15, badV l k, 0, 0)] := by unfold firstL; rw [List.range_succ, List.map_append]; rfl
theorem firstL_len (l : List Int) (k : Nat) : (firstL l k).length = k := by simp [firstL]
theorem badGo_snoc (m : Nat) (o : OpT) : ∀ (a : List OpT) (k : Nat), badGo m k (a ++ [o]) = if badGo m k a < 0 then (if mayL o m then -1 else ((k + a.length : Nat) : Int)) else badGo m k a
  | [], k => by
    rw [List.nil_append, badGo_cons]
    have h : badGo m k [] = -1 := rfl
    rw [h, if_pos (show (-1 : Int) < 0 by omega)]; rfl
  | x :: a, k => by
    rw [List.cons_append, badGo_cons, badGo_cons, badGo_snoc m o a (k + 1)]
    by_cases h : mayL x m = true
    · rw [if_pos h, if_pos h, List.length_cons]
      rw [show k + 1 + a.length = k + (a.length + 1) by omega]
    · rw [if_neg h, if_neg h, if_neg (by omega)]
theorem firstI_bd (l : List Int) : ∀ k : Nat, -1 ≤ firstI l k ∧ firstI l k ≤ k
  | 0 => by simp [firstI]
  | k + 1 => by
    have := firstI_bd l k
    unfold firstI
    split <;> omega
theorem bad_first (l : List Int) (m : Nat) : ∀ k : Nat, k ≤ 30 → badGo m 0 (firstL l k) = firstI l k
  | 0, _ => rfl
  | k + 1, h => by
    have hb := firstI_bd l k
    rw [firstL_succ, badGo_snoc, bad_first l m k (by omega), firstL_len, Nat.zero_add]
    show _ = if firstI l k < 0 ∧ (k : Int) ∈ l then (k : Int) else firstI l k
    have hm : mayL (15, badV l k, 0, 0) m = decide (¬ (k : Int) ∈ l) := by
      rw [may_15]
      unfold badV
      by_cases hk : (k : Int) ∈ l
      · rw [if_pos hk]; simp [cellI, hk]
      · rw [if_neg hk]; simp [cellI, hk]; omega
    by_cases hk : (k : Int) ∈ l
    · rw [hm, decide_eq_false (fun h => h hk)]
      by_cases h0 : firstI l k < 0
      · rw [if_pos h0, if_pos (⟨h0, hk⟩ : firstI l k < 0 ∧ (k : Int) ∈ l), if_neg (by simp)]
      · rw [if_neg h0, if_neg (fun h : firstI l k < 0 ∧ (k : Int) ∈ l => h0 h.1)]
    · rw [hm, decide_eq_true hk, if_neg (fun h : firstI l k < 0 ∧ (k : Int) ∈ l => hk h.2), if_pos rfl]
      by_cases h0 : firstI l k < 0
      · rw [if_pos h0]; omega
      · rw [if_neg h0]
theorem first_fault (l : List Int) {k : Nat} (h0 : 1 ≤ k) (h : k ≤ 30) : faultL [102, 105, 114, 115, 116] (firstL l k) = firstI l k := by
  unfold faultL
  have hf : formL [102, 105, 114, 115, 116] (firstL l k) = true := by
    unfold formL
    rw [firstL_len]
    simp only [Bool.and_eq_true, decide_eq_true_eq, List.all_eq_true]
    refine ⟨⟨⟨by decide, h0⟩, by omega⟩, fun o ho => ?_⟩
    unfold firstL at ho
    obtain ⟨i, hi, rfl⟩ := List.mem_map.1 ho
    have := List.mem_range.1 hi
    have hb : 0 ≤ badV l i ∧ badV l i ≤ 32 := by unfold badV; split <;> omega
    simp [smallO, smallI]; omega
  rw [hf, if_pos rfl, bad_first l _ k h]

/-- An operation's box. -/
def OBox (w : World) (g : Nat) (v : Int) : Prop :=
  w.cell? ⟨g, 0, none⟩ = some (.int .i64 15) ∧ w.cell? ⟨g, 1, none⟩ = some (.int .i64 v) ∧ w.cell? ⟨g, 2, none⟩ = some (.int .i64 0) ∧ w.cell? ⟨g, 3, none⟩ = some (.int .i64 0) ∧ w.frozen? ⟨g, 1, none⟩ = false
theorem OBox.new (w : World) (T : TypeId) (v : Int) {g : Nat} (hg : g = w.heap.size) : OBox (w.alloc (.cells #[.int .i64 15, .int .i64 v, .int .i64 0, .int .i64 0] T)) g v := by
  subst hg
  refine ⟨?_, ?_, ?_, ?_, ?_⟩ <;> go_simp
theorem OBox.set_ {w : World} {g : Nat} {v : Int} (h : OBox w g v) (u : Int) : OBox (w.setCell ⟨g, 1, none⟩ (.int .i64 u)) g u := by
  obtain ⟨h0, h1, h2, h3, h4⟩ := h
  refine ⟨?_, ?_, ?_, ?_, ?_⟩ <;> go_simp
theorem mem_take_succ {l : List Int} {j : Nat} (h : j < l.length) (x : Int) : x ∈ l.take (j + 1) ↔ x ∈ l.take j ∨ x = l[j] := by
  rw [List.take_succ_eq_append_getElem h, List.mem_append, List.mem_singleton]
theorem badV_hit {l : List Int} {j i : Nat} (h : j < l.length) (e : l[j] = i) : badV (l.take (j + 1)) i = 32 := by
  unfold badV; rw [if_pos ((mem_take_succ h _).2 (.inr e.symm))]
theorem badV_miss {l : List Int} {j i : Nat} (h : j < l.length) (e : ¬ l[j] = i) : badV (l.take (j + 1)) i = badV (l.take j) i := by
  unfold badV
  have : (i : Int) ∈ l.take (j + 1) ↔ (i : Int) ∈ l.take j := by
    rw [mem_take_succ h]
    exact ⟨fun h => h.resolve_right fun h => e h.symm, .inl⟩
  by_cases hi : (i : Int) ∈ l.take j
  · rw [if_pos hi, if_pos (this.2 hi)]
  · rw [if_neg hi, if_neg (fun h => hi (this.1 h))]

set_option maxRecDepth 100000 in
set_option maxHeartbeats 4000000 in
theorem first_walk (w : World) (n : Int) (_n0 : -9223372036854775808 ≤ n) (_n1 : n ≤ 9223372036854775807) (A : Option Addr) (m c : Nat) (l : List Int) (hl : Ri w .i64 A m c l) :
    Calls Try.prog 7 #[.int .i64 n, .slice A m c] w (Yes w) := by
  clear _n0 _n1
  by_cases hn : n < 1 ∨ 30 < n
  · rcases hn with hn | hn
    all_goals
      go_enter Try.func7, Try.ntmps7
      go_wp2_with fail
      refine (begun7_any _).mono ?_
      rintro e w1 ⟨rfl, e1⟩
      go_wp2_with fail
      go_ret
      exact ⟨rfl, e1⟩
  obtain ⟨N, rfl⟩ := Int.eq_ofNat_of_zero_le (show 0 ≤ n by omega)
  have hN1 : 1 ≤ N := by omega
  have hN : N ≤ 30 := by omega
  have hr := hl.1
  have hm : m = l.length := by have := hr.1; simp at this; omega
  subst hm
  have hmx := hr.2
  have hmax : l.length ≤ c ∧ c ≤ 9223372036854775807 := ⟨hr.2.1, hr.2.2.1⟩
  have hq := first_fault (l.take 5) hN1 hN
  have hf := fun W A d h => fault_is W [102, 105, 114, 115, 116] A N d (firstL (l.take 5) N) (by decide) h hq
  have hmay := fun W A d h => may_is W [102, 105, 114, 115, 116] A N d (firstL (l.take 5) N) (by decide) h (b := firstI (l.take 5) N == -1) (by rw [hq])
  unfold pAgg at hf hmay
  have Hf := Lib.hid hf
  have Hm := Lib.hid hmay
  clear hf hmay hq hn hmx
  obtain ⟨i0, hi, hz0, hz1, hz2⟩ := info_parts info_op
  go_enter Try.func7, Try.ntmps7
  go_wp2_with fail
  refine (begun7_any _).mono ?_
  rintro e w1 ⟨rfl, e1⟩
  go_wp2_with fail
  go_loopw [7, 8] (fun f i w' => ∃ (k : Nat) (B : Option Addr) (d : Nat), i = .int .i64 (k : Nat) ∧ k ≤ N ∧ f = .int .i64 (firstI (l.take 5) k) ∧ Grow w' w1.heap.size w1.heap.size [102, 105, 114, 115, 116] B k d (firstL (l.take 5) k) ∧ Ext w1 w') (fun _ i _ => N - (intOf i).toNat)
  case atStart => exact ⟨0, none, 0, rfl, Nat.zero_le _, rfl, Grow.start w1 _ _ rfl, Ext.alloc _ _⟩
  case round =>
    obtain ⟨k, B, d, rfl, hk, rfl, hg, he⟩ := hrel
    obtain ⟨wo, rfl⟩ : ∃ wo : World, wo = wr := ⟨_, rfl⟩
    obtain ⟨p0, p1, p2, p3⟩ := id hg.1
    by_cases hlt : k < N
    · go_wp2_with fail
      go_loopw [10] (fun i w' => ∃ j : Nat, i = .int .i64 (j : Nat) ∧ j ≤ l.length ∧ j ≤ 5 ∧ OBox w' wo.heap.size (badV (l.take j) k) ∧ Ext wo w') (fun i _ => 5 - (intOf i).toNat)
      case atStart => exact ⟨0, rfl, Nat.zero_le _, by omega, OBox.new wo _ _ rfl, Ext.alloc _ _⟩
      case round =>
        obtain ⟨j, rfl, hj, hj5, hob, hew⟩ := hrel
        obtain ⟨o0, o1, o2, o3, o4⟩ := id hob
        by_cases hjl : j < l.length ∧ j < 5
        · obtain ⟨hjl, hj6⟩ := hjl
          obtain ⟨b, o, rfl, u, hu, hcell⟩ := Rd.at_ (((hr.ext e1).ext he).ext hew) hjl
          have hu2 : u = .int .i64 l[j] := by
            rw [List.getElem?_map, List.getElem?_eq_getElem hjl] at hu
            exact (Option.some.inj hu).symm
          subst hu2
          have hh := Lib.hid (fun e => badV_hit (i := k) hjl e)
          have hms := Lib.hid (fun e => badV_miss (i := k) hjl e)
          clear hu
          generalize l[j] = z at *
          by_cases hz : z = k
          · have bz : (z == (k : Int)) = true := by rw [beq_iff_eq]; exact hz
            have Hz := Lib.hid hz
            clear hz
            go_wp2_with fail
            go_roundw
            case rel => exact ⟨j + 1, by go_num, hjl, hj6, by rw [hh.out Hz.out]; exact hob.set_ 32, hew.setCell (Nat.le_refl _) _⟩
            case measure => simp [intOf]; omega
          · have bz : (z == (k : Int)) = false := by rw [beq_eq_false_iff_ne]; exact hz
            have Hz := Lib.hid hz
            clear hz
            go_wp2_with fail
            go_roundw
            case rel => exact ⟨j + 1, by go_num, hjl, hj6, by rw [hms.out Hz.out]; exact hob, hew⟩
            case measure => simp [intOf]; omega
        · have htk : l.take j = l.take 5 := by rw [List.take_eq_take_iff]; omega
          rw [htk] at hob o1
          have hgw := hg.ext hew
          clear p0 p1 p2 p3
          obtain ⟨p0, p1, p2, p3⟩ := id hgw.1
          have hfs := firstL_succ (l.take 5) k
          have hfi : firstI (l.take 5) (k + 1) = if firstI (l.take 5) k < 0 ∧ (k : Int) ∈ l.take 5 then (k : Int) else firstI (l.take 5) k := rfl
          have hbv : badV (l.take 5) k = 32 ∧ (k : Int) ∈ l.take 5 ∨ badV (l.take 5) k ≠ 32 ∧ ¬ (k : Int) ∈ l.take 5 := by
            unfold badV
            by_cases hi : (k : Int) ∈ l.take 5
            · rw [if_pos hi]; exact .inl ⟨rfl, hi⟩
            · rw [if_neg hi]; exact .inr ⟨by omega, hi⟩
          have Hfs := Lib.hid hfs
          have Hfi := Lib.hid hfi
          have Hbv := Lib.hid hbv
          generalize badV (l.take 5) k = bv at *
          clear hfs hfi hbv htk
          have hways : (j < l.length ∧ ¬ j < 5) ∨ ¬ j < l.length := by omega
          clear hjl
          rcases hways with ⟨hw1, hw2⟩ | hw1
          all_goals
            by_cases hb : bv = 32
            · subst hb
              have hin : RowKit.Hid ((k : Int) ∈ l.take 5) := Lib.hid (by rcases Hbv.out with h | h; exact h.2; exact absurd rfl h.1)
              by_cases hf0 : firstI (l.take 5) k < 0
              · have Hn : RowKit.Hid (firstI (l.take 5) (k + 1) = k) := Lib.hid (by rw [Hfi.out, if_pos ⟨hf0, hin.out⟩])
                go_wp2_with (at_builtin; refine wpList_append_new _ rfl _ _ 22 rfl w1.heap.size 30 i0 (.agg #[.int .i64 0, .int .i64 0, .int .i64 0, .int .i64 0]) 4 32 Try.underlying22 hi hz0 hz1 hz2 rfl (by decide) B k d _ rfl hgw.2.1 1 (ocs (15, 32, 0, 0)) rfl rfl (by simp [ocs, Value.oneCell']) (by unfold maxLen; omega) (by omega) hgw.lt ?_; intro B' d' w' ho' hg' hw'; obtain ⟨q0, q1, q2, q3⟩ := hgw.mid hg')
                go_roundw
                case rel => exact ⟨k + 1, B', d', by go_num, hlt, by rw [Hn.out], by rw [Hfs.out]; exact hgw.push hg' ho' hw', hgw.out (Nat.le_refl _) (he.trans hew) hg' _⟩
                case measure => simp [intOf]; omega
              · have Hn : RowKit.Hid (firstI (l.take 5) (k + 1) = firstI (l.take 5) k) := Lib.hid (by rw [Hfi.out, if_neg (fun h => hf0 h.1)])
                go_wp2_with (at_builtin; refine wpList_append_new _ rfl _ _ 22 rfl w1.heap.size 30 i0 (.agg #[.int .i64 0, .int .i64 0, .int .i64 0, .int .i64 0]) 4 32 Try.underlying22 hi hz0 hz1 hz2 rfl (by decide) B k d _ rfl hgw.2.1 1 (ocs (15, 32, 0, 0)) rfl rfl (by simp [ocs, Value.oneCell']) (by unfold maxLen; omega) (by omega) hgw.lt ?_; intro B' d' w' ho' hg' hw'; obtain ⟨q0, q1, q2, q3⟩ := hgw.mid hg')
                go_roundw
                case rel => exact ⟨k + 1, B', d', by go_num, hlt, by rw [Hn.out], by rw [Hfs.out]; exact hgw.push hg' ho' hw', hgw.out (Nat.le_refl _) (he.trans hew) hg' _⟩
                case measure => simp [intOf]; omega
            · have bb : (bv == 32) = false := by rw [beq_eq_false_iff_ne]; exact hb
              have hnin : ¬ (k : Int) ∈ l.take 5 := by rcases Hbv.out with h | h; exact absurd h.1 hb; exact h.2
              have Hn : RowKit.Hid (firstI (l.take 5) (k + 1) = firstI (l.take 5) k) := Lib.hid (by rw [Hfi.out, if_neg (fun h => hnin h.2)])
              clear hb hnin
              go_wp2_with (at_builtin; refine wpList_append_new _ rfl _ _ 22 rfl w1.heap.size 30 i0 (.agg #[.int .i64 0, .int .i64 0, .int .i64 0, .int .i64 0]) 4 32 Try.underlying22 hi hz0 hz1 hz2 rfl (by decide) B k d _ rfl hgw.2.1 1 (ocs (15, bv, 0, 0)) rfl rfl (by simp [ocs, Value.oneCell']) (by unfold maxLen; omega) (by omega) hgw.lt ?_; intro B' d' w' ho' hg' hw'; obtain ⟨q0, q1, q2, q3⟩ := hgw.mid hg')
              go_roundw
              case rel => exact ⟨k + 1, B', d', by go_num, hlt, by rw [Hn.out], by rw [Hfs.out]; exact hgw.push hg' ho' hw', hgw.out (Nat.le_refl _) (he.trans hew) hg' _⟩
              case measure => simp [intOf]; omega
    · obtain rfl : k = N := by omega
      go_wp2_with fail
      refine (Hf.out _ _ _ hg.ro).mono ?_
      rintro e w3 ⟨rfl, e3⟩
      have hG3 := hg.ext e3
      clear p0 p1 p2 p3
      obtain ⟨p0, p1, p2, p3⟩ := id hG3.1
      go_wp2_with fail
      refine (Hm.out _ _ _ hG3.ro).mono ?_
      rintro e w4 ⟨rfl, e4⟩
      go_wp2_with fail
      go_ret
      exact ⟨by simp, ((e1.trans he).trans e3).trans e4⟩
end Go.Proofs.Ytehelhennbcboaa
