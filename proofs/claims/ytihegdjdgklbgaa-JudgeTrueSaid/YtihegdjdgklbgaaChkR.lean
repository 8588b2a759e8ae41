/- The walks of the reference's takes and mayOp. -/
import Derived.Test.YtihegdjdgklbgaaOpsP
import Derived.Test.YtihegdjdgklbgaaProg
import Derived.LoopTactic
namespace Go.Proofs.Ytihegdjdgklbgaa
set_option maxRecDepth 100000
open Go.RowKit

/-- The most that an operation's k-th number may be; none: any. -/
def limA (x : Int) (n k : Nat) : Option Int := if takesL x ≤ k then some 0 else if x = 1 ∧ k = 1 then none else if x = 9 ∨ x = 10 ∧ k = 1 then some (n : Int) else some 31
def okA (x : Int) (n k : Nat) (v : Int) : Bool := match limA x n k with | none => true | some L => decide (0 ≤ v) && decide (v ≤ L)
def restA (x a b c : Int) (n k : Nat) : Bool := if k = 0 then okA x n 0 a && (okA x n 1 b && okA x n 2 c) else if k = 1 then okA x n 1 b && okA x n 2 c else if k = 2 then okA x n 2 c else true
def argA (a b c : Int) (k : Nat) : Int := if k = 0 then a else if k = 1 then b else c
theorem may_eq {x : Int} (a b c : Int) (n : Nat) (h0 : 0 ≤ x) (h1 : x ≤ 15) : mayL (x, a, b, c) n = restA x a b c n 0 := by
  have hc : x = 0 ∨ x = 1 ∨ x = 2 ∨ x = 3 ∨ x = 4 ∨ x = 5 ∨ x = 6 ∨ x = 7 ∨ x = 8 ∨ x = 9 ∨ x = 10 ∨ x = 11 ∨ x = 12 ∨ x = 13 ∨ x = 14 ∨ x = 15 := by omega
  rcases hc with rfl | rfl | rfl | rfl | rfl | rfl | rfl | rfl | rfl | rfl | rfl | rfl | rfl | rfl | rfl | rfl
  all_goals
    rw [Bool.eq_iff_iff]
    simp [mayL, restA, okA, limA, takesL, cellI, toI]
    try omega
theorem rest_step {x a b c : Int} {n k : Nat} (hk : k < 3) : restA x a b c n k = (okA x n k (argA a b c k) && restA x a b c n (k + 1)) := by
  have hc : k = 0 ∨ k = 1 ∨ k = 2 := by omega
  rcases hc with rfl | rfl | rfl <;> simp [restA, argA]
theorem lim_ways (x : Int) (n k : Nat) :
    (takesL x ≤ k ∧ RowKit.Hid (limA x n k = some 0)) ∨
    (¬ takesL x ≤ k ∧ RowKit.Hid (limA x n k = some (n : Int)) ∧ (x == 1) = false ∧ (x == 9) = true) ∨
    (¬ takesL x ≤ k ∧ RowKit.Hid (limA x n k = some (n : Int)) ∧ (x == 1) = false ∧ (x == 9) = false ∧ (x == 10) = true ∧ ((k : Int) == 1) = true) ∨
    (¬ takesL x ≤ k ∧ RowKit.Hid (limA x n k = some 31) ∧ (x == 1) = false ∧ (x == 9) = false ∧ (x == 10) = false) ∨
    (¬ takesL x ≤ k ∧ RowKit.Hid (limA x n k = some 31) ∧ (x == 1) = true ∧ ((k : Int) == 1) = false ∧ (x == 9) = false ∧ (x == 10) = false) ∨
    (¬ takesL x ≤ k ∧ RowKit.Hid (limA x n k = some 31) ∧ (x == 1) = false ∧ (x == 9) = false ∧ (x == 10) = true ∧ ((k : Int) == 1) = false) ∨
    (¬ takesL x ≤ k ∧ RowKit.Hid (limA x n k = none) ∧ (x == 1) = true ∧ ((k : Int) == 1) = true) := by
  have hb : ∀ y z : Int, (y == z) = decide (y = z) := fun y z => by rw [Bool.eq_iff_iff]; simp
  simp only [hb, decide_eq_true_eq, decide_eq_false_iff_not]
  unfold RowKit.Hid limA
  by_cases ht : takesL x ≤ k
  · exact .inl ⟨ht, by rw [if_pos ht]⟩
  · rw [if_neg ht]
    by_cases e1 : x = 1
    · by_cases ek : k = 1
      · exact .inr (.inr (.inr (.inr (.inr (.inr ⟨ht, by rw [if_pos ⟨e1, ek⟩], e1, by omega⟩)))))
      · exact .inr (.inr (.inr (.inr (.inl ⟨ht, by rw [if_neg (by omega), if_neg (by omega)], e1, by omega, by omega, by omega⟩))))
    · by_cases e9 : x = 9
      · exact .inr (.inl ⟨ht, by rw [if_neg (by omega), if_pos (.inl e9)], e1, e9⟩)
      · by_cases e10 : x = 10
        · by_cases ek : k = 1
          · exact .inr (.inr (.inl ⟨ht, by rw [if_neg (by omega), if_pos (.inr ⟨e10, ek⟩)], e1, e9, e10, by omega⟩))
          · exact .inr (.inr (.inr (.inr (.inr (.inl ⟨ht, by rw [if_neg (by omega), if_neg (by omega)], e1, e9, e10, by omega⟩)))))
        · exact .inr (.inr (.inr (.inl ⟨ht, by rw [if_neg (by omega), if_neg (by omega)], e1, e9, e10⟩)))

set_option maxHeartbeats 1000000 in
theorem rtakes_is (w : World) (c : Int) (h0 : 0 ≤ c) (h1 : c ≤ 15) {t : Int} (ht : takesL c = t) :
    Calls Try.prog 53 #[.int .i64 c] w fun e w' => e = .returned (.int .i64 t) ∧ Ext w w' := by
  subst ht
  have hc : c = 0 ∨ c = 1 ∨ c = 2 ∨ c = 3 ∨ c = 4 ∨ c = 5 ∨ c = 6 ∨ c = 7 ∨ c = 8 ∨ c = 9 ∨ c = 10 ∨ c = 11 ∨ c = 12 ∨ c = 13 ∨ c = 14 ∨ c = 15 := by omega
  rcases hc with rfl | rfl | rfl | rfl | rfl | rfl | rfl | rfl | rfl | rfl | rfl | rfl | rfl | rfl | rfl | rfl
  all_goals
    go_enter Try.func53, Try.ntmps53
    go_wp2_with fail
    go_ret
    exact ⟨rfl, Ext.alloc _ _⟩

def rmW (w : World) (x a b c : Int) : World := (w.alloc (.cells #[.int .i64 x, .int .i64 a, .int .i64 b, .int .i64 c] 46)).alloc (.cells #[.int .i64 a, .int .i64 b, .int .i64 c] 3)
theorem rmW_code (w : World) (x a b c : Int) : (rmW w x a b c).cell? ⟨w.heap.size, 0, none⟩ = some (.int .i64 x) := by
  unfold rmW; go_simp
theorem rmW_arg (w : World) (x a b c : Int) (k : Nat) (hk : k < 3) : (rmW w x a b c).cell? ⟨w.heap.size + 1, k, none⟩ = some (.int .i64 (argA a b c k)) := by
  have hc : k = 0 ∨ k = 1 ∨ k = 2 := by omega
  unfold rmW
  rcases hc with rfl | rfl | rfl
  all_goals
    go_simp
    rfl
theorem rmW_ext (w : World) (x a b c : Int) : Ext w (rmW w x a b c) := (Ext.alloc _ _).trans (Ext.alloc _ _)
def rmRel (x a b c : Int) (n : Nat) (w : World) (i : Value) (w' : World) : Prop := ∃ k : Nat, i = .int .i64 (k : Nat) ∧ k ≤ 3 ∧ mayL (x, a, b, c) n = restA x a b c n k ∧ Ext (rmW w x a b c) w'

set_option maxRecDepth 100000 in
set_option maxHeartbeats 4000000 in
theorem rmay_any (w : World) (x a b c : Int) (n : Nat) :
    Calls Try.prog 44 #[opAgg (x, a, b, c), .int .i64 (n : Nat)] w fun e w' => e = .returned (.bool (mayL (x, a, b, c) n)) ∧ Ext w w' := by
  unfold opAgg
  by_cases hx : x < 0 ∨ 15 < x
  · have Hm : RowKit.Hid (mayL (x, a, b, c) n = false) := Lib.hid (by
      unfold mayL
      dsimp only
      rw [if_neg (by omega), if_neg (by omega), if_neg (by omega), if_neg (by omega), if_neg (by omega), if_neg (by omega), if_neg (by omega)])
    rcases hx with hx | hx
    all_goals
      go_enter Try.func44, Try.ntmps44
      go_wp2_with fail
      go_ret
      exact ⟨by rw [Hm.out]; rfl, (Below.refl _ _).alloc (Nat.le_refl _) _⟩
  have h0 : 0 ≤ x := by omega
  have h1 : x ≤ 15 := by omega
  have Heq := Lib.hid (may_eq a b c n h0 h1)
  clear hx
  go_enter Try.func44, Try.ntmps44
  go_wp2_with fail
  go_loopw [6] (fun i w' => rmRel x a b c n w i w') (fun i _ => 3 - (intOf i).toNat)
  case atStart => exact ⟨0, rfl, by omega, Heq.out, Ext.refl _⟩
  case round =>
    obtain ⟨k, rfl, hk, he, hext⟩ := hrel
    have He := Lib.hid he
    clear he
    by_cases hlt : k < 3
    · have hcode := hext.cell (rmW_code w x a b c)
      obtain ⟨t, ht⟩ : ∃ t, takesL x = t := ⟨_, rfl⟩
      have hw := lim_ways x n k
      have hs := rest_step (x := x) (a := a) (b := b) (c := c) (n := n) hlt
      obtain ⟨v, hv⟩ : ∃ v, argA a b c k = v := ⟨_, rfl⟩
      have hok : ∀ L, limA x n k = some L → okA x n k v = (decide (0 ≤ v) && decide (v ≤ L)) := fun L h => by unfold okA; rw [h]
      have hokn : limA x n k = none → okA x n k v = true := fun h => by unfold okA; rw [h]
      rw [hv] at hs
      rw [ht] at hw
      have Ht := Lib.hid ht
      have Hs := Lib.hid hs
      have Hv := Lib.hid hv
      have Hok := Lib.hid hok
      have Hokn := Lib.hid hokn
      clear ht hs hv hok hokn
      rcases hw with ⟨g, Hl⟩ | ⟨g, Hl, g1, g9⟩ | ⟨g, Hl, g1, g9, g10, gk⟩ | ⟨g, Hl, g1, g9, g10⟩ | ⟨g, Hl, g1, gk, g9, g10⟩ | ⟨g, Hl, g1, g9, g10, gk⟩ | ⟨g, Hl, g1, gk⟩
      rotate_right
      · go_wp2_with fail
        refine (rtakes_is _ x h0 h1 Ht.out).mono ?_
        rintro e w1 ⟨rfl, f1⟩
        have hcode1 := f1.cell hcode
        go_wp2_with fail
        go_roundw
        case rel => exact ⟨k + 1, by go_num, hlt, by rw [He.out, Hs.out, Hokn.out Hl.out, Bool.true_and], hext.trans f1⟩
        case measure => simp [intOf]; omega
      · have Hok2 := Lib.hid (Hok.out _ Hl.out)
        go_wp2_with fail
        refine (rtakes_is _ x h0 h1 Ht.out).mono ?_
        rintro e w1 ⟨rfl, f1⟩
        have hcode1 := f1.cell hcode
        have harg1 := f1.cell (hext.cell (rmW_arg w x a b c k hlt))
        rw [Hv.out] at harg1
        by_cases k1 : v < 0
        · have Hb : RowKit.Hid (okA x n k v = false) := Lib.hid (by rw [Hok2.out, Bool.and_eq_false_iff]; exact .inl (decide_eq_false (by omega)))
          go_wp2_with fail
          go_ret
          exact ⟨by rw [He.out, Hs.out, Hb.out]; rfl, (rmW_ext w x a b c).trans (hext.trans f1)⟩
        by_cases k2 : 0 < v
        · have Hb : RowKit.Hid (okA x n k v = false) := Lib.hid (by rw [Hok2.out, Bool.and_eq_false_iff]; exact .inr (decide_eq_false (by omega)))
          go_wp2_with fail
          go_ret
          exact ⟨by rw [He.out, Hs.out, Hb.out]; rfl, (rmW_ext w x a b c).trans (hext.trans f1)⟩
        · have Hb : RowKit.Hid (okA x n k v = true) := Lib.hid (by rw [Hok2.out, Bool.and_eq_true]; exact ⟨decide_eq_true (by omega), decide_eq_true (by omega)⟩)
          go_wp2_with fail
          go_roundw
          case rel => exact ⟨k + 1, by go_num, hlt, by rw [He.out, Hs.out, Hb.out, Bool.true_and], hext.trans f1⟩
          case measure => simp [intOf]; omega
      · have Hok2 := Lib.hid (Hok.out _ Hl.out)
        go_wp2_with fail
        refine (rtakes_is _ x h0 h1 Ht.out).mono ?_
        rintro e w1 ⟨rfl, f1⟩
        have hcode1 := f1.cell hcode
        have harg1 := f1.cell (hext.cell (rmW_arg w x a b c k hlt))
        rw [Hv.out] at harg1
        by_cases k1 : v < 0
        · have Hb : RowKit.Hid (okA x n k v = false) := Lib.hid (by rw [Hok2.out, Bool.and_eq_false_iff]; exact .inl (decide_eq_false (by omega)))
          go_wp2_with fail
          go_ret
          exact ⟨by rw [He.out, Hs.out, Hb.out]; rfl, (rmW_ext w x a b c).trans (hext.trans f1)⟩
        by_cases k2 : (n : Int) < v
        · have Hb : RowKit.Hid (okA x n k v = false) := Lib.hid (by rw [Hok2.out, Bool.and_eq_false_iff]; exact .inr (decide_eq_false (by omega)))
          go_wp2_with fail
          go_ret
          exact ⟨by rw [He.out, Hs.out, Hb.out]; rfl, (rmW_ext w x a b c).trans (hext.trans f1)⟩
        · have Hb : RowKit.Hid (okA x n k v = true) := Lib.hid (by rw [Hok2.out, Bool.and_eq_true]; exact ⟨decide_eq_true (by omega), decide_eq_true (by omega)⟩)
          go_wp2_with fail
          go_roundw
          case rel => exact ⟨k + 1, by go_num, hlt, by rw [He.out, Hs.out, Hb.out, Bool.true_and], hext.trans f1⟩
          case measure => simp [intOf]; omega
      · have Hok2 := Lib.hid (Hok.out _ Hl.out)
        go_wp2_with fail
        refine (rtakes_is _ x h0 h1 Ht.out).mono ?_
        rintro e w1 ⟨rfl, f1⟩
        have hcode1 := f1.cell hcode
        have harg1 := f1.cell (hext.cell (rmW_arg w x a b c k hlt))
        rw [Hv.out] at harg1
        by_cases k1 : v < 0
        · have Hb : RowKit.Hid (okA x n k v = false) := Lib.hid (by rw [Hok2.out, Bool.and_eq_false_iff]; exact .inl (decide_eq_false (by omega)))
          go_wp2_with fail
          go_ret
          exact ⟨by rw [He.out, Hs.out, Hb.out]; rfl, (rmW_ext w x a b c).trans (hext.trans f1)⟩
        by_cases k2 : (n : Int) < v
        · have Hb : RowKit.Hid (okA x n k v = false) := Lib.hid (by rw [Hok2.out, Bool.and_eq_false_iff]; exact .inr (decide_eq_false (by omega)))
          go_wp2_with fail
          go_ret
          exact ⟨by rw [He.out, Hs.out, Hb.out]; rfl, (rmW_ext w x a b c).trans (hext.trans f1)⟩
        · have Hb : RowKit.Hid (okA x n k v = true) := Lib.hid (by rw [Hok2.out, Bool.and_eq_true]; exact ⟨decide_eq_true (by omega), decide_eq_true (by omega)⟩)
          go_wp2_with fail
          go_roundw
          case rel => exact ⟨k + 1, by go_num, hlt, by rw [He.out, Hs.out, Hb.out, Bool.true_and], hext.trans f1⟩
          case measure => simp [intOf]; omega
      · have Hok2 := Lib.hid (Hok.out _ Hl.out)
        go_wp2_with fail
        refine (rtakes_is _ x h0 h1 Ht.out).mono ?_
        rintro e w1 ⟨rfl, f1⟩
        have hcode1 := f1.cell hcode
        have harg1 := f1.cell (hext.cell (rmW_arg w x a b c k hlt))
        rw [Hv.out] at harg1
        by_cases k1 : v < 0
        · have Hb : RowKit.Hid (okA x n k v = false) := Lib.hid (by rw [Hok2.out, Bool.and_eq_false_iff]; exact .inl (decide_eq_false (by omega)))
          go_wp2_with fail
          go_ret
          exact ⟨by rw [He.out, Hs.out, Hb.out]; rfl, (rmW_ext w x a b c).trans (hext.trans f1)⟩
        by_cases k2 : 31 < v
        · have Hb : RowKit.Hid (okA x n k v = false) := Lib.hid (by rw [Hok2.out, Bool.and_eq_false_iff]; exact .inr (decide_eq_false (by omega)))
          go_wp2_with fail
          go_ret
          exact ⟨by rw [He.out, Hs.out, Hb.out]; rfl, (rmW_ext w x a b c).trans (hext.trans f1)⟩
        · have Hb : RowKit.Hid (okA x n k v = true) := Lib.hid (by rw [Hok2.out, Bool.and_eq_true]; exact ⟨decide_eq_true (by omega), decide_eq_true (by omega)⟩)
          go_wp2_with fail
          go_roundw
          case rel => exact ⟨k + 1, by go_num, hlt, by rw [He.out, Hs.out, Hb.out, Bool.true_and], hext.trans f1⟩
          case measure => simp [intOf]; omega
      · have Hok2 := Lib.hid (Hok.out _ Hl.out)
        go_wp2_with fail
        refine (rtakes_is _ x h0 h1 Ht.out).mono ?_
        rintro e w1 ⟨rfl, f1⟩
        have hcode1 := f1.cell hcode
        have harg1 := f1.cell (hext.cell (rmW_arg w x a b c k hlt))
        rw [Hv.out] at harg1
        by_cases k1 : v < 0
        · have Hb : RowKit.Hid (okA x n k v = false) := Lib.hid (by rw [Hok2.out, Bool.and_eq_false_iff]; exact .inl (decide_eq_false (by omega)))
          go_wp2_with fail
          go_ret
          exact ⟨by rw [He.out, Hs.out, Hb.out]; rfl, (rmW_ext w x a b c).trans (hext.trans f1)⟩
        by_cases k2 : 31 < v
        · have Hb : RowKit.Hid (okA x n k v = false) := Lib.hid (by rw [Hok2.out, Bool.and_eq_false_iff]; exact .inr (decide_eq_false (by omega)))
          go_wp2_with fail
          go_ret
          exact ⟨by rw [He.out, Hs.out, Hb.out]; rfl, (rmW_ext w x a b c).trans (hext.trans f1)⟩
        · have Hb : RowKit.Hid (okA x n k v = true) := Lib.hid (by rw [Hok2.out, Bool.and_eq_true]; exact ⟨decide_eq_true (by omega), decide_eq_true (by omega)⟩)
          go_wp2_with fail
          go_roundw
          case rel => exact ⟨k + 1, by go_num, hlt, by rw [He.out, Hs.out, Hb.out, Bool.true_and], hext.trans f1⟩
          case measure => simp [intOf]; omega
      · have Hok2 := Lib.hid (Hok.out _ Hl.out)
        go_wp2_with fail
        refine (rtakes_is _ x h0 h1 Ht.out).mono ?_
        rintro e w1 ⟨rfl, f1⟩
        have hcode1 := f1.cell hcode
        have harg1 := f1.cell (hext.cell (rmW_arg w x a b c k hlt))
        rw [Hv.out] at harg1
        by_cases k1 : v < 0
        · have Hb : RowKit.Hid (okA x n k v = false) := Lib.hid (by rw [Hok2.out, Bool.and_eq_false_iff]; exact .inl (decide_eq_false (by omega)))
          go_wp2_with fail
          go_ret
          exact ⟨by rw [He.out, Hs.out, Hb.out]; rfl, (rmW_ext w x a b c).trans (hext.trans f1)⟩
        by_cases k2 : 31 < v
        · have Hb : RowKit.Hid (okA x n k v = false) := Lib.hid (by rw [Hok2.out, Bool.and_eq_false_iff]; exact .inr (decide_eq_false (by omega)))
          go_wp2_with fail
          go_ret
          exact ⟨by rw [He.out, Hs.out, Hb.out]; rfl, (rmW_ext w x a b c).trans (hext.trans f1)⟩
        · have Hb : RowKit.Hid (okA x n k v = true) := Lib.hid (by rw [Hok2.out, Bool.and_eq_true]; exact ⟨decide_eq_true (by omega), decide_eq_true (by omega)⟩)
          go_wp2_with fail
          go_roundw
          case rel => exact ⟨k + 1, by go_num, hlt, by rw [He.out, Hs.out, Hb.out, Bool.true_and], hext.trans f1⟩
          case measure => simp [intOf]; omega
    · obtain rfl : k = 3 := by omega
      go_wp2_with fail
      go_ret
      exact ⟨by rw [He.out]; rfl, (rmW_ext w x a b c).trans hext⟩
end Go.Proofs.Ytihegdjdgklbgaa
