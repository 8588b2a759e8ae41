/- Law 5's Cut of a program, law 7's begun, the walks of CheckAll. -/
import Derived.Test.YtehelhennbcboaaChkF
import Derived.Test.YtehelhennbcboaaNumC
namespace Go.Proofs.Ytehelhennbcboaa
open Go.RowKit

theorem ro_new {w : World} {l : List OpT} {B n c : Nat} {t : TypeId} (hB : B = w.heap.size) (hn : n = l.length) (hc : c = l.length) (hm : l.length ≤ 1000) : Ro (w.alloc (.cells (opcs l).toArray t)) (some ⟨B, 0, none⟩) n c l := by
  subst hB hn hc
  exact Rd.made w t 4 (opcs l) l.length (opcs_length l) (by have : maxLen = 9223372036854775807 := rfl; omega)
theorem Ro.min_ {w : World} {A : Option Addr} {n c : Nat} {l : List OpT} (h : Ro w A n c l) (k : Nat) : Ro w A (min n k) c (l.take k) := by
  have h1 := h.take (Nat.min_le_left n k)
  have : l.take (min n k) = l.take k := by
    rw [h.len, List.take_eq_take_iff]; omega
  rw [this] at h1
  exact h1
theorem Ext.frozen {w w' : World} (h : Ext w w') {p : Addr} (hp : p.block < w.heap.size) : w'.frozen? p = w.frozen? p := Below.frozen h hp
theorem Ext.setCell {w w' : World} (h : Ext w w') {p : Addr} (hp : w.heap.size ≤ p.block) (u : Value) : Ext w (w'.setCell p u) := Below.setCell h hp u

set_option maxHeartbeats 1000000 in
theorem pcut_any (w : World) (t : List UInt8) (A : Option Addr) (n c k : Nat) (ht : t.length ≤ maxLen) (hn : n ≤ c ∧ c ≤ maxLen) :
    Calls Try.prog 15 #[pAgg t A n c, .int .i64 (k : Nat)] w fun e w' => e = .returned (pAgg (t.take 40) A (min n k) c) ∧ Ext w w' := by
  unfold pAgg
  unfold maxLen at hn
  have hcut := fun W => cut_any t 40 W ht
  have Hcut := Lib.hid hcut
  clear hcut
  by_cases h : k < n
  · have hm : min n k = k := by omega
    rw [hm]
    clear hm
    go_enter Try.func15, Try.ntmps15
    go_wp2_with fail
    refine (Hcut.out _).mono ?_
    rintro e w1 ⟨rfl, rfl⟩
    go_wp2_with fail
    exact bodyPost_ret (v := .agg #[.string (bs (t.take 40)), .slice A k c]) (by simp [results, Try.results15, go_sem]) rfl ⟨rfl, by repeat (first | exact (Below.refl _ _).alloc (Nat.le_refl _) _ | refine Below.alloc ?_ (by simp) _ | refine Below.setCell ?_ (by simp) _)⟩
  · have hm : min n k = n := by omega
    rw [hm]
    clear hm
    go_enter Try.func15, Try.ntmps15
    go_wp2_with fail
    refine (Hcut.out _).mono ?_
    rintro e w1 ⟨rfl, rfl⟩
    go_wp2_with fail
    exact bodyPost_ret (v := .agg #[.string (bs (t.take 40)), .slice A n c]) (by simp [results, Try.results15, go_sem]) rfl ⟨rfl, by repeat (first | exact (Below.refl _ _).alloc (Nat.le_refl _) _ | refine Below.alloc ?_ (by simp) _ | refine Below.setCell ?_ (by simp) _)⟩

theorem fault_is (w : World) (t : List UInt8) (A : Option Addr) (n c : Nat) (l : List OpT) (ht : t.length ≤ 1099511627776) (hl : Ro w A n c l) {r : Int} (hr : faultL t l = r) :
    Calls Try.prog 17 #[pAgg t A n c] w fun e w' => e = .returned (.int .i64 r) ∧ Ext w w' := hr ▸ fault_any w t A n c l ht hl

set_option maxRecDepth 100000 in
set_option maxHeartbeats 2000000 in
theorem begun7_any (w : World) : Calls Try.prog 14 #[] w (Yes w) := by
  have m1 := fun W A h => may_is W [116] A 2 2 [(15, 3, 0, 0), (9, 2, 0, 0)] (by decide) h (b := true) (by decide)
  have f1 := fun W A h => fault_is W [116] A 2 2 [(15, 3, 0, 0), (9, 2, 0, 0)] (by decide) h (r := -1) (by decide)
  have m2 := fun W A h => may_is W [116] A 2 2 [(15, 3, 0, 0), (9, 3, 0, 0)] (by decide) h (b := false) (by decide)
  have f2 := fun W A h => fault_is W [116] A 2 2 [(15, 3, 0, 0), (9, 3, 0, 0)] (by decide) h (r := 1) (by decide)
  have f3 := fun W => fault_is W [] none 0 0 [] (by decide) (Ro.nil_ W) (r := -2) (by decide)
  unfold pAgg at m1 f1 m2 f2 f3
  have M1 := Lib.hid m1
  have F1 := Lib.hid f1
  have M2 := Lib.hid m2
  have F2 := Lib.hid f2
  have F3 := Lib.hid f3
  clear m1 f1 m2 f2 f3
  go_enter Try.func14, Try.ntmps14
  go_wp2_with fail
  generalize hW0 : World.alloc (World.alloc (World.alloc (World.alloc w _) _) _) _ = W0
  have hx : Ext w W0 := by rw [← hW0]; exact (((Ext.alloc _ _).trans (Ext.alloc _ _)).trans (Ext.alloc _ _)).trans (Ext.alloc _ _)
  have hp : Ro W0 (some ⟨w.heap.size, 0, none⟩) 2 2 [(15, 3, 0, 0), (9, 2, 0, 0)] := by
    rw [← hW0]; exact (((ro_new rfl rfl rfl (by decide)).ext (Ext.alloc _ _)).ext (Ext.alloc _ _)).ext (Ext.alloc _ _)
  have hq : Ro W0 (some ⟨w.heap.size + 1 + 1, 0, none⟩) 2 2 [(15, 3, 0, 0), (9, 3, 0, 0)] := by
    rw [← hW0]; exact (ro_new (by simp) rfl rfl (by decide)).ext (Ext.alloc _ _)
  have c0 : W0.cell? ⟨w.heap.size + 1, 0, none⟩ = some (.string { data := #[116] }) := by subst hW0; go_simp
  have c1 : W0.cell? ⟨w.heap.size + 1, 1, none⟩ = some (.slice (some ⟨w.heap.size, 0, none⟩) 2 2) := by subst hW0; go_simp
  have c2 : W0.cell? ⟨w.heap.size + 1 + 1 + 1, 0, none⟩ = some (.string { data := #[116] }) := by subst hW0; go_simp
  have c3 : W0.cell? ⟨w.heap.size + 1 + 1 + 1, 1, none⟩ = some (.slice (some ⟨w.heap.size + 1 + 1, 0, none⟩) 2 2) := by subst hW0; go_simp
  clear hW0
  refine (M1.out _ _ hp).mono ?_
  rintro e w1 ⟨rfl, e1⟩
  have x1 := e1.cell c0
  have x2 := e1.cell c1
  have x3 := e1.cell c2
  have x4 := e1.cell c3
  go_wp2_with fail
  refine (F1.out _ _ (hp.ext e1)).mono ?_
  rintro e w2 ⟨rfl, e2⟩
  have y3 := e2.cell x3
  have y4 := e2.cell x4
  have e3 := e1.trans e2
  clear x1 x2 x3 x4
  go_wp2_with fail
  refine (M2.out _ _ (hq.ext e3)).mono ?_
  rintro e w3 ⟨rfl, e4⟩
  have x3 := e4.cell y3
  have x4 := e4.cell y4
  have e5 := e3.trans e4
  clear y3 y4
  go_wp2_with fail
  refine (F2.out _ _ (hq.ext e5)).mono ?_
  rintro e w4 ⟨rfl, e6⟩
  clear x3 x4
  go_wp2_with fail
  refine (F3.out _).mono ?_
  rintro e w5 ⟨rfl, e7⟩
  go_wp2_with fail
  go_ret
  exact ⟨rfl, ((hx.trans e5).trans e6).trans e7⟩
end Go.Proofs.Ytehelhennbcboaa
