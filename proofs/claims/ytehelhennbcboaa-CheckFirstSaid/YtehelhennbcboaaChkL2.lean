/- The walks of the laws CheckAll, CheckMore. -/
import Derived.Test.YtehelhennbcboaaChkL
namespace Go.Proofs.Ytehelhennbcboaa
open Go.RowKit

theorem rfault_is (w : World) (t : List UInt8) (A : Option Addr) (n c : Nat) (l : List OpT) (ht : t.length ≤ 1099511627776) (hl : Ro w A n c l) {r : Int} (hr : faultL t l = r) :
    Calls Try.prog 16 #[pAgg t A n c] w fun e w' => e = .returned (.int .i64 r) ∧ Ext w w' := hr ▸ rfault_any w t A n c l ht hl

set_option maxRecDepth 100000 in
set_option maxHeartbeats 2000000 in
theorem all_walk (w : World) (t : List UInt8) (A : Option Addr) (n c : Nat) (l : List OpT) (ht : t.length ≤ maxLen) (hl : Ro w A n c l) (_hok : ∀ o ∈ l, okO o) :
    Calls Try.prog 3 #[pAgg t A n c] w (Yes w) := by
  have hcut := fun W => pcut_any W t A n c 70 ht hl.max
  have hl' := hl.min_ 70
  have htl : (t.take 40).length ≤ 1099511627776 := by rw [List.length_take]; omega
  obtain ⟨r, hr⟩ : ∃ r, faultL (t.take 40) (l.take 70) = r := ⟨_, rfl⟩
  have hf := fun W h => fault_is W (t.take 40) A (min n 70) c (l.take 70) htl h hr
  have hrf := fun W h => rfault_is W (t.take 40) A (min n 70) c (l.take 70) htl h hr
  have hm := fun W h => may_is W (t.take 40) A (min n 70) c (l.take 70) htl h (b := r == -1) (by rw [hr])
  unfold pAgg at hcut hf hrf hm ⊢
  have Hcut := Lib.hid hcut
  have Hf := Lib.hid hf
  have Hrf := Lib.hid hrf
  have Hm := Lib.hid hm
  have Hr := Lib.hid hr
  clear hcut hf hrf hm hr
  generalize t.take 40 = t' at *
  generalize l.take 70 = l' at *
  generalize min n 70 = n' at *
  go_enter Try.func3, Try.ntmps3
  go_wp2_with fail
  refine (begun7_any _).mono ?_
  rintro e w1 ⟨rfl, e1⟩
  have c0 := e1.cell (show (w.alloc (.cells #[.string (bs t), .slice A n c] 24)).cell? ⟨w.heap.size, 0, none⟩ = some (.string (bs t)) by go_simp)
  have c1 := e1.cell (show (w.alloc (.cells #[.string (bs t), .slice A n c] 24)).cell? ⟨w.heap.size, 1, none⟩ = some (.slice A n c) by go_simp)
  have f0 : w1.frozen? ⟨w.heap.size, 0, none⟩ = false := by rw [e1.frozen (by simp)]; go_simp
  have f1 : w1.frozen? ⟨w.heap.size, 1, none⟩ = false := by rw [e1.frozen (by simp)]; go_simp
  have x1 := (Ext.alloc w _).trans e1
  have s1 : w.heap.size < w1.heap.size := World.block_lt_of_cell? w1 _ c0
  clear e1
  go_wp2_with fail
  refine (Hcut.out _).mono ?_
  rintro e w2 ⟨rfl, e2⟩
  have d0 := e2.cell c0
  have d1 := e2.cell c1
  have g0 : w2.frozen? ⟨w.heap.size, 0, none⟩ = false := by rw [e2.frozen s1]; exact f0
  have g1 : w2.frozen? ⟨w.heap.size, 1, none⟩ = false := by rw [e2.frozen s1]; exact f1
  have x2 := x1.trans e2
  clear e2 c0 c1 f0 f1 s1 x1
  go_wp2_with fail
  generalize hW0 : World.setCell (World.setCell w2 _ _) _ _ = W0
  have x0 : Ext w W0 := by subst hW0; exact (x2.setCell (Nat.le_refl _) _).setCell (Nat.le_refl _) _
  have c0 : W0.cell? ⟨w.heap.size, 0, none⟩ = some (.string (bs t')) := by subst hW0; go_simp
  have c1 : W0.cell? ⟨w.heap.size, 1, none⟩ = some (.slice A n' c) := by subst hW0; go_simp
  clear hW0 d0 d1 g0 g1 x2
  refine (Hrf.out _ (hl'.ext x0)).mono ?_
  rintro e w3 ⟨rfl, e3⟩
  have d0 := e3.cell c0
  have d1 := e3.cell c1
  have x3 := x0.trans e3
  clear c0 c1 x0 e3
  go_wp2_with fail
  refine (Hf.out _ (hl'.ext x3)).mono ?_
  rintro e w4 ⟨rfl, e4⟩
  have c0 := e4.cell d0
  have c1 := e4.cell d1
  have x4 := x3.trans e4
  clear d0 d1 x3 e4
  go_wp2_with fail
  refine (Hm.out _ (hl'.ext x4)).mono ?_
  rintro e w5 ⟨rfl, e5⟩
  go_wp2_with fail
  go_ret
  exact ⟨by simp, x4.trans e5⟩
end Go.Proofs.Ytehelhennbcboaa
