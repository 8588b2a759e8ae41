/- Two events: begun of law 12; the law EventNone. -/
import Derived.Test.YtihegdjdgklbgaaDoorEvM
namespace Go.Proofs.YtihegdjdgklbgaaDoor
set_option maxRecDepth 100000
open Go.RowKit
set_option linter.unusedVariables false

set_option maxRecDepth 100000 in
set_option maxHeartbeats 2000000 in
theorem begun12_any (w : World) (ht : Pow w) : Calls Tryd.prog 7 #[] w (Yes w) := by
  have ho1 := fun W => of_3 W 3 17 (by decide) (by decide) (by decide) (by decide)
  have ho2 := fun W => of_1 W 1 (by decide) (by decide)
  have hf1 := fun W => frame_3 W 3 17
  have hf2 := fun W => frame_1 W 1
  have hp1 := fun W => player_3 W 3 17
  have hp2 := fun W => player_1 W 1
  have hm1 := fun W => mf_3 W 3 17
  have ht1 := fun W h => text_3 W h 3 17 (by decide) (by decide) (by decide) (by decide)
  have ht2 := fun W h => text_1 W h 1 (by decide) (by decide)
  rw [show textL 3 3 17 = [97, 112, 97, 114, 116, 32, 51, 32, 49, 55] by decide +kernel] at ht1
  rw [show textL 1 1 0 = [113, 117, 105, 116, 32, 49] by decide +kernel] at ht2
  have Ho1 := Lib.hid ho1
  have Ho2 := Lib.hid ho2
  have Hf1 := Lib.hid hf1
  have Hf2 := Lib.hid hf2
  have Hp1 := Lib.hid hp1
  have Hp2 := Lib.hid hp2
  have Hm1 := Lib.hid hm1
  have Ht1 := Lib.hid ht1
  have Ht2 := Lib.hid ht2
  clear ho1 ho2 hf1 hf2 hp1 hp2 hm1 ht1 ht2
  go_enter Tryd.func7, Tryd.ntmps7
  go_wp2_with fail
  refine (Ho1.out w).mono ?_
  rintro e w1 ⟨rfl, e1⟩
  go_wp2_with fail
  generalize hV : World.alloc w1 _ = V1
  have x1 : Ext w V1 := by subst hV; exact e1.trans (Ext.alloc _ _)
  have c1 : V1.cell? ⟨w1.heap.size, 0, none⟩ = some (.iface 47 (.agg #[.int .i64 3, .int .i64 17])) := by subst hV; go_simp
  clear hV
  refine (Ho2.out V1).mono ?_
  rintro e w2 ⟨rfl, e2⟩
  have c1 := e2.cell c1
  have s1 : w1.heap.size < w2.heap.size := World.block_lt_of_cell? w2 _ c1
  go_wp2_with fail
  generalize hV : World.alloc w2 _ = V2
  have x2 : Ext w V2 := by subst hV; exact (x1.trans e2).trans (Ext.alloc _ _)
  have c1 : V2.cell? ⟨w1.heap.size, 0, none⟩ = some (.iface 47 (.agg #[.int .i64 3, .int .i64 17])) := by subst hV; exact (Ext.alloc _ _).cell c1
  have c2 : V2.cell? ⟨w2.heap.size, 0, none⟩ = some (.iface 44 (.agg #[.int .i64 1])) := by subst hV; go_simp
  clear hV
  refine (Hf1.out V2).mono ?_
  rintro e w3 ⟨rfl, e3⟩
  have c1 := e3.cell c1
  have c2 := e3.cell c2
  have x3 := x2.trans e3
  go_wp2_with fail
  refine (Hf2.out w3).mono ?_
  rintro e w4 ⟨rfl, e4⟩
  have c1 := e4.cell c1
  have c2 := e4.cell c2
  have x4 := x3.trans e4
  go_wp2_with fail
  refine (Hp1.out w4).mono ?_
  rintro e w5 ⟨rfl, e5⟩
  have c1 := e5.cell c1
  have c2 := e5.cell c2
  have x5 := x4.trans e5
  go_wp2_with fail
  refine (Hp2.out w5).mono ?_
  rintro e w6 ⟨rfl, e6⟩
  have c1 := e6.cell c1
  have c2 := e6.cell c2
  have x6 := x5.trans e6
  go_wp2_with fail
  refine (Hm1.out w6).mono ?_
  rintro e w7 ⟨rfl, e7⟩
  have c1 := e7.cell c1
  have c2 := e7.cell c2
  have x7 := x6.trans e7
  go_wp2_with fail
  refine (Ht1.out w7 (pow_ext ht x7)).mono ?_
  rintro e w8 ⟨rfl, e8⟩
  have c1 := e8.cell c1
  have c2 := e8.cell c2
  have x8 := x7.trans e8
  go_wp2_with fail
  refine (Ht2.out w8 (pow_ext ht x8)).mono ?_
  rintro e w9 ⟨rfl, e9⟩
  have c1 := e9.cell c1
  have c2 := e9.cell c2
  have x9 := x8.trans e9
  go_wp2_with fail
  go_ret
  exact ⟨rfl, x9⟩
set_option maxRecDepth 100000 in
set_option maxHeartbeats 2000000 in
theorem none_walk (w : World) (ht : Pow w) : Calls Tryd.prog 5 #[] w (Yes w) := by
  go_enter Tryd.func5, Tryd.ntmps5
  go_wp2_with fail
  generalize hV : World.alloc w _ = V2
  have x2 : Ext w V2 := by subst hV; exact Ext.alloc _ _
  have c1 : V2.cell? ⟨w.heap.size, 0, none⟩ = some .nilIface := by subst hV; go_simp
  clear hV
  refine (frame_0 V2).mono ?_
  rintro e w3 ⟨rfl, e3⟩
  have c1 := e3.cell c1
  have x3 := x2.trans e3
  go_wp2_with fail
  refine (must_0 w3).mono ?_
  rintro e w4 ⟨rfl, e4⟩
  have c1 := e4.cell c1
  have x4 := x3.trans e4
  go_wp2_with fail
  refine (begun12_any w4 (pow_ext ht x4)).mono ?_
  rintro e w5 ⟨rfl, e5⟩
  have c1 := e5.cell c1
  have x5 := x4.trans e5
  go_wp2_with fail
  refine (text_0 w5).mono ?_
  rintro e w6 ⟨rfl, e6⟩
  have c1 := e6.cell c1
  have x6 := x5.trans e6
  go_wp2_with fail
  refine (raw_0 w6).mono ?_
  rintro e w7 ⟨rfl, e7⟩
  have c1 := e7.cell c1
  have x7 := x6.trans e7
  have hfd : ∀ W : World, (Instr.field 23 (.agg #[.int .i64 0, .int .i64 0, .int .i64 0]) 0).run Tryd.prog W = .ok (.int .i64 0) W := fun W => by kernel_rfl
  go_wp2_with fail
  refine (player_0 w7).mono ?_
  rintro e w8 ⟨rfl, e8⟩
  have c1 := e8.cell c1
  have x8 := x7.trans e8
  go_wp2_with fail
  go_ret
  exact ⟨rfl, x8⟩
end Go.Proofs.YtihegdjdgklbgaaDoor
