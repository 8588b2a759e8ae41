/- Events: MustFrame, and the law's must: a call that may panic, and comes back. -/
import Derived.Test.YtihegdjdgklbgaaDoorEvY
import Derived.Defers
import Derived.Recover
namespace Go.Proofs.YtihegdjdgklbgaaDoor
set_option maxRecDepth 100000
open Go.RowKit
set_option linter.unusedVariables false

theorem tb_aa (v : Value) (w : World) : (Instr.typeAssert (.iface 47 v) 26 47 false).run Tryd.prog w = .ok v w := by kernel_rfl
theorem fd_aa (p f : Int) (w : World) : (Instr.field 47 (.agg #[.int .i64 p, .int .i64 f]) 1).run Tryd.prog w = .ok (.int .i64 f) w := by kernel_rfl
theorem mf_3 (w : World) (p f : Int) : Calls Tryd.prog 17 #[.agg #[.iface 47 (.agg #[.int .i64 p, .int .i64 f])]] w (Num w f) := by
  have h1 := tb_aa
  have h2 := fd_aa
  go_enter Tryd.func17, Tryd.ntmps17
  go_wp2_with fail
  go_ret
  exact ⟨rfl, Ext.alloc _ _⟩
def Dies (w : World) (e : Ending) (w' : World) : Prop := ∃ u v, e = .panicked [{ v := .iface u v, recovered := false }] ∧ Ext w w'
theorem tb_n (w : World) : (Instr.typeAssert .nilIface 26 47 false).run Tryd.prog w = .halt (.panic (.iface 15 (.pointer (some ⟨w.heap.size, 0, none⟩)))) (w.alloc (.cells #[.pointer (some ⟨3, 26, none⟩), .pointer none, .pointer (some ⟨3, 47, none⟩), .string { data := #[] }] 70)) := by kernel_rfl
theorem tb_q (v : Value) (w : World) : (Instr.typeAssert (.iface 44 v) 26 47 false).run Tryd.prog w = .halt (.panic (.iface 15 (.pointer (some ⟨w.heap.size, 0, none⟩)))) (w.alloc (.cells #[.pointer (some ⟨3, 26, none⟩), .pointer (some ⟨3, 44, none⟩), .pointer (some ⟨3, 47, none⟩), .string { data := #[] }] 70)) := by kernel_rfl
theorem tb_l (v : Value) (w : World) : (Instr.typeAssert (.iface 45 v) 26 47 false).run Tryd.prog w = .halt (.panic (.iface 15 (.pointer (some ⟨w.heap.size, 0, none⟩)))) (w.alloc (.cells #[.pointer (some ⟨3, 26, none⟩), .pointer (some ⟨3, 45, none⟩), .pointer (some ⟨3, 47, none⟩), .string { data := #[] }] 70)) := by kernel_rfl
theorem mf_0 (w : World) : Calls Tryd.prog 17 #[.agg #[.nilIface]] w (Dies w) := by
  have h1 := tb_n
  go_enter Tryd.func17, Tryd.ntmps17
  go_wp2_with fail
  exact ⟨rfl, _, _, rfl, by repeat (first | exact (Below.refl _ _).alloc (Nat.le_refl _) _ | refine Below.alloc ?_ (by simp <;> omega) _ | refine Below.setCell ?_ (by simp <;> omega) _)⟩
theorem mf_1 (w : World) (p : Int) : Calls Tryd.prog 17 #[.agg #[.iface 44 (.agg #[.int .i64 p])]] w (Dies w) := by
  have h1 := tb_q
  go_enter Tryd.func17, Tryd.ntmps17
  go_wp2_with fail
  exact ⟨rfl, _, _, rfl, by repeat (first | exact (Below.refl _ _).alloc (Nat.le_refl _) _ | refine Below.alloc ?_ (by simp <;> omega) _ | refine Below.setCell ?_ (by simp <;> omega) _)⟩
theorem mf_2 (w : World) (p : Int) : Calls Tryd.prog 17 #[.agg #[.iface 45 (.agg #[.int .i64 p])]] w (Dies w) := by
  have h1 := tb_l
  go_enter Tryd.func17, Tryd.ntmps17
  go_wp2_with fail
  exact ⟨rfl, _, _, rfl, by repeat (first | exact (Below.refl _ _).alloc (Nat.le_refl _) _ | refine Below.alloc ?_ (by simp <;> omega) _ | refine Below.setCell ?_ (by simp <;> omega) _)⟩

theorem catch_panicking (p q : Addr) (x : Value) (y : Value) (hpq : p.block ≠ q.block) (u : TypeId) (pv : Value) (older : List PanicEntry) (w : World) (hc : w.cell? p = some x) (hz : w.frozen? p = false) (hc2 : w.cell? q = some y) (hz2 : w.frozen? q = false) :
    CallsD Tryd.prog 19 #[.pointer (some p), .pointer (some q)] (.panicking ({ v := .iface u pv, recovered := false } :: older)) w fun e u' w' =>
      e = .returned (.tuple #[]) ∧ u' = .panicking ({ v := .iface u pv, recovered := true } :: older) ∧ w' = (w.setCell p (.int .i64 0)).setCell q (.bool false) := by
  refine callsD_of_wpS Tryd.func19 rfl fun c₀ cs hu => ?_
  apply wpS_seq
  apply wpS_region
  simp [wpOpsS, go_sem, recoverD, hu, Tryd.ntmps19, Exit.thenS]
  refine wpS_cond (t := true) (by simp [Act.eval, Array.replicate]) ?_
  simp only [if_true]
  apply wpS_region
  have hne : ¬ p = q := fun e => hpq (by rw [e])
  have hc3 : (w.setCell p (.int .i64 0)).cell? q = some y := by rw [World.cell?_setCell_other _ _ _ _ hne]; exact hc2
  have hz3 : (w.setCell p (.int .i64 0)).frozen? q = false := by rw [World.frozen?_setCell]; exact hz2
  simp [wpOpsS, go_sem, hc, hz, hc3, hz3, bodyPostS, results, Tryd.results19]
theorem catch_idle (p q : Addr) (w : World) :
    CallsD Tryd.prog 19 #[.pointer (some p), .pointer (some q)] .returning w fun e u' w' => e = .returned (.tuple #[]) ∧ u' = .returning ∧ w' = w := by
  refine callsD_of_wpS Tryd.func19 rfl fun c₀ cs hu => ?_
  apply wpS_seq
  apply wpS_region
  simp [wpOpsS, go_sem, recoverD, hu, Tryd.ntmps19, Exit.thenS]
  refine wpS_cond (t := false) (by simp [Act.eval, Array.replicate]) ?_
  simp only [Bool.false_eq_true, if_false]
  refine wpS_of_wp (wp_skip ?_)
  cases c₀
  simp_all [bodyPostS, results, Tryd.results19]
theorem must_3 (w : World) (p f : Int) : Calls Tryd.prog 15 #[.agg #[.iface 47 (.agg #[.int .i64 p, .int .i64 f])]] w (FrIs w f true) := by
  have hmf : ∀ (fn : Fn) (first cap : Array Value) (w : World), (Instr.makeFunc fn first cap).run Tryd.prog w = .ok (.func fn first cap) w := fun _ _ _ _ => rfl
  go_enter_defers Tryd.func15, Tryd.ntmps15
  go_wp2_with fail
  generalize hV : World.alloc (World.alloc (World.alloc w _) _) _ = V
  have eV : Ext w V := by subst hV; exact ((Ext.alloc _ _).trans (Ext.alloc _ _)).trans (Ext.alloc _ _)
  have c1 : V.cell? ⟨w.heap.size + 1, 0, none⟩ = some (.int .i64 0) := by subst hV; go_simp
  have c2 : V.cell? ⟨w.heap.size + 1 + 1, 0, none⟩ = some (.bool false) := by subst hV; go_simp
  have z1 : V.frozen? ⟨w.heap.size + 1, 0, none⟩ = false := by subst hV; go_simp
  have z2 : V.frozen? ⟨w.heap.size + 1 + 1, 0, none⟩ = false := by subst hV; go_simp
  have s2 : w.heap.size + 1 + 1 < V.heap.size := World.block_lt_of_cell? V _ c2
  clear hV
  refine (mf_3 V p f).mono ?_
  rintro e w1 ⟨rfl, e1⟩
  have d1 := e1.cell c1
  have d2 := e1.cell c2
  have y1 : w1.frozen? ⟨w.heap.size + 1, 0, none⟩ = false := by rw [e1.frozen (by simp; omega)]; exact z1
  have y2 : w1.frozen? ⟨w.heap.size + 1 + 1, 0, none⟩ = false := by rw [e1.frozen s2]; exact z2
  have x1 := eV.trans e1
  go_wp2_with fail
  refine leaves_cons (f := 19) (args := #[.pointer (some ⟨w.heap.size + 1, 0, none⟩), .pointer (some ⟨w.heap.size + 1 + 1, 0, none⟩)]) (by simp) (by simp [go_sem]) ?_
  refine (catch_idle _ _ _).mono ?_
  rintro e u' w'' ⟨rfl, rfl, rfl⟩
  have k1 : (w1.setCell ⟨w.heap.size + 1, 0, none⟩ (.int .i64 f)).cell? ⟨w.heap.size + 1, 0, none⟩ = some (.int .i64 f) := by go_simp
  have k2 : ((w1.setCell ⟨w.heap.size + 1, 0, none⟩ (.int .i64 f)).setCell ⟨w.heap.size + 1 + 1, 0, none⟩ (.bool true)).cell? ⟨w.heap.size + 1 + 1, 0, none⟩ = some (.bool true) := by go_simp
  refine ⟨.tuple #[.int .i64 f, .bool true], ?_, rfl, (x1.setCell (by simp <;> omega) _).setCell (by simp <;> omega) _⟩
  simp [results, Tryd.results15, go_sem, k1, k2]
theorem must_0 (w : World)  : Calls Tryd.prog 15 #[.agg #[.nilIface]] w (FrIs w 0 false) := by
  have hmf : ∀ (fn : Fn) (first cap : Array Value) (w : World), (Instr.makeFunc fn first cap).run Tryd.prog w = .ok (.func fn first cap) w := fun _ _ _ _ => rfl
  go_enter_defers Tryd.func15, Tryd.ntmps15
  go_wp2_with fail
  generalize hV : World.alloc (World.alloc (World.alloc w _) _) _ = V
  have eV : Ext w V := by subst hV; exact ((Ext.alloc _ _).trans (Ext.alloc _ _)).trans (Ext.alloc _ _)
  have c1 : V.cell? ⟨w.heap.size + 1, 0, none⟩ = some (.int .i64 0) := by subst hV; go_simp
  have c2 : V.cell? ⟨w.heap.size + 1 + 1, 0, none⟩ = some (.bool false) := by subst hV; go_simp
  have z1 : V.frozen? ⟨w.heap.size + 1, 0, none⟩ = false := by subst hV; go_simp
  have z2 : V.frozen? ⟨w.heap.size + 1 + 1, 0, none⟩ = false := by subst hV; go_simp
  have s2 : w.heap.size + 1 + 1 < V.heap.size := World.block_lt_of_cell? V _ c2
  clear hV
  refine (mf_0 V).mono ?_
  rintro e w1 ⟨u, pv, rfl, e1⟩
  have d1 := e1.cell c1
  have d2 := e1.cell c2
  have y1 : w1.frozen? ⟨w.heap.size + 1, 0, none⟩ = false := by rw [e1.frozen (by simp; omega)]; exact z1
  have y2 : w1.frozen? ⟨w.heap.size + 1 + 1, 0, none⟩ = false := by rw [e1.frozen s2]; exact z2
  have x1 := eV.trans e1
  go_wp2_with fail
  refine leaves_cons (f := 19) (args := #[.pointer (some ⟨w.heap.size + 1, 0, none⟩), .pointer (some ⟨w.heap.size + 1 + 1, 0, none⟩)]) (by simp) (by simp [go_sem]) ?_
  refine (catch_panicking ⟨w.heap.size + 1, 0, none⟩ ⟨w.heap.size + 1 + 1, 0, none⟩ _ _ (by simp) u pv [] w1 d1 y1 d2 y2).mono ?_
  rintro e u' w'' ⟨rfl, rfl, rfl⟩
  have k1 : (w1.setCell ⟨w.heap.size + 1, 0, none⟩ (.int .i64 0)).cell? ⟨w.heap.size + 1, 0, none⟩ = some (.int .i64 0) := by go_simp
  have k2 : ((w1.setCell ⟨w.heap.size + 1, 0, none⟩ (.int .i64 0)).setCell ⟨w.heap.size + 1 + 1, 0, none⟩ (.bool false)).cell? ⟨w.heap.size + 1 + 1, 0, none⟩ = some (.bool false) := by go_simp
  refine ⟨.tuple #[.int .i64 0, .bool false], ?_, rfl, (x1.setCell (by simp <;> omega) _).setCell (by simp <;> omega) _⟩
  simp [results, Tryd.results15, go_sem, k1, k2]
theorem must_1 (w : World) (p : Int) : Calls Tryd.prog 15 #[.agg #[.iface 44 (.agg #[.int .i64 p])]] w (FrIs w 0 false) := by
  have hmf : ∀ (fn : Fn) (first cap : Array Value) (w : World), (Instr.makeFunc fn first cap).run Tryd.prog w = .ok (.func fn first cap) w := fun _ _ _ _ => rfl
  go_enter_defers Tryd.func15, Tryd.ntmps15
  go_wp2_with fail
  generalize hV : World.alloc (World.alloc (World.alloc w _) _) _ = V
  have eV : Ext w V := by subst hV; exact ((Ext.alloc _ _).trans (Ext.alloc _ _)).trans (Ext.alloc _ _)
  have c1 : V.cell? ⟨w.heap.size + 1, 0, none⟩ = some (.int .i64 0) := by subst hV; go_simp
  have c2 : V.cell? ⟨w.heap.size + 1 + 1, 0, none⟩ = some (.bool false) := by subst hV; go_simp
  have z1 : V.frozen? ⟨w.heap.size + 1, 0, none⟩ = false := by subst hV; go_simp
  have z2 : V.frozen? ⟨w.heap.size + 1 + 1, 0, none⟩ = false := by subst hV; go_simp
  have s2 : w.heap.size + 1 + 1 < V.heap.size := World.block_lt_of_cell? V _ c2
  clear hV
  refine (mf_1 V p).mono ?_
  rintro e w1 ⟨u, pv, rfl, e1⟩
  have d1 := e1.cell c1
  have d2 := e1.cell c2
  have y1 : w1.frozen? ⟨w.heap.size + 1, 0, none⟩ = false := by rw [e1.frozen (by simp; omega)]; exact z1
  have y2 : w1.frozen? ⟨w.heap.size + 1 + 1, 0, none⟩ = false := by rw [e1.frozen s2]; exact z2
  have x1 := eV.trans e1
  go_wp2_with fail
  refine leaves_cons (f := 19) (args := #[.pointer (some ⟨w.heap.size + 1, 0, none⟩), .pointer (some ⟨w.heap.size + 1 + 1, 0, none⟩)]) (by simp) (by simp [go_sem]) ?_
  refine (catch_panicking ⟨w.heap.size + 1, 0, none⟩ ⟨w.heap.size + 1 + 1, 0, none⟩ _ _ (by simp) u pv [] w1 d1 y1 d2 y2).mono ?_
  rintro e u' w'' ⟨rfl, rfl, rfl⟩
  have k1 : (w1.setCell ⟨w.heap.size + 1, 0, none⟩ (.int .i64 0)).cell? ⟨w.heap.size + 1, 0, none⟩ = some (.int .i64 0) := by go_simp
  have k2 : ((w1.setCell ⟨w.heap.size + 1, 0, none⟩ (.int .i64 0)).setCell ⟨w.heap.size + 1 + 1, 0, none⟩ (.bool false)).cell? ⟨w.heap.size + 1 + 1, 0, none⟩ = some (.bool false) := by go_simp
  refine ⟨.tuple #[.int .i64 0, .bool false], ?_, rfl, (x1.setCell (by simp <;> omega) _).setCell (by simp <;> omega) _⟩
  simp [results, Tryd.results15, go_sem, k1, k2]
theorem must_2 (w : World) (p : Int) : Calls Tryd.prog 15 #[.agg #[.iface 45 (.agg #[.int .i64 p])]] w (FrIs w 0 false) := by
  have hmf : ∀ (fn : Fn) (first cap : Array Value) (w : World), (Instr.makeFunc fn first cap).run Tryd.prog w = .ok (.func fn first cap) w := fun _ _ _ _ => rfl
  go_enter_defers Tryd.func15, Tryd.ntmps15
  go_wp2_with fail
  generalize hV : World.alloc (World.alloc (World.alloc w _) _) _ = V
  have eV : Ext w V := by subst hV; exact ((Ext.alloc _ _).trans (Ext.alloc _ _)).trans (Ext.alloc _ _)
  have c1 : V.cell? ⟨w.heap.size + 1, 0, none⟩ = some (.int .i64 0) := by subst hV; go_simp
  have c2 : V.cell? ⟨w.heap.size + 1 + 1, 0, none⟩ = some (.bool false) := by subst hV; go_simp
  have z1 : V.frozen? ⟨w.heap.size + 1, 0, none⟩ = false := by subst hV; go_simp
  have z2 : V.frozen? ⟨w.heap.size + 1 + 1, 0, none⟩ = false := by subst hV; go_simp
  have s2 : w.heap.size + 1 + 1 < V.heap.size := World.block_lt_of_cell? V _ c2
  clear hV
  refine (mf_2 V p).mono ?_
  rintro e w1 ⟨u, pv, rfl, e1⟩
  have d1 := e1.cell c1
  have d2 := e1.cell c2
  have y1 : w1.frozen? ⟨w.heap.size + 1, 0, none⟩ = false := by rw [e1.frozen (by simp; omega)]; exact z1
  have y2 : w1.frozen? ⟨w.heap.size + 1 + 1, 0, none⟩ = false := by rw [e1.frozen s2]; exact z2
  have x1 := eV.trans e1
  go_wp2_with fail
  refine leaves_cons (f := 19) (args := #[.pointer (some ⟨w.heap.size + 1, 0, none⟩), .pointer (some ⟨w.heap.size + 1 + 1, 0, none⟩)]) (by simp) (by simp [go_sem]) ?_
  refine (catch_panicking ⟨w.heap.size + 1, 0, none⟩ ⟨w.heap.size + 1 + 1, 0, none⟩ _ _ (by simp) u pv [] w1 d1 y1 d2 y2).mono ?_
  rintro e u' w'' ⟨rfl, rfl, rfl⟩
  have k1 : (w1.setCell ⟨w.heap.size + 1, 0, none⟩ (.int .i64 0)).cell? ⟨w.heap.size + 1, 0, none⟩ = some (.int .i64 0) := by go_simp
  have k2 : ((w1.setCell ⟨w.heap.size + 1, 0, none⟩ (.int .i64 0)).setCell ⟨w.heap.size + 1 + 1, 0, none⟩ (.bool false)).cell? ⟨w.heap.size + 1 + 1, 0, none⟩ = some (.bool false) := by go_simp
  refine ⟨.tuple #[.int .i64 0, .bool false], ?_, rfl, (x1.setCell (by simp <;> omega) _).setCell (by simp <;> omega) _⟩
  simp [results, Tryd.results15, go_sem, k1, k2]
theorem mustev (w : World) (k p f : Int) (h : mayE k p f = true) : Calls Tryd.prog 15 #[.agg #[evW k p f]] w (FrIs w (if k = 3 then f else 0) (decide (k = 3))) := by
  obtain ⟨⟨p0, p1⟩, hw⟩ := mayE_ways h
  rcases hw with ⟨rfl, rfl⟩ | ⟨rfl, rfl⟩ | ⟨rfl, f0, f1⟩
  · exact must_1 w p
  · exact must_2 w p
  · exact must_3 w p f
end Go.Proofs.YtihegdjdgklbgaaDoor
