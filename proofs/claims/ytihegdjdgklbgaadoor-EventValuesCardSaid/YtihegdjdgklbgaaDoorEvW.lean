/- Events: the walks of Of, Player, Raw, Frame; the reference's MayEvent, EqRaw. -/
import Derived.Test.YtihegdjdgklbgaaDoorRows
import Derived.Test.YtihegdjdgklbgaaDoorKit
namespace Go.Proofs.YtihegdjdgklbgaaDoor
set_option maxRecDepth 100000
open Go.RowKit
set_option linter.unusedVariables false

/-- What an event keeps. -/
def evW (k p f : Int) : Value :=
  if k = 1 then .iface 44 (.agg #[.int .i64 p]) else if k = 2 then .iface 45 (.agg #[.int .i64 p]) else if k = 3 then .iface 47 (.agg #[.int .i64 p, .int .i64 f]) else .nilIface
def mayE (k p f : Int) : Bool := decide (1 ≤ k) && decide (k ≤ 3) && decide (0 ≤ p) && decide (p ≤ 7) && decide (0 ≤ f) && decide (f ≤ 1000) && (decide (k = 3) || decide (f = 0))
theorem mayE_ways {k p f : Int} (h : mayE k p f = true) : (0 ≤ p ∧ p ≤ 7) ∧ ((k = 1 ∧ f = 0) ∨ (k = 2 ∧ f = 0) ∨ (k = 3 ∧ 0 ≤ f ∧ f ≤ 1000)) := by
  simp [mayE] at h; omega
theorem mayE_not {k p f : Int} (h : mayE k p f = false) : p < 0 ∨ 7 < p ∨ f < 0 ∨ 1000 < f ∨ (0 < f ∧ k ≠ 3) ∨ (k ≠ 1 ∧ k ≠ 2 ∧ k ≠ 3) := by
  simp [mayE] at h; omega

def OfIs (w : World) (v : Value) (b : Bool) (e : Ending) (w' : World) : Prop := e = .returned (.tuple #[.agg #[v], .bool b]) ∧ Ext w w'

set_option maxHeartbeats 1000000 in
theorem of_1 (w : World) (p : Int) (p0 : 0 ≤ p) (p1 : p ≤ 7) : Calls Tryd.prog 8 #[.agg #[.int .i64 1, .int .i64 p, .int .i64 0]] w (OfIs w (.iface 44 (.agg #[.int .i64 p])) true) := by
  go_enter Tryd.func8, Tryd.ntmps8
  go_wp2_with fail
  exact bodyPost_ret (v := .tuple #[.agg #[.iface 44 (.agg #[.int .i64 p])], .bool true]) (by simp [results, Tryd.results8, go_sem]) rfl ⟨rfl, by repeat (first | exact (Below.refl _ _).alloc (Nat.le_refl _) _ | refine Below.alloc ?_ (by simp) _ | refine Below.setCell ?_ (by simp) _)⟩
set_option maxHeartbeats 1000000 in
theorem of_2 (w : World) (p : Int) (p0 : 0 ≤ p) (p1 : p ≤ 7) : Calls Tryd.prog 8 #[.agg #[.int .i64 2, .int .i64 p, .int .i64 0]] w (OfIs w (.iface 45 (.agg #[.int .i64 p])) true) := by
  go_enter Tryd.func8, Tryd.ntmps8
  go_wp2_with fail
  exact bodyPost_ret (v := .tuple #[.agg #[.iface 45 (.agg #[.int .i64 p])], .bool true]) (by simp [results, Tryd.results8, go_sem]) rfl ⟨rfl, by repeat (first | exact (Below.refl _ _).alloc (Nat.le_refl _) _ | refine Below.alloc ?_ (by simp) _ | refine Below.setCell ?_ (by simp) _)⟩
set_option maxHeartbeats 1000000 in
theorem of_3 (w : World) (p f : Int) (p0 : 0 ≤ p) (p1 : p ≤ 7) (f0 : 0 ≤ f) (f1 : f ≤ 1000) : Calls Tryd.prog 8 #[.agg #[.int .i64 3, .int .i64 p, .int .i64 f]] w (OfIs w (.iface 47 (.agg #[.int .i64 p, .int .i64 f])) true) := by
  by_cases hf : 0 < f
  · have hd : decide (0 < f) = true := decide_eq_true hf
    go_enter Tryd.func8, Tryd.ntmps8
    go_wp2_with fail
    exact bodyPost_ret (v := .tuple #[.agg #[.iface 47 (.agg #[.int .i64 p, .int .i64 f])], .bool true]) (by simp [results, Tryd.results8, go_sem]) rfl ⟨rfl, by repeat (first | exact (Below.refl _ _).alloc (Nat.le_refl _) _ | refine Below.alloc ?_ (by simp) _ | refine Below.setCell ?_ (by simp) _)⟩
  · obtain rfl : f = 0 := by omega
    go_enter Tryd.func8, Tryd.ntmps8
    go_wp2_with fail
    exact bodyPost_ret (v := .tuple #[.agg #[.iface 47 (.agg #[.int .i64 p, .int .i64 0])], .bool true]) (by simp [results, Tryd.results8, go_sem]) rfl ⟨rfl, by repeat (first | exact (Below.refl _ _).alloc (Nat.le_refl _) _ | refine Below.alloc ?_ (by simp) _ | refine Below.setCell ?_ (by simp) _)⟩
theorem of_yes (w : World) (k p f : Int) (h : mayE k p f = true) : Calls Tryd.prog 8 #[.agg #[.int .i64 k, .int .i64 p, .int .i64 f]] w (OfIs w (evW k p f) true) := by
  obtain ⟨⟨p0, p1⟩, hw⟩ := mayE_ways h
  rcases hw with ⟨rfl, rfl⟩ | ⟨rfl, rfl⟩ | ⟨rfl, f0, f1⟩
  · exact of_1 w p p0 p1
  · exact of_2 w p p0 p1
  · exact of_3 w p f p0 p1 f0 f1
set_option maxHeartbeats 4000000 in
theorem of_no (w : World) (k p f : Int) (h : mayE k p f = false) : Calls Tryd.prog 8 #[.agg #[.int .i64 k, .int .i64 p, .int .i64 f]] w (OfIs w .nilIface false) := by
  have hw := mayE_not h
  clear h
  by_cases h1 : p < 0
  · have d1 : decide (p < 0) = true := decide_eq_true h1
    clear hw
    go_enter Tryd.func8, Tryd.ntmps8
    go_wp2_with fail
    exact bodyPost_ret (v := .tuple #[.agg #[.nilIface], .bool false]) (by simp [results, Tryd.results8, go_sem]) rfl ⟨rfl, by repeat (first | exact (Below.refl _ _).alloc (Nat.le_refl _) _ | refine Below.alloc ?_ (by simp) _ | refine Below.setCell ?_ (by simp) _)⟩
  have d1 : decide (p < 0) = false := decide_eq_false h1
  by_cases h2 : 7 < p
  · have d2 : decide (8 ≤ p) = true := decide_eq_true (by omega)
    clear hw
    go_enter Tryd.func8, Tryd.ntmps8
    go_wp2_with fail
    exact bodyPost_ret (v := .tuple #[.agg #[.nilIface], .bool false]) (by simp [results, Tryd.results8, go_sem]) rfl ⟨rfl, by repeat (first | exact (Below.refl _ _).alloc (Nat.le_refl _) _ | refine Below.alloc ?_ (by simp) _ | refine Below.setCell ?_ (by simp) _)⟩
  have d2 : decide (8 ≤ p) = false := decide_eq_false (by omega)
  by_cases h3 : f < 0
  · have d3 : decide (f < 0) = true := decide_eq_true h3
    clear hw
    go_enter Tryd.func8, Tryd.ntmps8
    go_wp2_with fail
    exact bodyPost_ret (v := .tuple #[.agg #[.nilIface], .bool false]) (by simp [results, Tryd.results8, go_sem]) rfl ⟨rfl, by repeat (first | exact (Below.refl _ _).alloc (Nat.le_refl _) _ | refine Below.alloc ?_ (by simp) _ | refine Below.setCell ?_ (by simp) _)⟩
  have d3 : decide (f < 0) = false := decide_eq_false h3
  by_cases h4 : 1000 < f
  · have d4 : decide (1000 < f) = true := decide_eq_true h4
    clear hw
    go_enter Tryd.func8, Tryd.ntmps8
    go_wp2_with fail
    exact bodyPost_ret (v := .tuple #[.agg #[.nilIface], .bool false]) (by simp [results, Tryd.results8, go_sem]) rfl ⟨rfl, by repeat (first | exact (Below.refl _ _).alloc (Nat.le_refl _) _ | refine Below.alloc ?_ (by simp) _ | refine Below.setCell ?_ (by simp) _)⟩
  have d4 : decide (1000 < f) = false := decide_eq_false h4
  by_cases h5 : 0 < f
  · have d5 : decide (0 < f) = true := decide_eq_true h5
    have d6 : (k == 3) = false := by rw [beq_eq_false_iff_ne]; omega
    have d7 : (k != 3) = true := by rw [bne_iff_ne]; omega
    clear hw
    go_enter Tryd.func8, Tryd.ntmps8
    go_wp2_with fail
    exact bodyPost_ret (v := .tuple #[.agg #[.nilIface], .bool false]) (by simp [results, Tryd.results8, go_sem]) rfl ⟨rfl, by repeat (first | exact (Below.refl _ _).alloc (Nat.le_refl _) _ | refine Below.alloc ?_ (by simp) _ | refine Below.setCell ?_ (by simp) _)⟩
  · have d5 : decide (0 < f) = false := decide_eq_false h5
    have e1 : (k == 1) = false := by rw [beq_eq_false_iff_ne]; omega
    have e2 : (k == 2) = false := by rw [beq_eq_false_iff_ne]; omega
    have e3 : (k == 3) = false := by rw [beq_eq_false_iff_ne]; omega
    clear hw
    go_enter Tryd.func8, Tryd.ntmps8
    go_wp2_with fail
    exact bodyPost_ret (v := .tuple #[.agg #[.nilIface], .bool false]) (by simp [results, Tryd.results8, go_sem]) rfl ⟨rfl, by repeat (first | exact (Below.refl _ _).alloc (Nat.le_refl _) _ | refine Below.alloc ?_ (by simp) _ | refine Below.setCell ?_ (by simp) _)⟩
end Go.Proofs.YtihegdjdgklbgaaDoor
