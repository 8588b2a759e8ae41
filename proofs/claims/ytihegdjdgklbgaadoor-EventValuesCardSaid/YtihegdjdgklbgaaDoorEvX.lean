/- Events: Player, Raw, Frame; the reference's MayEvent, EqRaw. -/
import Derived.Test.YtihegdjdgklbgaaDoorEvW
namespace Go.Proofs.YtihegdjdgklbgaaDoor
set_option maxRecDepth 100000
open Go.RowKit
set_option linter.unusedVariables false

theorem meth_quit (f : Nat) (x : Value) (w : World) : (method (f + 1) 44 (.agg #[x]) "quintain/event.player").run Tryd.prog w = .ok (48, .agg #[x]) w := by kernel_rfl
theorem meth_late (f : Nat) (x : Value) (w : World) : (method (f + 1) 45 (.agg #[x]) "quintain/event.player").run Tryd.prog w = .ok (49, .agg #[x]) w := by kernel_rfl
theorem meth_apart (f : Nat) (x y : Value) (w : World) : (method (f + 1) 47 (.agg #[x, y]) "quintain/event.player").run Tryd.prog w = .ok (50, .agg #[x, y]) w := by kernel_rfl
def Num (w : World) (n : Int) (e : Ending) (w' : World) : Prop := e = .returned (.int .i64 n) ∧ Ext w w'
theorem pq_is (w : World) (p : Int) : Calls Tryd.prog 48 #[.agg #[.int .i64 p]] w (Num w p) := by
  go_enter Tryd.func48, Tryd.ntmps48
  go_wp2_with fail
  go_ret
  exact ⟨rfl, Ext.alloc _ _⟩
theorem pl_is (w : World) (p : Int) : Calls Tryd.prog 49 #[.agg #[.int .i64 p]] w (Num w p) := by
  go_enter Tryd.func49, Tryd.ntmps49
  go_wp2_with fail
  go_ret
  exact ⟨rfl, Ext.alloc _ _⟩
theorem pa_is (w : World) (p f : Int) : Calls Tryd.prog 50 #[.agg #[.int .i64 p, .int .i64 f]] w (Num w p) := by
  go_enter Tryd.func50, Tryd.ntmps50
  go_wp2_with fail
  go_ret
  exact ⟨rfl, Ext.alloc _ _⟩
theorem player_1 (w : World) (p : Int) : Calls Tryd.prog 13 #[.agg #[.iface 44 (.agg #[.int .i64 p])]] w (Num w p) := by
  have hm := meth_quit
  go_enter Tryd.func13, Tryd.ntmps13
  go_wp2_with fail
  refine (pq_is _ p).mono ?_
  rintro e w1 ⟨rfl, e1⟩
  go_wp2_with fail
  go_ret
  exact ⟨rfl, (Ext.alloc _ _).trans e1⟩
theorem player_2 (w : World) (p : Int) : Calls Tryd.prog 13 #[.agg #[.iface 45 (.agg #[.int .i64 p])]] w (Num w p) := by
  have hm := meth_late
  go_enter Tryd.func13, Tryd.ntmps13
  go_wp2_with fail
  refine (pl_is _ p).mono ?_
  rintro e w1 ⟨rfl, e1⟩
  go_wp2_with fail
  go_ret
  exact ⟨rfl, (Ext.alloc _ _).trans e1⟩
theorem player_3 (w : World) (p f : Int) : Calls Tryd.prog 13 #[.agg #[.iface 47 (.agg #[.int .i64 p, .int .i64 f])]] w (Num w p) := by
  have hm := meth_apart
  go_enter Tryd.func13, Tryd.ntmps13
  go_wp2_with fail
  refine (pa_is _ p f).mono ?_
  rintro e w1 ⟨rfl, e1⟩
  go_wp2_with fail
  go_ret
  exact ⟨rfl, (Ext.alloc _ _).trans e1⟩
theorem player_0 (w : World) : Calls Tryd.prog 13 #[.agg #[.nilIface]] w (Num w 0) := by
  go_enter Tryd.func13, Tryd.ntmps13
  go_wp2_with fail
  go_ret
  exact ⟨rfl, Ext.alloc _ _⟩
def RawIs (w : World) (k p f : Int) (e : Ending) (w' : World) : Prop := e = .returned (.agg #[.int .i64 k, .int .i64 p, .int .i64 f]) ∧ Ext w w'
theorem ta_qq (v : Value) (w : World) : (Instr.typeAssert (.iface 44 v) 26 44 true).run Tryd.prog w = .ok (.tuple #[v, .bool true]) w := by kernel_rfl
theorem ta_ql (v : Value) (w : World) : (Instr.typeAssert (.iface 44 v) 26 45 true).run Tryd.prog w = .ok (.tuple #[.agg #[.int .i64 0], .bool false]) w := by kernel_rfl
theorem ta_qa (v : Value) (w : World) : (Instr.typeAssert (.iface 44 v) 26 47 true).run Tryd.prog w = .ok (.tuple #[.agg #[.int .i64 0, .int .i64 0], .bool false]) w := by kernel_rfl
theorem ta_lq (v : Value) (w : World) : (Instr.typeAssert (.iface 45 v) 26 44 true).run Tryd.prog w = .ok (.tuple #[.agg #[.int .i64 0], .bool false]) w := by kernel_rfl
theorem ta_ll (v : Value) (w : World) : (Instr.typeAssert (.iface 45 v) 26 45 true).run Tryd.prog w = .ok (.tuple #[v, .bool true]) w := by kernel_rfl
theorem ta_la (v : Value) (w : World) : (Instr.typeAssert (.iface 45 v) 26 47 true).run Tryd.prog w = .ok (.tuple #[.agg #[.int .i64 0, .int .i64 0], .bool false]) w := by kernel_rfl
theorem ta_aq (v : Value) (w : World) : (Instr.typeAssert (.iface 47 v) 26 44 true).run Tryd.prog w = .ok (.tuple #[.agg #[.int .i64 0], .bool false]) w := by kernel_rfl
theorem ta_al (v : Value) (w : World) : (Instr.typeAssert (.iface 47 v) 26 45 true).run Tryd.prog w = .ok (.tuple #[.agg #[.int .i64 0], .bool false]) w := by kernel_rfl
theorem ta_aa (v : Value) (w : World) : (Instr.typeAssert (.iface 47 v) 26 47 true).run Tryd.prog w = .ok (.tuple #[v, .bool true]) w := by kernel_rfl
theorem ta_nq (w : World) : (Instr.typeAssert .nilIface 26 44 true).run Tryd.prog w = .ok (.tuple #[.agg #[.int .i64 0], .bool false]) w := by kernel_rfl
theorem ta_nl (w : World) : (Instr.typeAssert .nilIface 26 45 true).run Tryd.prog w = .ok (.tuple #[.agg #[.int .i64 0], .bool false]) w := by kernel_rfl
theorem ta_na (w : World) : (Instr.typeAssert .nilIface 26 47 true).run Tryd.prog w = .ok (.tuple #[.agg #[.int .i64 0, .int .i64 0], .bool false]) w := by kernel_rfl
theorem raw_1 (w : World) (p : Int) : Calls Tryd.prog 12 #[.agg #[.iface 44 (.agg #[.int .i64 p])]] w (RawIs w 1 p 0) := by
  have h1 := ta_qq
  go_enter Tryd.func12, Tryd.ntmps12
  go_wp2_with fail
  exact bodyPost_ret (v := .agg #[.int .i64 1, .int .i64 p, .int .i64 0]) (by simp [results, Tryd.results12, go_sem]) rfl ⟨rfl, by repeat (first | exact (Below.refl _ _).alloc (Nat.le_refl _) _ | refine Below.alloc ?_ (by simp <;> omega) _ | refine Below.setCell ?_ (by simp <;> omega) _)⟩
theorem raw_2 (w : World) (p : Int) : Calls Tryd.prog 12 #[.agg #[.iface 45 (.agg #[.int .i64 p])]] w (RawIs w 2 p 0) := by
  have h1 := ta_lq
  have h2 := ta_ll
  go_enter Tryd.func12, Tryd.ntmps12
  go_wp2_with fail
  exact bodyPost_ret (v := .agg #[.int .i64 2, .int .i64 p, .int .i64 0]) (by simp [results, Tryd.results12, go_sem]) rfl ⟨rfl, by repeat (first | exact (Below.refl _ _).alloc (Nat.le_refl _) _ | refine Below.alloc ?_ (by simp <;> omega) _ | refine Below.setCell ?_ (by simp <;> omega) _)⟩
theorem raw_3 (w : World) (p f : Int) : Calls Tryd.prog 12 #[.agg #[.iface 47 (.agg #[.int .i64 p, .int .i64 f])]] w (RawIs w 3 p f) := by
  have h1 := ta_aq
  have h2 := ta_al
  have h3 := ta_aa
  go_enter Tryd.func12, Tryd.ntmps12
  go_wp2_with fail
  exact bodyPost_ret (v := .agg #[.int .i64 3, .int .i64 p, .int .i64 f]) (by simp [results, Tryd.results12, go_sem]) rfl ⟨rfl, by repeat (first | exact (Below.refl _ _).alloc (Nat.le_refl _) _ | refine Below.alloc ?_ (by simp <;> omega) _ | refine Below.setCell ?_ (by simp <;> omega) _)⟩
theorem raw_0 (w : World)  : Calls Tryd.prog 12 #[.agg #[.nilIface]] w (RawIs w 0 0 0) := by
  have h1 := ta_nq
  have h2 := ta_nl
  have h3 := ta_na
  go_enter Tryd.func12, Tryd.ntmps12
  go_wp2_with fail
  exact bodyPost_ret (v := .agg #[.int .i64 0, .int .i64 0, .int .i64 0]) (by simp [results, Tryd.results12, go_sem]) rfl ⟨rfl, by repeat (first | exact (Below.refl _ _).alloc (Nat.le_refl _) _ | refine Below.alloc ?_ (by simp <;> omega) _ | refine Below.setCell ?_ (by simp <;> omega) _)⟩
def FrIs (w : World) (n : Int) (b : Bool) (e : Ending) (w' : World) : Prop := e = .returned (.tuple #[.int .i64 n, .bool b]) ∧ Ext w w'
theorem frame_1 (w : World) (p : Int) : Calls Tryd.prog 14 #[.agg #[.iface 44 (.agg #[.int .i64 p])]] w (FrIs w 0 false) := by
  have h1 := ta_qa
  go_enter Tryd.func14, Tryd.ntmps14
  go_wp2_with fail
  exact bodyPost_ret (v := .tuple #[.int .i64 0, .bool false]) (by simp [results, Tryd.results14, go_sem]) rfl ⟨rfl, by repeat (first | exact (Below.refl _ _).alloc (Nat.le_refl _) _ | refine Below.alloc ?_ (by simp <;> omega) _ | refine Below.setCell ?_ (by simp <;> omega) _)⟩
theorem frame_2 (w : World) (p : Int) : Calls Tryd.prog 14 #[.agg #[.iface 45 (.agg #[.int .i64 p])]] w (FrIs w 0 false) := by
  have h1 := ta_la
  go_enter Tryd.func14, Tryd.ntmps14
  go_wp2_with fail
  exact bodyPost_ret (v := .tuple #[.int .i64 0, .bool false]) (by simp [results, Tryd.results14, go_sem]) rfl ⟨rfl, by repeat (first | exact (Below.refl _ _).alloc (Nat.le_refl _) _ | refine Below.alloc ?_ (by simp <;> omega) _ | refine Below.setCell ?_ (by simp <;> omega) _)⟩
theorem frame_3 (w : World) (p f : Int) : Calls Tryd.prog 14 #[.agg #[.iface 47 (.agg #[.int .i64 p, .int .i64 f])]] w (FrIs w f true) := by
  have h1 := ta_aa
  go_enter Tryd.func14, Tryd.ntmps14
  go_wp2_with fail
  exact bodyPost_ret (v := .tuple #[.int .i64 f, .bool true]) (by simp [results, Tryd.results14, go_sem]) rfl ⟨rfl, by repeat (first | exact (Below.refl _ _).alloc (Nat.le_refl _) _ | refine Below.alloc ?_ (by simp <;> omega) _ | refine Below.setCell ?_ (by simp <;> omega) _)⟩
theorem frame_0 (w : World)  : Calls Tryd.prog 14 #[.agg #[.nilIface]] w (FrIs w 0 false) := by
  have h1 := ta_na
  go_enter Tryd.func14, Tryd.ntmps14
  go_wp2_with fail
  exact bodyPost_ret (v := .tuple #[.int .i64 0, .bool false]) (by simp [results, Tryd.results14, go_sem]) rfl ⟨rfl, by repeat (first | exact (Below.refl _ _).alloc (Nat.le_refl _) _ | refine Below.alloc ?_ (by simp <;> omega) _ | refine Below.setCell ?_ (by simp <;> omega) _)⟩
/-- The reference's EqRaw, MayEvent. -/
def BoolIs (w : World) (b : Bool) (e : Ending) (w' : World) : Prop := e = .returned (.bool b) ∧ Ext w w'
set_option maxHeartbeats 1000000 in
theorem eqraw_any (w : World) (k p f k' p' f' : Int) : Calls Tryd.prog 10 #[.agg #[.int .i64 k, .int .i64 p, .int .i64 f], .agg #[.int .i64 k', .int .i64 p', .int .i64 f']] w (BoolIs w (k == k' && p == p' && f == f')) := by
  cases h1 : k == k'
  · go_enter Tryd.func10, Tryd.ntmps10
    go_wp2_with fail
    exact bodyPost_ret (v := .bool false) (by simp [results, Tryd.results10, go_sem]) rfl ⟨by rfl, by repeat (first | exact (Below.refl _ _).alloc (Nat.le_refl _) _ | refine Below.alloc ?_ (by simp <;> omega) _ | refine Below.setCell ?_ (by simp <;> omega) _)⟩
  cases h2 : p == p'
  · go_enter Tryd.func10, Tryd.ntmps10
    go_wp2_with fail
    exact bodyPost_ret (v := .bool false) (by simp [results, Tryd.results10, go_sem]) rfl ⟨by rfl, by repeat (first | exact (Below.refl _ _).alloc (Nat.le_refl _) _ | refine Below.alloc ?_ (by simp <;> omega) _ | refine Below.setCell ?_ (by simp <;> omega) _)⟩
  cases h3 : f == f'
  · go_enter Tryd.func10, Tryd.ntmps10
    go_wp2_with fail
    exact bodyPost_ret (v := .bool false) (by simp [results, Tryd.results10, go_sem]) rfl ⟨by rfl, by repeat (first | exact (Below.refl _ _).alloc (Nat.le_refl _) _ | refine Below.alloc ?_ (by simp <;> omega) _ | refine Below.setCell ?_ (by simp <;> omega) _)⟩
  go_enter Tryd.func10, Tryd.ntmps10
  go_wp2_with fail
  exact bodyPost_ret (v := .bool true) (by simp [results, Tryd.results10, go_sem]) rfl ⟨by rfl, by repeat (first | exact (Below.refl _ _).alloc (Nat.le_refl _) _ | refine Below.alloc ?_ (by simp <;> omega) _ | refine Below.setCell ?_ (by simp <;> omega) _)⟩
set_option maxHeartbeats 2000000 in
theorem mayevent_any (w : World) (k p f : Int) : Calls Tryd.prog 11 #[.agg #[.int .i64 k, .int .i64 p, .int .i64 f]] w (BoolIs w (mayE k p f)) := by
  have key : ∀ b, mayE k p f = b → Calls Tryd.prog 11 #[.agg #[.int .i64 k, .int .i64 p, .int .i64 f]] w (BoolIs w b) → Calls Tryd.prog 11 #[.agg #[.int .i64 k, .int .i64 p, .int .i64 f]] w (BoolIs w (mayE k p f)) := fun b hb h => by rw [hb]; exact h
  by_cases h1 : 1 ≤ k
  case neg =>
    have d1 : decide (1 ≤ k) = false := decide_eq_false h1
    refine key false (by simp [mayE, h1]) ?_
    go_enter Tryd.func11, Tryd.ntmps11
    go_wp2_with fail
    exact bodyPost_ret (v := .bool false) (by simp [results, Tryd.results11, go_sem]) rfl ⟨rfl, by repeat (first | exact (Below.refl _ _).alloc (Nat.le_refl _) _ | refine Below.alloc ?_ (by simp <;> omega) _ | refine Below.setCell ?_ (by simp <;> omega) _)⟩
  have d1 : decide (1 ≤ k) = true := decide_eq_true h1
  by_cases h2 : k ≤ 3
  case neg =>
    have d2 : decide (k ≤ 3) = false := decide_eq_false h2
    refine key false (by simp [mayE, h2]) ?_
    go_enter Tryd.func11, Tryd.ntmps11
    go_wp2_with fail
    exact bodyPost_ret (v := .bool false) (by simp [results, Tryd.results11, go_sem]) rfl ⟨rfl, by repeat (first | exact (Below.refl _ _).alloc (Nat.le_refl _) _ | refine Below.alloc ?_ (by simp <;> omega) _ | refine Below.setCell ?_ (by simp <;> omega) _)⟩
  have d2 : decide (k ≤ 3) = true := decide_eq_true h2
  by_cases h3 : 0 ≤ p
  case neg =>
    have d3 : decide (0 ≤ p) = false := decide_eq_false h3
    refine key false (by simp [mayE, h3]) ?_
    go_enter Tryd.func11, Tryd.ntmps11
    go_wp2_with fail
    exact bodyPost_ret (v := .bool false) (by simp [results, Tryd.results11, go_sem]) rfl ⟨rfl, by repeat (first | exact (Below.refl _ _).alloc (Nat.le_refl _) _ | refine Below.alloc ?_ (by simp <;> omega) _ | refine Below.setCell ?_ (by simp <;> omega) _)⟩
  have d3 : decide (0 ≤ p) = true := decide_eq_true h3
  by_cases h4 : p ≤ 7
  case neg =>
    have d4 : decide (p ≤ 7) = false := decide_eq_false h4
    refine key false (by simp [mayE, h4]) ?_
    go_enter Tryd.func11, Tryd.ntmps11
    go_wp2_with fail
    exact bodyPost_ret (v := .bool false) (by simp [results, Tryd.results11, go_sem]) rfl ⟨rfl, by repeat (first | exact (Below.refl _ _).alloc (Nat.le_refl _) _ | refine Below.alloc ?_ (by simp <;> omega) _ | refine Below.setCell ?_ (by simp <;> omega) _)⟩
  have d4 : decide (p ≤ 7) = true := decide_eq_true h4
  by_cases h5 : 0 ≤ f
  case neg =>
    have d5 : decide (0 ≤ f) = false := decide_eq_false h5
    refine key false (by simp [mayE, h5]) ?_
    go_enter Tryd.func11, Tryd.ntmps11
    go_wp2_with fail
    exact bodyPost_ret (v := .bool false) (by simp [results, Tryd.results11, go_sem]) rfl ⟨rfl, by repeat (first | exact (Below.refl _ _).alloc (Nat.le_refl _) _ | refine Below.alloc ?_ (by simp <;> omega) _ | refine Below.setCell ?_ (by simp <;> omega) _)⟩
  have d5 : decide (0 ≤ f) = true := decide_eq_true h5
  by_cases h6 : f ≤ 1000
  case neg =>
    have d6 : decide (f ≤ 1000) = false := decide_eq_false h6
    refine key false (by simp [mayE, h6]) ?_
    go_enter Tryd.func11, Tryd.ntmps11
    go_wp2_with fail
    exact bodyPost_ret (v := .bool false) (by simp [results, Tryd.results11, go_sem]) rfl ⟨rfl, by repeat (first | exact (Below.refl _ _).alloc (Nat.le_refl _) _ | refine Below.alloc ?_ (by simp <;> omega) _ | refine Below.setCell ?_ (by simp <;> omega) _)⟩
  have d6 : decide (f ≤ 1000) = true := decide_eq_true h6
  by_cases h7 : k = 3
  · subst h7
    refine key true (by simp [mayE, h3, h4, h5, h6]) ?_
    go_enter Tryd.func11, Tryd.ntmps11
    go_wp2_with fail
    exact bodyPost_ret (v := .bool true) (by simp [results, Tryd.results11, go_sem]) rfl ⟨rfl, by repeat (first | exact (Below.refl _ _).alloc (Nat.le_refl _) _ | refine Below.alloc ?_ (by simp <;> omega) _ | refine Below.setCell ?_ (by simp <;> omega) _)⟩
  have d7 : (k == 3) = false := by rw [beq_eq_false_iff_ne]; exact h7
  by_cases h8 : f = 0
  · subst h8
    refine key true (by simp [mayE, h1, h2, h3, h4]) ?_
    go_enter Tryd.func11, Tryd.ntmps11
    go_wp2_with fail
    exact bodyPost_ret (v := .bool true) (by simp [results, Tryd.results11, go_sem]) rfl ⟨rfl, by repeat (first | exact (Below.refl _ _).alloc (Nat.le_refl _) _ | refine Below.alloc ?_ (by simp <;> omega) _ | refine Below.setCell ?_ (by simp <;> omega) _)⟩
  have d8 : (f == 0) = false := by rw [beq_eq_false_iff_ne]; exact h8
  refine key false (by simp [mayE, h7, h8]) ?_
  go_enter Tryd.func11, Tryd.ntmps11
  go_wp2_with fail
  exact bodyPost_ret (v := .bool false) (by simp [results, Tryd.results11, go_sem]) rfl ⟨rfl, by repeat (first | exact (Below.refl _ _).alloc (Nat.le_refl _) _ | refine Below.alloc ?_ (by simp <;> omega) _ | refine Below.setCell ?_ (by simp <;> omega) _)⟩
end Go.Proofs.YtihegdjdgklbgaaDoor
