/- A raw event that came in. -/
import Derived.Test.YtihegdjdgklbgaaDoorRowE
import Derived.Lib.SmallJoins
namespace Go.Proofs.YtihegdjdgklbgaaDoor
set_option maxRecDepth 100000
open Go.RowKit Go.Joins Go.ChangeShapes Go.WideShapes
set_option linter.unusedVariables false

def okI (n : Int) : Prop := -9223372036854775808 ≤ n ∧ n ≤ 9223372036854775807
section
variable {H : Type} {enc : TypeId × Value → H} {w : World} {base : Nat}
theorem int_one {n : Nat} {v : Value} {y : DataW H × List MemPlace} (h : DataW.trod enc Tryd.prog w base (fun _ => true) true n 3 [v] = some y) : ∃ z, v = .int .i64 z ∧ okI z := by
  obtain ⟨z, hcs, _, hw⟩ := DataW.trod_int Tryd.underlying3 h
  refine ⟨z, by simpa using hcs, ?_⟩
  have hmin : IntKind.i64.min = -9223372036854775808 := rfl
  have hmax : IntKind.i64.max = 9223372036854775807 := rfl
  simp only [Lit.wf, Bool.and_eq_true, decide_eq_true_eq] at hw
  exact ⟨by omega, by omega⟩
theorem raw_open {r : Reach} {b0 : Nat} {v : Value} {d : DataW H} {p : List MemPlace} (hv : Value.okWide Tryd.prog w r b0 23 v) (h : DataW.Trod enc Tryd.prog w base (fun _ => true) true 23 v d p) :
    ∃ a b c, v = .agg #[.int .i64 a, .int .i64 b, .int .i64 c] ∧ okI a ∧ okI b ∧ okI c := by
  obtain ⟨v0, v1, v2, y0, y1, y2, n, rfl, _, _, h0, h1, h2⟩ := open_agg3 Tryd.underlying23 (by kernel_rfl) (by kernel_rfl) hv h
  obtain ⟨z0, rfl, k0⟩ := int_one h0
  obtain ⟨z1, rfl, k1⟩ := int_one h1
  obtain ⟨z2, rfl, k2⟩ := int_one h2
  exact ⟨z0, z1, z2, rfl, k0, k1, k2⟩
end
end Go.Proofs.YtihegdjdgklbgaaDoor
