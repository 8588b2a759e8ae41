/- The walks of slices.Equal at operations, of code.Eq, of the reference's EqProg, of bytes.Equal. -/
import Derived.Test.YtbmgiidecidojaaDoorCodF
import Derived.Test.YtbmgiidecidojaaDoorReg
import Derived.Laws.StructEq
namespace Go.Proofs.YtbmgiidecidojaaDoor
open Go.RowKit

theorem op_eqIn (W : World) (d : Nat) (x a b c x' a' b' c' : Int) :
    (Op.equalIn (d + 2) 39 (.agg #[.int .i64 x, .int .i64 a, .int .i64 b, .int .i64 c]) (.agg #[.int .i64 x', .int .i64 a', .int .i64 b', .int .i64 c'])).run Tryd.prog W = .ok (x == x' && (a == a' && (b == b' && c == c'))) W := by
  have hu : Tryd.prog.underlying 39 = some (.struct (Tryd.prog.fieldsOf 39)) := by kernel_rfl
  have hp : Tryd.prog.stoodInHeld 39 = false := by kernel_rfl
  have hi : Tryd.prog.underlying 3 = some (.int .i64) := Tryd.underlying3
  have hc : Tryd.prog.cellsOf 3 = 1 := by kernel_rfl
  rw [run_equalIn_struct W (d + 1) _ _ _ hu hp]
  have hfs : Tryd.prog.fieldsOf 39 = (match Tryd.prog.underlying 39 with | some (.struct fs) => fs | _ => #[]) := rfl
  rw [hfs, Tryd.underlying39]
  clear hfs hu hp
  cases h1 : x == x' <;> cases h2 : a == a' <;> cases h3 : b == b' <;> cases h4 : c == c' <;> simp [Op.eqFields, part, run_equalIn_int (P := Tryd.prog) W d 3 .i64 .i64 _ _ hi, h1, h2, h3, h4, sizeOf, typeInfo]
theorem op_neq (W : World) (o o' : OpT) : (binOp .neq 39 (opAgg o) (opAgg o')).run Tryd.prog W = .ok (.bool (o != o')) W := by
  obtain ⟨x, a, b, c⟩ := o
  obtain ⟨x', a', b', c'⟩ := o'
  unfold opAgg
  rw [run_neq_struct, op_eqIn W 9998, Result.andThen_ok]
  congr 2

/-- Are two programs the same? -/
def eqP (t t' : List UInt8) (l l' : List OpT) : Bool := decide (t = t') && decide (l = l')
def eqRel (l l' : List OpT) (w : World) (i : Value) (w' : World) : Prop := ∃ k : Nat, i = .int .i64 (k : Nat) ∧ k ≤ l.length ∧ (l = l' ↔ l.drop k = l'.drop k) ∧ Dr w w'
theorem drop_eq {l l' : List OpT} {k : Nat} (h : k < l.length) (h' : k < l'.length) : l.drop k = l'.drop k ↔ l[k] = l'[k] ∧ l.drop (k + 1) = l'.drop (k + 1) := by
  rw [List.drop_eq_getElem_cons h, List.drop_eq_getElem_cons h', List.cons.injEq]

end Go.Proofs.YtbmgiidecidojaaDoor
