/- Small facts for the rows' steps of asm: the table of powers, a world that holds the tables. -/
import Derived.Test.YtbmgiidecidojaaDoorAsmN
import Derived.LaidSub
import Derived.OpenShut
import Derived.ProofKit
namespace Go.Proofs.YtbmgiidecidojaaDoor
open Go.RowKit Go.WideShapes Go.ChangeShapes
set_option linter.unusedVariables false

theorem pow_of_laid {W : World} (h : laidMetH Tryd.prog Rows.asmTextRow.laid W) : Pow W := by
  have h2 := h.filter (fun x => x.1 == "internal/strconv.uint64pow10")
  have h3 : laidMetH Tryd.prog [("internal/strconv.uint64pow10", Lib.tabData .u64 Lib.pow10Tab)] W := h2
  exact Lib.tabIs_of_head (rest := []) g_pow (t := 85) (by kernel_rfl) Tryd.underlying85 Tryd.underlying73 (by kernel_rfl) (by kernel_rfl) h3
/-- What a datum of numbers lays. -/
def laysCells : DataW Unit → Array Value
  | .agg ds => (ds.map fun d => match d with | .lit (.int k z) => Value.int k z | _ => undef).toArray
  | _ => #[]
def layIn (d : DataW Unit) : Obj → Obj
  | .cells _ t frozen => .cells (laysCells d) t frozen
  | o => o
/-- A world that holds the tables. -/
noncomputable def laidWorld (os : Os) : World :=
  { World.holding Tryd.prog os ⟨#[], #[], []⟩ with heap := (((World.holding Tryd.prog os ⟨#[], #[], []⟩).heap.modify 1 (layIn Rows.laid_internal_strconv_uint64pow10)).modify 2 (layIn Rows.laid_math_bits_deBruijn32tab)).modify 3 (layIn Rows.laid_math_bits_deBruijn64tab) }
end Go.Proofs.YtbmgiidecidojaaDoor
