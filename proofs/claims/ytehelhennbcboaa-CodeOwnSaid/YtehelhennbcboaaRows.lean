/-
  No cell of these rows narrows 'for every input' (looked for: loops, veiled, ifaces, maps, wideKeys, modest, calm, conditions, laid).
  DERIVED. THE GIVEN ROWS OF THIS SEAT. 11 by the template 'for every input the law returns true; each argument reads behind the call as it read before'; 0 by the template 'total and deterministic' (their statements: YtehelhennbcboaaTotals.lean).
  GIVEN WITH THE SEED: the statements are not yours to turn. If you find one false, say at which input.
  Laid BY PROGRAM, IN A SANDBOX (cutbox-rows.mjs): the forced cells as the released guide's own fill.sh prints them over the translation 2a8d4c4a92c50641… (all of the seat's roots in one cut). By AI agents, Wed Nov 11 2026. No macro, syntax, notation, axiom, sorry.
-/
import Derived.Test.YtehelhennbcboaaChecked
import GoSem.Claim
import GoSem.ClaimJoined
import GoSem.ClaimMapViews
import Derived.JoinedTies
import Derived.KernelRfl
namespace Go.Proofs.Ytehelhennbcboaa
/- THE CELL 'sum', in the pinned program and in every row, IS THE sha256 OF THE DUMP (.gsa) THAT YtehelhennbcboaaProg.lean LOADS. Nothing in Lean hashes anything: it is a label: what it is worth is what the hold of that sum in a sandbox is worth. -/
noncomputable def Try.pinned : Pinned := { name := "ytehelhennbcboaa", sum := "2a8d4c4a92c50641427a84ae0ed93f005bc68ac77544e2b1ced056897c2e48d0", checked := Try.checked }
namespace Rows
def none {H : Type} : Left H := { results := [], args := [] }

/-- 'quintainlaw7.CheckAll': WHATEVER THE INPUT: true; the input reads as it did. -/
def checkAllSpec : ChangeSpec := { name := "checkAll", fn := fun _ => fun
  | [d] => { results := [.lit (.bool true)], args := [d] }
  | _ => none }
def checkAllRow : OpenClaim := { program := "ytehelhennbcboaa", sum := "2a8d4c4a92c50641427a84ae0ed93f005bc68ac77544e2b1ced056897c2e48d0", func := "quintain/quintainlaw7.CheckAll", spec := "checkAll", unfollowed := true, recurses := true, apart := false }
def CheckAllSaid : Prop := checkAllRow.holds Try.pinned (OpenSpec.ofChange checkAllSpec)

/-- ITS FALSE NEIGHBOUR: 'it returns false'. Refute it at one input. -/
def checkAllWrong : ChangeSpec := { name := "checkAll", fn := fun _ => fun
  | [d] => { results := [.lit (.bool false)], args := [d] }
  | _ => none }
def CheckAllWrongFalsely : Prop := checkAllRow.holds Try.pinned (OpenSpec.ofChange checkAllWrong)

/-- 'quintainlaw7.CheckOp': WHATEVER THE INPUT: true; the input reads as it did. -/
def checkOpSpec : ChangeSpec := { name := "checkOp", fn := fun _ => fun
  | [d1, d2] => { results := [.lit (.bool true)], args := [d1, d2] }
  | _ => none }
def checkOpRow : OpenClaim := { program := "ytehelhennbcboaa", sum := "2a8d4c4a92c50641427a84ae0ed93f005bc68ac77544e2b1ced056897c2e48d0", func := "quintain/quintainlaw7.CheckOp", spec := "checkOp", unfollowed := true, recurses := true, apart := false }
def CheckOpSaid : Prop := checkOpRow.holds Try.pinned (OpenSpec.ofChange checkOpSpec)

/-- ITS FALSE NEIGHBOUR: 'it returns false'. Refute it at one input. -/
def checkOpWrong : ChangeSpec := { name := "checkOp", fn := fun _ => fun
  | [d1, d2] => { results := [.lit (.bool false)], args := [d1, d2] }
  | _ => none }
def CheckOpWrongFalsely : Prop := checkOpRow.holds Try.pinned (OpenSpec.ofChange checkOpWrong)

/-- 'quintainlaw7.CheckMore': WHATEVER THE INPUT: true; the input reads as it did. -/
def checkMoreSpec : ChangeSpec := { name := "checkMore", fn := fun _ => fun
  | [d1, d2] => { results := [.lit (.bool true)], args := [d1, d2] }
  | _ => none }
def checkMoreRow : OpenClaim := { program := "ytehelhennbcboaa", sum := "2a8d4c4a92c50641427a84ae0ed93f005bc68ac77544e2b1ced056897c2e48d0", func := "quintain/quintainlaw7.CheckMore", spec := "checkMore", unfollowed := true, recurses := true, apart := false }
def CheckMoreSaid : Prop := checkMoreRow.holds Try.pinned (OpenSpec.ofChange checkMoreSpec)

/-- ITS FALSE NEIGHBOUR: 'it returns false'. Refute it at one input. -/
def checkMoreWrong : ChangeSpec := { name := "checkMore", fn := fun _ => fun
  | [d1, d2] => { results := [.lit (.bool false)], args := [d1, d2] }
  | _ => none }
def CheckMoreWrongFalsely : Prop := checkMoreRow.holds Try.pinned (OpenSpec.ofChange checkMoreWrong)

/-- 'quintainlaw7.CheckCells': WHATEVER THE INPUT: true; the input reads as it did. -/
def checkCellsSpec : ChangeSpec := { name := "checkCells", fn := fun _ => fun
  | [d1, d2, d3, d4, d5] => { results := [.lit (.bool true)], args := [d1, d2, d3, d4, d5] }
  | _ => none }
def checkCellsRow : OpenClaim := { program := "ytehelhennbcboaa", sum := "2a8d4c4a92c50641427a84ae0ed93f005bc68ac77544e2b1ced056897c2e48d0", func := "quintain/quintainlaw7.CheckCells", spec := "checkCells", unfollowed := true, recurses := true, apart := false }
def CheckCellsSaid : Prop := checkCellsRow.holds Try.pinned (OpenSpec.ofChange checkCellsSpec)

/-- ITS FALSE NEIGHBOUR: 'it returns false'. Refute it at one input. -/
def checkCellsWrong : ChangeSpec := { name := "checkCells", fn := fun _ => fun
  | [d1, d2, d3, d4, d5] => { results := [.lit (.bool false)], args := [d1, d2, d3, d4, d5] }
  | _ => none }
def CheckCellsWrongFalsely : Prop := checkCellsRow.holds Try.pinned (OpenSpec.ofChange checkCellsWrong)

/-- 'quintainlaw7.CheckFirst': WHATEVER THE INPUT: true; the input reads as it did. -/
def checkFirstSpec : ChangeSpec := { name := "checkFirst", fn := fun _ => fun
  | [d1, d2] => { results := [.lit (.bool true)], args := [d1, d2] }
  | _ => none }
def checkFirstRow : OpenClaim := { program := "ytehelhennbcboaa", sum := "2a8d4c4a92c50641427a84ae0ed93f005bc68ac77544e2b1ced056897c2e48d0", func := "quintain/quintainlaw7.CheckFirst", spec := "checkFirst", unfollowed := true, recurses := true, apart := false }
def CheckFirstSaid : Prop := checkFirstRow.holds Try.pinned (OpenSpec.ofChange checkFirstSpec)

/-- ITS FALSE NEIGHBOUR: 'it returns false'. Refute it at one input. -/
def checkFirstWrong : ChangeSpec := { name := "checkFirst", fn := fun _ => fun
  | [d1, d2] => { results := [.lit (.bool false)], args := [d1, d2] }
  | _ => none }
def CheckFirstWrongFalsely : Prop := checkFirstRow.holds Try.pinned (OpenSpec.ofChange checkFirstWrong)

/-- 'quintainlaw5.CodeBytes': WHATEVER THE INPUT: true; the input reads as it did. -/
def codeBytesSpec : ChangeSpec := { name := "codeBytes", fn := fun _ => fun
  | [d1, d2, d3] => { results := [.lit (.bool true)], args := [d1, d2, d3] }
  | _ => none }
def codeBytesRow : OpenClaim := { program := "ytehelhennbcboaa", sum := "2a8d4c4a92c50641427a84ae0ed93f005bc68ac77544e2b1ced056897c2e48d0", func := "quintain/quintainlaw5.CodeBytes", spec := "codeBytes", apart := false }
def CodeBytesSaid : Prop := codeBytesRow.holds Try.pinned (OpenSpec.ofChange codeBytesSpec)

/-- ITS FALSE NEIGHBOUR: 'it returns false'. Refute it at one input. -/
def codeBytesWrong : ChangeSpec := { name := "codeBytes", fn := fun _ => fun
  | [d1, d2, d3] => { results := [.lit (.bool false)], args := [d1, d2, d3] }
  | _ => none }
def CodeBytesWrongFalsely : Prop := codeBytesRow.holds Try.pinned (OpenSpec.ofChange codeBytesWrong)

/-- 'quintainlaw5.CodeAny': WHATEVER THE INPUT: true; the input reads as it did. -/
def codeAnySpec : ChangeSpec := { name := "codeAny", fn := fun _ => fun
  | [d] => { results := [.lit (.bool true)], args := [d] }
  | _ => none }
def codeAnyRow : OpenClaim := { program := "ytehelhennbcboaa", sum := "2a8d4c4a92c50641427a84ae0ed93f005bc68ac77544e2b1ced056897c2e48d0", func := "quintain/quintainlaw5.CodeAny", spec := "codeAny", apart := false }
def CodeAnySaid : Prop := codeAnyRow.holds Try.pinned (OpenSpec.ofChange codeAnySpec)

/-- ITS FALSE NEIGHBOUR: 'it returns false'. Refute it at one input. -/
def codeAnyWrong : ChangeSpec := { name := "codeAny", fn := fun _ => fun
  | [d] => { results := [.lit (.bool false)], args := [d] }
  | _ => none }
def CodeAnyWrongFalsely : Prop := codeAnyRow.holds Try.pinned (OpenSpec.ofChange codeAnyWrong)

/-- 'quintainlaw5.CodeEq': WHATEVER THE INPUT: true; the input reads as it did. -/
def codeEqSpec : ChangeSpec := { name := "codeEq", fn := fun _ => fun
  | [d1, d2] => { results := [.lit (.bool true)], args := [d1, d2] }
  | _ => none }
def codeEqRow : OpenClaim := { program := "ytehelhennbcboaa", sum := "2a8d4c4a92c50641427a84ae0ed93f005bc68ac77544e2b1ced056897c2e48d0", func := "quintain/quintainlaw5.CodeEq", spec := "codeEq", apart := false }
def CodeEqSaid : Prop := codeEqRow.holds Try.pinned (OpenSpec.ofChange codeEqSpec)

/-- ITS FALSE NEIGHBOUR: 'it returns false'. Refute it at one input. -/
def codeEqWrong : ChangeSpec := { name := "codeEq", fn := fun _ => fun
  | [d1, d2] => { results := [.lit (.bool false)], args := [d1, d2] }
  | _ => none }
def CodeEqWrongFalsely : Prop := codeEqRow.holds Try.pinned (OpenSpec.ofChange codeEqWrong)

/-- 'quintainlaw5.CodeMost': WHATEVER THE INPUT: true; the input reads as it did. -/
def codeMostSpec : ChangeSpec := { name := "codeMost", fn := fun _ => fun
  | [d1, d2] => { results := [.lit (.bool true)], args := [d1, d2] }
  | _ => none }
def codeMostRow : OpenClaim := { program := "ytehelhennbcboaa", sum := "2a8d4c4a92c50641427a84ae0ed93f005bc68ac77544e2b1ced056897c2e48d0", func := "quintain/quintainlaw5.CodeMost", spec := "codeMost", apart := false }
def CodeMostSaid : Prop := codeMostRow.holds Try.pinned (OpenSpec.ofChange codeMostSpec)

/-- ITS FALSE NEIGHBOUR: 'it returns false'. Refute it at one input. -/
def codeMostWrong : ChangeSpec := { name := "codeMost", fn := fun _ => fun
  | [d1, d2] => { results := [.lit (.bool false)], args := [d1, d2] }
  | _ => none }
def CodeMostWrongFalsely : Prop := codeMostRow.holds Try.pinned (OpenSpec.ofChange codeMostWrong)

/-- 'quintainlaw5.CodeCut': WHATEVER THE INPUT: true; the input reads as it did. -/
def codeCutSpec : ChangeSpec := { name := "codeCut", fn := fun _ => fun
  | [d1, d2, d3] => { results := [.lit (.bool true)], args := [d1, d2, d3] }
  | _ => none }
def codeCutRow : OpenClaim := { program := "ytehelhennbcboaa", sum := "2a8d4c4a92c50641427a84ae0ed93f005bc68ac77544e2b1ced056897c2e48d0", func := "quintain/quintainlaw5.CodeCut", spec := "codeCut", apart := false }
def CodeCutSaid : Prop := codeCutRow.holds Try.pinned (OpenSpec.ofChange codeCutSpec)

/-- ITS FALSE NEIGHBOUR: 'it returns false'. Refute it at one input. -/
def codeCutWrong : ChangeSpec := { name := "codeCut", fn := fun _ => fun
  | [d1, d2, d3] => { results := [.lit (.bool false)], args := [d1, d2, d3] }
  | _ => none }
def CodeCutWrongFalsely : Prop := codeCutRow.holds Try.pinned (OpenSpec.ofChange codeCutWrong)

/-- 'quintainlaw5.CodeOwn': WHATEVER THE INPUT: true; the input reads as it did. -/
def codeOwnSpec : ChangeSpec := { name := "codeOwn", fn := fun _ => fun
  | [d] => { results := [.lit (.bool true)], args := [d] }
  | _ => none }
def codeOwnRow : OpenClaim := { program := "ytehelhennbcboaa", sum := "2a8d4c4a92c50641427a84ae0ed93f005bc68ac77544e2b1ced056897c2e48d0", func := "quintain/quintainlaw5.CodeOwn", spec := "codeOwn", apart := false }
def CodeOwnSaid : Prop := codeOwnRow.holds Try.pinned (OpenSpec.ofChange codeOwnSpec)

/-- ITS FALSE NEIGHBOUR: 'it returns false'. Refute it at one input. -/
def codeOwnWrong : ChangeSpec := { name := "codeOwn", fn := fun _ => fun
  | [d] => { results := [.lit (.bool false)], args := [d] }
  | _ => none }
def CodeOwnWrongFalsely : Prop := codeOwnRow.holds Try.pinned (OpenSpec.ofChange codeOwnWrong)

/- THE SECOND FORM. 'bulk': how many values and letters a reading holds, each counted each time it is reached (what is shared counts as often as it is met; a slice's spare places count too). A statement '..UptoSaid' is the law's where the arguments, and the package variables that the reading takes, are together of bulk at most 1048576: NARROWER than '..Said'. Prove '..Said' where nothing that the law and all that it calls make is longer than what came in: it says more and counts as full. Else prove '..UptoSaid'. A law counts once. -/
mutual
def uptoBulk {H : Type} : DataW H → Nat
  | .lit (.string bytes) => bytes.length + 1
  | .lit _ => 1
  | .nil => 1
  | .ptr d => uptoBulk d + 1
  | .slice elems spare => uptoBulkAll elems + uptoBulkAll spare + 1
  | .agg parts => uptoBulkAll parts + 1
  | .iface _ d => uptoBulk d + 1
  | .map entries => uptoBulkEntries entries + 1
  | .held _ => 1
def uptoBulkAll {H : Type} : List (DataW H) → Nat
  | [] => 0
  | d :: r => uptoBulk d + uptoBulkAll r
def uptoBulkEntries {H : Type} : List (Lit × DataW H) → Nat
  | [] => 0
  | x :: r => uptoBulkEntry x + uptoBulkEntries r
def uptoBulkEntry {H : Type} : Lit × DataW H → Nat
  | (.string bytes, d) => bytes.length + uptoBulk d + 1
  | (_, d) => uptoBulk d + 1
 end
def uptoSmall : (H : Type) → List (DataW H) → Bool := fun _ ds => decide (uptoBulkAll ds ≤ 1048576)
def OpenSpec.upto (s : _root_.Go.ChangeSpec) : _root_.Go.OpenSpec := { _root_.Go.OpenSpec.ofChange s with cond := some uptoSmall }

/-- 'quintainlaw7.CheckAll', WHERE WHAT IT READS IS OF BULK AT MOST 1048576: true; the input reads as it did. -/
def checkAllUptoRow : OpenClaim := { program := "ytehelhennbcboaa", sum := "2a8d4c4a92c50641427a84ae0ed93f005bc68ac77544e2b1ced056897c2e48d0", func := "quintain/quintainlaw7.CheckAll", spec := "checkAll", unfollowed := true, recurses := true, apart := false, narrowed := true }
def CheckAllUptoSaid : Prop := checkAllUptoRow.holds Try.pinned (OpenSpec.upto checkAllSpec)

/-- 'quintainlaw7.CheckOp', WHERE WHAT IT READS IS OF BULK AT MOST 1048576: true; the input reads as it did. -/
def checkOpUptoRow : OpenClaim := { program := "ytehelhennbcboaa", sum := "2a8d4c4a92c50641427a84ae0ed93f005bc68ac77544e2b1ced056897c2e48d0", func := "quintain/quintainlaw7.CheckOp", spec := "checkOp", unfollowed := true, recurses := true, apart := false, narrowed := true }
def CheckOpUptoSaid : Prop := checkOpUptoRow.holds Try.pinned (OpenSpec.upto checkOpSpec)

/-- 'quintainlaw7.CheckMore', WHERE WHAT IT READS IS OF BULK AT MOST 1048576: true; the input reads as it did. -/
def checkMoreUptoRow : OpenClaim := { program := "ytehelhennbcboaa", sum := "2a8d4c4a92c50641427a84ae0ed93f005bc68ac77544e2b1ced056897c2e48d0", func := "quintain/quintainlaw7.CheckMore", spec := "checkMore", unfollowed := true, recurses := true, apart := false, narrowed := true }
def CheckMoreUptoSaid : Prop := checkMoreUptoRow.holds Try.pinned (OpenSpec.upto checkMoreSpec)

/-- 'quintainlaw7.CheckCells', WHERE WHAT IT READS IS OF BULK AT MOST 1048576: true; the input reads as it did. -/
def checkCellsUptoRow : OpenClaim := { program := "ytehelhennbcboaa", sum := "2a8d4c4a92c50641427a84ae0ed93f005bc68ac77544e2b1ced056897c2e48d0", func := "quintain/quintainlaw7.CheckCells", spec := "checkCells", unfollowed := true, recurses := true, apart := false, narrowed := true }
def CheckCellsUptoSaid : Prop := checkCellsUptoRow.holds Try.pinned (OpenSpec.upto checkCellsSpec)

/-- 'quintainlaw7.CheckFirst', WHERE WHAT IT READS IS OF BULK AT MOST 1048576: true; the input reads as it did. -/
def checkFirstUptoRow : OpenClaim := { program := "ytehelhennbcboaa", sum := "2a8d4c4a92c50641427a84ae0ed93f005bc68ac77544e2b1ced056897c2e48d0", func := "quintain/quintainlaw7.CheckFirst", spec := "checkFirst", unfollowed := true, recurses := true, apart := false, narrowed := true }
def CheckFirstUptoSaid : Prop := checkFirstUptoRow.holds Try.pinned (OpenSpec.upto checkFirstSpec)

/-- 'quintainlaw5.CodeBytes', WHERE WHAT IT READS IS OF BULK AT MOST 1048576: true; the input reads as it did. -/
def codeBytesUptoRow : OpenClaim := { program := "ytehelhennbcboaa", sum := "2a8d4c4a92c50641427a84ae0ed93f005bc68ac77544e2b1ced056897c2e48d0", func := "quintain/quintainlaw5.CodeBytes", spec := "codeBytes", apart := false, narrowed := true }
def CodeBytesUptoSaid : Prop := codeBytesUptoRow.holds Try.pinned (OpenSpec.upto codeBytesSpec)

/-- 'quintainlaw5.CodeAny', WHERE WHAT IT READS IS OF BULK AT MOST 1048576: true; the input reads as it did. -/
def codeAnyUptoRow : OpenClaim := { program := "ytehelhennbcboaa", sum := "2a8d4c4a92c50641427a84ae0ed93f005bc68ac77544e2b1ced056897c2e48d0", func := "quintain/quintainlaw5.CodeAny", spec := "codeAny", apart := false, narrowed := true }
def CodeAnyUptoSaid : Prop := codeAnyUptoRow.holds Try.pinned (OpenSpec.upto codeAnySpec)

/-- 'quintainlaw5.CodeEq', WHERE WHAT IT READS IS OF BULK AT MOST 1048576: true; the input reads as it did. -/
def codeEqUptoRow : OpenClaim := { program := "ytehelhennbcboaa", sum := "2a8d4c4a92c50641427a84ae0ed93f005bc68ac77544e2b1ced056897c2e48d0", func := "quintain/quintainlaw5.CodeEq", spec := "codeEq", apart := false, narrowed := true }
def CodeEqUptoSaid : Prop := codeEqUptoRow.holds Try.pinned (OpenSpec.upto codeEqSpec)

/-- 'quintainlaw5.CodeMost', WHERE WHAT IT READS IS OF BULK AT MOST 1048576: true; the input reads as it did. -/
def codeMostUptoRow : OpenClaim := { program := "ytehelhennbcboaa", sum := "2a8d4c4a92c50641427a84ae0ed93f005bc68ac77544e2b1ced056897c2e48d0", func := "quintain/quintainlaw5.CodeMost", spec := "codeMost", apart := false, narrowed := true }
def CodeMostUptoSaid : Prop := codeMostUptoRow.holds Try.pinned (OpenSpec.upto codeMostSpec)

/-- 'quintainlaw5.CodeCut', WHERE WHAT IT READS IS OF BULK AT MOST 1048576: true; the input reads as it did. -/
def codeCutUptoRow : OpenClaim := { program := "ytehelhennbcboaa", sum := "2a8d4c4a92c50641427a84ae0ed93f005bc68ac77544e2b1ced056897c2e48d0", func := "quintain/quintainlaw5.CodeCut", spec := "codeCut", apart := false, narrowed := true }
def CodeCutUptoSaid : Prop := codeCutUptoRow.holds Try.pinned (OpenSpec.upto codeCutSpec)

/-- 'quintainlaw5.CodeOwn', WHERE WHAT IT READS IS OF BULK AT MOST 1048576: true; the input reads as it did. -/
def codeOwnUptoRow : OpenClaim := { program := "ytehelhennbcboaa", sum := "2a8d4c4a92c50641427a84ae0ed93f005bc68ac77544e2b1ced056897c2e48d0", func := "quintain/quintainlaw5.CodeOwn", spec := "codeOwn", apart := false, narrowed := true }
def CodeOwnUptoSaid : Prop := codeOwnUptoRow.holds Try.pinned (OpenSpec.upto codeOwnSpec)

end Rows
end Go.Proofs.Ytehelhennbcboaa
