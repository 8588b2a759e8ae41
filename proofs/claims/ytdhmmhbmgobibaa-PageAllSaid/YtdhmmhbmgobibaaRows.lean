/-
  No cell of these rows narrows 'for every input' (looked for: loops, veiled, ifaces, maps, wideKeys, modest, calm, conditions, laid).
  DERIVED. THE GIVEN ROWS OF THIS SEAT. 5 by the template 'for every input the law returns true; each argument reads behind the call as it read before'; 0 by the template 'total and deterministic' (their statements: YtdhmmhbmgobibaaTotals.lean).
  GIVEN WITH THE SEED: the statements are not yours to turn. If you find one false, say at which input.
  Laid BY PROGRAM, IN A SANDBOX (cutbox-rows.mjs): the forced cells as the released guide's own fill.sh prints them over the translation 6920f19b467f923f… (all of the seat's roots in one cut). By AI agents, Wed Nov 11 2026. No macro, syntax, notation, axiom, sorry.
-/
import Derived.Test.YtdhmmhbmgobibaaChecked
import GoSem.Claim
import GoSem.ClaimJoined
import GoSem.ClaimMapViews
import Derived.JoinedTies
import Derived.KernelRfl
namespace Go.Proofs.Ytdhmmhbmgobibaa
/- THE CELL 'sum', in the pinned program and in every row, IS THE sha256 OF THE DUMP (.gsa) THAT YtdhmmhbmgobibaaProg.lean LOADS. Nothing in Lean hashes anything: it is a label: what it is worth is what the hold of that sum in a sandbox is worth. -/
noncomputable def Try.pinned : Pinned := { name := "ytdhmmhbmgobibaa", sum := "6920f19b467f923fb7d2838b31ed1772112edae165b057acb111c06f765ef8fb", checked := Try.checked }
namespace Rows
def none {H : Type} : Left H := { results := [], args := [] }

/-- 'quintainlaw10.PageAll': WHATEVER THE INPUT: true; the input reads as it did. -/
def pageAllSpec : ChangeSpec := { name := "pageAll", fn := fun _ => fun
  | [d1, d2] => { results := [.lit (.bool true)], args := [d1, d2] }
  | _ => none }
def pageAllRow : OpenClaim := { program := "ytdhmmhbmgobibaa", sum := "6920f19b467f923fb7d2838b31ed1772112edae165b057acb111c06f765ef8fb", func := "quintain/quintainlaw10.PageAll", spec := "pageAll", apart := false }
def PageAllSaid : Prop := pageAllRow.holds Try.pinned (OpenSpec.ofChange pageAllSpec)

/-- ITS FALSE NEIGHBOUR: 'it returns false'. Refute it at one input. -/
def pageAllWrong : ChangeSpec := { name := "pageAll", fn := fun _ => fun
  | [d1, d2] => { results := [.lit (.bool false)], args := [d1, d2] }
  | _ => none }
def PageAllWrongFalsely : Prop := pageAllRow.holds Try.pinned (OpenSpec.ofChange pageAllWrong)

/-- 'quintainlaw10.PageAgain': WHATEVER THE INPUT: true; the input reads as it did. -/
def pageAgainSpec : ChangeSpec := { name := "pageAgain", fn := fun _ => fun
  | [d1, d2] => { results := [.lit (.bool true)], args := [d1, d2] }
  | _ => none }
def pageAgainRow : OpenClaim := { program := "ytdhmmhbmgobibaa", sum := "6920f19b467f923fb7d2838b31ed1772112edae165b057acb111c06f765ef8fb", func := "quintain/quintainlaw10.PageAgain", spec := "pageAgain", apart := false }
def PageAgainSaid : Prop := pageAgainRow.holds Try.pinned (OpenSpec.ofChange pageAgainSpec)

/-- ITS FALSE NEIGHBOUR: 'it returns false'. Refute it at one input. -/
def pageAgainWrong : ChangeSpec := { name := "pageAgain", fn := fun _ => fun
  | [d1, d2] => { results := [.lit (.bool false)], args := [d1, d2] }
  | _ => none }
def PageAgainWrongFalsely : Prop := pageAgainRow.holds Try.pinned (OpenSpec.ofChange pageAgainWrong)

/-- 'quintainlaw10.PageNone': WHATEVER THE INPUT: true; the input reads as it did. -/
def pageNoneSpec : ChangeSpec := { name := "pageNone", fn := fun _ => fun
  | [] => { results := [.lit (.bool true)], args := [] }
  | _ => none }
def pageNoneRow : OpenClaim := { program := "ytdhmmhbmgobibaa", sum := "6920f19b467f923fb7d2838b31ed1772112edae165b057acb111c06f765ef8fb", func := "quintain/quintainlaw10.PageNone", spec := "pageNone", apart := false }
def PageNoneSaid : Prop := pageNoneRow.holds Try.pinned (OpenSpec.ofChange pageNoneSpec)

/-- ITS FALSE NEIGHBOUR: 'it returns false'. Refute it at one input. -/
def pageNoneWrong : ChangeSpec := { name := "pageNone", fn := fun _ => fun
  | [] => { results := [.lit (.bool false)], args := [] }
  | _ => none }
def PageNoneWrongFalsely : Prop := pageNoneRow.holds Try.pinned (OpenSpec.ofChange pageNoneWrong)

/-- 'quintainlaw10.PageShared': WHATEVER THE INPUT: true; the input reads as it did. -/
def pageSharedSpec : ChangeSpec := { name := "pageShared", fn := fun _ => fun
  | [d1, d2] => { results := [.lit (.bool true)], args := [d1, d2] }
  | _ => none }
def pageSharedRow : OpenClaim := { program := "ytdhmmhbmgobibaa", sum := "6920f19b467f923fb7d2838b31ed1772112edae165b057acb111c06f765ef8fb", func := "quintain/quintainlaw10.PageShared", spec := "pageShared", apart := false }
def PageSharedSaid : Prop := pageSharedRow.holds Try.pinned (OpenSpec.ofChange pageSharedSpec)

/-- ITS FALSE NEIGHBOUR: 'it returns false'. Refute it at one input. -/
def pageSharedWrong : ChangeSpec := { name := "pageShared", fn := fun _ => fun
  | [d1, d2] => { results := [.lit (.bool false)], args := [d1, d2] }
  | _ => none }
def PageSharedWrongFalsely : Prop := pageSharedRow.holds Try.pinned (OpenSpec.ofChange pageSharedWrong)

/-- 'quintainlaw10.PageCopies': WHATEVER THE INPUT: true; the input reads as it did. -/
def pageCopiesSpec : ChangeSpec := { name := "pageCopies", fn := fun _ => fun
  | [d1, d2, d3] => { results := [.lit (.bool true)], args := [d1, d2, d3] }
  | _ => none }
def pageCopiesRow : OpenClaim := { program := "ytdhmmhbmgobibaa", sum := "6920f19b467f923fb7d2838b31ed1772112edae165b057acb111c06f765ef8fb", func := "quintain/quintainlaw10.PageCopies", spec := "pageCopies", apart := false }
def PageCopiesSaid : Prop := pageCopiesRow.holds Try.pinned (OpenSpec.ofChange pageCopiesSpec)

/-- ITS FALSE NEIGHBOUR: 'it returns false'. Refute it at one input. -/
def pageCopiesWrong : ChangeSpec := { name := "pageCopies", fn := fun _ => fun
  | [d1, d2, d3] => { results := [.lit (.bool false)], args := [d1, d2, d3] }
  | _ => none }
def PageCopiesWrongFalsely : Prop := pageCopiesRow.holds Try.pinned (OpenSpec.ofChange pageCopiesWrong)

/- THE SECOND FORM. 'bulk': how many values and letters a reading holds, each counted each time it is reached (what is shared counts as often as it is met; a slice's spare places count too). A statement '..UptoSaid' is the law's where the arguments, and the package variables that the reading takes, are together of bulk at most 1048576: NARROWER than '..Said'. Prove '..Said' where nothing that the law and all that it calls make is longer than what came in: it says more and counts as full. Else prove '..UptoSaid'. A law counts once. -/
mutual
def uptoBulk {H : Type} : DataW H → Nat
  | .lit (.string bytes) => bytes.length + 1
  | .lit _ => 1
  | .nil => 1
  | .ptr d => uptoBulk d + 1
  | .slice elems spare => uptoBulkAll elems + uptoBulkAll spare + 1
  | .agg parts => uptoBulkAll parts + 1
  | .iface _ d => uptoBulk d + 1
  | .map entries => uptoBulkEntries entries + 1
  | .held _ => 1
def uptoBulkAll {H : Type} : List (DataW H) → Nat
  | [] => 0
  | d :: r => uptoBulk d + uptoBulkAll r
def uptoBulkEntries {H : Type} : List (Lit × DataW H) → Nat
  | [] => 0
  | x :: r => uptoBulkEntry x + uptoBulkEntries r
def uptoBulkEntry {H : Type} : Lit × DataW H → Nat
  | (.string bytes, d) => bytes.length + uptoBulk d + 1
  | (_, d) => uptoBulk d + 1
 end
def uptoSmall : (H : Type) → List (DataW H) → Bool := fun _ ds => decide (uptoBulkAll ds ≤ 1048576)
def OpenSpec.upto (s : _root_.Go.ChangeSpec) : _root_.Go.OpenSpec := { _root_.Go.OpenSpec.ofChange s with cond := some uptoSmall }

/-- 'quintainlaw10.PageAll', WHERE WHAT IT READS IS OF BULK AT MOST 1048576: true; the input reads as it did. -/
def pageAllUptoRow : OpenClaim := { program := "ytdhmmhbmgobibaa", sum := "6920f19b467f923fb7d2838b31ed1772112edae165b057acb111c06f765ef8fb", func := "quintain/quintainlaw10.PageAll", spec := "pageAll", apart := false, narrowed := true }
def PageAllUptoSaid : Prop := pageAllUptoRow.holds Try.pinned (OpenSpec.upto pageAllSpec)

/-- 'quintainlaw10.PageAgain', WHERE WHAT IT READS IS OF BULK AT MOST 1048576: true; the input reads as it did. -/
def pageAgainUptoRow : OpenClaim := { program := "ytdhmmhbmgobibaa", sum := "6920f19b467f923fb7d2838b31ed1772112edae165b057acb111c06f765ef8fb", func := "quintain/quintainlaw10.PageAgain", spec := "pageAgain", apart := false, narrowed := true }
def PageAgainUptoSaid : Prop := pageAgainUptoRow.holds Try.pinned (OpenSpec.upto pageAgainSpec)

/-- 'quintainlaw10.PageNone', WHERE WHAT IT READS IS OF BULK AT MOST 1048576: true; the input reads as it did. -/
def pageNoneUptoRow : OpenClaim := { program := "ytdhmmhbmgobibaa", sum := "6920f19b467f923fb7d2838b31ed1772112edae165b057acb111c06f765ef8fb", func := "quintain/quintainlaw10.PageNone", spec := "pageNone", apart := false, narrowed := true }
def PageNoneUptoSaid : Prop := pageNoneUptoRow.holds Try.pinned (OpenSpec.upto pageNoneSpec)

/-- 'quintainlaw10.PageShared', WHERE WHAT IT READS IS OF BULK AT MOST 1048576: true; the input reads as it did. -/
def pageSharedUptoRow : OpenClaim := { program := "ytdhmmhbmgobibaa", sum := "6920f19b467f923fb7d2838b31ed1772112edae165b057acb111c06f765ef8fb", func := "quintain/quintainlaw10.PageShared", spec := "pageShared", apart := false, narrowed := true }
def PageSharedUptoSaid : Prop := pageSharedUptoRow.holds Try.pinned (OpenSpec.upto pageSharedSpec)

/-- 'quintainlaw10.PageCopies', WHERE WHAT IT READS IS OF BULK AT MOST 1048576: true; the input reads as it did. -/
def pageCopiesUptoRow : OpenClaim := { program := "ytdhmmhbmgobibaa", sum := "6920f19b467f923fb7d2838b31ed1772112edae165b057acb111c06f765ef8fb", func := "quintain/quintainlaw10.PageCopies", spec := "pageCopies", apart := false, narrowed := true }
def PageCopiesUptoSaid : Prop := pageCopiesUptoRow.holds Try.pinned (OpenSpec.upto pageCopiesSpec)

end Rows
end Go.Proofs.Ytdhmmhbmgobibaa
