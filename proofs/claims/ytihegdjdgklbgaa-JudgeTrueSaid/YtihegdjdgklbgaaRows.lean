/-
  No cell of these rows narrows 'for every input' (looked for: loops, veiled, ifaces, maps, wideKeys, modest, calm, conditions, laid).
  DERIVED. THE GIVEN ROWS OF THIS SEAT. 8 by the template 'for every input the law returns true; each argument reads behind the call as it read before'; 0 by the template 'total and deterministic' (their statements: YtihegdjdgklbgaaTotals.lean).
  GIVEN WITH THE SEED: the statements are not yours to turn. If you find one false, say at which input.
  Laid BY PROGRAM, IN A SANDBOX (cutbox-rows.mjs): the forced cells as the released guide's own fill.sh prints them over the translation 1aafbce59522db33… (all of the seat's roots in one cut). By AI agents, Wed Nov 11 2026. No macro, syntax, notation, axiom, sorry.
-/
import Derived.Test.YtihegdjdgklbgaaChecked
import GoSem.Claim
import GoSem.ClaimJoined
import GoSem.ClaimMapViews
import Derived.JoinedTies
import Derived.KernelRfl
namespace Go.Proofs.Ytihegdjdgklbgaa
/- THE CELL 'sum', in the pinned program and in every row, IS THE sha256 OF THE DUMP (.gsa) THAT YtihegdjdgklbgaaProg.lean LOADS. Nothing in Lean hashes anything: it is a label: what it is worth is what the hold of that sum in a sandbox is worth. -/
noncomputable def Try.pinned : Pinned := { name := "ytihegdjdgklbgaa", sum := "1aafbce59522db33f11750019f46c2297741bc7d26a790462e7764e7d237969d", checked := Try.checked }
namespace Rows
def none {H : Type} : Left H := { results := [], args := [] }

/-- 'quintainlaw20.FoldAll': WHATEVER THE INPUT: true; the input reads as it did. -/
def foldAllSpec : ChangeSpec := { name := "foldAll", fn := fun _ => fun
  | [d1, d2, d3, d4] => { results := [.lit (.bool true)], args := [d1, d2, d3, d4] }
  | _ => none }
def foldAllRow : OpenClaim := { program := "ytihegdjdgklbgaa", sum := "1aafbce59522db33f11750019f46c2297741bc7d26a790462e7764e7d237969d", func := "quintain/quintainlaw20.FoldAll", spec := "foldAll", unfollowed := true, recurses := true, apart := false }
def FoldAllSaid : Prop := foldAllRow.holds Try.pinned (OpenSpec.ofChange foldAllSpec)

/-- ITS FALSE NEIGHBOUR: 'it returns false'. Refute it at one input. -/
def foldAllWrong : ChangeSpec := { name := "foldAll", fn := fun _ => fun
  | [d1, d2, d3, d4] => { results := [.lit (.bool false)], args := [d1, d2, d3, d4] }
  | _ => none }
def FoldAllWrongFalsely : Prop := foldAllRow.holds Try.pinned (OpenSpec.ofChange foldAllWrong)

/-- 'quintainlaw20.FoldParts': WHATEVER THE INPUT: true; the input reads as it did. -/
def foldPartsSpec : ChangeSpec := { name := "foldParts", fn := fun _ => fun
  | [d1, d2, d3] => { results := [.lit (.bool true)], args := [d1, d2, d3] }
  | _ => none }
def foldPartsRow : OpenClaim := { program := "ytihegdjdgklbgaa", sum := "1aafbce59522db33f11750019f46c2297741bc7d26a790462e7764e7d237969d", func := "quintain/quintainlaw20.FoldParts", spec := "foldParts", unfollowed := true, recurses := true, apart := false }
def FoldPartsSaid : Prop := foldPartsRow.holds Try.pinned (OpenSpec.ofChange foldPartsSpec)

/-- ITS FALSE NEIGHBOUR: 'it returns false'. Refute it at one input. -/
def foldPartsWrong : ChangeSpec := { name := "foldParts", fn := fun _ => fun
  | [d1, d2, d3] => { results := [.lit (.bool false)], args := [d1, d2, d3] }
  | _ => none }
def FoldPartsWrongFalsely : Prop := foldPartsRow.holds Try.pinned (OpenSpec.ofChange foldPartsWrong)

/-- 'quintainlaw20.FoldEach': WHATEVER THE INPUT: true; the input reads as it did. -/
def foldEachSpec : ChangeSpec := { name := "foldEach", fn := fun _ => fun
  | [d1, d2] => { results := [.lit (.bool true)], args := [d1, d2] }
  | _ => none }
def foldEachRow : OpenClaim := { program := "ytihegdjdgklbgaa", sum := "1aafbce59522db33f11750019f46c2297741bc7d26a790462e7764e7d237969d", func := "quintain/quintainlaw20.FoldEach", spec := "foldEach", unfollowed := true, recurses := true, apart := false }
def FoldEachSaid : Prop := foldEachRow.holds Try.pinned (OpenSpec.ofChange foldEachSpec)

/-- ITS FALSE NEIGHBOUR: 'it returns false'. Refute it at one input. -/
def foldEachWrong : ChangeSpec := { name := "foldEach", fn := fun _ => fun
  | [d1, d2] => { results := [.lit (.bool false)], args := [d1, d2] }
  | _ => none }
def FoldEachWrongFalsely : Prop := foldEachRow.holds Try.pinned (OpenSpec.ofChange foldEachWrong)

/-- 'quintainlaw20.FoldAlike': WHATEVER THE INPUT: true; the input reads as it did. -/
def foldAlikeSpec : ChangeSpec := { name := "foldAlike", fn := fun _ => fun
  | [d1, d2, d3] => { results := [.lit (.bool true)], args := [d1, d2, d3] }
  | _ => none }
def foldAlikeRow : OpenClaim := { program := "ytihegdjdgklbgaa", sum := "1aafbce59522db33f11750019f46c2297741bc7d26a790462e7764e7d237969d", func := "quintain/quintainlaw20.FoldAlike", spec := "foldAlike", unfollowed := true, recurses := true, apart := false }
def FoldAlikeSaid : Prop := foldAlikeRow.holds Try.pinned (OpenSpec.ofChange foldAlikeSpec)

/-- ITS FALSE NEIGHBOUR: 'it returns false'. Refute it at one input. -/
def foldAlikeWrong : ChangeSpec := { name := "foldAlike", fn := fun _ => fun
  | [d1, d2, d3] => { results := [.lit (.bool false)], args := [d1, d2, d3] }
  | _ => none }
def FoldAlikeWrongFalsely : Prop := foldAlikeRow.holds Try.pinned (OpenSpec.ofChange foldAlikeWrong)

/-- 'quintainlaw28.JudgeAll': WHATEVER THE INPUT: true; the input reads as it did. -/
def judgeAllSpec : ChangeSpec := { name := "judgeAll", fn := fun _ => fun
  | [d1, d2] => { results := [.lit (.bool true)], args := [d1, d2] }
  | _ => none }
def judgeAllRow : OpenClaim := { program := "ytihegdjdgklbgaa", sum := "1aafbce59522db33f11750019f46c2297741bc7d26a790462e7764e7d237969d", func := "quintain/quintainlaw28.JudgeAll", spec := "judgeAll", unfollowed := true, recurses := true, apart := false }
def JudgeAllSaid : Prop := judgeAllRow.holds Try.pinned (OpenSpec.ofChange judgeAllSpec)

/-- ITS FALSE NEIGHBOUR: 'it returns false'. Refute it at one input. -/
def judgeAllWrong : ChangeSpec := { name := "judgeAll", fn := fun _ => fun
  | [d1, d2] => { results := [.lit (.bool false)], args := [d1, d2] }
  | _ => none }
def JudgeAllWrongFalsely : Prop := judgeAllRow.holds Try.pinned (OpenSpec.ofChange judgeAllWrong)

/-- 'quintainlaw28.JudgeTrue': WHATEVER THE INPUT: true; the input reads as it did. -/
def judgeTrueSpec : ChangeSpec := { name := "judgeTrue", fn := fun _ => fun
  | [d1, d2, d3, d4, d5] => { results := [.lit (.bool true)], args := [d1, d2, d3, d4, d5] }
  | _ => none }
def judgeTrueRow : OpenClaim := { program := "ytihegdjdgklbgaa", sum := "1aafbce59522db33f11750019f46c2297741bc7d26a790462e7764e7d237969d", func := "quintain/quintainlaw28.JudgeTrue", spec := "judgeTrue", unfollowed := true, recurses := true, apart := false }
def JudgeTrueSaid : Prop := judgeTrueRow.holds Try.pinned (OpenSpec.ofChange judgeTrueSpec)

/-- ITS FALSE NEIGHBOUR: 'it returns false'. Refute it at one input. -/
def judgeTrueWrong : ChangeSpec := { name := "judgeTrue", fn := fun _ => fun
  | [d1, d2, d3, d4, d5] => { results := [.lit (.bool false)], args := [d1, d2, d3, d4, d5] }
  | _ => none }
def JudgeTrueWrongFalsely : Prop := judgeTrueRow.holds Try.pinned (OpenSpec.ofChange judgeTrueWrong)

/-- 'quintainlaw28.JudgePairs': WHATEVER THE INPUT: true; the input reads as it did. -/
def judgePairsSpec : ChangeSpec := { name := "judgePairs", fn := fun _ => fun
  | [d] => { results := [.lit (.bool true)], args := [d] }
  | _ => none }
def judgePairsRow : OpenClaim := { program := "ytihegdjdgklbgaa", sum := "1aafbce59522db33f11750019f46c2297741bc7d26a790462e7764e7d237969d", func := "quintain/quintainlaw28.JudgePairs", spec := "judgePairs", unfollowed := true, recurses := true, apart := false }
def JudgePairsSaid : Prop := judgePairsRow.holds Try.pinned (OpenSpec.ofChange judgePairsSpec)

/-- ITS FALSE NEIGHBOUR: 'it returns false'. Refute it at one input. -/
def judgePairsWrong : ChangeSpec := { name := "judgePairs", fn := fun _ => fun
  | [d] => { results := [.lit (.bool false)], args := [d] }
  | _ => none }
def JudgePairsWrongFalsely : Prop := judgePairsRow.holds Try.pinned (OpenSpec.ofChange judgePairsWrong)

/-- 'quintainlaw28.JudgeGame': WHATEVER THE INPUT: true; the input reads as it did. -/
def judgeGameSpec : ChangeSpec := { name := "judgeGame", fn := fun _ => fun
  | [d1, d2, d3] => { results := [.lit (.bool true)], args := [d1, d2, d3] }
  | _ => none }
def judgeGameRow : OpenClaim := { program := "ytihegdjdgklbgaa", sum := "1aafbce59522db33f11750019f46c2297741bc7d26a790462e7764e7d237969d", func := "quintain/quintainlaw28.JudgeGame", spec := "judgeGame", unfollowed := true, recurses := true, apart := false }
def JudgeGameSaid : Prop := judgeGameRow.holds Try.pinned (OpenSpec.ofChange judgeGameSpec)

/-- ITS FALSE NEIGHBOUR: 'it returns false'. Refute it at one input. -/
def judgeGameWrong : ChangeSpec := { name := "judgeGame", fn := fun _ => fun
  | [d1, d2, d3] => { results := [.lit (.bool false)], args := [d1, d2, d3] }
  | _ => none }
def JudgeGameWrongFalsely : Prop := judgeGameRow.holds Try.pinned (OpenSpec.ofChange judgeGameWrong)

/- THE SECOND FORM. 'bulk': how many values and letters a reading holds, each counted each time it is reached (what is shared counts as often as it is met; a slice's spare places count too). A statement '..UptoSaid' is the law's where the arguments, and the package variables that the reading takes, are together of bulk at most 1048576: NARROWER than '..Said'. Prove '..Said' where nothing that the law and all that it calls make is longer than what came in: it says more and counts as full. Else prove '..UptoSaid'. A law counts once. -/
mutual
def uptoBulk {H : Type} : DataW H → Nat
  | .lit (.string bytes) => bytes.length + 1
  | .lit _ => 1
  | .nil => 1
  | .ptr d => uptoBulk d + 1
  | .slice elems spare => uptoBulkAll elems + uptoBulkAll spare + 1
  | .agg parts => uptoBulkAll parts + 1
  | .iface _ d => uptoBulk d + 1
  | .map entries => uptoBulkEntries entries + 1
  | .held _ => 1
def uptoBulkAll {H : Type} : List (DataW H) → Nat
  | [] => 0
  | d :: r => uptoBulk d + uptoBulkAll r
def uptoBulkEntries {H : Type} : List (Lit × DataW H) → Nat
  | [] => 0
  | x :: r => uptoBulkEntry x + uptoBulkEntries r
def uptoBulkEntry {H : Type} : Lit × DataW H → Nat
  | (.string bytes, d) => bytes.length + uptoBulk d + 1
  | (_, d) => uptoBulk d + 1
 end
def uptoSmall : (H : Type) → List (DataW H) → Bool := fun _ ds => decide (uptoBulkAll ds ≤ 1048576)
def OpenSpec.upto (s : _root_.Go.ChangeSpec) : _root_.Go.OpenSpec := { _root_.Go.OpenSpec.ofChange s with cond := some uptoSmall }

/-- 'quintainlaw20.FoldAll', WHERE WHAT IT READS IS OF BULK AT MOST 1048576: true; the input reads as it did. -/
def foldAllUptoRow : OpenClaim := { program := "ytihegdjdgklbgaa", sum := "1aafbce59522db33f11750019f46c2297741bc7d26a790462e7764e7d237969d", func := "quintain/quintainlaw20.FoldAll", spec := "foldAll", unfollowed := true, recurses := true, apart := false, narrowed := true }
def FoldAllUptoSaid : Prop := foldAllUptoRow.holds Try.pinned (OpenSpec.upto foldAllSpec)

/-- 'quintainlaw20.FoldParts', WHERE WHAT IT READS IS OF BULK AT MOST 1048576: true; the input reads as it did. -/
def foldPartsUptoRow : OpenClaim := { program := "ytihegdjdgklbgaa", sum := "1aafbce59522db33f11750019f46c2297741bc7d26a790462e7764e7d237969d", func := "quintain/quintainlaw20.FoldParts", spec := "foldParts", unfollowed := true, recurses := true, apart := false, narrowed := true }
def FoldPartsUptoSaid : Prop := foldPartsUptoRow.holds Try.pinned (OpenSpec.upto foldPartsSpec)

/-- 'quintainlaw20.FoldEach', WHERE WHAT IT READS IS OF BULK AT MOST 1048576: true; the input reads as it did. -/
def foldEachUptoRow : OpenClaim := { program := "ytihegdjdgklbgaa", sum := "1aafbce59522db33f11750019f46c2297741bc7d26a790462e7764e7d237969d", func := "quintain/quintainlaw20.FoldEach", spec := "foldEach", unfollowed := true, recurses := true, apart := false, narrowed := true }
def FoldEachUptoSaid : Prop := foldEachUptoRow.holds Try.pinned (OpenSpec.upto foldEachSpec)

/-- 'quintainlaw20.FoldAlike', WHERE WHAT IT READS IS OF BULK AT MOST 1048576: true; the input reads as it did. -/
def foldAlikeUptoRow : OpenClaim := { program := "ytihegdjdgklbgaa", sum := "1aafbce59522db33f11750019f46c2297741bc7d26a790462e7764e7d237969d", func := "quintain/quintainlaw20.FoldAlike", spec := "foldAlike", unfollowed := true, recurses := true, apart := false, narrowed := true }
def FoldAlikeUptoSaid : Prop := foldAlikeUptoRow.holds Try.pinned (OpenSpec.upto foldAlikeSpec)

/-- 'quintainlaw28.JudgeAll', WHERE WHAT IT READS IS OF BULK AT MOST 1048576: true; the input reads as it did. -/
def judgeAllUptoRow : OpenClaim := { program := "ytihegdjdgklbgaa", sum := "1aafbce59522db33f11750019f46c2297741bc7d26a790462e7764e7d237969d", func := "quintain/quintainlaw28.JudgeAll", spec := "judgeAll", unfollowed := true, recurses := true, apart := false, narrowed := true }
def JudgeAllUptoSaid : Prop := judgeAllUptoRow.holds Try.pinned (OpenSpec.upto judgeAllSpec)

/-- 'quintainlaw28.JudgeTrue', WHERE WHAT IT READS IS OF BULK AT MOST 1048576: true; the input reads as it did. -/
def judgeTrueUptoRow : OpenClaim := { program := "ytihegdjdgklbgaa", sum := "1aafbce59522db33f11750019f46c2297741bc7d26a790462e7764e7d237969d", func := "quintain/quintainlaw28.JudgeTrue", spec := "judgeTrue", unfollowed := true, recurses := true, apart := false, narrowed := true }
def JudgeTrueUptoSaid : Prop := judgeTrueUptoRow.holds Try.pinned (OpenSpec.upto judgeTrueSpec)

/-- 'quintainlaw28.JudgePairs', WHERE WHAT IT READS IS OF BULK AT MOST 1048576: true; the input reads as it did. -/
def judgePairsUptoRow : OpenClaim := { program := "ytihegdjdgklbgaa", sum := "1aafbce59522db33f11750019f46c2297741bc7d26a790462e7764e7d237969d", func := "quintain/quintainlaw28.JudgePairs", spec := "judgePairs", unfollowed := true, recurses := true, apart := false, narrowed := true }
def JudgePairsUptoSaid : Prop := judgePairsUptoRow.holds Try.pinned (OpenSpec.upto judgePairsSpec)

/-- 'quintainlaw28.JudgeGame', WHERE WHAT IT READS IS OF BULK AT MOST 1048576: true; the input reads as it did. -/
def judgeGameUptoRow : OpenClaim := { program := "ytihegdjdgklbgaa", sum := "1aafbce59522db33f11750019f46c2297741bc7d26a790462e7764e7d237969d", func := "quintain/quintainlaw28.JudgeGame", spec := "judgeGame", unfollowed := true, recurses := true, apart := false, narrowed := true }
def JudgeGameUptoSaid : Prop := judgeGameUptoRow.holds Try.pinned (OpenSpec.upto judgeGameSpec)

end Rows
end Go.Proofs.Ytihegdjdgklbgaa
