/-
  No cell of these rows narrows 'for every input' (looked for: loops, veiled, ifaces, maps, wideKeys, modest, calm, conditions, laid).
  DERIVED. THE GIVEN ROWS OF THIS SEAT. 6 by the template 'for every input the law returns true; each argument reads behind the call as it read before'; 0 by the template 'total and deterministic' (their statements: YtffcefoadaogbaaGreatTotals.lean).
  GIVEN WITH THE SEED: the statements are not yours to turn. If you find one false, say at which input.
  Laid BY PROGRAM, IN A SANDBOX (cutbox-rows.mjs): the forced cells as the released guide's own fill.sh prints them over the translation 4a72f55cb655726e… (all of the seat's roots in one cut). By AI agents, Wed Nov 11 2026. No macro, syntax, notation, axiom, sorry.
-/
import Derived.Test.YtffcefoadaogbaaGreatChecked
import GoSem.Claim
import GoSem.ClaimJoined
import GoSem.ClaimMapViews
import Derived.JoinedTies
import Derived.KernelRfl
namespace Go.Proofs.YtffcefoadaogbaaGreat
/- THE CELL 'sum', in the pinned program and in every row, IS THE sha256 OF THE DUMP (.gsa) THAT YtffcefoadaogbaaGreatProg.lean LOADS. Nothing in Lean hashes anything: it is a label: what it is worth is what the hold of that sum in a sandbox is worth. -/
noncomputable def Tryz.pinned : Pinned := { name := "ytffcefoadaogbaagreat", sum := "4a72f55cb655726e61db8e625140f8857343062d3a7287ef750a2306850b7d13", checked := Tryz.checked }
namespace Rows
def none {H : Type} : Left H := { results := [], args := [] }

/-- 'quintaintop.TopGuessed': WHATEVER THE INPUT: true; the input reads as it did. -/
def topGuessedSpec : ChangeSpec := { name := "topGuessed", fn := fun _ => fun
  | [d1, d2, d3, d4] => { results := [.lit (.bool true)], args := [d1, d2, d3, d4] }
  | _ => none }
def topGuessedRow : OpenClaim := { program := "ytffcefoadaogbaagreat", sum := "4a72f55cb655726e61db8e625140f8857343062d3a7287ef750a2306850b7d13", func := "quintain/quintaintop.TopGuessed", spec := "topGuessed", unfollowed := true, recurses := true, apart := false }
def TopGuessedSaid : Prop := topGuessedRow.holds Tryz.pinned (OpenSpec.ofChange topGuessedSpec)

/-- ITS FALSE NEIGHBOUR: 'it returns false'. Refute it at one input. -/
def topGuessedWrong : ChangeSpec := { name := "topGuessed", fn := fun _ => fun
  | [d1, d2, d3, d4] => { results := [.lit (.bool false)], args := [d1, d2, d3, d4] }
  | _ => none }
def TopGuessedWrongFalsely : Prop := topGuessedRow.holds Tryz.pinned (OpenSpec.ofChange topGuessedWrong)

/-- 'quintaintop.TopLate': WHATEVER THE INPUT: true; the input reads as it did. -/
def topLateSpec : ChangeSpec := { name := "topLate", fn := fun _ => fun
  | [d1, d2, d3, d4] => { results := [.lit (.bool true)], args := [d1, d2, d3, d4] }
  | _ => none }
def topLateRow : OpenClaim := { program := "ytffcefoadaogbaagreat", sum := "4a72f55cb655726e61db8e625140f8857343062d3a7287ef750a2306850b7d13", func := "quintain/quintaintop.TopLate", spec := "topLate", unfollowed := true, recurses := true, apart := false }
def TopLateSaid : Prop := topLateRow.holds Tryz.pinned (OpenSpec.ofChange topLateSpec)

/-- ITS FALSE NEIGHBOUR: 'it returns false'. Refute it at one input. -/
def topLateWrong : ChangeSpec := { name := "topLate", fn := fun _ => fun
  | [d1, d2, d3, d4] => { results := [.lit (.bool false)], args := [d1, d2, d3, d4] }
  | _ => none }
def TopLateWrongFalsely : Prop := topLateRow.holds Tryz.pinned (OpenSpec.ofChange topLateWrong)

/-- 'quintaintop.TopQuits': WHATEVER THE INPUT: true; the input reads as it did. -/
def topQuitsSpec : ChangeSpec := { name := "topQuits", fn := fun _ => fun
  | [d1, d2, d3, d4] => { results := [.lit (.bool true)], args := [d1, d2, d3, d4] }
  | _ => none }
def topQuitsRow : OpenClaim := { program := "ytffcefoadaogbaagreat", sum := "4a72f55cb655726e61db8e625140f8857343062d3a7287ef750a2306850b7d13", func := "quintain/quintaintop.TopQuits", spec := "topQuits", unfollowed := true, recurses := true, apart := false }
def TopQuitsSaid : Prop := topQuitsRow.holds Tryz.pinned (OpenSpec.ofChange topQuitsSpec)

/-- ITS FALSE NEIGHBOUR: 'it returns false'. Refute it at one input. -/
def topQuitsWrong : ChangeSpec := { name := "topQuits", fn := fun _ => fun
  | [d1, d2, d3, d4] => { results := [.lit (.bool false)], args := [d1, d2, d3, d4] }
  | _ => none }
def TopQuitsWrongFalsely : Prop := topQuitsRow.holds Tryz.pinned (OpenSpec.ofChange topQuitsWrong)

/-- 'quintaintop.TopFold': WHATEVER THE INPUT: true; the input reads as it did. -/
def topFoldSpec : ChangeSpec := { name := "topFold", fn := fun _ => fun
  | [d1, d2, d3] => { results := [.lit (.bool true)], args := [d1, d2, d3] }
  | _ => none }
def topFoldRow : OpenClaim := { program := "ytffcefoadaogbaagreat", sum := "4a72f55cb655726e61db8e625140f8857343062d3a7287ef750a2306850b7d13", func := "quintain/quintaintop.TopFold", spec := "topFold", unfollowed := true, recurses := true, apart := false }
def TopFoldSaid : Prop := topFoldRow.holds Tryz.pinned (OpenSpec.ofChange topFoldSpec)

/-- ITS FALSE NEIGHBOUR: 'it returns false'. Refute it at one input. -/
def topFoldWrong : ChangeSpec := { name := "topFold", fn := fun _ => fun
  | [d1, d2, d3] => { results := [.lit (.bool false)], args := [d1, d2, d3] }
  | _ => none }
def TopFoldWrongFalsely : Prop := topFoldRow.holds Tryz.pinned (OpenSpec.ofChange topFoldWrong)

/-- 'quintaintop.TopWindow': WHATEVER THE INPUT: true; the input reads as it did. -/
def topWindowSpec : ChangeSpec := { name := "topWindow", fn := fun _ => fun
  | [d1, d2, d3, d4] => { results := [.lit (.bool true)], args := [d1, d2, d3, d4] }
  | _ => none }
def topWindowRow : OpenClaim := { program := "ytffcefoadaogbaagreat", sum := "4a72f55cb655726e61db8e625140f8857343062d3a7287ef750a2306850b7d13", func := "quintain/quintaintop.TopWindow", spec := "topWindow", unfollowed := true, recurses := true, apart := false }
def TopWindowSaid : Prop := topWindowRow.holds Tryz.pinned (OpenSpec.ofChange topWindowSpec)

/-- ITS FALSE NEIGHBOUR: 'it returns false'. Refute it at one input. -/
def topWindowWrong : ChangeSpec := { name := "topWindow", fn := fun _ => fun
  | [d1, d2, d3, d4] => { results := [.lit (.bool false)], args := [d1, d2, d3, d4] }
  | _ => none }
def TopWindowWrongFalsely : Prop := topWindowRow.holds Tryz.pinned (OpenSpec.ofChange topWindowWrong)

/-- 'quintaintop.TopEight': WHATEVER THE INPUT: true; the input reads as it did. -/
def topEightSpec : ChangeSpec := { name := "topEight", fn := fun _ => fun
  | [d1, d2, d3] => { results := [.lit (.bool true)], args := [d1, d2, d3] }
  | _ => none }
def topEightRow : OpenClaim := { program := "ytffcefoadaogbaagreat", sum := "4a72f55cb655726e61db8e625140f8857343062d3a7287ef750a2306850b7d13", func := "quintain/quintaintop.TopEight", spec := "topEight", unfollowed := true, recurses := true, apart := false }
def TopEightSaid : Prop := topEightRow.holds Tryz.pinned (OpenSpec.ofChange topEightSpec)

/-- ITS FALSE NEIGHBOUR: 'it returns false'. Refute it at one input. -/
def topEightWrong : ChangeSpec := { name := "topEight", fn := fun _ => fun
  | [d1, d2, d3] => { results := [.lit (.bool false)], args := [d1, d2, d3] }
  | _ => none }
def TopEightWrongFalsely : Prop := topEightRow.holds Tryz.pinned (OpenSpec.ofChange topEightWrong)

/- THE SECOND FORM. 'bulk': how many values and letters a reading holds, each counted each time it is reached (what is shared counts as often as it is met; a slice's spare places count too). A statement '..UptoSaid' is the law's where the arguments, and the package variables that the reading takes, are together of bulk at most 1048576: NARROWER than '..Said'. Prove '..Said' where nothing that the law and all that it calls make is longer than what came in: it says more and counts as full. Else prove '..UptoSaid'. A law counts once. -/
mutual
def uptoBulk {H : Type} : DataW H → Nat
  | .lit (.string bytes) => bytes.length + 1
  | .lit _ => 1
  | .nil => 1
  | .ptr d => uptoBulk d + 1
  | .slice elems spare => uptoBulkAll elems + uptoBulkAll spare + 1
  | .agg parts => uptoBulkAll parts + 1
  | .iface _ d => uptoBulk d + 1
  | .map entries => uptoBulkEntries entries + 1
  | .held _ => 1
def uptoBulkAll {H : Type} : List (DataW H) → Nat
  | [] => 0
  | d :: r => uptoBulk d + uptoBulkAll r
def uptoBulkEntries {H : Type} : List (Lit × DataW H) → Nat
  | [] => 0
  | x :: r => uptoBulkEntry x + uptoBulkEntries r
def uptoBulkEntry {H : Type} : Lit × DataW H → Nat
  | (.string bytes, d) => bytes.length + uptoBulk d + 1
  | (_, d) => uptoBulk d + 1
 end
def uptoSmall : (H : Type) → List (DataW H) → Bool := fun _ ds => decide (uptoBulkAll ds ≤ 1048576)
def OpenSpec.upto (s : _root_.Go.ChangeSpec) : _root_.Go.OpenSpec := { _root_.Go.OpenSpec.ofChange s with cond := some uptoSmall }

/-- 'quintaintop.TopGuessed', WHERE WHAT IT READS IS OF BULK AT MOST 1048576: true; the input reads as it did. -/
def topGuessedUptoRow : OpenClaim := { program := "ytffcefoadaogbaagreat", sum := "4a72f55cb655726e61db8e625140f8857343062d3a7287ef750a2306850b7d13", func := "quintain/quintaintop.TopGuessed", spec := "topGuessed", unfollowed := true, recurses := true, apart := false, narrowed := true }
def TopGuessedUptoSaid : Prop := topGuessedUptoRow.holds Tryz.pinned (OpenSpec.upto topGuessedSpec)

/-- 'quintaintop.TopLate', WHERE WHAT IT READS IS OF BULK AT MOST 1048576: true; the input reads as it did. -/
def topLateUptoRow : OpenClaim := { program := "ytffcefoadaogbaagreat", sum := "4a72f55cb655726e61db8e625140f8857343062d3a7287ef750a2306850b7d13", func := "quintain/quintaintop.TopLate", spec := "topLate", unfollowed := true, recurses := true, apart := false, narrowed := true }
def TopLateUptoSaid : Prop := topLateUptoRow.holds Tryz.pinned (OpenSpec.upto topLateSpec)

/-- 'quintaintop.TopQuits', WHERE WHAT IT READS IS OF BULK AT MOST 1048576: true; the input reads as it did. -/
def topQuitsUptoRow : OpenClaim := { program := "ytffcefoadaogbaagreat", sum := "4a72f55cb655726e61db8e625140f8857343062d3a7287ef750a2306850b7d13", func := "quintain/quintaintop.TopQuits", spec := "topQuits", unfollowed := true, recurses := true, apart := false, narrowed := true }
def TopQuitsUptoSaid : Prop := topQuitsUptoRow.holds Tryz.pinned (OpenSpec.upto topQuitsSpec)

/-- 'quintaintop.TopFold', WHERE WHAT IT READS IS OF BULK AT MOST 1048576: true; the input reads as it did. -/
def topFoldUptoRow : OpenClaim := { program := "ytffcefoadaogbaagreat", sum := "4a72f55cb655726e61db8e625140f8857343062d3a7287ef750a2306850b7d13", func := "quintain/quintaintop.TopFold", spec := "topFold", unfollowed := true, recurses := true, apart := false, narrowed := true }
def TopFoldUptoSaid : Prop := topFoldUptoRow.holds Tryz.pinned (OpenSpec.upto topFoldSpec)

/-- 'quintaintop.TopWindow', WHERE WHAT IT READS IS OF BULK AT MOST 1048576: true; the input reads as it did. -/
def topWindowUptoRow : OpenClaim := { program := "ytffcefoadaogbaagreat", sum := "4a72f55cb655726e61db8e625140f8857343062d3a7287ef750a2306850b7d13", func := "quintain/quintaintop.TopWindow", spec := "topWindow", unfollowed := true, recurses := true, apart := false, narrowed := true }
def TopWindowUptoSaid : Prop := topWindowUptoRow.holds Tryz.pinned (OpenSpec.upto topWindowSpec)

/-- 'quintaintop.TopEight', WHERE WHAT IT READS IS OF BULK AT MOST 1048576: true; the input reads as it did. -/
def topEightUptoRow : OpenClaim := { program := "ytffcefoadaogbaagreat", sum := "4a72f55cb655726e61db8e625140f8857343062d3a7287ef750a2306850b7d13", func := "quintain/quintaintop.TopEight", spec := "topEight", unfollowed := true, recurses := true, apart := false, narrowed := true }
def TopEightUptoSaid : Prop := topEightUptoRow.holds Tryz.pinned (OpenSpec.upto topEightSpec)

end Rows
end Go.Proofs.YtffcefoadaogbaaGreat
