/-
  No cell of these rows narrows 'for every input' (looked for: loops, veiled, ifaces, maps, wideKeys, modest, calm, conditions, laid).
  DERIVED. THE GIVEN ROWS OF THIS SEAT. 8 by the template 'for every input the law returns true; each argument reads behind the call as it read before'; 0 by the template 'total and deterministic' (their statements: YtmlmeikfgbkhhaaTotals.lean).
  GIVEN WITH THE SEED: the statements are not yours to turn. If you find one false, say at which input.
  Laid BY PROGRAM, IN A SANDBOX (cutbox-rows.mjs): the forced cells as the released guide's own fill.sh prints them over the translation 6798e400b651c05c… (all of the seat's roots in one cut). By AI agents, Wed Nov 11 2026. No macro, syntax, notation, axiom, sorry.
-/
import Derived.Test.YtmlmeikfgbkhhaaChecked
import GoSem.Claim
import GoSem.ClaimJoined
import GoSem.ClaimMapViews
import Derived.JoinedTies
import Derived.KernelRfl
namespace Go.Proofs.Ytmlmeikfgbkhhaa
/- THE CELL 'sum', in the pinned program and in every row, IS THE sha256 OF THE DUMP (.gsa) THAT YtmlmeikfgbkhhaaProg.lean LOADS. Nothing in Lean hashes anything: it is a label: what it is worth is what the hold of that sum in a sandbox is worth. -/
noncomputable def Try.pinned : Pinned := { name := "ytmlmeikfgbkhhaa", sum := "6798e400b651c05c24a7f7cfbb80ff795aa15dd723fd710ecc858e2f4e8ad2d2", checked := Try.checked }
namespace Rows
def none {H : Type} : Left H := { results := [], args := [] }

/-- 'quintainlaw1.RunesText': WHATEVER THE INPUT: true; the input reads as it did. -/
def runesTextSpec : ChangeSpec := { name := "runesText", fn := fun _ => fun
  | [d1, d2] => { results := [.lit (.bool true)], args := [d1, d2] }
  | _ => none }
def runesTextRow : OpenClaim := { program := "ytmlmeikfgbkhhaa", sum := "6798e400b651c05c24a7f7cfbb80ff795aa15dd723fd710ecc858e2f4e8ad2d2", func := "quintain/quintainlaw1.RunesText", spec := "runesText", apart := false }
def RunesTextSaid : Prop := runesTextRow.holds Try.pinned (OpenSpec.ofChange runesTextSpec)

/-- ITS FALSE NEIGHBOUR: 'it returns false'. Refute it at one input. -/
def runesTextWrong : ChangeSpec := { name := "runesText", fn := fun _ => fun
  | [d1, d2] => { results := [.lit (.bool false)], args := [d1, d2] }
  | _ => none }
def RunesTextWrongFalsely : Prop := runesTextRow.holds Try.pinned (OpenSpec.ofChange runesTextWrong)

/-- 'quintainlaw1.RunesWords': WHATEVER THE INPUT: true; the input reads as it did. -/
def runesWordsSpec : ChangeSpec := { name := "runesWords", fn := fun _ => fun
  | [d] => { results := [.lit (.bool true)], args := [d] }
  | _ => none }
def runesWordsRow : OpenClaim := { program := "ytmlmeikfgbkhhaa", sum := "6798e400b651c05c24a7f7cfbb80ff795aa15dd723fd710ecc858e2f4e8ad2d2", func := "quintain/quintainlaw1.RunesWords", spec := "runesWords", apart := false }
def RunesWordsSaid : Prop := runesWordsRow.holds Try.pinned (OpenSpec.ofChange runesWordsSpec)

/-- ITS FALSE NEIGHBOUR: 'it returns false'. Refute it at one input. -/
def runesWordsWrong : ChangeSpec := { name := "runesWords", fn := fun _ => fun
  | [d] => { results := [.lit (.bool false)], args := [d] }
  | _ => none }
def RunesWordsWrongFalsely : Prop := runesWordsRow.holds Try.pinned (OpenSpec.ofChange runesWordsWrong)

/-- 'quintainlaw1.RunesNumber': WHATEVER THE INPUT: true; the input reads as it did. -/
def runesNumberSpec : ChangeSpec := { name := "runesNumber", fn := fun _ => fun
  | [d1, d2] => { results := [.lit (.bool true)], args := [d1, d2] }
  | _ => none }
def runesNumberRow : OpenClaim := { program := "ytmlmeikfgbkhhaa", sum := "6798e400b651c05c24a7f7cfbb80ff795aa15dd723fd710ecc858e2f4e8ad2d2", func := "quintain/quintainlaw1.RunesNumber", spec := "runesNumber", apart := false }
def RunesNumberSaid : Prop := runesNumberRow.holds Try.pinned (OpenSpec.ofChange runesNumberSpec)

/-- ITS FALSE NEIGHBOUR: 'it returns false'. Refute it at one input. -/
def runesNumberWrong : ChangeSpec := { name := "runesNumber", fn := fun _ => fun
  | [d1, d2] => { results := [.lit (.bool false)], args := [d1, d2] }
  | _ => none }
def RunesNumberWrongFalsely : Prop := runesNumberRow.holds Try.pinned (OpenSpec.ofChange runesNumberWrong)

/-- 'quintainlaw1.RunesBytes': WHATEVER THE INPUT: true; the input reads as it did. -/
def runesBytesSpec : ChangeSpec := { name := "runesBytes", fn := fun _ => fun
  | [d1, d2, d3, d4] => { results := [.lit (.bool true)], args := [d1, d2, d3, d4] }
  | _ => none }
def runesBytesRow : OpenClaim := { program := "ytmlmeikfgbkhhaa", sum := "6798e400b651c05c24a7f7cfbb80ff795aa15dd723fd710ecc858e2f4e8ad2d2", func := "quintain/quintainlaw1.RunesBytes", spec := "runesBytes", apart := false }
def RunesBytesSaid : Prop := runesBytesRow.holds Try.pinned (OpenSpec.ofChange runesBytesSpec)

/-- ITS FALSE NEIGHBOUR: 'it returns false'. Refute it at one input. -/
def runesBytesWrong : ChangeSpec := { name := "runesBytes", fn := fun _ => fun
  | [d1, d2, d3, d4] => { results := [.lit (.bool false)], args := [d1, d2, d3, d4] }
  | _ => none }
def RunesBytesWrongFalsely : Prop := runesBytesRow.holds Try.pinned (OpenSpec.ofChange runesBytesWrong)

/-- 'quintainlaw1.RunesJoin': WHATEVER THE INPUT: true; the input reads as it did. -/
def runesJoinSpec : ChangeSpec := { name := "runesJoin", fn := fun _ => fun
  | [d1, d2] => { results := [.lit (.bool true)], args := [d1, d2] }
  | _ => none }
def runesJoinRow : OpenClaim := { program := "ytmlmeikfgbkhhaa", sum := "6798e400b651c05c24a7f7cfbb80ff795aa15dd723fd710ecc858e2f4e8ad2d2", func := "quintain/quintainlaw1.RunesJoin", spec := "runesJoin", apart := false }
def RunesJoinSaid : Prop := runesJoinRow.holds Try.pinned (OpenSpec.ofChange runesJoinSpec)

/-- ITS FALSE NEIGHBOUR: 'it returns false'. Refute it at one input. -/
def runesJoinWrong : ChangeSpec := { name := "runesJoin", fn := fun _ => fun
  | [d1, d2] => { results := [.lit (.bool false)], args := [d1, d2] }
  | _ => none }
def RunesJoinWrongFalsely : Prop := runesJoinRow.holds Try.pinned (OpenSpec.ofChange runesJoinWrong)

/-- 'quintainlaw1.RunesTitles': WHATEVER THE INPUT: true; the input reads as it did. -/
def runesTitlesSpec : ChangeSpec := { name := "runesTitles", fn := fun _ => fun
  | [d1, d2] => { results := [.lit (.bool true)], args := [d1, d2] }
  | _ => none }
def runesTitlesRow : OpenClaim := { program := "ytmlmeikfgbkhhaa", sum := "6798e400b651c05c24a7f7cfbb80ff795aa15dd723fd710ecc858e2f4e8ad2d2", func := "quintain/quintainlaw1.RunesTitles", spec := "runesTitles", apart := false }
def RunesTitlesSaid : Prop := runesTitlesRow.holds Try.pinned (OpenSpec.ofChange runesTitlesSpec)

/-- ITS FALSE NEIGHBOUR: 'it returns false'. Refute it at one input. -/
def runesTitlesWrong : ChangeSpec := { name := "runesTitles", fn := fun _ => fun
  | [d1, d2] => { results := [.lit (.bool false)], args := [d1, d2] }
  | _ => none }
def RunesTitlesWrongFalsely : Prop := runesTitlesRow.holds Try.pinned (OpenSpec.ofChange runesTitlesWrong)

/-- 'quintainlaw1.RunesAt': WHATEVER THE INPUT: true; the input reads as it did. -/
def runesAtSpec : ChangeSpec := { name := "runesAt", fn := fun _ => fun
  | [d1, d2, d3] => { results := [.lit (.bool true)], args := [d1, d2, d3] }
  | _ => none }
def runesAtRow : OpenClaim := { program := "ytmlmeikfgbkhhaa", sum := "6798e400b651c05c24a7f7cfbb80ff795aa15dd723fd710ecc858e2f4e8ad2d2", func := "quintain/quintainlaw1.RunesAt", spec := "runesAt", apart := false }
def RunesAtSaid : Prop := runesAtRow.holds Try.pinned (OpenSpec.ofChange runesAtSpec)

/-- ITS FALSE NEIGHBOUR: 'it returns false'. Refute it at one input. -/
def runesAtWrong : ChangeSpec := { name := "runesAt", fn := fun _ => fun
  | [d1, d2, d3] => { results := [.lit (.bool false)], args := [d1, d2, d3] }
  | _ => none }
def RunesAtWrongFalsely : Prop := runesAtRow.holds Try.pinned (OpenSpec.ofChange runesAtWrong)

/-- 'quintainlaw1.RunesDigits': WHATEVER THE INPUT: true; the input reads as it did. -/
def runesDigitsSpec : ChangeSpec := { name := "runesDigits", fn := fun _ => fun
  | [d] => { results := [.lit (.bool true)], args := [d] }
  | _ => none }
def runesDigitsRow : OpenClaim := { program := "ytmlmeikfgbkhhaa", sum := "6798e400b651c05c24a7f7cfbb80ff795aa15dd723fd710ecc858e2f4e8ad2d2", func := "quintain/quintainlaw1.RunesDigits", spec := "runesDigits", apart := false }
def RunesDigitsSaid : Prop := runesDigitsRow.holds Try.pinned (OpenSpec.ofChange runesDigitsSpec)

/-- ITS FALSE NEIGHBOUR: 'it returns false'. Refute it at one input. -/
def runesDigitsWrong : ChangeSpec := { name := "runesDigits", fn := fun _ => fun
  | [d] => { results := [.lit (.bool false)], args := [d] }
  | _ => none }
def RunesDigitsWrongFalsely : Prop := runesDigitsRow.holds Try.pinned (OpenSpec.ofChange runesDigitsWrong)

/- THE SECOND FORM. 'bulk': how many values and letters a reading holds, each counted each time it is reached (what is shared counts as often as it is met; a slice's spare places count too). A statement '..UptoSaid' is the law's where the arguments, and the package variables that the reading takes, are together of bulk at most 1048576: NARROWER than '..Said'. Prove '..Said' where nothing that the law and all that it calls make is longer than what came in: it says more and counts as full. Else prove '..UptoSaid'. A law counts once. -/
mutual
def uptoBulk {H : Type} : DataW H → Nat
  | .lit (.string bytes) => bytes.length + 1
  | .lit _ => 1
  | .nil => 1
  | .ptr d => uptoBulk d + 1
  | .slice elems spare => uptoBulkAll elems + uptoBulkAll spare + 1
  | .agg parts => uptoBulkAll parts + 1
  | .iface _ d => uptoBulk d + 1
  | .map entries => uptoBulkEntries entries + 1
  | .held _ => 1
def uptoBulkAll {H : Type} : List (DataW H) → Nat
  | [] => 0
  | d :: r => uptoBulk d + uptoBulkAll r
def uptoBulkEntries {H : Type} : List (Lit × DataW H) → Nat
  | [] => 0
  | x :: r => uptoBulkEntry x + uptoBulkEntries r
def uptoBulkEntry {H : Type} : Lit × DataW H → Nat
  | (.string bytes, d) => bytes.length + uptoBulk d + 1
  | (_, d) => uptoBulk d + 1
 end
def uptoSmall : (H : Type) → List (DataW H) → Bool := fun _ ds => decide (uptoBulkAll ds ≤ 1048576)
def OpenSpec.upto (s : _root_.Go.ChangeSpec) : _root_.Go.OpenSpec := { _root_.Go.OpenSpec.ofChange s with cond := some uptoSmall }

/-- 'quintainlaw1.RunesText', WHERE WHAT IT READS IS OF BULK AT MOST 1048576: true; the input reads as it did. -/
def runesTextUptoRow : OpenClaim := { program := "ytmlmeikfgbkhhaa", sum := "6798e400b651c05c24a7f7cfbb80ff795aa15dd723fd710ecc858e2f4e8ad2d2", func := "quintain/quintainlaw1.RunesText", spec := "runesText", apart := false, narrowed := true }
def RunesTextUptoSaid : Prop := runesTextUptoRow.holds Try.pinned (OpenSpec.upto runesTextSpec)

/-- 'quintainlaw1.RunesWords', WHERE WHAT IT READS IS OF BULK AT MOST 1048576: true; the input reads as it did. -/
def runesWordsUptoRow : OpenClaim := { program := "ytmlmeikfgbkhhaa", sum := "6798e400b651c05c24a7f7cfbb80ff795aa15dd723fd710ecc858e2f4e8ad2d2", func := "quintain/quintainlaw1.RunesWords", spec := "runesWords", apart := false, narrowed := true }
def RunesWordsUptoSaid : Prop := runesWordsUptoRow.holds Try.pinned (OpenSpec.upto runesWordsSpec)

/-- 'quintainlaw1.RunesNumber', WHERE WHAT IT READS IS OF BULK AT MOST 1048576: true; the input reads as it did. -/
def runesNumberUptoRow : OpenClaim := { program := "ytmlmeikfgbkhhaa", sum := "6798e400b651c05c24a7f7cfbb80ff795aa15dd723fd710ecc858e2f4e8ad2d2", func := "quintain/quintainlaw1.RunesNumber", spec := "runesNumber", apart := false, narrowed := true }
def RunesNumberUptoSaid : Prop := runesNumberUptoRow.holds Try.pinned (OpenSpec.upto runesNumberSpec)

/-- 'quintainlaw1.RunesBytes', WHERE WHAT IT READS IS OF BULK AT MOST 1048576: true; the input reads as it did. -/
def runesBytesUptoRow : OpenClaim := { program := "ytmlmeikfgbkhhaa", sum := "6798e400b651c05c24a7f7cfbb80ff795aa15dd723fd710ecc858e2f4e8ad2d2", func := "quintain/quintainlaw1.RunesBytes", spec := "runesBytes", apart := false, narrowed := true }
def RunesBytesUptoSaid : Prop := runesBytesUptoRow.holds Try.pinned (OpenSpec.upto runesBytesSpec)

/-- 'quintainlaw1.RunesJoin', WHERE WHAT IT READS IS OF BULK AT MOST 1048576: true; the input reads as it did. -/
def runesJoinUptoRow : OpenClaim := { program := "ytmlmeikfgbkhhaa", sum := "6798e400b651c05c24a7f7cfbb80ff795aa15dd723fd710ecc858e2f4e8ad2d2", func := "quintain/quintainlaw1.RunesJoin", spec := "runesJoin", apart := false, narrowed := true }
def RunesJoinUptoSaid : Prop := runesJoinUptoRow.holds Try.pinned (OpenSpec.upto runesJoinSpec)

/-- 'quintainlaw1.RunesTitles', WHERE WHAT IT READS IS OF BULK AT MOST 1048576: true; the input reads as it did. -/
def runesTitlesUptoRow : OpenClaim := { program := "ytmlmeikfgbkhhaa", sum := "6798e400b651c05c24a7f7cfbb80ff795aa15dd723fd710ecc858e2f4e8ad2d2", func := "quintain/quintainlaw1.RunesTitles", spec := "runesTitles", apart := false, narrowed := true }
def RunesTitlesUptoSaid : Prop := runesTitlesUptoRow.holds Try.pinned (OpenSpec.upto runesTitlesSpec)

/-- 'quintainlaw1.RunesAt', WHERE WHAT IT READS IS OF BULK AT MOST 1048576: true; the input reads as it did. -/
def runesAtUptoRow : OpenClaim := { program := "ytmlmeikfgbkhhaa", sum := "6798e400b651c05c24a7f7cfbb80ff795aa15dd723fd710ecc858e2f4e8ad2d2", func := "quintain/quintainlaw1.RunesAt", spec := "runesAt", apart := false, narrowed := true }
def RunesAtUptoSaid : Prop := runesAtUptoRow.holds Try.pinned (OpenSpec.upto runesAtSpec)

/-- 'quintainlaw1.RunesDigits', WHERE WHAT IT READS IS OF BULK AT MOST 1048576: true; the input reads as it did. -/
def runesDigitsUptoRow : OpenClaim := { program := "ytmlmeikfgbkhhaa", sum := "6798e400b651c05c24a7f7cfbb80ff795aa15dd723fd710ecc858e2f4e8ad2d2", func := "quintain/quintainlaw1.RunesDigits", spec := "runesDigits", apart := false, narrowed := true }
def RunesDigitsUptoSaid : Prop := runesDigitsUptoRow.holds Try.pinned (OpenSpec.upto runesDigitsSpec)

end Rows
end Go.Proofs.Ytmlmeikfgbkhhaa
