/-
  No cell of these rows narrows 'for every input' (looked for: loops, veiled, ifaces, maps, wideKeys, modest, calm, conditions, laid).
  DERIVED. THE GIVEN ROWS OF THIS SEAT. 10 by the template 'for every input the law returns true; each argument reads behind the call as it read before'; 0 by the template 'total and deterministic' (their statements: YtiikipdghpnaeaaTotals.lean).
  GIVEN WITH THE SEED: the statements are not yours to turn. If you find one false, say at which input.
  Laid BY PROGRAM, IN A SANDBOX (cutbox-rows.mjs): the forced cells as the released guide's own fill.sh prints them over the translation 1c59800027b7ba26… (all of the seat's roots in one cut). By AI agents, Wed Nov 11 2026. No macro, syntax, notation, axiom, sorry.
-/
import Derived.Test.YtiikipdghpnaeaaChecked
import GoSem.Claim
import GoSem.ClaimJoined
import GoSem.ClaimMapViews
import Derived.JoinedTies
import Derived.KernelRfl
namespace Go.Proofs.Ytiikipdghpnaeaa
/- THE CELL 'sum', in the pinned program and in every row, IS THE sha256 OF THE DUMP (.gsa) THAT YtiikipdghpnaeaaProg.lean LOADS. Nothing in Lean hashes anything: it is a label: what it is worth is what the hold of that sum in a sandbox is worth. -/
noncomputable def Try.pinned : Pinned := { name := "ytiikipdghpnaeaa", sum := "1c59800027b7ba269e763a1c0b9d469ee1ca939c541a408ec6734bdf86dcb200", checked := Try.checked }
namespace Rows
def none {H : Type} : Left H := { results := [], args := [] }

/-- 'quintainlaw9.VmStep': WHATEVER THE INPUT: true; the input reads as it did. -/
def vmStepSpec : ChangeSpec := { name := "vmStep", fn := fun _ => fun
  | [d1, d2, d3, d4] => { results := [.lit (.bool true)], args := [d1, d2, d3, d4] }
  | _ => none }
def vmStepRow : OpenClaim := { program := "ytiikipdghpnaeaa", sum := "1c59800027b7ba269e763a1c0b9d469ee1ca939c541a408ec6734bdf86dcb200", func := "quintain/quintainlaw9.VmStep", spec := "vmStep", unfollowed := true, recurses := true, apart := false }
def VmStepSaid : Prop := vmStepRow.holds Try.pinned (OpenSpec.ofChange vmStepSpec)

/-- ITS FALSE NEIGHBOUR: 'it returns false'. Refute it at one input. -/
def vmStepWrong : ChangeSpec := { name := "vmStep", fn := fun _ => fun
  | [d1, d2, d3, d4] => { results := [.lit (.bool false)], args := [d1, d2, d3, d4] }
  | _ => none }
def VmStepWrongFalsely : Prop := vmStepRow.holds Try.pinned (OpenSpec.ofChange vmStepWrong)

/-- 'quintainlaw9.VmTwice': WHATEVER THE INPUT: true; the input reads as it did. -/
def vmTwiceSpec : ChangeSpec := { name := "vmTwice", fn := fun _ => fun
  | [d1, d2, d3, d4, d5] => { results := [.lit (.bool true)], args := [d1, d2, d3, d4, d5] }
  | _ => none }
def vmTwiceRow : OpenClaim := { program := "ytiikipdghpnaeaa", sum := "1c59800027b7ba269e763a1c0b9d469ee1ca939c541a408ec6734bdf86dcb200", func := "quintain/quintainlaw9.VmTwice", spec := "vmTwice", unfollowed := true, recurses := true, apart := false }
def VmTwiceSaid : Prop := vmTwiceRow.holds Try.pinned (OpenSpec.ofChange vmTwiceSpec)

/-- ITS FALSE NEIGHBOUR: 'it returns false'. Refute it at one input. -/
def vmTwiceWrong : ChangeSpec := { name := "vmTwice", fn := fun _ => fun
  | [d1, d2, d3, d4, d5] => { results := [.lit (.bool false)], args := [d1, d2, d3, d4, d5] }
  | _ => none }
def VmTwiceWrongFalsely : Prop := vmTwiceRow.holds Try.pinned (OpenSpec.ofChange vmTwiceWrong)

/-- 'quintainlaw9.VmFuel': WHATEVER THE INPUT: true; the input reads as it did. -/
def vmFuelSpec : ChangeSpec := { name := "vmFuel", fn := fun _ => fun
  | [d] => { results := [.lit (.bool true)], args := [d] }
  | _ => none }
def vmFuelRow : OpenClaim := { program := "ytiikipdghpnaeaa", sum := "1c59800027b7ba269e763a1c0b9d469ee1ca939c541a408ec6734bdf86dcb200", func := "quintain/quintainlaw9.VmFuel", spec := "vmFuel", unfollowed := true, recurses := true, apart := false }
def VmFuelSaid : Prop := vmFuelRow.holds Try.pinned (OpenSpec.ofChange vmFuelSpec)

/-- ITS FALSE NEIGHBOUR: 'it returns false'. Refute it at one input. -/
def vmFuelWrong : ChangeSpec := { name := "vmFuel", fn := fun _ => fun
  | [d] => { results := [.lit (.bool false)], args := [d] }
  | _ => none }
def VmFuelWrongFalsely : Prop := vmFuelRow.holds Try.pinned (OpenSpec.ofChange vmFuelWrong)

/-- 'quintainlaw9.VmPress': WHATEVER THE INPUT: true; the input reads as it did. -/
def vmPressSpec : ChangeSpec := { name := "vmPress", fn := fun _ => fun
  | [d1, d2] => { results := [.lit (.bool true)], args := [d1, d2] }
  | _ => none }
def vmPressRow : OpenClaim := { program := "ytiikipdghpnaeaa", sum := "1c59800027b7ba269e763a1c0b9d469ee1ca939c541a408ec6734bdf86dcb200", func := "quintain/quintainlaw9.VmPress", spec := "vmPress", unfollowed := true, recurses := true, apart := false }
def VmPressSaid : Prop := vmPressRow.holds Try.pinned (OpenSpec.ofChange vmPressSpec)

/-- ITS FALSE NEIGHBOUR: 'it returns false'. Refute it at one input. -/
def vmPressWrong : ChangeSpec := { name := "vmPress", fn := fun _ => fun
  | [d1, d2] => { results := [.lit (.bool false)], args := [d1, d2] }
  | _ => none }
def VmPressWrongFalsely : Prop := vmPressRow.holds Try.pinned (OpenSpec.ofChange vmPressWrong)

/-- 'quintainlaw9.VmCells': WHATEVER THE INPUT: true; the input reads as it did. -/
def vmCellsSpec : ChangeSpec := { name := "vmCells", fn := fun _ => fun
  | [d1, d2] => { results := [.lit (.bool true)], args := [d1, d2] }
  | _ => none }
def vmCellsRow : OpenClaim := { program := "ytiikipdghpnaeaa", sum := "1c59800027b7ba269e763a1c0b9d469ee1ca939c541a408ec6734bdf86dcb200", func := "quintain/quintainlaw9.VmCells", spec := "vmCells", unfollowed := true, recurses := true, apart := false }
def VmCellsSaid : Prop := vmCellsRow.holds Try.pinned (OpenSpec.ofChange vmCellsSpec)

/-- ITS FALSE NEIGHBOUR: 'it returns false'. Refute it at one input. -/
def vmCellsWrong : ChangeSpec := { name := "vmCells", fn := fun _ => fun
  | [d1, d2] => { results := [.lit (.bool false)], args := [d1, d2] }
  | _ => none }
def VmCellsWrongFalsely : Prop := vmCellsRow.holds Try.pinned (OpenSpec.ofChange vmCellsWrong)

/-- 'quintainlaw9.VmRunes': WHATEVER THE INPUT: true; the input reads as it did. -/
def vmRunesSpec : ChangeSpec := { name := "vmRunes", fn := fun _ => fun
  | [d1, d2] => { results := [.lit (.bool true)], args := [d1, d2] }
  | _ => none }
def vmRunesRow : OpenClaim := { program := "ytiikipdghpnaeaa", sum := "1c59800027b7ba269e763a1c0b9d469ee1ca939c541a408ec6734bdf86dcb200", func := "quintain/quintainlaw9.VmRunes", spec := "vmRunes", unfollowed := true, recurses := true, apart := false }
def VmRunesSaid : Prop := vmRunesRow.holds Try.pinned (OpenSpec.ofChange vmRunesSpec)

/-- ITS FALSE NEIGHBOUR: 'it returns false'. Refute it at one input. -/
def vmRunesWrong : ChangeSpec := { name := "vmRunes", fn := fun _ => fun
  | [d1, d2] => { results := [.lit (.bool false)], args := [d1, d2] }
  | _ => none }
def VmRunesWrongFalsely : Prop := vmRunesRow.holds Try.pinned (OpenSpec.ofChange vmRunesWrong)

/-- 'quintainlaw9.VmReckon': WHATEVER THE INPUT: true; the input reads as it did. -/
def vmReckonSpec : ChangeSpec := { name := "vmReckon", fn := fun _ => fun
  | [d1, d2, d3] => { results := [.lit (.bool true)], args := [d1, d2, d3] }
  | _ => none }
def vmReckonRow : OpenClaim := { program := "ytiikipdghpnaeaa", sum := "1c59800027b7ba269e763a1c0b9d469ee1ca939c541a408ec6734bdf86dcb200", func := "quintain/quintainlaw9.VmReckon", spec := "vmReckon", unfollowed := true, recurses := true, apart := false }
def VmReckonSaid : Prop := vmReckonRow.holds Try.pinned (OpenSpec.ofChange vmReckonSpec)

/-- ITS FALSE NEIGHBOUR: 'it returns false'. Refute it at one input. -/
def vmReckonWrong : ChangeSpec := { name := "vmReckon", fn := fun _ => fun
  | [d1, d2, d3] => { results := [.lit (.bool false)], args := [d1, d2, d3] }
  | _ => none }
def VmReckonWrongFalsely : Prop := vmReckonRow.holds Try.pinned (OpenSpec.ofChange vmReckonWrong)

/-- 'quintainlaw9.VmJump': WHATEVER THE INPUT: true; the input reads as it did. -/
def vmJumpSpec : ChangeSpec := { name := "vmJump", fn := fun _ => fun
  | [d1, d2] => { results := [.lit (.bool true)], args := [d1, d2] }
  | _ => none }
def vmJumpRow : OpenClaim := { program := "ytiikipdghpnaeaa", sum := "1c59800027b7ba269e763a1c0b9d469ee1ca939c541a408ec6734bdf86dcb200", func := "quintain/quintainlaw9.VmJump", spec := "vmJump", unfollowed := true, recurses := true, apart := false }
def VmJumpSaid : Prop := vmJumpRow.holds Try.pinned (OpenSpec.ofChange vmJumpSpec)

/-- ITS FALSE NEIGHBOUR: 'it returns false'. Refute it at one input. -/
def vmJumpWrong : ChangeSpec := { name := "vmJump", fn := fun _ => fun
  | [d1, d2] => { results := [.lit (.bool false)], args := [d1, d2] }
  | _ => none }
def VmJumpWrongFalsely : Prop := vmJumpRow.holds Try.pinned (OpenSpec.ofChange vmJumpWrong)

/-- 'quintainlaw9.VmOnly': WHATEVER THE INPUT: true; the input reads as it did. -/
def vmOnlySpec : ChangeSpec := { name := "vmOnly", fn := fun _ => fun
  | [d1, d2, d3, d4] => { results := [.lit (.bool true)], args := [d1, d2, d3, d4] }
  | _ => none }
def vmOnlyRow : OpenClaim := { program := "ytiikipdghpnaeaa", sum := "1c59800027b7ba269e763a1c0b9d469ee1ca939c541a408ec6734bdf86dcb200", func := "quintain/quintainlaw9.VmOnly", spec := "vmOnly", unfollowed := true, recurses := true, apart := false }
def VmOnlySaid : Prop := vmOnlyRow.holds Try.pinned (OpenSpec.ofChange vmOnlySpec)

/-- ITS FALSE NEIGHBOUR: 'it returns false'. Refute it at one input. -/
def vmOnlyWrong : ChangeSpec := { name := "vmOnly", fn := fun _ => fun
  | [d1, d2, d3, d4] => { results := [.lit (.bool false)], args := [d1, d2, d3, d4] }
  | _ => none }
def VmOnlyWrongFalsely : Prop := vmOnlyRow.holds Try.pinned (OpenSpec.ofChange vmOnlyWrong)

/-- 'quintainlaw9.VmTime': WHATEVER THE INPUT: true; the input reads as it did. -/
def vmTimeSpec : ChangeSpec := { name := "vmTime", fn := fun _ => fun
  | [d] => { results := [.lit (.bool true)], args := [d] }
  | _ => none }
def vmTimeRow : OpenClaim := { program := "ytiikipdghpnaeaa", sum := "1c59800027b7ba269e763a1c0b9d469ee1ca939c541a408ec6734bdf86dcb200", func := "quintain/quintainlaw9.VmTime", spec := "vmTime", unfollowed := true, recurses := true, apart := false }
def VmTimeSaid : Prop := vmTimeRow.holds Try.pinned (OpenSpec.ofChange vmTimeSpec)

/-- ITS FALSE NEIGHBOUR: 'it returns false'. Refute it at one input. -/
def vmTimeWrong : ChangeSpec := { name := "vmTime", fn := fun _ => fun
  | [d] => { results := [.lit (.bool false)], args := [d] }
  | _ => none }
def VmTimeWrongFalsely : Prop := vmTimeRow.holds Try.pinned (OpenSpec.ofChange vmTimeWrong)

/- THE SECOND FORM. 'bulk': how many values and letters a reading holds, each counted each time it is reached (what is shared counts as often as it is met; a slice's spare places count too). A statement '..UptoSaid' is the law's where the arguments, and the package variables that the reading takes, are together of bulk at most 1048576: NARROWER than '..Said'. Prove '..Said' where nothing that the law and all that it calls make is longer than what came in: it says more and counts as full. Else prove '..UptoSaid'. A law counts once. -/
mutual
def uptoBulk {H : Type} : DataW H → Nat
  | .lit (.string bytes) => bytes.length + 1
  | .lit _ => 1
  | .nil => 1
  | .ptr d => uptoBulk d + 1
  | .slice elems spare => uptoBulkAll elems + uptoBulkAll spare + 1
  | .agg parts => uptoBulkAll parts + 1
  | .iface _ d => uptoBulk d + 1
  | .map entries => uptoBulkEntries entries + 1
  | .held _ => 1
def uptoBulkAll {H : Type} : List (DataW H) → Nat
  | [] => 0
  | d :: r => uptoBulk d + uptoBulkAll r
def uptoBulkEntries {H : Type} : List (Lit × DataW H) → Nat
  | [] => 0
  | x :: r => uptoBulkEntry x + uptoBulkEntries r
def uptoBulkEntry {H : Type} : Lit × DataW H → Nat
  | (.string bytes, d) => bytes.length + uptoBulk d + 1
  | (_, d) => uptoBulk d + 1
 end
def uptoSmall : (H : Type) → List (DataW H) → Bool := fun _ ds => decide (uptoBulkAll ds ≤ 1048576)
def OpenSpec.upto (s : _root_.Go.ChangeSpec) : _root_.Go.OpenSpec := { _root_.Go.OpenSpec.ofChange s with cond := some uptoSmall }

/-- 'quintainlaw9.VmStep', WHERE WHAT IT READS IS OF BULK AT MOST 1048576: true; the input reads as it did. -/
def vmStepUptoRow : OpenClaim := { program := "ytiikipdghpnaeaa", sum := "1c59800027b7ba269e763a1c0b9d469ee1ca939c541a408ec6734bdf86dcb200", func := "quintain/quintainlaw9.VmStep", spec := "vmStep", unfollowed := true, recurses := true, apart := false, narrowed := true }
def VmStepUptoSaid : Prop := vmStepUptoRow.holds Try.pinned (OpenSpec.upto vmStepSpec)

/-- 'quintainlaw9.VmTwice', WHERE WHAT IT READS IS OF BULK AT MOST 1048576: true; the input reads as it did. -/
def vmTwiceUptoRow : OpenClaim := { program := "ytiikipdghpnaeaa", sum := "1c59800027b7ba269e763a1c0b9d469ee1ca939c541a408ec6734bdf86dcb200", func := "quintain/quintainlaw9.VmTwice", spec := "vmTwice", unfollowed := true, recurses := true, apart := false, narrowed := true }
def VmTwiceUptoSaid : Prop := vmTwiceUptoRow.holds Try.pinned (OpenSpec.upto vmTwiceSpec)

/-- 'quintainlaw9.VmFuel', WHERE WHAT IT READS IS OF BULK AT MOST 1048576: true; the input reads as it did. -/
def vmFuelUptoRow : OpenClaim := { program := "ytiikipdghpnaeaa", sum := "1c59800027b7ba269e763a1c0b9d469ee1ca939c541a408ec6734bdf86dcb200", func := "quintain/quintainlaw9.VmFuel", spec := "vmFuel", unfollowed := true, recurses := true, apart := false, narrowed := true }
def VmFuelUptoSaid : Prop := vmFuelUptoRow.holds Try.pinned (OpenSpec.upto vmFuelSpec)

/-- 'quintainlaw9.VmPress', WHERE WHAT IT READS IS OF BULK AT MOST 1048576: true; the input reads as it did. -/
def vmPressUptoRow : OpenClaim := { program := "ytiikipdghpnaeaa", sum := "1c59800027b7ba269e763a1c0b9d469ee1ca939c541a408ec6734bdf86dcb200", func := "quintain/quintainlaw9.VmPress", spec := "vmPress", unfollowed := true, recurses := true, apart := false, narrowed := true }
def VmPressUptoSaid : Prop := vmPressUptoRow.holds Try.pinned (OpenSpec.upto vmPressSpec)

/-- 'quintainlaw9.VmCells', WHERE WHAT IT READS IS OF BULK AT MOST 1048576: true; the input reads as it did. -/
def vmCellsUptoRow : OpenClaim := { program := "ytiikipdghpnaeaa", sum := "1c59800027b7ba269e763a1c0b9d469ee1ca939c541a408ec6734bdf86dcb200", func := "quintain/quintainlaw9.VmCells", spec := "vmCells", unfollowed := true, recurses := true, apart := false, narrowed := true }
def VmCellsUptoSaid : Prop := vmCellsUptoRow.holds Try.pinned (OpenSpec.upto vmCellsSpec)

/-- 'quintainlaw9.VmRunes', WHERE WHAT IT READS IS OF BULK AT MOST 1048576: true; the input reads as it did. -/
def vmRunesUptoRow : OpenClaim := { program := "ytiikipdghpnaeaa", sum := "1c59800027b7ba269e763a1c0b9d469ee1ca939c541a408ec6734bdf86dcb200", func := "quintain/quintainlaw9.VmRunes", spec := "vmRunes", unfollowed := true, recurses := true, apart := false, narrowed := true }
def VmRunesUptoSaid : Prop := vmRunesUptoRow.holds Try.pinned (OpenSpec.upto vmRunesSpec)

/-- 'quintainlaw9.VmReckon', WHERE WHAT IT READS IS OF BULK AT MOST 1048576: true; the input reads as it did. -/
def vmReckonUptoRow : OpenClaim := { program := "ytiikipdghpnaeaa", sum := "1c59800027b7ba269e763a1c0b9d469ee1ca939c541a408ec6734bdf86dcb200", func := "quintain/quintainlaw9.VmReckon", spec := "vmReckon", unfollowed := true, recurses := true, apart := false, narrowed := true }
def VmReckonUptoSaid : Prop := vmReckonUptoRow.holds Try.pinned (OpenSpec.upto vmReckonSpec)

/-- 'quintainlaw9.VmJump', WHERE WHAT IT READS IS OF BULK AT MOST 1048576: true; the input reads as it did. -/
def vmJumpUptoRow : OpenClaim := { program := "ytiikipdghpnaeaa", sum := "1c59800027b7ba269e763a1c0b9d469ee1ca939c541a408ec6734bdf86dcb200", func := "quintain/quintainlaw9.VmJump", spec := "vmJump", unfollowed := true, recurses := true, apart := false, narrowed := true }
def VmJumpUptoSaid : Prop := vmJumpUptoRow.holds Try.pinned (OpenSpec.upto vmJumpSpec)

/-- 'quintainlaw9.VmOnly', WHERE WHAT IT READS IS OF BULK AT MOST 1048576: true; the input reads as it did. -/
def vmOnlyUptoRow : OpenClaim := { program := "ytiikipdghpnaeaa", sum := "1c59800027b7ba269e763a1c0b9d469ee1ca939c541a408ec6734bdf86dcb200", func := "quintain/quintainlaw9.VmOnly", spec := "vmOnly", unfollowed := true, recurses := true, apart := false, narrowed := true }
def VmOnlyUptoSaid : Prop := vmOnlyUptoRow.holds Try.pinned (OpenSpec.upto vmOnlySpec)

/-- 'quintainlaw9.VmTime', WHERE WHAT IT READS IS OF BULK AT MOST 1048576: true; the input reads as it did. -/
def vmTimeUptoRow : OpenClaim := { program := "ytiikipdghpnaeaa", sum := "1c59800027b7ba269e763a1c0b9d469ee1ca939c541a408ec6734bdf86dcb200", func := "quintain/quintainlaw9.VmTime", spec := "vmTime", unfollowed := true, recurses := true, apart := false, narrowed := true }
def VmTimeUptoSaid : Prop := vmTimeUptoRow.holds Try.pinned (OpenSpec.upto vmTimeSpec)

end Rows
end Go.Proofs.Ytiikipdghpnaeaa
