/-
  DERIVED. GIVEN WITH THE SEED: THE CARDS: each row of YtihegdjdgklbgaaDoorRows.lean that lists a variable, with what it lists TIED to the program's text (the seventh form; the later family's looks); each row that meets fmt, with fmt's text TOLD by the authors' own Lean function (tested against real Go, not proved from fmt's source: count such statements apart). THE CARD IS WHAT COUNTS. Prove the row's statement (the work); the ties are given (YtihegdjdgklbgaaDoorTie.lean); close each card by the builder's one call (the guide's Derived/Test/ToyasCard.lean, 'card_holds'). Laid BY PROGRAM, IN A SANDBOX (cutbox-door.mjs). By AI agents, Wed Nov 11 2026. No macro, syntax, notation, axiom, sorry.
-/
import Derived.Test.YtihegdjdgklbgaaDoorRows
import GoSem.ClaimSeven
namespace Go.Proofs.YtihegdjdgklbgaaDoor
namespace Rows

/-- THE TIED CARD OF 'quintainlaw12.EventTwins'. -/
def eventTwinsCard : Claim7 := { stood := { row := eventTwinsRow, standIns := [], harness := (true, "5ed5ec4e82efc3a08a921795067187758b296aa933f9be71a8ee8c3e326965e2"), looks := true }, kinds := [], alts := [], laidByText := true, laidKinds := [.data, .data, .data], laidTests := true, laidLooks := .later }
def EventTwinsCardSaid : Prop := Claim7.holds Tryd.pinned (.plain (OpenSpec.ofChange eventTwinsSpec)) eventTwinsCard

/-- THE TIED CARD OF 'quintainlaw12.EventAll'. -/
def eventAllCard : Claim7 := { stood := { row := eventAllRow, standIns := [], harness := (true, "5ed5ec4e82efc3a08a921795067187758b296aa933f9be71a8ee8c3e326965e2"), looks := true }, kinds := [], alts := [], laidByText := true, laidKinds := [.data, .data, .data], laidTests := true, laidLooks := .later }
def EventAllCardSaid : Prop := Claim7.holds Tryd.pinned (.plain (OpenSpec.ofChange eventAllSpec)) eventAllCard

/-- THE TIED CARD OF 'quintainlaw12.EventNone'. -/
def eventNoneCard : Claim7 := { stood := { row := eventNoneRow, standIns := [], harness := (true, "5ed5ec4e82efc3a08a921795067187758b296aa933f9be71a8ee8c3e326965e2"), looks := true }, kinds := [], alts := [], laidByText := true, laidKinds := [.data, .data, .data], laidTests := true, laidLooks := .later }
def EventNoneCardSaid : Prop := Claim7.holds Tryd.pinned (.plain (OpenSpec.ofChange eventNoneSpec)) eventNoneCard

/-- THE TIED CARD OF 'quintainlaw12.EventValues'. -/
def eventValuesCard : Claim7 := { stood := { row := eventValuesRow, standIns := [], harness := (true, "5ed5ec4e82efc3a08a921795067187758b296aa933f9be71a8ee8c3e326965e2"), looks := true }, kinds := [], alts := [], laidByText := true, laidKinds := [.data, .data, .data], laidTests := true, laidLooks := .later }
def EventValuesCardSaid : Prop := Claim7.holds Tryd.pinned (.plain (OpenSpec.ofChange eventValuesSpec)) eventValuesCard

/-- THE SECOND FORM's CARD OF 'quintainlaw12.EventTwins'. -/
def eventTwinsUptoCard : Claim7 := { stood := { row := eventTwinsUptoRow, standIns := [], harness := (true, "5ed5ec4e82efc3a08a921795067187758b296aa933f9be71a8ee8c3e326965e2"), looks := true }, kinds := [], alts := [], laidByText := true, laidKinds := [.data, .data, .data], laidTests := true, laidLooks := .later }
def EventTwinsUptoCardSaid : Prop := Claim7.holds Tryd.pinned (.plain (OpenSpec.upto eventTwinsSpec)) eventTwinsUptoCard

/-- THE SECOND FORM's CARD OF 'quintainlaw12.EventAll'. -/
def eventAllUptoCard : Claim7 := { stood := { row := eventAllUptoRow, standIns := [], harness := (true, "5ed5ec4e82efc3a08a921795067187758b296aa933f9be71a8ee8c3e326965e2"), looks := true }, kinds := [], alts := [], laidByText := true, laidKinds := [.data, .data, .data], laidTests := true, laidLooks := .later }
def EventAllUptoCardSaid : Prop := Claim7.holds Tryd.pinned (.plain (OpenSpec.upto eventAllSpec)) eventAllUptoCard

/-- THE SECOND FORM's CARD OF 'quintainlaw12.EventNone'. -/
def eventNoneUptoCard : Claim7 := { stood := { row := eventNoneUptoRow, standIns := [], harness := (true, "5ed5ec4e82efc3a08a921795067187758b296aa933f9be71a8ee8c3e326965e2"), looks := true }, kinds := [], alts := [], laidByText := true, laidKinds := [.data, .data, .data], laidTests := true, laidLooks := .later }
def EventNoneUptoCardSaid : Prop := Claim7.holds Tryd.pinned (.plain (OpenSpec.upto eventNoneSpec)) eventNoneUptoCard

/-- THE SECOND FORM's CARD OF 'quintainlaw12.EventValues'. -/
def eventValuesUptoCard : Claim7 := { stood := { row := eventValuesUptoRow, standIns := [], harness := (true, "5ed5ec4e82efc3a08a921795067187758b296aa933f9be71a8ee8c3e326965e2"), looks := true }, kinds := [], alts := [], laidByText := true, laidKinds := [.data, .data, .data], laidTests := true, laidLooks := .later }
def EventValuesUptoCardSaid : Prop := Claim7.holds Tryd.pinned (.plain (OpenSpec.upto eventValuesSpec)) eventValuesUptoCard
end Rows
end Go.Proofs.YtihegdjdgklbgaaDoor
