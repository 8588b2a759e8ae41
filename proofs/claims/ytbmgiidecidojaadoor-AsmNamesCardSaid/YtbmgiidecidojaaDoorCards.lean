/-
  DERIVED. GIVEN WITH THE SEED: THE CARDS: each row of YtbmgiidecidojaaDoorRows.lean that lists a variable, with what it lists TIED to the program's text (the seventh form; the later family's looks); each row that meets fmt, with fmt's text TOLD by the authors' own Lean function (tested against real Go, not proved from fmt's source: count such statements apart). THE CARD IS WHAT COUNTS. Prove the row's statement (the work); the ties are given (YtbmgiidecidojaaDoorTie.lean); close each card by the builder's one call (the guide's Derived/Test/ToyasCard.lean, 'card_holds'). Laid BY PROGRAM, IN A SANDBOX (cutbox-door.mjs). By AI agents, Wed Nov 11 2026. No macro, syntax, notation, axiom, sorry.
-/
import Derived.Test.YtbmgiidecidojaaDoorRows
import GoSem.ClaimSeven
namespace Go.Proofs.YtbmgiidecidojaaDoor
namespace Rows

/-- THE TIED CARD OF 'quintainlaw6.AsmText'. -/
def asmTextCard : Claim7 := { stood := { row := asmTextRow, standIns := [], harness := (true, "1bb640c40527068aa36876e14cc58c7fc31d04e6f4e8ded18eba43044d75571b"), looks := false }, kinds := [], alts := [], laidByText := true, laidKinds := [.data, .data, .data], laidTests := true, laidLooks := .later }
def AsmTextCardSaid : Prop := Claim7.holds Tryd.pinned (.plain (OpenSpec.ofChange asmTextSpec)) asmTextCard

/-- THE TIED CARD OF 'quintainlaw6.AsmBack'. -/
def asmBackCard : Claim7 := { stood := { row := asmBackRow, standIns := [], harness := (true, "1bb640c40527068aa36876e14cc58c7fc31d04e6f4e8ded18eba43044d75571b"), looks := false }, kinds := [], alts := [], laidByText := true, laidKinds := [.data, .data, .data], laidTests := true, laidLooks := .later }
def AsmBackCardSaid : Prop := Claim7.holds Tryd.pinned (.plain (OpenSpec.ofChange asmBackSpec)) asmBackCard

/-- THE TIED CARD OF 'quintainlaw6.AsmLine'. -/
def asmLineCard : Claim7 := { stood := { row := asmLineRow, standIns := [], harness := (true, "1bb640c40527068aa36876e14cc58c7fc31d04e6f4e8ded18eba43044d75571b"), looks := false }, kinds := [], alts := [], laidByText := true, laidKinds := [.data, .data, .data], laidTests := true, laidLooks := .later }
def AsmLineCardSaid : Prop := Claim7.holds Tryd.pinned (.plain (OpenSpec.ofChange asmLineSpec)) asmLineCard

/-- THE TIED CARD OF 'quintainlaw6.AsmNames'. -/
def asmNamesCard : Claim7 := { stood := { row := asmNamesRow, standIns := [], harness := (true, "1bb640c40527068aa36876e14cc58c7fc31d04e6f4e8ded18eba43044d75571b"), looks := false }, kinds := [], alts := [], laidByText := true, laidKinds := [.data, .data, .data], laidTests := true, laidLooks := .later }
def AsmNamesCardSaid : Prop := Claim7.holds Tryd.pinned (.plain (OpenSpec.ofChange asmNamesSpec)) asmNamesCard

/-- THE TIED CARD OF 'quintainlaw6.AsmTwins'. -/
def asmTwinsCard : Claim7 := { stood := { row := asmTwinsRow, standIns := [], harness := (true, "1bb640c40527068aa36876e14cc58c7fc31d04e6f4e8ded18eba43044d75571b"), looks := false }, kinds := [], alts := [], laidByText := true, laidKinds := [.data, .data, .data], laidTests := true, laidLooks := .later }
def AsmTwinsCardSaid : Prop := Claim7.holds Tryd.pinned (.plain (OpenSpec.ofChange asmTwinsSpec)) asmTwinsCard

/-- THE TIED CARD OF 'quintainlaw6.AsmMany'. -/
def asmManyCard : Claim7 := { stood := { row := asmManyRow, standIns := [], harness := (true, "1bb640c40527068aa36876e14cc58c7fc31d04e6f4e8ded18eba43044d75571b"), looks := false }, kinds := [], alts := [], laidByText := true, laidKinds := [.data, .data, .data], laidTests := true, laidLooks := .later }
def AsmManyCardSaid : Prop := Claim7.holds Tryd.pinned (.plain (OpenSpec.ofChange asmManySpec)) asmManyCard

/-- THE SECOND FORM's CARD OF 'quintainlaw6.AsmText'. -/
def asmTextUptoCard : Claim7 := { stood := { row := asmTextUptoRow, standIns := [], harness := (true, "1bb640c40527068aa36876e14cc58c7fc31d04e6f4e8ded18eba43044d75571b"), looks := false }, kinds := [], alts := [], laidByText := true, laidKinds := [.data, .data, .data], laidTests := true, laidLooks := .later }
def AsmTextUptoCardSaid : Prop := Claim7.holds Tryd.pinned (.plain (OpenSpec.upto asmTextSpec)) asmTextUptoCard

/-- THE SECOND FORM's CARD OF 'quintainlaw6.AsmBack'. -/
def asmBackUptoCard : Claim7 := { stood := { row := asmBackUptoRow, standIns := [], harness := (true, "1bb640c40527068aa36876e14cc58c7fc31d04e6f4e8ded18eba43044d75571b"), looks := false }, kinds := [], alts := [], laidByText := true, laidKinds := [.data, .data, .data], laidTests := true, laidLooks := .later }
def AsmBackUptoCardSaid : Prop := Claim7.holds Tryd.pinned (.plain (OpenSpec.upto asmBackSpec)) asmBackUptoCard

/-- THE SECOND FORM's CARD OF 'quintainlaw6.AsmLine'. -/
def asmLineUptoCard : Claim7 := { stood := { row := asmLineUptoRow, standIns := [], harness := (true, "1bb640c40527068aa36876e14cc58c7fc31d04e6f4e8ded18eba43044d75571b"), looks := false }, kinds := [], alts := [], laidByText := true, laidKinds := [.data, .data, .data], laidTests := true, laidLooks := .later }
def AsmLineUptoCardSaid : Prop := Claim7.holds Tryd.pinned (.plain (OpenSpec.upto asmLineSpec)) asmLineUptoCard

/-- THE SECOND FORM's CARD OF 'quintainlaw6.AsmNames'. -/
def asmNamesUptoCard : Claim7 := { stood := { row := asmNamesUptoRow, standIns := [], harness := (true, "1bb640c40527068aa36876e14cc58c7fc31d04e6f4e8ded18eba43044d75571b"), looks := false }, kinds := [], alts := [], laidByText := true, laidKinds := [.data, .data, .data], laidTests := true, laidLooks := .later }
def AsmNamesUptoCardSaid : Prop := Claim7.holds Tryd.pinned (.plain (OpenSpec.upto asmNamesSpec)) asmNamesUptoCard

/-- THE SECOND FORM's CARD OF 'quintainlaw6.AsmTwins'. -/
def asmTwinsUptoCard : Claim7 := { stood := { row := asmTwinsUptoRow, standIns := [], harness := (true, "1bb640c40527068aa36876e14cc58c7fc31d04e6f4e8ded18eba43044d75571b"), looks := false }, kinds := [], alts := [], laidByText := true, laidKinds := [.data, .data, .data], laidTests := true, laidLooks := .later }
def AsmTwinsUptoCardSaid : Prop := Claim7.holds Tryd.pinned (.plain (OpenSpec.upto asmTwinsSpec)) asmTwinsUptoCard

/-- THE SECOND FORM's CARD OF 'quintainlaw6.AsmMany'. -/
def asmManyUptoCard : Claim7 := { stood := { row := asmManyUptoRow, standIns := [], harness := (true, "1bb640c40527068aa36876e14cc58c7fc31d04e6f4e8ded18eba43044d75571b"), looks := false }, kinds := [], alts := [], laidByText := true, laidKinds := [.data, .data, .data], laidTests := true, laidLooks := .later }
def AsmManyUptoCardSaid : Prop := Claim7.holds Tryd.pinned (.plain (OpenSpec.upto asmManySpec)) asmManyUptoCard
end Rows
end Go.Proofs.YtbmgiidecidojaaDoor
