/-
  DERIVED. GIVEN WITH THE SEED: THE CARDS: each row of YtmepbokoopgmiaaDoorRows.lean that lists a variable, with what it lists TIED to the program's text (the seventh form; the later family's looks); each row that meets fmt, with fmt's text TOLD by the authors' own Lean function (tested against real Go, not proved from fmt's source: count such statements apart). THE CARD IS WHAT COUNTS. Prove the row's statement (the work); the ties are given (YtmepbokoopgmiaaDoorTie.lean); close each card by the builder's one call (the guide's Derived/Test/ToyasCard.lean, 'card_holds'). Laid BY PROGRAM, IN A SANDBOX (cutbox-door.mjs). By AI agents, Wed Nov 11 2026. No macro, syntax, notation, axiom, sorry.
-/
import Derived.Test.YtmepbokoopgmiaaDoorRows
import GoSem.ClaimSeven
namespace Go.Proofs.YtmepbokoopgmiaaDoor
namespace Rows

/-- THE TIED CARD OF 'beadrolllaw24.HubNames'. -/
def hubNamesCard : Claim7 := { stood := { row := hubNamesRow, standIns := [], harness := (true, "ccf0ba3cbfa38f5486b03b956b6fa68e90459353e8de09d3f0ddc1b7be7b5806"), looks := false }, kinds := [], alts := [], laidByText := true, laidKinds := [.data], laidTests := true, laidLooks := .later }
def HubNamesCardSaid : Prop := Claim7.holds Tryd.pinned (.plain (OpenSpec.ofChange hubNamesSpec)) hubNamesCard

/-- THE TIED CARD OF 'beadrolllaw24.HubApart'. -/
def hubApartCard : Claim7 := { stood := { row := hubApartRow, standIns := [], harness := (true, "ccf0ba3cbfa38f5486b03b956b6fa68e90459353e8de09d3f0ddc1b7be7b5806"), looks := false }, kinds := [], alts := [], laidByText := true, laidKinds := [.data], laidTests := true, laidLooks := .later }
def HubApartCardSaid : Prop := Claim7.holds Tryd.pinned (.plain (OpenSpec.ofChange hubApartSpec)) hubApartCard

/-- THE TIED CARD OF 'beadrolllaw24.HubTells'. -/
def hubTellsCard : Claim7 := { stood := { row := hubTellsRow, standIns := [], harness := (true, "ccf0ba3cbfa38f5486b03b956b6fa68e90459353e8de09d3f0ddc1b7be7b5806"), looks := false }, kinds := [], alts := [], laidByText := true, laidKinds := [.data], laidTests := true, laidLooks := .later }
def HubTellsCardSaid : Prop := Claim7.holds Tryd.pinned (.plain (OpenSpec.ofChange hubTellsSpec)) hubTellsCard

/-- THE TIED CARD OF 'beadrolllaw24.HubDoes'. -/
def hubDoesCard : Claim7 := { stood := { row := hubDoesRow, standIns := [], harness := (true, "ccf0ba3cbfa38f5486b03b956b6fa68e90459353e8de09d3f0ddc1b7be7b5806"), looks := false }, kinds := [], alts := [], laidByText := true, laidKinds := [.data], laidTests := true, laidLooks := .later }
def HubDoesCardSaid : Prop := Claim7.holds Tryd.pinned (.plain (OpenSpec.ofChange hubDoesSpec)) hubDoesCard

/-- THE SECOND FORM's CARD OF 'beadrolllaw24.HubNames'. -/
def hubNamesUptoCard : Claim7 := { stood := { row := hubNamesUptoRow, standIns := [], harness := (true, "ccf0ba3cbfa38f5486b03b956b6fa68e90459353e8de09d3f0ddc1b7be7b5806"), looks := false }, kinds := [], alts := [], laidByText := true, laidKinds := [.data], laidTests := true, laidLooks := .later }
def HubNamesUptoCardSaid : Prop := Claim7.holds Tryd.pinned (.plain (OpenSpec.upto hubNamesSpec)) hubNamesUptoCard

/-- THE SECOND FORM's CARD OF 'beadrolllaw24.HubApart'. -/
def hubApartUptoCard : Claim7 := { stood := { row := hubApartUptoRow, standIns := [], harness := (true, "ccf0ba3cbfa38f5486b03b956b6fa68e90459353e8de09d3f0ddc1b7be7b5806"), looks := false }, kinds := [], alts := [], laidByText := true, laidKinds := [.data], laidTests := true, laidLooks := .later }
def HubApartUptoCardSaid : Prop := Claim7.holds Tryd.pinned (.plain (OpenSpec.upto hubApartSpec)) hubApartUptoCard

/-- THE SECOND FORM's CARD OF 'beadrolllaw24.HubTells'. -/
def hubTellsUptoCard : Claim7 := { stood := { row := hubTellsUptoRow, standIns := [], harness := (true, "ccf0ba3cbfa38f5486b03b956b6fa68e90459353e8de09d3f0ddc1b7be7b5806"), looks := false }, kinds := [], alts := [], laidByText := true, laidKinds := [.data], laidTests := true, laidLooks := .later }
def HubTellsUptoCardSaid : Prop := Claim7.holds Tryd.pinned (.plain (OpenSpec.upto hubTellsSpec)) hubTellsUptoCard

/-- THE SECOND FORM's CARD OF 'beadrolllaw24.HubDoes'. -/
def hubDoesUptoCard : Claim7 := { stood := { row := hubDoesUptoRow, standIns := [], harness := (true, "ccf0ba3cbfa38f5486b03b956b6fa68e90459353e8de09d3f0ddc1b7be7b5806"), looks := false }, kinds := [], alts := [], laidByText := true, laidKinds := [.data], laidTests := true, laidLooks := .later }
def HubDoesUptoCardSaid : Prop := Claim7.holds Tryd.pinned (.plain (OpenSpec.upto hubDoesSpec)) hubDoesUptoCard
end Rows
end Go.Proofs.YtmepbokoopgmiaaDoor
