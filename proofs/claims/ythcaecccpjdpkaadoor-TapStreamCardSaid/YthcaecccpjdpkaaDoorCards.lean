/-
  DERIVED. GIVEN WITH THE SEED: THE CARDS: each row of YthcaecccpjdpkaaDoorRows.lean that lists a variable, with what it lists TIED to the program's text (the seventh form; the later family's looks); each row that meets fmt, with fmt's text TOLD by the authors' own Lean function (tested against real Go, not proved from fmt's source: count such statements apart). THE CARD IS WHAT COUNTS. Prove the row's statement (the work); the ties are given (YthcaecccpjdpkaaDoorTie.lean); close each card by the builder's one call (the guide's Derived/Test/ToyasCard.lean, 'card_holds'). Laid BY PROGRAM, IN A SANDBOX (cutbox-door.mjs). By AI agents, Wed Nov 11 2026. No macro, syntax, notation, axiom, sorry.
-/
import Derived.Test.YthcaecccpjdpkaaDoorRows
import GoSem.ClaimSeven
namespace Go.Proofs.YthcaecccpjdpkaaDoor
namespace Rows

/-- THE TIED CARD OF 'beadrolllaw23.TapNames'. -/
def tapNamesCard : Claim7 := { stood := { row := tapNamesRow, standIns := [], harness := (true, "be8d0d70d2fd733a2c2ee9bb8ed217c9dd8678c8c76c4acac85d357125209e02"), looks := false }, kinds := [], alts := [], laidByText := true, laidKinds := [.data], laidTests := true, laidLooks := .later }
def TapNamesCardSaid : Prop := Claim7.holds Tryd.pinned (.plain (OpenSpec.ofChange tapNamesSpec)) tapNamesCard

/-- THE TIED CARD OF 'beadrolllaw23.TapStream'. -/
def tapStreamCard : Claim7 := { stood := { row := tapStreamRow, standIns := [], harness := (true, "be8d0d70d2fd733a2c2ee9bb8ed217c9dd8678c8c76c4acac85d357125209e02"), looks := false }, kinds := [], alts := [], laidByText := true, laidKinds := [.data], laidTests := true, laidLooks := .later }
def TapStreamCardSaid : Prop := Claim7.holds Tryd.pinned (.plain (OpenSpec.ofChange tapStreamSpec)) tapStreamCard

/-- THE SECOND FORM's CARD OF 'beadrolllaw23.TapNames'. -/
def tapNamesUptoCard : Claim7 := { stood := { row := tapNamesUptoRow, standIns := [], harness := (true, "be8d0d70d2fd733a2c2ee9bb8ed217c9dd8678c8c76c4acac85d357125209e02"), looks := false }, kinds := [], alts := [], laidByText := true, laidKinds := [.data], laidTests := true, laidLooks := .later }
def TapNamesUptoCardSaid : Prop := Claim7.holds Tryd.pinned (.plain (OpenSpec.upto tapNamesSpec)) tapNamesUptoCard

/-- THE SECOND FORM's CARD OF 'beadrolllaw23.TapStream'. -/
def tapStreamUptoCard : Claim7 := { stood := { row := tapStreamUptoRow, standIns := [], harness := (true, "be8d0d70d2fd733a2c2ee9bb8ed217c9dd8678c8c76c4acac85d357125209e02"), looks := false }, kinds := [], alts := [], laidByText := true, laidKinds := [.data], laidTests := true, laidLooks := .later }
def TapStreamUptoCardSaid : Prop := Claim7.holds Tryd.pinned (.plain (OpenSpec.upto tapStreamSpec)) tapStreamUptoCard
end Rows
end Go.Proofs.YthcaecccpjdpkaaDoor
