/-
  DERIVED. GIVEN WITH THE SEED: THE CARDS: each row of YtpmmgknehmkjlaaDoorRows.lean that lists a variable, with what it lists TIED to the program's text (the seventh form; the later family's looks); each row that meets fmt, with fmt's text TOLD by the authors' own Lean function (tested against real Go, not proved from fmt's source: count such statements apart). THE CARD IS WHAT COUNTS. Prove the row's statement (the work); the ties are given (YtpmmgknehmkjlaaDoorTie.lean); close each card by the builder's one call (the guide's Derived/Test/ToyasCard.lean, 'card_holds'). Laid BY PROGRAM, IN A SANDBOX (cutbox-door.mjs). By AI agents, Wed Nov 11 2026. No macro, syntax, notation, axiom, sorry.
-/
import Derived.Test.YtpmmgknehmkjlaaDoorRows
import GoSem.ClaimSeven
namespace Go.Proofs.YtpmmgknehmkjlaaDoor
namespace Rows

/-- THE TIED CARD OF 'beadrolllaw02.ShaTells'. -/
def shaTellsCard : Claim7 := { stood := { row := shaTellsRow, standIns := [], harness := (true, "f76c0ed7847d65639f45004d2d3f17a3b510f9fa000f4b43d13d720150105677"), looks := false }, kinds := [], alts := [], laidByText := true, laidKinds := [.data], laidTests := true, laidLooks := .later }
def ShaTellsCardSaid : Prop := Claim7.holds Tryd.pinned (.plain (OpenSpec.ofChange shaTellsSpec)) shaTellsCard

/-- THE TIED CARD OF 'beadrolllaw02.ShaParts'. -/
def shaPartsCard : Claim7 := { stood := { row := shaPartsRow, standIns := [], harness := (true, "f76c0ed7847d65639f45004d2d3f17a3b510f9fa000f4b43d13d720150105677"), looks := false }, kinds := [], alts := [], laidByText := true, laidKinds := [.data], laidTests := true, laidLooks := .later }
def ShaPartsCardSaid : Prop := Claim7.holds Tryd.pinned (.plain (OpenSpec.ofChange shaPartsSpec)) shaPartsCard

/-- THE TIED CARD OF 'beadrolllaw02.ShaNames'. -/
def shaNamesCard : Claim7 := { stood := { row := shaNamesRow, standIns := [], harness := (true, "f76c0ed7847d65639f45004d2d3f17a3b510f9fa000f4b43d13d720150105677"), looks := false }, kinds := [], alts := [], laidByText := true, laidKinds := [.data], laidTests := true, laidLooks := .later }
def ShaNamesCardSaid : Prop := Claim7.holds Tryd.pinned (.plain (OpenSpec.ofChange shaNamesSpec)) shaNamesCard

/-- THE TIED CARD OF 'beadrolllaw02.ShaBack'. -/
def shaBackCard : Claim7 := { stood := { row := shaBackRow, standIns := [], harness := (true, "f76c0ed7847d65639f45004d2d3f17a3b510f9fa000f4b43d13d720150105677"), looks := false }, kinds := [], alts := [], laidByText := true, laidKinds := [.data], laidTests := true, laidLooks := .later }
def ShaBackCardSaid : Prop := Claim7.holds Tryd.pinned (.plain (OpenSpec.ofChange shaBackSpec)) shaBackCard

/-- THE SECOND FORM's CARD OF 'beadrolllaw02.ShaTells'. -/
def shaTellsUptoCard : Claim7 := { stood := { row := shaTellsUptoRow, standIns := [], harness := (true, "f76c0ed7847d65639f45004d2d3f17a3b510f9fa000f4b43d13d720150105677"), looks := false }, kinds := [], alts := [], laidByText := true, laidKinds := [.data], laidTests := true, laidLooks := .later }
def ShaTellsUptoCardSaid : Prop := Claim7.holds Tryd.pinned (.plain (OpenSpec.upto shaTellsSpec)) shaTellsUptoCard

/-- THE SECOND FORM's CARD OF 'beadrolllaw02.ShaParts'. -/
def shaPartsUptoCard : Claim7 := { stood := { row := shaPartsUptoRow, standIns := [], harness := (true, "f76c0ed7847d65639f45004d2d3f17a3b510f9fa000f4b43d13d720150105677"), looks := false }, kinds := [], alts := [], laidByText := true, laidKinds := [.data], laidTests := true, laidLooks := .later }
def ShaPartsUptoCardSaid : Prop := Claim7.holds Tryd.pinned (.plain (OpenSpec.upto shaPartsSpec)) shaPartsUptoCard

/-- THE SECOND FORM's CARD OF 'beadrolllaw02.ShaNames'. -/
def shaNamesUptoCard : Claim7 := { stood := { row := shaNamesUptoRow, standIns := [], harness := (true, "f76c0ed7847d65639f45004d2d3f17a3b510f9fa000f4b43d13d720150105677"), looks := false }, kinds := [], alts := [], laidByText := true, laidKinds := [.data], laidTests := true, laidLooks := .later }
def ShaNamesUptoCardSaid : Prop := Claim7.holds Tryd.pinned (.plain (OpenSpec.upto shaNamesSpec)) shaNamesUptoCard

/-- THE SECOND FORM's CARD OF 'beadrolllaw02.ShaBack'. -/
def shaBackUptoCard : Claim7 := { stood := { row := shaBackUptoRow, standIns := [], harness := (true, "f76c0ed7847d65639f45004d2d3f17a3b510f9fa000f4b43d13d720150105677"), looks := false }, kinds := [], alts := [], laidByText := true, laidKinds := [.data], laidTests := true, laidLooks := .later }
def ShaBackUptoCardSaid : Prop := Claim7.holds Tryd.pinned (.plain (OpenSpec.upto shaBackSpec)) shaBackUptoCard
end Rows
end Go.Proofs.YtpmmgknehmkjlaaDoor
