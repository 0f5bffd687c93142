/-
  NARROWER THAN 'FOR EVERY INPUT', by the rows' own cells (each row's printed sentence says how): HubNames: laid · HubApart: laid · HubTells: laid · HubDoes: laid.
  DERIVED. THE GIVEN ROWS OF THIS SEAT. 4 by the template 'for every input the law returns true; each argument reads behind the call as it read before'; 0 by the template 'total and deterministic' (their statements: YtmepbokoopgmiaaDoorTotals.lean).
  GIVEN WITH THE SEED: the statements are not yours to turn. If you find one false, say at which input.
  Laid BY PROGRAM, IN A SANDBOX (cutbox-rows.mjs): the forced cells as the released guide's own fill.sh prints them over the translation b025174487704dfd… (all of the seat's roots in one cut). By AI agents, Wed Nov 11 2026. No macro, syntax, notation, axiom, sorry.
-/
import Derived.Test.YtmepbokoopgmiaaDoorChecked
import GoSem.Claim
import GoSem.ClaimJoined
import GoSem.ClaimMapViews
import Derived.JoinedTies
import Derived.KernelRfl
namespace Go.Proofs.YtmepbokoopgmiaaDoor
/- THE CELL 'sum', in the pinned program and in every row, IS THE sha256 OF THE DUMP (.gsa) THAT YtmepbokoopgmiaaDoorProg.lean LOADS. Nothing in Lean hashes anything: it is a label: what it is worth is what the hold of that sum in a sandbox is worth. -/
noncomputable def Tryd.pinned : Pinned := { name := "ytmepbokoopgmiaadoor", sum := "b025174487704dfda15118eafe133c551f92a12db3d6de63d593d0a8782b2659", checked := Tryd.checked }
namespace Rows
def none {H : Type} : Left H := { results := [], args := [] }

/- WHAT THE LISTED PACKAGE-LEVEL VARIABLES READ AS WHEN THE CALL BEGINS. Each datum BY PROGRAM (the guide's laid-datum.mjs) off the statement by which the dump's own 'gosem.cut.vars' lays the variable. In a bare row this is a premise. The card (YtmepbokoopgmiaaDoorCards.lean) ties it to the program's text. -/
def laid_beadroll_tap_gap {H : Type} : DataW H := .agg [.lit (.bool true), .agg [.lit (.int .i64 0), .lit (.bool false), .agg [.lit (.int .i64 0), .agg [.lit (.int .u8 0), .lit (.int .u8 0), .lit (.int .u8 0), .lit (.int .u8 0), .lit (.int .u8 0), .lit (.int .u8 0), .lit (.int .u8 0), .lit (.int .u8 0), .lit (.int .u8 0), .lit (.int .u8 0), .lit (.int .u8 0), .lit (.int .u8 0), .lit (.int .u8 0), .lit (.int .u8 0), .lit (.int .u8 0), .lit (.int .u8 0), .lit (.int .u8 0), .lit (.int .u8 0), .lit (.int .u8 0), .lit (.int .u8 0), .lit (.int .u8 0), .lit (.int .u8 0), .lit (.int .u8 0), .lit (.int .u8 0), .lit (.int .u8 0), .lit (.int .u8 0), .lit (.int .u8 0), .lit (.int .u8 0), .lit (.int .u8 0), .lit (.int .u8 0), .lit (.int .u8 0), .lit (.int .u8 0)], .agg [.lit (.int .u8 0), .lit (.int .u8 0), .lit (.int .u8 0), .lit (.int .u8 0), .lit (.int .u8 0), .lit (.int .u8 0), .lit (.int .u8 0), .lit (.int .u8 0), .lit (.int .u8 0), .lit (.int .u8 0), .lit (.int .u8 0), .lit (.int .u8 0), .lit (.int .u8 0), .lit (.int .u8 0), .lit (.int .u8 0), .lit (.int .u8 0), .lit (.int .u8 0), .lit (.int .u8 0), .lit (.int .u8 0), .lit (.int .u8 0), .lit (.int .u8 0), .lit (.int .u8 0), .lit (.int .u8 0), .lit (.int .u8 0), .lit (.int .u8 0), .lit (.int .u8 0), .lit (.int .u8 0), .lit (.int .u8 0), .lit (.int .u8 0), .lit (.int .u8 0), .lit (.int .u8 0), .lit (.int .u8 0)], .agg [.lit (.int .u8 0), .lit (.int .u8 0), .lit (.int .u8 0), .lit (.int .u8 0), .lit (.int .u8 0), .lit (.int .u8 0), .lit (.int .u8 0), .lit (.int .u8 0), .lit (.int .u8 0), .lit (.int .u8 0), .lit (.int .u8 0), .lit (.int .u8 0), .lit (.int .u8 0), .lit (.int .u8 0), .lit (.int .u8 0), .lit (.int .u8 0), .lit (.int .u8 0), .lit (.int .u8 0), .lit (.int .u8 0), .lit (.int .u8 0), .lit (.int .u8 0), .lit (.int .u8 0), .lit (.int .u8 0), .lit (.int .u8 0), .lit (.int .u8 0), .lit (.int .u8 0), .lit (.int .u8 0), .lit (.int .u8 0), .lit (.int .u8 0), .lit (.int .u8 0), .lit (.int .u8 0), .lit (.int .u8 0)], .lit (.int .i64 0)]]]

/-- 'beadrolllaw24.HubNames': WHATEVER THE INPUT: true; the input reads as it did. -/
def hubNamesSpec : ChangeSpec := { name := "hubNames", fn := fun _ => fun
  | [] => { results := [.lit (.bool true)], args := [] }
  | _ => none }
def hubNamesRow : OpenClaim := { program := "ytmepbokoopgmiaadoor", sum := "b025174487704dfda15118eafe133c551f92a12db3d6de63d593d0a8782b2659", func := "beadroll/beadrolllaw24.HubNames", spec := "hubNames", unfollowed := true, recurses := true, named := ["beadroll/tap.gap"], apart := false, laid := [("beadroll/tap.gap", laid_beadroll_tap_gap)] }
def HubNamesSaid : Prop := hubNamesRow.holds Tryd.pinned (OpenSpec.ofChange hubNamesSpec)

/-- ITS FALSE NEIGHBOUR: 'it returns false'. Refute it at one input. -/
def hubNamesWrong : ChangeSpec := { name := "hubNames", fn := fun _ => fun
  | [] => { results := [.lit (.bool false)], args := [] }
  | _ => none }
def HubNamesWrongFalsely : Prop := hubNamesRow.holds Tryd.pinned (OpenSpec.ofChange hubNamesWrong)

/-- 'beadrolllaw24.HubApart': WHATEVER THE INPUT: true; the input reads as it did. -/
def hubApartSpec : ChangeSpec := { name := "hubApart", fn := fun _ => fun
  | [d1, d2, d3, d4, d5] => { results := [.lit (.bool true)], args := [d1, d2, d3, d4, d5] }
  | _ => none }
def hubApartRow : OpenClaim := { program := "ytmepbokoopgmiaadoor", sum := "b025174487704dfda15118eafe133c551f92a12db3d6de63d593d0a8782b2659", func := "beadroll/beadrolllaw24.HubApart", spec := "hubApart", unfollowed := true, recurses := true, named := ["beadroll/tap.gap"], apart := false, laid := [("beadroll/tap.gap", laid_beadroll_tap_gap)] }
def HubApartSaid : Prop := hubApartRow.holds Tryd.pinned (OpenSpec.ofChange hubApartSpec)

/-- ITS FALSE NEIGHBOUR: 'it returns false'. Refute it at one input. -/
def hubApartWrong : ChangeSpec := { name := "hubApart", fn := fun _ => fun
  | [d1, d2, d3, d4, d5] => { results := [.lit (.bool false)], args := [d1, d2, d3, d4, d5] }
  | _ => none }
def HubApartWrongFalsely : Prop := hubApartRow.holds Tryd.pinned (OpenSpec.ofChange hubApartWrong)

/-- 'beadrolllaw24.HubTells': WHATEVER THE INPUT: true; the input reads as it did. -/
def hubTellsSpec : ChangeSpec := { name := "hubTells", fn := fun _ => fun
  | [d1, d2, d3, d4] => { results := [.lit (.bool true)], args := [d1, d2, d3, d4] }
  | _ => none }
def hubTellsRow : OpenClaim := { program := "ytmepbokoopgmiaadoor", sum := "b025174487704dfda15118eafe133c551f92a12db3d6de63d593d0a8782b2659", func := "beadroll/beadrolllaw24.HubTells", spec := "hubTells", unfollowed := true, recurses := true, named := ["beadroll/tap.gap"], apart := false, laid := [("beadroll/tap.gap", laid_beadroll_tap_gap)] }
def HubTellsSaid : Prop := hubTellsRow.holds Tryd.pinned (OpenSpec.ofChange hubTellsSpec)

/-- ITS FALSE NEIGHBOUR: 'it returns false'. Refute it at one input. -/
def hubTellsWrong : ChangeSpec := { name := "hubTells", fn := fun _ => fun
  | [d1, d2, d3, d4] => { results := [.lit (.bool false)], args := [d1, d2, d3, d4] }
  | _ => none }
def HubTellsWrongFalsely : Prop := hubTellsRow.holds Tryd.pinned (OpenSpec.ofChange hubTellsWrong)

/-- 'beadrolllaw24.HubDoes': WHATEVER THE INPUT: true; the input reads as it did. -/
def hubDoesSpec : ChangeSpec := { name := "hubDoes", fn := fun _ => fun
  | [d1, d2, d3, d4, d5, d6] => { results := [.lit (.bool true)], args := [d1, d2, d3, d4, d5, d6] }
  | _ => none }
def hubDoesRow : OpenClaim := { program := "ytmepbokoopgmiaadoor", sum := "b025174487704dfda15118eafe133c551f92a12db3d6de63d593d0a8782b2659", func := "beadroll/beadrolllaw24.HubDoes", spec := "hubDoes", unfollowed := true, recurses := true, named := ["beadroll/tap.gap"], apart := false, laid := [("beadroll/tap.gap", laid_beadroll_tap_gap)] }
def HubDoesSaid : Prop := hubDoesRow.holds Tryd.pinned (OpenSpec.ofChange hubDoesSpec)

/-- ITS FALSE NEIGHBOUR: 'it returns false'. Refute it at one input. -/
def hubDoesWrong : ChangeSpec := { name := "hubDoes", fn := fun _ => fun
  | [d1, d2, d3, d4, d5, d6] => { results := [.lit (.bool false)], args := [d1, d2, d3, d4, d5, d6] }
  | _ => none }
def HubDoesWrongFalsely : Prop := hubDoesRow.holds Tryd.pinned (OpenSpec.ofChange hubDoesWrong)

/- THE SECOND FORM. 'bulk': how many values and letters a reading holds, each counted each time it is reached (what is shared counts as often as it is met; a slice's spare places count too). A statement '..UptoSaid' is the law's where the arguments, and the package variables that the reading takes, are together of bulk at most 1048576: NARROWER than '..Said'. Prove '..Said' where nothing that the law and all that it calls make is longer than what came in: it says more and counts as full. Else prove '..UptoSaid'. A law counts once. -/
mutual
def uptoBulk {H : Type} : DataW H → Nat
  | .lit (.string bytes) => bytes.length + 1
  | .lit _ => 1
  | .nil => 1
  | .ptr d => uptoBulk d + 1
  | .slice elems spare => uptoBulkAll elems + uptoBulkAll spare + 1
  | .agg parts => uptoBulkAll parts + 1
  | .iface _ d => uptoBulk d + 1
  | .map entries => uptoBulkEntries entries + 1
  | .held _ => 1
def uptoBulkAll {H : Type} : List (DataW H) → Nat
  | [] => 0
  | d :: r => uptoBulk d + uptoBulkAll r
def uptoBulkEntries {H : Type} : List (Lit × DataW H) → Nat
  | [] => 0
  | x :: r => uptoBulkEntry x + uptoBulkEntries r
def uptoBulkEntry {H : Type} : Lit × DataW H → Nat
  | (.string bytes, d) => bytes.length + uptoBulk d + 1
  | (_, d) => uptoBulk d + 1
 end
def uptoSmall : (H : Type) → List (DataW H) → Bool := fun _ ds => decide (uptoBulkAll ds ≤ 1048576)
def OpenSpec.upto (s : _root_.Go.ChangeSpec) : _root_.Go.OpenSpec := { _root_.Go.OpenSpec.ofChange s with cond := some uptoSmall }

/-- 'beadrolllaw24.HubNames', WHERE WHAT IT READS IS OF BULK AT MOST 1048576: true; the input reads as it did. -/
def hubNamesUptoRow : OpenClaim := { program := "ytmepbokoopgmiaadoor", sum := "b025174487704dfda15118eafe133c551f92a12db3d6de63d593d0a8782b2659", func := "beadroll/beadrolllaw24.HubNames", spec := "hubNames", unfollowed := true, recurses := true, named := ["beadroll/tap.gap"], apart := false, laid := [("beadroll/tap.gap", laid_beadroll_tap_gap)], narrowed := true }
def HubNamesUptoSaid : Prop := hubNamesUptoRow.holds Tryd.pinned (OpenSpec.upto hubNamesSpec)

/-- 'beadrolllaw24.HubApart', WHERE WHAT IT READS IS OF BULK AT MOST 1048576: true; the input reads as it did. -/
def hubApartUptoRow : OpenClaim := { program := "ytmepbokoopgmiaadoor", sum := "b025174487704dfda15118eafe133c551f92a12db3d6de63d593d0a8782b2659", func := "beadroll/beadrolllaw24.HubApart", spec := "hubApart", unfollowed := true, recurses := true, named := ["beadroll/tap.gap"], apart := false, laid := [("beadroll/tap.gap", laid_beadroll_tap_gap)], narrowed := true }
def HubApartUptoSaid : Prop := hubApartUptoRow.holds Tryd.pinned (OpenSpec.upto hubApartSpec)

/-- 'beadrolllaw24.HubTells', WHERE WHAT IT READS IS OF BULK AT MOST 1048576: true; the input reads as it did. -/
def hubTellsUptoRow : OpenClaim := { program := "ytmepbokoopgmiaadoor", sum := "b025174487704dfda15118eafe133c551f92a12db3d6de63d593d0a8782b2659", func := "beadroll/beadrolllaw24.HubTells", spec := "hubTells", unfollowed := true, recurses := true, named := ["beadroll/tap.gap"], apart := false, laid := [("beadroll/tap.gap", laid_beadroll_tap_gap)], narrowed := true }
def HubTellsUptoSaid : Prop := hubTellsUptoRow.holds Tryd.pinned (OpenSpec.upto hubTellsSpec)

/-- 'beadrolllaw24.HubDoes', WHERE WHAT IT READS IS OF BULK AT MOST 1048576: true; the input reads as it did. -/
def hubDoesUptoRow : OpenClaim := { program := "ytmepbokoopgmiaadoor", sum := "b025174487704dfda15118eafe133c551f92a12db3d6de63d593d0a8782b2659", func := "beadroll/beadrolllaw24.HubDoes", spec := "hubDoes", unfollowed := true, recurses := true, named := ["beadroll/tap.gap"], apart := false, laid := [("beadroll/tap.gap", laid_beadroll_tap_gap)], narrowed := true }
def HubDoesUptoSaid : Prop := hubDoesUptoRow.holds Tryd.pinned (OpenSpec.upto hubDoesSpec)

end Rows
end Go.Proofs.YtmepbokoopgmiaaDoor
