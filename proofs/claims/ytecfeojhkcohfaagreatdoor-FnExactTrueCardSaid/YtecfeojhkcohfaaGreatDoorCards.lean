/-
  DERIVED. GIVEN WITH THE SEED: THE CARDS: each row of YtecfeojhkcohfaaGreatDoorRows.lean that lists a variable, with what it lists TIED to the program's text (the seventh form; the later family's looks); each row that meets fmt, with fmt's text TOLD by the authors' own Lean function (tested against real Go, not proved from fmt's source: count such statements apart). THE CARD IS WHAT COUNTS. Prove the row's statement (the work); the ties are given (YtecfeojhkcohfaaGreatDoorTie.lean); close each card by the builder's one call (the guide's Derived/Test/ToyasCard.lean, 'card_holds'). Laid BY PROGRAM, IN A SANDBOX (cutbox-door.mjs). By AI agents, Wed Nov 11 2026. No macro, syntax, notation, axiom, sorry.
-/
import Derived.Test.YtecfeojhkcohfaaGreatDoorRows
import GoSem.ClaimSeven
namespace Go.Proofs.YtecfeojhkcohfaaGreatDoor
namespace Rows

/-- THE TIED CARD OF 'laws.FnExactTrue'. -/
def fnExactTrueCard : Claim7 := { stood := { row := fnExactTrueRow, standIns := [], harness := (true, "76622f91df9f544d88cb88aef34940140319184ce7f43b9d76f1494d04a5c4b0"), looks := false }, kinds := [], alts := [], laidByText := true, laidKinds := [.data], laidTests := true, laidLooks := .later }
def FnExactTrueCardSaid : Prop := Claim7.holds Tryz.pinned (.plain (OpenSpec.ofChange fnExactTrueSpec)) fnExactTrueCard

/-- THE SECOND FORM's CARD OF 'laws.FnExactTrue'. -/
def fnExactTrueUptoCard : Claim7 := { stood := { row := fnExactTrueUptoRow, standIns := [], harness := (true, "76622f91df9f544d88cb88aef34940140319184ce7f43b9d76f1494d04a5c4b0"), looks := false }, kinds := [], alts := [], laidByText := true, laidKinds := [.data], laidTests := true, laidLooks := .later }
def FnExactTrueUptoCardSaid : Prop := Claim7.holds Tryz.pinned (.plain (OpenSpec.upto fnExactTrueSpec)) fnExactTrueUptoCard
end Rows
end Go.Proofs.YtecfeojhkcohfaaGreatDoor
