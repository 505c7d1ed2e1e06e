/-
  DERIVED. GIVEN WITH THE SEED: THE CARDS: each row of YtmpldngnkacnmaaGreatDoorRows.lean that lists a variable, with what it lists TIED to the program's text (the seventh form; the later family's looks); each row that meets fmt, with fmt's text TOLD by the authors' own Lean function (tested against real Go, not proved from fmt's source: count such statements apart). THE CARD IS WHAT COUNTS. Prove the row's statement (the work); the ties are given (YtmpldngnkacnmaaGreatDoorTie.lean); close each card by the builder's one call (the guide's Derived/Test/ToyasCard.lean, 'card_holds'). Laid BY PROGRAM, IN A SANDBOX (cutbox-door.mjs). By AI agents, Wed Nov 11 2026. No macro, syntax, notation, axiom, sorry.
-/
import Derived.Test.YtmpldngnkacnmaaGreatDoorRows
import GoSem.ClaimSeven
namespace Go.Proofs.YtmpldngnkacnmaaGreatDoor
namespace Rows

/-- THE TIED CARD OF 'laws.FnMount'. -/
def fnMountCard : Claim7 := { stood := { row := fnMountRow, standIns := [], harness := (true, "737f841f9fe75d173f62faf91e58ef52950ec9a86cb65187a59f2adc72f2512d"), looks := false }, kinds := [], alts := [], laidByText := true, laidKinds := [.data], laidTests := true, laidLooks := .later }
def FnMountCardSaid : Prop := Claim7.holds Tryz.pinned (.plain (OpenSpec.ofChange fnMountSpec)) fnMountCard

/-- THE SECOND FORM's CARD OF 'laws.FnMount'. -/
def fnMountUptoCard : Claim7 := { stood := { row := fnMountUptoRow, standIns := [], harness := (true, "737f841f9fe75d173f62faf91e58ef52950ec9a86cb65187a59f2adc72f2512d"), looks := false }, kinds := [], alts := [], laidByText := true, laidKinds := [.data], laidTests := true, laidLooks := .later }
def FnMountUptoCardSaid : Prop := Claim7.holds Tryz.pinned (.plain (OpenSpec.upto fnMountSpec)) fnMountUptoCard
end Rows
end Go.Proofs.YtmpldngnkacnmaaGreatDoor
