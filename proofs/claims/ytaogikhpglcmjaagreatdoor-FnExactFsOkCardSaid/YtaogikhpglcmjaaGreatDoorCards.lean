/-
  DERIVED. GIVEN WITH THE SEED: THE CARDS: each row of YtaogikhpglcmjaaGreatDoorRows.lean that lists a variable, with what it lists TIED to the program's text (the seventh form; the later family's looks); each row that meets fmt, with fmt's text TOLD by the authors' own Lean function (tested against real Go, not proved from fmt's source: count such statements apart). THE CARD IS WHAT COUNTS. Prove the row's statement (the work); the ties are given (YtaogikhpglcmjaaGreatDoorTie.lean); close each card by the builder's one call (the guide's Derived/Test/ToyasCard.lean, 'card_holds'). Laid BY PROGRAM, IN A SANDBOX (cutbox-door.mjs). By AI agents, Wed Nov 11 2026. No macro, syntax, notation, axiom, sorry.
-/
import Derived.Test.YtaogikhpglcmjaaGreatDoorRows
import GoSem.ClaimSeven
namespace Go.Proofs.YtaogikhpglcmjaaGreatDoor
namespace Rows

/-- THE TIED CARD OF 'laws.FnExactMount'. -/
def fnExactMountCard : Claim7 := { stood := { row := fnExactMountRow, standIns := [], harness := (true, "5237b649693b773d3fd7199a768c7e62b231f675c94c5a70c82fe7cd527e34ac"), looks := false }, kinds := [], alts := [], laidByText := true, laidKinds := [.data], laidTests := true, laidLooks := .later }
def FnExactMountCardSaid : Prop := Claim7.holds Tryz.pinned (.plain (OpenSpec.ofChange fnExactMountSpec)) fnExactMountCard

/-- THE TIED CARD OF 'laws.FnExactFsOk'. -/
def fnExactFsOkCard : Claim7 := { stood := { row := fnExactFsOkRow, standIns := [], harness := (true, "5237b649693b773d3fd7199a768c7e62b231f675c94c5a70c82fe7cd527e34ac"), looks := false }, kinds := [], alts := [], laidByText := true, laidKinds := [.data], laidTests := true, laidLooks := .later }
def FnExactFsOkCardSaid : Prop := Claim7.holds Tryz.pinned (.plain (OpenSpec.ofChange fnExactFsOkSpec)) fnExactFsOkCard

/-- THE SECOND FORM's CARD OF 'laws.FnExactMount'. -/
def fnExactMountUptoCard : Claim7 := { stood := { row := fnExactMountUptoRow, standIns := [], harness := (true, "5237b649693b773d3fd7199a768c7e62b231f675c94c5a70c82fe7cd527e34ac"), looks := false }, kinds := [], alts := [], laidByText := true, laidKinds := [.data], laidTests := true, laidLooks := .later }
def FnExactMountUptoCardSaid : Prop := Claim7.holds Tryz.pinned (.plain (OpenSpec.upto fnExactMountSpec)) fnExactMountUptoCard

/-- THE SECOND FORM's CARD OF 'laws.FnExactFsOk'. -/
def fnExactFsOkUptoCard : Claim7 := { stood := { row := fnExactFsOkUptoRow, standIns := [], harness := (true, "5237b649693b773d3fd7199a768c7e62b231f675c94c5a70c82fe7cd527e34ac"), looks := false }, kinds := [], alts := [], laidByText := true, laidKinds := [.data], laidTests := true, laidLooks := .later }
def FnExactFsOkUptoCardSaid : Prop := Claim7.holds Tryz.pinned (.plain (OpenSpec.upto fnExactFsOkSpec)) fnExactFsOkUptoCard
end Rows
end Go.Proofs.YtaogikhpglcmjaaGreatDoor
