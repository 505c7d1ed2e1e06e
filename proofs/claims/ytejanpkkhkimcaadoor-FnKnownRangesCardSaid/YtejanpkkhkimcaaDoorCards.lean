/-
  DERIVED. GIVEN WITH THE SEED: THE CARDS: each row of YtejanpkkhkimcaaDoorRows.lean that lists a variable, with what it lists TIED to the program's text (the seventh form; the later family's looks); each row that meets fmt, with fmt's text TOLD by the authors' own Lean function (tested against real Go, not proved from fmt's source: count such statements apart). THE CARD IS WHAT COUNTS. Prove the row's statement (the work); the ties are given (YtejanpkkhkimcaaDoorTie.lean); close each card by the builder's one call (the guide's Derived/Test/ToyasCard.lean, 'card_holds'). Laid BY PROGRAM, IN A SANDBOX (cutbox-door.mjs). By AI agents, Wed Nov 11 2026. No macro, syntax, notation, axiom, sorry.
-/
import Derived.Test.YtejanpkkhkimcaaDoorRows
import GoSem.ClaimSeven
namespace Go.Proofs.YtejanpkkhkimcaaDoor
namespace Rows

/-- THE TIED CARD OF 'laws.FnExactKnownRanges'. -/
def fnExactKnownRangesCard : Claim7 := { stood := { row := fnExactKnownRangesRow, standIns := [], harness := (true, "2556c841fa0bf7caec1e5f33597aa0e266ae72ef203c0a51d927ad1131d4ee3c"), looks := false }, kinds := [], alts := [], laidByText := true, laidKinds := [.data], laidTests := true, laidLooks := .later }
def FnExactKnownRangesCardSaid : Prop := Claim7.holds Tryd.pinned (.plain (OpenSpec.ofChange fnExactKnownRangesSpec)) fnExactKnownRangesCard

/-- THE TIED CARD OF 'laws.FnKnownRanges'. -/
def fnKnownRangesCard : Claim7 := { stood := { row := fnKnownRangesRow, standIns := [], harness := (true, "2556c841fa0bf7caec1e5f33597aa0e266ae72ef203c0a51d927ad1131d4ee3c"), looks := false }, kinds := [], alts := [], laidByText := true, laidKinds := [.data], laidTests := true, laidLooks := .later }
def FnKnownRangesCardSaid : Prop := Claim7.holds Tryd.pinned (.plain (OpenSpec.ofChange fnKnownRangesSpec)) fnKnownRangesCard

/-- THE SECOND FORM's CARD OF 'laws.FnExactKnownRanges'. -/
def fnExactKnownRangesUptoCard : Claim7 := { stood := { row := fnExactKnownRangesUptoRow, standIns := [], harness := (true, "2556c841fa0bf7caec1e5f33597aa0e266ae72ef203c0a51d927ad1131d4ee3c"), looks := false }, kinds := [], alts := [], laidByText := true, laidKinds := [.data], laidTests := true, laidLooks := .later }
def FnExactKnownRangesUptoCardSaid : Prop := Claim7.holds Tryd.pinned (.plain (OpenSpec.upto fnExactKnownRangesSpec)) fnExactKnownRangesUptoCard

/-- THE SECOND FORM's CARD OF 'laws.FnKnownRanges'. -/
def fnKnownRangesUptoCard : Claim7 := { stood := { row := fnKnownRangesUptoRow, standIns := [], harness := (true, "2556c841fa0bf7caec1e5f33597aa0e266ae72ef203c0a51d927ad1131d4ee3c"), looks := false }, kinds := [], alts := [], laidByText := true, laidKinds := [.data], laidTests := true, laidLooks := .later }
def FnKnownRangesUptoCardSaid : Prop := Claim7.holds Tryd.pinned (.plain (OpenSpec.upto fnKnownRangesSpec)) fnKnownRangesUptoCard
end Rows
end Go.Proofs.YtejanpkkhkimcaaDoor
