/-
  DERIVED. GIVEN WITH THE SEED: THE CARDS: each row of YtfmifaneggenoaaDoorRows.lean that lists a variable, with what it lists TIED to the program's text (the seventh form; the later family's looks); each row that meets fmt, with fmt's text TOLD by the authors' own Lean function (tested against real Go, not proved from fmt's source: count such statements apart). THE CARD IS WHAT COUNTS. Prove the row's statement (the work); the ties are given (YtfmifaneggenoaaDoorTie.lean); close each card by the builder's one call (the guide's Derived/Test/ToyasCard.lean, 'card_holds'). Laid BY PROGRAM, IN A SANDBOX (cutbox-door.mjs). By AI agents, Wed Nov 11 2026. No macro, syntax, notation, axiom, sorry.
-/
import Derived.Test.YtfmifaneggenoaaDoorRows
import GoSem.ClaimSeven
namespace Go.Proofs.YtfmifaneggenoaaDoor
namespace Rows

/-- THE TIED CARD OF 'laws.FnExactOrder'. -/
def fnExactOrderCard : Claim7 := { stood := { row := fnExactOrderRow, standIns := [], harness := (true, "b0d56370a11b1c2910b8226dad72076f7a88808b1206e1e83fdf173b6fe76505"), looks := false }, kinds := [], alts := [], laidByText := true, laidKinds := [.data], laidTests := true, laidLooks := .later }
def FnExactOrderCardSaid : Prop := Claim7.holds Tryd.pinned (.plain (OpenSpec.ofChange fnExactOrderSpec)) fnExactOrderCard

/-- THE TIED CARD OF 'laws.FnExactStarts'. -/
def fnExactStartsCard : Claim7 := { stood := { row := fnExactStartsRow, standIns := [], harness := (true, "b0d56370a11b1c2910b8226dad72076f7a88808b1206e1e83fdf173b6fe76505"), looks := false }, kinds := [], alts := [], laidByText := true, laidKinds := [.data], laidTests := true, laidLooks := .later }
def FnExactStartsCardSaid : Prop := Claim7.holds Tryd.pinned (.plain (OpenSpec.ofChange fnExactStartsSpec)) fnExactStartsCard

/-- THE TIED CARD OF 'laws.FnExactGlob'. -/
def fnExactGlobCard : Claim7 := { stood := { row := fnExactGlobRow, standIns := [], harness := (true, "b0d56370a11b1c2910b8226dad72076f7a88808b1206e1e83fdf173b6fe76505"), looks := false }, kinds := [], alts := [], laidByText := true, laidKinds := [.data], laidTests := true, laidLooks := .later }
def FnExactGlobCardSaid : Prop := Claim7.holds Tryd.pinned (.plain (OpenSpec.ofChange fnExactGlobSpec)) fnExactGlobCard

/-- THE TIED CARD OF 'laws.FnGlob'. -/
def fnGlobCard : Claim7 := { stood := { row := fnGlobRow, standIns := [], harness := (true, "b0d56370a11b1c2910b8226dad72076f7a88808b1206e1e83fdf173b6fe76505"), looks := false }, kinds := [], alts := [], laidByText := true, laidKinds := [.data], laidTests := true, laidLooks := .later }
def FnGlobCardSaid : Prop := Claim7.holds Tryd.pinned (.plain (OpenSpec.ofChange fnGlobSpec)) fnGlobCard

/-- THE TIED CARD OF 'laws.FnCompose'. -/
def fnComposeCard : Claim7 := { stood := { row := fnComposeRow, standIns := [], harness := (true, "b0d56370a11b1c2910b8226dad72076f7a88808b1206e1e83fdf173b6fe76505"), looks := false }, kinds := [], alts := [], laidByText := true, laidKinds := [.data], laidTests := true, laidLooks := .later }
def FnComposeCardSaid : Prop := Claim7.holds Tryd.pinned (.plain (OpenSpec.ofChange fnComposeSpec)) fnComposeCard

/-- THE TIED CARD OF 'laws.FnExactSortNames'. -/
def fnExactSortNamesCard : Claim7 := { stood := { row := fnExactSortNamesRow, standIns := [], harness := (true, "b0d56370a11b1c2910b8226dad72076f7a88808b1206e1e83fdf173b6fe76505"), looks := false }, kinds := [], alts := [], laidByText := true, laidKinds := [.data], laidTests := true, laidLooks := .later }
def FnExactSortNamesCardSaid : Prop := Claim7.holds Tryd.pinned (.plain (OpenSpec.ofChange fnExactSortNamesSpec)) fnExactSortNamesCard

/-- THE TIED CARD OF 'laws.FnSorted'. -/
def fnSortedCard : Claim7 := { stood := { row := fnSortedRow, standIns := [], harness := (true, "b0d56370a11b1c2910b8226dad72076f7a88808b1206e1e83fdf173b6fe76505"), looks := false }, kinds := [], alts := [], laidByText := true, laidKinds := [.data], laidTests := true, laidLooks := .later }
def FnSortedCardSaid : Prop := Claim7.holds Tryd.pinned (.plain (OpenSpec.ofChange fnSortedSpec)) fnSortedCard

/-- THE SECOND FORM's CARD OF 'laws.FnExactOrder'. -/
def fnExactOrderUptoCard : Claim7 := { stood := { row := fnExactOrderUptoRow, standIns := [], harness := (true, "b0d56370a11b1c2910b8226dad72076f7a88808b1206e1e83fdf173b6fe76505"), looks := false }, kinds := [], alts := [], laidByText := true, laidKinds := [.data], laidTests := true, laidLooks := .later }
def FnExactOrderUptoCardSaid : Prop := Claim7.holds Tryd.pinned (.plain (OpenSpec.upto fnExactOrderSpec)) fnExactOrderUptoCard

/-- THE SECOND FORM's CARD OF 'laws.FnExactStarts'. -/
def fnExactStartsUptoCard : Claim7 := { stood := { row := fnExactStartsUptoRow, standIns := [], harness := (true, "b0d56370a11b1c2910b8226dad72076f7a88808b1206e1e83fdf173b6fe76505"), looks := false }, kinds := [], alts := [], laidByText := true, laidKinds := [.data], laidTests := true, laidLooks := .later }
def FnExactStartsUptoCardSaid : Prop := Claim7.holds Tryd.pinned (.plain (OpenSpec.upto fnExactStartsSpec)) fnExactStartsUptoCard

/-- THE SECOND FORM's CARD OF 'laws.FnExactGlob'. -/
def fnExactGlobUptoCard : Claim7 := { stood := { row := fnExactGlobUptoRow, standIns := [], harness := (true, "b0d56370a11b1c2910b8226dad72076f7a88808b1206e1e83fdf173b6fe76505"), looks := false }, kinds := [], alts := [], laidByText := true, laidKinds := [.data], laidTests := true, laidLooks := .later }
def FnExactGlobUptoCardSaid : Prop := Claim7.holds Tryd.pinned (.plain (OpenSpec.upto fnExactGlobSpec)) fnExactGlobUptoCard

/-- THE SECOND FORM's CARD OF 'laws.FnGlob'. -/
def fnGlobUptoCard : Claim7 := { stood := { row := fnGlobUptoRow, standIns := [], harness := (true, "b0d56370a11b1c2910b8226dad72076f7a88808b1206e1e83fdf173b6fe76505"), looks := false }, kinds := [], alts := [], laidByText := true, laidKinds := [.data], laidTests := true, laidLooks := .later }
def FnGlobUptoCardSaid : Prop := Claim7.holds Tryd.pinned (.plain (OpenSpec.upto fnGlobSpec)) fnGlobUptoCard

/-- THE SECOND FORM's CARD OF 'laws.FnCompose'. -/
def fnComposeUptoCard : Claim7 := { stood := { row := fnComposeUptoRow, standIns := [], harness := (true, "b0d56370a11b1c2910b8226dad72076f7a88808b1206e1e83fdf173b6fe76505"), looks := false }, kinds := [], alts := [], laidByText := true, laidKinds := [.data], laidTests := true, laidLooks := .later }
def FnComposeUptoCardSaid : Prop := Claim7.holds Tryd.pinned (.plain (OpenSpec.upto fnComposeSpec)) fnComposeUptoCard

/-- THE SECOND FORM's CARD OF 'laws.FnExactSortNames'. -/
def fnExactSortNamesUptoCard : Claim7 := { stood := { row := fnExactSortNamesUptoRow, standIns := [], harness := (true, "b0d56370a11b1c2910b8226dad72076f7a88808b1206e1e83fdf173b6fe76505"), looks := false }, kinds := [], alts := [], laidByText := true, laidKinds := [.data], laidTests := true, laidLooks := .later }
def FnExactSortNamesUptoCardSaid : Prop := Claim7.holds Tryd.pinned (.plain (OpenSpec.upto fnExactSortNamesSpec)) fnExactSortNamesUptoCard

/-- THE SECOND FORM's CARD OF 'laws.FnSorted'. -/
def fnSortedUptoCard : Claim7 := { stood := { row := fnSortedUptoRow, standIns := [], harness := (true, "b0d56370a11b1c2910b8226dad72076f7a88808b1206e1e83fdf173b6fe76505"), looks := false }, kinds := [], alts := [], laidByText := true, laidKinds := [.data], laidTests := true, laidLooks := .later }
def FnSortedUptoCardSaid : Prop := Claim7.holds Tryd.pinned (.plain (OpenSpec.upto fnSortedSpec)) fnSortedUptoCard
end Rows
end Go.Proofs.YtfmifaneggenoaaDoor
