/-
  DERIVED. GIVEN WITH THE SEED: THE CARDS: each row of YtllonpbhgbhogaaGreatDoorRows.lean that lists a variable, with what it lists TIED to the program's text (the seventh form; the later family's looks); each row that meets fmt, with fmt's text TOLD by the authors' own Lean function (tested against real Go, not proved from fmt's source: count such statements apart). THE CARD IS WHAT COUNTS. Prove the row's statement (the work); the ties are given (YtllonpbhgbhogaaGreatDoorTie.lean); close each card by the builder's one call (the guide's Derived/Test/ToyasCard.lean, 'card_holds'). Laid BY PROGRAM, IN A SANDBOX (cutbox-door.mjs). By AI agents, Wed Nov 11 2026. No macro, syntax, notation, axiom, sorry.
-/
import Derived.Test.YtllonpbhgbhogaaGreatDoorRows
import GoSem.ClaimSeven
namespace Go.Proofs.YtllonpbhgbhogaaGreatDoor
namespace Rows

/-- THE TIED CARD OF 'laws.FnExactVolDo'. -/
def fnExactVolDoCard : Claim7 := { stood := { row := fnExactVolDoRow, standIns := [], harness := (true, "629876ba4fe2142afa119efab108aeddff9e84c42cd89c9d0d69f4c94352cba1"), looks := false }, kinds := [], alts := [], laidByText := true, laidKinds := [.data], laidTests := true, laidLooks := .later }
def FnExactVolDoCardSaid : Prop := Claim7.holds Tryz.pinned (.plain (OpenSpec.ofChange fnExactVolDoSpec)) fnExactVolDoCard

/-- THE TIED CARD OF 'laws.FnVol'. -/
def fnVolCard : Claim7 := { stood := { row := fnVolRow, standIns := [], harness := (true, "629876ba4fe2142afa119efab108aeddff9e84c42cd89c9d0d69f4c94352cba1"), looks := false }, kinds := [], alts := [], laidByText := true, laidKinds := [.data], laidTests := true, laidLooks := .later }
def FnVolCardSaid : Prop := Claim7.holds Tryz.pinned (.plain (OpenSpec.ofChange fnVolSpec)) fnVolCard

/-- THE TIED CARD OF 'laws.FnMade'. -/
def fnMadeCard : Claim7 := { stood := { row := fnMadeRow, standIns := [], harness := (true, "629876ba4fe2142afa119efab108aeddff9e84c42cd89c9d0d69f4c94352cba1"), looks := false }, kinds := [], alts := [], laidByText := true, laidKinds := [.data], laidTests := true, laidLooks := .later }
def FnMadeCardSaid : Prop := Claim7.holds Tryz.pinned (.plain (OpenSpec.ofChange fnMadeSpec)) fnMadeCard

/-- THE TIED CARD OF 'laws.FnSpelled'. -/
def fnSpelledCard : Claim7 := { stood := { row := fnSpelledRow, standIns := [], harness := (true, "629876ba4fe2142afa119efab108aeddff9e84c42cd89c9d0d69f4c94352cba1"), looks := false }, kinds := [], alts := [], laidByText := true, laidKinds := [.data], laidTests := true, laidLooks := .later }
def FnSpelledCardSaid : Prop := Claim7.holds Tryz.pinned (.plain (OpenSpec.ofChange fnSpelledSpec)) fnSpelledCard

/-- THE TIED CARD OF 'laws.FnExactFoldCalls'. -/
def fnExactFoldCallsCard : Claim7 := { stood := { row := fnExactFoldCallsRow, standIns := [], harness := (true, "629876ba4fe2142afa119efab108aeddff9e84c42cd89c9d0d69f4c94352cba1"), looks := false }, kinds := [], alts := [], laidByText := true, laidKinds := [.data], laidTests := true, laidLooks := .later }
def FnExactFoldCallsCardSaid : Prop := Claim7.holds Tryz.pinned (.plain (OpenSpec.ofChange fnExactFoldCallsSpec)) fnExactFoldCallsCard

/-- THE SECOND FORM's CARD OF 'laws.FnExactVolDo'. -/
def fnExactVolDoUptoCard : Claim7 := { stood := { row := fnExactVolDoUptoRow, standIns := [], harness := (true, "629876ba4fe2142afa119efab108aeddff9e84c42cd89c9d0d69f4c94352cba1"), looks := false }, kinds := [], alts := [], laidByText := true, laidKinds := [.data], laidTests := true, laidLooks := .later }
def FnExactVolDoUptoCardSaid : Prop := Claim7.holds Tryz.pinned (.plain (OpenSpec.upto fnExactVolDoSpec)) fnExactVolDoUptoCard

/-- THE SECOND FORM's CARD OF 'laws.FnVol'. -/
def fnVolUptoCard : Claim7 := { stood := { row := fnVolUptoRow, standIns := [], harness := (true, "629876ba4fe2142afa119efab108aeddff9e84c42cd89c9d0d69f4c94352cba1"), looks := false }, kinds := [], alts := [], laidByText := true, laidKinds := [.data], laidTests := true, laidLooks := .later }
def FnVolUptoCardSaid : Prop := Claim7.holds Tryz.pinned (.plain (OpenSpec.upto fnVolSpec)) fnVolUptoCard

/-- THE SECOND FORM's CARD OF 'laws.FnMade'. -/
def fnMadeUptoCard : Claim7 := { stood := { row := fnMadeUptoRow, standIns := [], harness := (true, "629876ba4fe2142afa119efab108aeddff9e84c42cd89c9d0d69f4c94352cba1"), looks := false }, kinds := [], alts := [], laidByText := true, laidKinds := [.data], laidTests := true, laidLooks := .later }
def FnMadeUptoCardSaid : Prop := Claim7.holds Tryz.pinned (.plain (OpenSpec.upto fnMadeSpec)) fnMadeUptoCard

/-- THE SECOND FORM's CARD OF 'laws.FnSpelled'. -/
def fnSpelledUptoCard : Claim7 := { stood := { row := fnSpelledUptoRow, standIns := [], harness := (true, "629876ba4fe2142afa119efab108aeddff9e84c42cd89c9d0d69f4c94352cba1"), looks := false }, kinds := [], alts := [], laidByText := true, laidKinds := [.data], laidTests := true, laidLooks := .later }
def FnSpelledUptoCardSaid : Prop := Claim7.holds Tryz.pinned (.plain (OpenSpec.upto fnSpelledSpec)) fnSpelledUptoCard

/-- THE SECOND FORM's CARD OF 'laws.FnExactFoldCalls'. -/
def fnExactFoldCallsUptoCard : Claim7 := { stood := { row := fnExactFoldCallsUptoRow, standIns := [], harness := (true, "629876ba4fe2142afa119efab108aeddff9e84c42cd89c9d0d69f4c94352cba1"), looks := false }, kinds := [], alts := [], laidByText := true, laidKinds := [.data], laidTests := true, laidLooks := .later }
def FnExactFoldCallsUptoCardSaid : Prop := Claim7.holds Tryz.pinned (.plain (OpenSpec.upto fnExactFoldCallsSpec)) fnExactFoldCallsUptoCard
end Rows
end Go.Proofs.YtllonpbhgbhogaaGreatDoor
