/-
  No cell of these rows narrows 'for every input' (looked for: loops, veiled, ifaces, maps, wideKeys, modest, calm, conditions, laid).
  DERIVED. THE GIVEN ROWS OF THIS SEAT. 4 by the template 'for every input the law returns true; each argument reads behind the call as it read before'; 0 by the template 'total and deterministic' (their statements: YtbmoolmgfpcnkaaTotals.lean).
  GIVEN WITH THE SEED: the statements are not yours to turn. If you find one false, say at which input.
  Laid BY PROGRAM, IN A SANDBOX (cutbox-rows.mjs): the forced cells as the released guide's own fill.sh prints them over the translation 7b072ff26fb4c686… (all of the seat's roots in one cut). By AI agents, Wed Nov 11 2026. No macro, syntax, notation, axiom, sorry.
-/
import Derived.Test.YtbmoolmgfpcnkaaChecked
import GoSem.Claim
import GoSem.ClaimJoined
import GoSem.ClaimMapViews
import Derived.JoinedTies
import Derived.KernelRfl
namespace Go.Proofs.Ytbmoolmgfpcnkaa
/- THE CELL 'sum', in the pinned program and in every row, IS THE sha256 OF THE DUMP (.gsa) THAT YtbmoolmgfpcnkaaProg.lean LOADS. Nothing in Lean hashes anything: it is a label: what it is worth is what the hold of that sum in a sandbox is worth. -/
noncomputable def Try.pinned : Pinned := { name := "ytbmoolmgfpcnkaa", sum := "7b072ff26fb4c6865861355b221084741881fd028de12c606d51aa841a6f4dcf", checked := Try.checked }
namespace Rows
def none {H : Type} : Left H := { results := [], args := [] }

/-- 'laws.FnExactFilCut': WHATEVER THE INPUT: true; the input reads as it did. -/
def fnExactFilCutSpec : ChangeSpec := { name := "fnExactFilCut", fn := fun _ => fun
  | [d1, d2, d3] => { results := [.lit (.bool true)], args := [d1, d2, d3] }
  | _ => none }
def fnExactFilCutRow : OpenClaim := { program := "ytbmoolmgfpcnkaa", sum := "7b072ff26fb4c6865861355b221084741881fd028de12c606d51aa841a6f4dcf", func := "loop.example/g00773/laws.FnExactFilCut", spec := "fnExactFilCut", apart := false }
def FnExactFilCutSaid : Prop := fnExactFilCutRow.holds Try.pinned (OpenSpec.ofChange fnExactFilCutSpec)

/-- ITS FALSE NEIGHBOUR: 'it returns false'. Refute it at one input. -/
def fnExactFilCutWrong : ChangeSpec := { name := "fnExactFilCut", fn := fun _ => fun
  | [d1, d2, d3] => { results := [.lit (.bool false)], args := [d1, d2, d3] }
  | _ => none }
def FnExactFilCutWrongFalsely : Prop := fnExactFilCutRow.holds Try.pinned (OpenSpec.ofChange fnExactFilCutWrong)

/-- 'laws.FnExts': WHATEVER THE INPUT: true; the input reads as it did. -/
def fnExtsSpec : ChangeSpec := { name := "fnExts", fn := fun _ => fun
  | [d] => { results := [.lit (.bool true)], args := [d] }
  | _ => none }
def fnExtsRow : OpenClaim := { program := "ytbmoolmgfpcnkaa", sum := "7b072ff26fb4c6865861355b221084741881fd028de12c606d51aa841a6f4dcf", func := "loop.example/g00773/laws.FnExts", spec := "fnExts", recurses := true, apart := false }
def FnExtsSaid : Prop := fnExtsRow.holds Try.pinned (OpenSpec.ofChange fnExtsSpec)

/-- ITS FALSE NEIGHBOUR: 'it returns false'. Refute it at one input. -/
def fnExtsWrong : ChangeSpec := { name := "fnExts", fn := fun _ => fun
  | [d] => { results := [.lit (.bool false)], args := [d] }
  | _ => none }
def FnExtsWrongFalsely : Prop := fnExtsRow.holds Try.pinned (OpenSpec.ofChange fnExtsWrong)

/-- 'laws.FnFile': WHATEVER THE INPUT: true; the input reads as it did. -/
def fnFileSpec : ChangeSpec := { name := "fnFile", fn := fun _ => fun
  | [d] => { results := [.lit (.bool true)], args := [d] }
  | _ => none }
def fnFileRow : OpenClaim := { program := "ytbmoolmgfpcnkaa", sum := "7b072ff26fb4c6865861355b221084741881fd028de12c606d51aa841a6f4dcf", func := "loop.example/g00773/laws.FnFile", spec := "fnFile", apart := false }
def FnFileSaid : Prop := fnFileRow.holds Try.pinned (OpenSpec.ofChange fnFileSpec)

/-- ITS FALSE NEIGHBOUR: 'it returns false'. Refute it at one input. -/
def fnFileWrong : ChangeSpec := { name := "fnFile", fn := fun _ => fun
  | [d] => { results := [.lit (.bool false)], args := [d] }
  | _ => none }
def FnFileWrongFalsely : Prop := fnFileRow.holds Try.pinned (OpenSpec.ofChange fnFileWrong)

/-- 'laws.FnOthers': WHATEVER THE INPUT: true; the input reads as it did. -/
def fnOthersSpec : ChangeSpec := { name := "fnOthers", fn := fun _ => fun
  | [d] => { results := [.lit (.bool true)], args := [d] }
  | _ => none }
def fnOthersRow : OpenClaim := { program := "ytbmoolmgfpcnkaa", sum := "7b072ff26fb4c6865861355b221084741881fd028de12c606d51aa841a6f4dcf", func := "loop.example/g00773/laws.FnOthers", spec := "fnOthers", apart := false }
def FnOthersSaid : Prop := fnOthersRow.holds Try.pinned (OpenSpec.ofChange fnOthersSpec)

/-- ITS FALSE NEIGHBOUR: 'it returns false'. Refute it at one input. -/
def fnOthersWrong : ChangeSpec := { name := "fnOthers", fn := fun _ => fun
  | [d] => { results := [.lit (.bool false)], args := [d] }
  | _ => none }
def FnOthersWrongFalsely : Prop := fnOthersRow.holds Try.pinned (OpenSpec.ofChange fnOthersWrong)

/- THE SECOND FORM. 'bulk': how many values and letters a reading holds, each counted each time it is reached (what is shared counts as often as it is met; a slice's spare places count too). A statement '..UptoSaid' is the law's where the arguments, and the package variables that the reading takes, are together of bulk at most 1048576: NARROWER than '..Said'. Prove '..Said' where nothing that the law and all that it calls make is longer than what came in: it says more and counts as full. Else prove '..UptoSaid'. A law counts once. -/
mutual
def uptoBulk {H : Type} : DataW H → Nat
  | .lit (.string bytes) => bytes.length + 1
  | .lit _ => 1
  | .nil => 1
  | .ptr d => uptoBulk d + 1
  | .slice elems spare => uptoBulkAll elems + uptoBulkAll spare + 1
  | .agg parts => uptoBulkAll parts + 1
  | .iface _ d => uptoBulk d + 1
  | .map entries => uptoBulkEntries entries + 1
  | .held _ => 1
def uptoBulkAll {H : Type} : List (DataW H) → Nat
  | [] => 0
  | d :: r => uptoBulk d + uptoBulkAll r
def uptoBulkEntries {H : Type} : List (Lit × DataW H) → Nat
  | [] => 0
  | x :: r => uptoBulkEntry x + uptoBulkEntries r
def uptoBulkEntry {H : Type} : Lit × DataW H → Nat
  | (.string bytes, d) => bytes.length + uptoBulk d + 1
  | (_, d) => uptoBulk d + 1
 end
def uptoSmall : (H : Type) → List (DataW H) → Bool := fun _ ds => decide (uptoBulkAll ds ≤ 1048576)
def OpenSpec.upto (s : _root_.Go.ChangeSpec) : _root_.Go.OpenSpec := { _root_.Go.OpenSpec.ofChange s with cond := some uptoSmall }

/-- 'laws.FnExactFilCut', WHERE WHAT IT READS IS OF BULK AT MOST 1048576: true; the input reads as it did. -/
def fnExactFilCutUptoRow : OpenClaim := { program := "ytbmoolmgfpcnkaa", sum := "7b072ff26fb4c6865861355b221084741881fd028de12c606d51aa841a6f4dcf", func := "loop.example/g00773/laws.FnExactFilCut", spec := "fnExactFilCut", apart := false, narrowed := true }
def FnExactFilCutUptoSaid : Prop := fnExactFilCutUptoRow.holds Try.pinned (OpenSpec.upto fnExactFilCutSpec)

/-- 'laws.FnExts', WHERE WHAT IT READS IS OF BULK AT MOST 1048576: true; the input reads as it did. -/
def fnExtsUptoRow : OpenClaim := { program := "ytbmoolmgfpcnkaa", sum := "7b072ff26fb4c6865861355b221084741881fd028de12c606d51aa841a6f4dcf", func := "loop.example/g00773/laws.FnExts", spec := "fnExts", recurses := true, apart := false, narrowed := true }
def FnExtsUptoSaid : Prop := fnExtsUptoRow.holds Try.pinned (OpenSpec.upto fnExtsSpec)

/-- 'laws.FnFile', WHERE WHAT IT READS IS OF BULK AT MOST 1048576: true; the input reads as it did. -/
def fnFileUptoRow : OpenClaim := { program := "ytbmoolmgfpcnkaa", sum := "7b072ff26fb4c6865861355b221084741881fd028de12c606d51aa841a6f4dcf", func := "loop.example/g00773/laws.FnFile", spec := "fnFile", apart := false, narrowed := true }
def FnFileUptoSaid : Prop := fnFileUptoRow.holds Try.pinned (OpenSpec.upto fnFileSpec)

/-- 'laws.FnOthers', WHERE WHAT IT READS IS OF BULK AT MOST 1048576: true; the input reads as it did. -/
def fnOthersUptoRow : OpenClaim := { program := "ytbmoolmgfpcnkaa", sum := "7b072ff26fb4c6865861355b221084741881fd028de12c606d51aa841a6f4dcf", func := "loop.example/g00773/laws.FnOthers", spec := "fnOthers", apart := false, narrowed := true }
def FnOthersUptoSaid : Prop := fnOthersUptoRow.holds Try.pinned (OpenSpec.upto fnOthersSpec)

end Rows
end Go.Proofs.Ytbmoolmgfpcnkaa
