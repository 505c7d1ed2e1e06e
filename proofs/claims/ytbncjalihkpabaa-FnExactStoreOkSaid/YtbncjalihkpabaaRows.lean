/-
  No cell of these rows narrows 'for every input' (looked for: loops, veiled, ifaces, maps, wideKeys, modest, calm, conditions, laid).
  DERIVED. THE GIVEN ROWS OF THIS SEAT. 10 by the template 'for every input the law returns true; each argument reads behind the call as it read before'; 0 by the template 'total and deterministic' (their statements: YtbncjalihkpabaaTotals.lean).
  GIVEN WITH THE SEED: the statements are not yours to turn. If you find one false, say at which input.
  Laid BY PROGRAM, IN A SANDBOX (cutbox-rows.mjs): the forced cells as the released guide's own fill.sh prints them over the translation ea3e89acd5aa1924… (all of the seat's roots in one cut). By AI agents, Wed Nov 11 2026. No macro, syntax, notation, axiom, sorry.
-/
import Derived.Test.YtbncjalihkpabaaChecked
import GoSem.Claim
import GoSem.ClaimJoined
import GoSem.ClaimMapViews
import Derived.JoinedTies
import Derived.KernelRfl
namespace Go.Proofs.Ytbncjalihkpabaa
/- THE CELL 'sum', in the pinned program and in every row, IS THE sha256 OF THE DUMP (.gsa) THAT YtbncjalihkpabaaProg.lean LOADS. Nothing in Lean hashes anything: it is a label: what it is worth is what the hold of that sum in a sandbox is worth. -/
noncomputable def Try.pinned : Pinned := { name := "ytbncjalihkpabaa", sum := "ea3e89acd5aa19241913f2244c9a7652f8441033afca47381a34504616f87372", checked := Try.checked }
namespace Rows
def none {H : Type} : Left H := { results := [], args := [] }

/-- 'laws.FnExactBitsOk': WHATEVER THE INPUT: true; the input reads as it did. -/
def fnExactBitsOkSpec : ChangeSpec := { name := "fnExactBitsOk", fn := fun _ => fun
  | [d] => { results := [.lit (.bool true)], args := [d] }
  | _ => none }
def fnExactBitsOkRow : OpenClaim := { program := "ytbncjalihkpabaa", sum := "ea3e89acd5aa19241913f2244c9a7652f8441033afca47381a34504616f87372", func := "loop.example/g00773/laws.FnExactBitsOk", spec := "fnExactBitsOk", apart := false }
def FnExactBitsOkSaid : Prop := fnExactBitsOkRow.holds Try.pinned (OpenSpec.ofChange fnExactBitsOkSpec)

/-- ITS FALSE NEIGHBOUR: 'it returns false'. Refute it at one input. -/
def fnExactBitsOkWrong : ChangeSpec := { name := "fnExactBitsOk", fn := fun _ => fun
  | [d] => { results := [.lit (.bool false)], args := [d] }
  | _ => none }
def FnExactBitsOkWrongFalsely : Prop := fnExactBitsOkRow.holds Try.pinned (OpenSpec.ofChange fnExactBitsOkWrong)

/-- 'laws.FnExactRangesOk': WHATEVER THE INPUT: true; the input reads as it did. -/
def fnExactRangesOkSpec : ChangeSpec := { name := "fnExactRangesOk", fn := fun _ => fun
  | [d] => { results := [.lit (.bool true)], args := [d] }
  | _ => none }
def fnExactRangesOkRow : OpenClaim := { program := "ytbncjalihkpabaa", sum := "ea3e89acd5aa19241913f2244c9a7652f8441033afca47381a34504616f87372", func := "loop.example/g00773/laws.FnExactRangesOk", spec := "fnExactRangesOk", apart := false }
def FnExactRangesOkSaid : Prop := fnExactRangesOkRow.holds Try.pinned (OpenSpec.ofChange fnExactRangesOkSpec)

/-- ITS FALSE NEIGHBOUR: 'it returns false'. Refute it at one input. -/
def fnExactRangesOkWrong : ChangeSpec := { name := "fnExactRangesOk", fn := fun _ => fun
  | [d] => { results := [.lit (.bool false)], args := [d] }
  | _ => none }
def FnExactRangesOkWrongFalsely : Prop := fnExactRangesOkRow.holds Try.pinned (OpenSpec.ofChange fnExactRangesOkWrong)

/-- 'laws.FnExactFreeOf': WHATEVER THE INPUT: true; the input reads as it did. -/
def fnExactFreeOfSpec : ChangeSpec := { name := "fnExactFreeOf", fn := fun _ => fun
  | [d] => { results := [.lit (.bool true)], args := [d] }
  | _ => none }
def fnExactFreeOfRow : OpenClaim := { program := "ytbncjalihkpabaa", sum := "ea3e89acd5aa19241913f2244c9a7652f8441033afca47381a34504616f87372", func := "loop.example/g00773/laws.FnExactFreeOf", spec := "fnExactFreeOf", apart := false }
def FnExactFreeOfSaid : Prop := fnExactFreeOfRow.holds Try.pinned (OpenSpec.ofChange fnExactFreeOfSpec)

/-- ITS FALSE NEIGHBOUR: 'it returns false'. Refute it at one input. -/
def fnExactFreeOfWrong : ChangeSpec := { name := "fnExactFreeOf", fn := fun _ => fun
  | [d] => { results := [.lit (.bool false)], args := [d] }
  | _ => none }
def FnExactFreeOfWrongFalsely : Prop := fnExactFreeOfRow.holds Try.pinned (OpenSpec.ofChange fnExactFreeOfWrong)

/-- 'laws.FnExactFindRun': WHATEVER THE INPUT: true; the input reads as it did. -/
def fnExactFindRunSpec : ChangeSpec := { name := "fnExactFindRun", fn := fun _ => fun
  | [d1, d2] => { results := [.lit (.bool true)], args := [d1, d2] }
  | _ => none }
def fnExactFindRunRow : OpenClaim := { program := "ytbncjalihkpabaa", sum := "ea3e89acd5aa19241913f2244c9a7652f8441033afca47381a34504616f87372", func := "loop.example/g00773/laws.FnExactFindRun", spec := "fnExactFindRun", apart := false }
def FnExactFindRunSaid : Prop := fnExactFindRunRow.holds Try.pinned (OpenSpec.ofChange fnExactFindRunSpec)

/-- ITS FALSE NEIGHBOUR: 'it returns false'. Refute it at one input. -/
def fnExactFindRunWrong : ChangeSpec := { name := "fnExactFindRun", fn := fun _ => fun
  | [d1, d2] => { results := [.lit (.bool false)], args := [d1, d2] }
  | _ => none }
def FnExactFindRunWrongFalsely : Prop := fnExactFindRunRow.holds Try.pinned (OpenSpec.ofChange fnExactFindRunWrong)

/-- 'laws.FnExactCountOf': WHATEVER THE INPUT: true; the input reads as it did. -/
def fnExactCountOfSpec : ChangeSpec := { name := "fnExactCountOf", fn := fun _ => fun
  | [d] => { results := [.lit (.bool true)], args := [d] }
  | _ => none }
def fnExactCountOfRow : OpenClaim := { program := "ytbncjalihkpabaa", sum := "ea3e89acd5aa19241913f2244c9a7652f8441033afca47381a34504616f87372", func := "loop.example/g00773/laws.FnExactCountOf", spec := "fnExactCountOf", apart := false }
def FnExactCountOfSaid : Prop := fnExactCountOfRow.holds Try.pinned (OpenSpec.ofChange fnExactCountOfSpec)

/-- ITS FALSE NEIGHBOUR: 'it returns false'. Refute it at one input. -/
def fnExactCountOfWrong : ChangeSpec := { name := "fnExactCountOf", fn := fun _ => fun
  | [d] => { results := [.lit (.bool false)], args := [d] }
  | _ => none }
def FnExactCountOfWrongFalsely : Prop := fnExactCountOfRow.holds Try.pinned (OpenSpec.ofChange fnExactCountOfWrong)

/-- 'laws.FnExactInRanges': WHATEVER THE INPUT: true; the input reads as it did. -/
def fnExactInRangesSpec : ChangeSpec := { name := "fnExactInRanges", fn := fun _ => fun
  | [d1, d2] => { results := [.lit (.bool true)], args := [d1, d2] }
  | _ => none }
def fnExactInRangesRow : OpenClaim := { program := "ytbncjalihkpabaa", sum := "ea3e89acd5aa19241913f2244c9a7652f8441033afca47381a34504616f87372", func := "loop.example/g00773/laws.FnExactInRanges", spec := "fnExactInRanges", apart := false }
def FnExactInRangesSaid : Prop := fnExactInRangesRow.holds Try.pinned (OpenSpec.ofChange fnExactInRangesSpec)

/-- ITS FALSE NEIGHBOUR: 'it returns false'. Refute it at one input. -/
def fnExactInRangesWrong : ChangeSpec := { name := "fnExactInRanges", fn := fun _ => fun
  | [d1, d2] => { results := [.lit (.bool false)], args := [d1, d2] }
  | _ => none }
def FnExactInRangesWrongFalsely : Prop := fnExactInRangesRow.holds Try.pinned (OpenSpec.ofChange fnExactInRangesWrong)

/-- 'laws.FnExactExtsOk': WHATEVER THE INPUT: true; the input reads as it did. -/
def fnExactExtsOkSpec : ChangeSpec := { name := "fnExactExtsOk", fn := fun _ => fun
  | [d] => { results := [.lit (.bool true)], args := [d] }
  | _ => none }
def fnExactExtsOkRow : OpenClaim := { program := "ytbncjalihkpabaa", sum := "ea3e89acd5aa19241913f2244c9a7652f8441033afca47381a34504616f87372", func := "loop.example/g00773/laws.FnExactExtsOk", spec := "fnExactExtsOk", apart := false }
def FnExactExtsOkSaid : Prop := fnExactExtsOkRow.holds Try.pinned (OpenSpec.ofChange fnExactExtsOkSpec)

/-- ITS FALSE NEIGHBOUR: 'it returns false'. Refute it at one input. -/
def fnExactExtsOkWrong : ChangeSpec := { name := "fnExactExtsOk", fn := fun _ => fun
  | [d] => { results := [.lit (.bool false)], args := [d] }
  | _ => none }
def FnExactExtsOkWrongFalsely : Prop := fnExactExtsOkRow.holds Try.pinned (OpenSpec.ofChange fnExactExtsOkWrong)

/-- 'laws.FnExactRuns': WHATEVER THE INPUT: true; the input reads as it did. -/
def fnExactRunsSpec : ChangeSpec := { name := "fnExactRuns", fn := fun _ => fun
  | [d] => { results := [.lit (.bool true)], args := [d] }
  | _ => none }
def fnExactRunsRow : OpenClaim := { program := "ytbncjalihkpabaa", sum := "ea3e89acd5aa19241913f2244c9a7652f8441033afca47381a34504616f87372", func := "loop.example/g00773/laws.FnExactRuns", spec := "fnExactRuns", apart := false }
def FnExactRunsSaid : Prop := fnExactRunsRow.holds Try.pinned (OpenSpec.ofChange fnExactRunsSpec)

/-- ITS FALSE NEIGHBOUR: 'it returns false'. Refute it at one input. -/
def fnExactRunsWrong : ChangeSpec := { name := "fnExactRuns", fn := fun _ => fun
  | [d] => { results := [.lit (.bool false)], args := [d] }
  | _ => none }
def FnExactRunsWrongFalsely : Prop := fnExactRunsRow.holds Try.pinned (OpenSpec.ofChange fnExactRunsWrong)

/-- 'laws.FnExactStoreOk': WHATEVER THE INPUT: true; the input reads as it did. -/
def fnExactStoreOkSpec : ChangeSpec := { name := "fnExactStoreOk", fn := fun _ => fun
  | [d] => { results := [.lit (.bool true)], args := [d] }
  | _ => none }
def fnExactStoreOkRow : OpenClaim := { program := "ytbncjalihkpabaa", sum := "ea3e89acd5aa19241913f2244c9a7652f8441033afca47381a34504616f87372", func := "loop.example/g00773/laws.FnExactStoreOk", spec := "fnExactStoreOk", apart := false }
def FnExactStoreOkSaid : Prop := fnExactStoreOkRow.holds Try.pinned (OpenSpec.ofChange fnExactStoreOkSpec)

/-- ITS FALSE NEIGHBOUR: 'it returns false'. Refute it at one input. -/
def fnExactStoreOkWrong : ChangeSpec := { name := "fnExactStoreOk", fn := fun _ => fun
  | [d] => { results := [.lit (.bool false)], args := [d] }
  | _ => none }
def FnExactStoreOkWrongFalsely : Prop := fnExactStoreOkRow.holds Try.pinned (OpenSpec.ofChange fnExactStoreOkWrong)

/-- 'laws.FnExactNewStore': WHATEVER THE INPUT: true; the input reads as it did. -/
def fnExactNewStoreSpec : ChangeSpec := { name := "fnExactNewStore", fn := fun _ => fun
  | [] => { results := [.lit (.bool true)], args := [] }
  | _ => none }
def fnExactNewStoreRow : OpenClaim := { program := "ytbncjalihkpabaa", sum := "ea3e89acd5aa19241913f2244c9a7652f8441033afca47381a34504616f87372", func := "loop.example/g00773/laws.FnExactNewStore", spec := "fnExactNewStore", apart := false }
def FnExactNewStoreSaid : Prop := fnExactNewStoreRow.holds Try.pinned (OpenSpec.ofChange fnExactNewStoreSpec)

/-- ITS FALSE NEIGHBOUR: 'it returns false'. Refute it at one input. -/
def fnExactNewStoreWrong : ChangeSpec := { name := "fnExactNewStore", fn := fun _ => fun
  | [] => { results := [.lit (.bool false)], args := [] }
  | _ => none }
def FnExactNewStoreWrongFalsely : Prop := fnExactNewStoreRow.holds Try.pinned (OpenSpec.ofChange fnExactNewStoreWrong)

/- THE SECOND FORM. 'bulk': how many values and letters a reading holds, each counted each time it is reached (what is shared counts as often as it is met; a slice's spare places count too). A statement '..UptoSaid' is the law's where the arguments, and the package variables that the reading takes, are together of bulk at most 1048576: NARROWER than '..Said'. Prove '..Said' where nothing that the law and all that it calls make is longer than what came in: it says more and counts as full. Else prove '..UptoSaid'. A law counts once. -/
mutual
def uptoBulk {H : Type} : DataW H → Nat
  | .lit (.string bytes) => bytes.length + 1
  | .lit _ => 1
  | .nil => 1
  | .ptr d => uptoBulk d + 1
  | .slice elems spare => uptoBulkAll elems + uptoBulkAll spare + 1
  | .agg parts => uptoBulkAll parts + 1
  | .iface _ d => uptoBulk d + 1
  | .map entries => uptoBulkEntries entries + 1
  | .held _ => 1
def uptoBulkAll {H : Type} : List (DataW H) → Nat
  | [] => 0
  | d :: r => uptoBulk d + uptoBulkAll r
def uptoBulkEntries {H : Type} : List (Lit × DataW H) → Nat
  | [] => 0
  | x :: r => uptoBulkEntry x + uptoBulkEntries r
def uptoBulkEntry {H : Type} : Lit × DataW H → Nat
  | (.string bytes, d) => bytes.length + uptoBulk d + 1
  | (_, d) => uptoBulk d + 1
 end
def uptoSmall : (H : Type) → List (DataW H) → Bool := fun _ ds => decide (uptoBulkAll ds ≤ 1048576)
def OpenSpec.upto (s : _root_.Go.ChangeSpec) : _root_.Go.OpenSpec := { _root_.Go.OpenSpec.ofChange s with cond := some uptoSmall }

/-- 'laws.FnExactBitsOk', WHERE WHAT IT READS IS OF BULK AT MOST 1048576: true; the input reads as it did. -/
def fnExactBitsOkUptoRow : OpenClaim := { program := "ytbncjalihkpabaa", sum := "ea3e89acd5aa19241913f2244c9a7652f8441033afca47381a34504616f87372", func := "loop.example/g00773/laws.FnExactBitsOk", spec := "fnExactBitsOk", apart := false, narrowed := true }
def FnExactBitsOkUptoSaid : Prop := fnExactBitsOkUptoRow.holds Try.pinned (OpenSpec.upto fnExactBitsOkSpec)

/-- 'laws.FnExactRangesOk', WHERE WHAT IT READS IS OF BULK AT MOST 1048576: true; the input reads as it did. -/
def fnExactRangesOkUptoRow : OpenClaim := { program := "ytbncjalihkpabaa", sum := "ea3e89acd5aa19241913f2244c9a7652f8441033afca47381a34504616f87372", func := "loop.example/g00773/laws.FnExactRangesOk", spec := "fnExactRangesOk", apart := false, narrowed := true }
def FnExactRangesOkUptoSaid : Prop := fnExactRangesOkUptoRow.holds Try.pinned (OpenSpec.upto fnExactRangesOkSpec)

/-- 'laws.FnExactFreeOf', WHERE WHAT IT READS IS OF BULK AT MOST 1048576: true; the input reads as it did. -/
def fnExactFreeOfUptoRow : OpenClaim := { program := "ytbncjalihkpabaa", sum := "ea3e89acd5aa19241913f2244c9a7652f8441033afca47381a34504616f87372", func := "loop.example/g00773/laws.FnExactFreeOf", spec := "fnExactFreeOf", apart := false, narrowed := true }
def FnExactFreeOfUptoSaid : Prop := fnExactFreeOfUptoRow.holds Try.pinned (OpenSpec.upto fnExactFreeOfSpec)

/-- 'laws.FnExactFindRun', WHERE WHAT IT READS IS OF BULK AT MOST 1048576: true; the input reads as it did. -/
def fnExactFindRunUptoRow : OpenClaim := { program := "ytbncjalihkpabaa", sum := "ea3e89acd5aa19241913f2244c9a7652f8441033afca47381a34504616f87372", func := "loop.example/g00773/laws.FnExactFindRun", spec := "fnExactFindRun", apart := false, narrowed := true }
def FnExactFindRunUptoSaid : Prop := fnExactFindRunUptoRow.holds Try.pinned (OpenSpec.upto fnExactFindRunSpec)

/-- 'laws.FnExactCountOf', WHERE WHAT IT READS IS OF BULK AT MOST 1048576: true; the input reads as it did. -/
def fnExactCountOfUptoRow : OpenClaim := { program := "ytbncjalihkpabaa", sum := "ea3e89acd5aa19241913f2244c9a7652f8441033afca47381a34504616f87372", func := "loop.example/g00773/laws.FnExactCountOf", spec := "fnExactCountOf", apart := false, narrowed := true }
def FnExactCountOfUptoSaid : Prop := fnExactCountOfUptoRow.holds Try.pinned (OpenSpec.upto fnExactCountOfSpec)

/-- 'laws.FnExactInRanges', WHERE WHAT IT READS IS OF BULK AT MOST 1048576: true; the input reads as it did. -/
def fnExactInRangesUptoRow : OpenClaim := { program := "ytbncjalihkpabaa", sum := "ea3e89acd5aa19241913f2244c9a7652f8441033afca47381a34504616f87372", func := "loop.example/g00773/laws.FnExactInRanges", spec := "fnExactInRanges", apart := false, narrowed := true }
def FnExactInRangesUptoSaid : Prop := fnExactInRangesUptoRow.holds Try.pinned (OpenSpec.upto fnExactInRangesSpec)

/-- 'laws.FnExactExtsOk', WHERE WHAT IT READS IS OF BULK AT MOST 1048576: true; the input reads as it did. -/
def fnExactExtsOkUptoRow : OpenClaim := { program := "ytbncjalihkpabaa", sum := "ea3e89acd5aa19241913f2244c9a7652f8441033afca47381a34504616f87372", func := "loop.example/g00773/laws.FnExactExtsOk", spec := "fnExactExtsOk", apart := false, narrowed := true }
def FnExactExtsOkUptoSaid : Prop := fnExactExtsOkUptoRow.holds Try.pinned (OpenSpec.upto fnExactExtsOkSpec)

/-- 'laws.FnExactRuns', WHERE WHAT IT READS IS OF BULK AT MOST 1048576: true; the input reads as it did. -/
def fnExactRunsUptoRow : OpenClaim := { program := "ytbncjalihkpabaa", sum := "ea3e89acd5aa19241913f2244c9a7652f8441033afca47381a34504616f87372", func := "loop.example/g00773/laws.FnExactRuns", spec := "fnExactRuns", apart := false, narrowed := true }
def FnExactRunsUptoSaid : Prop := fnExactRunsUptoRow.holds Try.pinned (OpenSpec.upto fnExactRunsSpec)

/-- 'laws.FnExactStoreOk', WHERE WHAT IT READS IS OF BULK AT MOST 1048576: true; the input reads as it did. -/
def fnExactStoreOkUptoRow : OpenClaim := { program := "ytbncjalihkpabaa", sum := "ea3e89acd5aa19241913f2244c9a7652f8441033afca47381a34504616f87372", func := "loop.example/g00773/laws.FnExactStoreOk", spec := "fnExactStoreOk", apart := false, narrowed := true }
def FnExactStoreOkUptoSaid : Prop := fnExactStoreOkUptoRow.holds Try.pinned (OpenSpec.upto fnExactStoreOkSpec)

/-- 'laws.FnExactNewStore', WHERE WHAT IT READS IS OF BULK AT MOST 1048576: true; the input reads as it did. -/
def fnExactNewStoreUptoRow : OpenClaim := { program := "ytbncjalihkpabaa", sum := "ea3e89acd5aa19241913f2244c9a7652f8441033afca47381a34504616f87372", func := "loop.example/g00773/laws.FnExactNewStore", spec := "fnExactNewStore", apart := false, narrowed := true }
def FnExactNewStoreUptoSaid : Prop := fnExactNewStoreUptoRow.holds Try.pinned (OpenSpec.upto fnExactNewStoreSpec)

end Rows
end Go.Proofs.Ytbncjalihkpabaa
