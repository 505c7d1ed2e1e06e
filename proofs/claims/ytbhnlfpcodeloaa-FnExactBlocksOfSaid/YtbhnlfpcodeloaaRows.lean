/-
  No cell of these rows narrows 'for every input' (looked for: loops, veiled, ifaces, maps, wideKeys, modest, calm, conditions, laid).
  DERIVED. THE GIVEN ROWS OF THIS SEAT. 17 by the template 'for every input the law returns true; each argument reads behind the call as it read before'; 0 by the template 'total and deterministic' (their statements: YtbhnlfpcodeloaaTotals.lean).
  GIVEN WITH THE SEED: the statements are not yours to turn. If you find one false, say at which input.
  Laid BY PROGRAM, IN A SANDBOX (cutbox-rows.mjs): the forced cells as the released guide's own fill.sh prints them over the translation 6553748e39fc670d… (all of the seat's roots in one cut). By AI agents, Wed Nov 11 2026. No macro, syntax, notation, axiom, sorry.
-/
import Derived.Test.YtbhnlfpcodeloaaChecked
import GoSem.Claim
import GoSem.ClaimJoined
import GoSem.ClaimMapViews
import Derived.JoinedTies
import Derived.KernelRfl
namespace Go.Proofs.Ytbhnlfpcodeloaa
/- THE CELL 'sum', in the pinned program and in every row, IS THE sha256 OF THE DUMP (.gsa) THAT YtbhnlfpcodeloaaProg.lean LOADS. Nothing in Lean hashes anything: it is a label: what it is worth is what the hold of that sum in a sandbox is worth. -/
noncomputable def Try.pinned : Pinned := { name := "ytbhnlfpcodeloaa", sum := "6553748e39fc670db7a916b8b289137e90f814549ea92b47e39a4616023ac3a7", checked := Try.checked }
namespace Rows
def none {H : Type} : Left H := { results := [], args := [] }

/-- 'laws.FnFile': WHATEVER THE INPUT: true; the input reads as it did. -/
def fnFileSpec : ChangeSpec := { name := "fnFile", fn := fun _ => fun
  | [d] => { results := [.lit (.bool true)], args := [d] }
  | _ => none }
def fnFileRow : OpenClaim := { program := "ytbhnlfpcodeloaa", sum := "6553748e39fc670db7a916b8b289137e90f814549ea92b47e39a4616023ac3a7", func := "loop.example/g00773/laws.FnFile", spec := "fnFile", apart := false }
def FnFileSaid : Prop := fnFileRow.holds Try.pinned (OpenSpec.ofChange fnFileSpec)

/-- ITS FALSE NEIGHBOUR: 'it returns false'. Refute it at one input. -/
def fnFileWrong : ChangeSpec := { name := "fnFile", fn := fun _ => fun
  | [d] => { results := [.lit (.bool false)], args := [d] }
  | _ => none }
def FnFileWrongFalsely : Prop := fnFileRow.holds Try.pinned (OpenSpec.ofChange fnFileWrong)

/-- 'laws.FnUnits': WHATEVER THE INPUT: true; the input reads as it did. -/
def fnUnitsSpec : ChangeSpec := { name := "fnUnits", fn := fun _ => fun
  | [d] => { results := [.lit (.bool true)], args := [d] }
  | _ => none }
def fnUnitsRow : OpenClaim := { program := "ytbhnlfpcodeloaa", sum := "6553748e39fc670db7a916b8b289137e90f814549ea92b47e39a4616023ac3a7", func := "loop.example/g00773/laws.FnUnits", spec := "fnUnits", apart := false }
def FnUnitsSaid : Prop := fnUnitsRow.holds Try.pinned (OpenSpec.ofChange fnUnitsSpec)

/-- ITS FALSE NEIGHBOUR: 'it returns false'. Refute it at one input. -/
def fnUnitsWrong : ChangeSpec := { name := "fnUnits", fn := fun _ => fun
  | [d] => { results := [.lit (.bool false)], args := [d] }
  | _ => none }
def FnUnitsWrongFalsely : Prop := fnUnitsRow.holds Try.pinned (OpenSpec.ofChange fnUnitsWrong)

/-- 'laws.FnExactUnits': WHATEVER THE INPUT: true; the input reads as it did. -/
def fnExactUnitsSpec : ChangeSpec := { name := "fnExactUnits", fn := fun _ => fun
  | [d] => { results := [.lit (.bool true)], args := [d] }
  | _ => none }
def fnExactUnitsRow : OpenClaim := { program := "ytbhnlfpcodeloaa", sum := "6553748e39fc670db7a916b8b289137e90f814549ea92b47e39a4616023ac3a7", func := "loop.example/g00773/laws.FnExactUnits", spec := "fnExactUnits", apart := false }
def FnExactUnitsSaid : Prop := fnExactUnitsRow.holds Try.pinned (OpenSpec.ofChange fnExactUnitsSpec)

/-- ITS FALSE NEIGHBOUR: 'it returns false'. Refute it at one input. -/
def fnExactUnitsWrong : ChangeSpec := { name := "fnExactUnits", fn := fun _ => fun
  | [d] => { results := [.lit (.bool false)], args := [d] }
  | _ => none }
def FnExactUnitsWrongFalsely : Prop := fnExactUnitsRow.holds Try.pinned (OpenSpec.ofChange fnExactUnitsWrong)

/-- 'laws.FnExactMinus': WHATEVER THE INPUT: true; the input reads as it did. -/
def fnExactMinusSpec : ChangeSpec := { name := "fnExactMinus", fn := fun _ => fun
  | [d1, d2] => { results := [.lit (.bool true)], args := [d1, d2] }
  | _ => none }
def fnExactMinusRow : OpenClaim := { program := "ytbhnlfpcodeloaa", sum := "6553748e39fc670db7a916b8b289137e90f814549ea92b47e39a4616023ac3a7", func := "loop.example/g00773/laws.FnExactMinus", spec := "fnExactMinus", apart := false }
def FnExactMinusSaid : Prop := fnExactMinusRow.holds Try.pinned (OpenSpec.ofChange fnExactMinusSpec)

/-- ITS FALSE NEIGHBOUR: 'it returns false'. Refute it at one input. -/
def fnExactMinusWrong : ChangeSpec := { name := "fnExactMinus", fn := fun _ => fun
  | [d1, d2] => { results := [.lit (.bool false)], args := [d1, d2] }
  | _ => none }
def FnExactMinusWrongFalsely : Prop := fnExactMinusRow.holds Try.pinned (OpenSpec.ofChange fnExactMinusWrong)

/-- 'laws.FnExactBlockAt': WHATEVER THE INPUT: true; the input reads as it did. -/
def fnExactBlockAtSpec : ChangeSpec := { name := "fnExactBlockAt", fn := fun _ => fun
  | [d1, d2] => { results := [.lit (.bool true)], args := [d1, d2] }
  | _ => none }
def fnExactBlockAtRow : OpenClaim := { program := "ytbhnlfpcodeloaa", sum := "6553748e39fc670db7a916b8b289137e90f814549ea92b47e39a4616023ac3a7", func := "loop.example/g00773/laws.FnExactBlockAt", spec := "fnExactBlockAt", apart := false }
def FnExactBlockAtSaid : Prop := fnExactBlockAtRow.holds Try.pinned (OpenSpec.ofChange fnExactBlockAtSpec)

/-- ITS FALSE NEIGHBOUR: 'it returns false'. Refute it at one input. -/
def fnExactBlockAtWrong : ChangeSpec := { name := "fnExactBlockAt", fn := fun _ => fun
  | [d1, d2] => { results := [.lit (.bool false)], args := [d1, d2] }
  | _ => none }
def FnExactBlockAtWrongFalsely : Prop := fnExactBlockAtRow.holds Try.pinned (OpenSpec.ofChange fnExactBlockAtWrong)

/-- 'laws.FnExactPair': WHATEVER THE INPUT: true; the input reads as it did. -/
def fnExactPairSpec : ChangeSpec := { name := "fnExactPair", fn := fun _ => fun
  | [d1, d2] => { results := [.lit (.bool true)], args := [d1, d2] }
  | _ => none }
def fnExactPairRow : OpenClaim := { program := "ytbhnlfpcodeloaa", sum := "6553748e39fc670db7a916b8b289137e90f814549ea92b47e39a4616023ac3a7", func := "loop.example/g00773/laws.FnExactPair", spec := "fnExactPair", apart := false }
def FnExactPairSaid : Prop := fnExactPairRow.holds Try.pinned (OpenSpec.ofChange fnExactPairSpec)

/-- ITS FALSE NEIGHBOUR: 'it returns false'. Refute it at one input. -/
def fnExactPairWrong : ChangeSpec := { name := "fnExactPair", fn := fun _ => fun
  | [d1, d2] => { results := [.lit (.bool false)], args := [d1, d2] }
  | _ => none }
def FnExactPairWrongFalsely : Prop := fnExactPairRow.holds Try.pinned (OpenSpec.ofChange fnExactPairWrong)

/-- 'laws.FnExactUnion': WHATEVER THE INPUT: true; the input reads as it did. -/
def fnExactUnionSpec : ChangeSpec := { name := "fnExactUnion", fn := fun _ => fun
  | [d1, d2] => { results := [.lit (.bool true)], args := [d1, d2] }
  | _ => none }
def fnExactUnionRow : OpenClaim := { program := "ytbhnlfpcodeloaa", sum := "6553748e39fc670db7a916b8b289137e90f814549ea92b47e39a4616023ac3a7", func := "loop.example/g00773/laws.FnExactUnion", spec := "fnExactUnion", apart := false }
def FnExactUnionSaid : Prop := fnExactUnionRow.holds Try.pinned (OpenSpec.ofChange fnExactUnionSpec)

/-- ITS FALSE NEIGHBOUR: 'it returns false'. Refute it at one input. -/
def fnExactUnionWrong : ChangeSpec := { name := "fnExactUnion", fn := fun _ => fun
  | [d1, d2] => { results := [.lit (.bool false)], args := [d1, d2] }
  | _ => none }
def FnExactUnionWrongFalsely : Prop := fnExactUnionRow.holds Try.pinned (OpenSpec.ofChange fnExactUnionWrong)

/-- 'laws.FnRanges': WHATEVER THE INPUT: true; the input reads as it did. -/
def fnRangesSpec : ChangeSpec := { name := "fnRanges", fn := fun _ => fun
  | [d] => { results := [.lit (.bool true)], args := [d] }
  | _ => none }
def fnRangesRow : OpenClaim := { program := "ytbhnlfpcodeloaa", sum := "6553748e39fc670db7a916b8b289137e90f814549ea92b47e39a4616023ac3a7", func := "loop.example/g00773/laws.FnRanges", spec := "fnRanges", apart := false }
def FnRangesSaid : Prop := fnRangesRow.holds Try.pinned (OpenSpec.ofChange fnRangesSpec)

/-- ITS FALSE NEIGHBOUR: 'it returns false'. Refute it at one input. -/
def fnRangesWrong : ChangeSpec := { name := "fnRanges", fn := fun _ => fun
  | [d] => { results := [.lit (.bool false)], args := [d] }
  | _ => none }
def FnRangesWrongFalsely : Prop := fnRangesRow.holds Try.pinned (OpenSpec.ofChange fnRangesWrong)

/-- 'laws.FnBits': WHATEVER THE INPUT: true; the input reads as it did. -/
def fnBitsSpec : ChangeSpec := { name := "fnBits", fn := fun _ => fun
  | [d] => { results := [.lit (.bool true)], args := [d] }
  | _ => none }
def fnBitsRow : OpenClaim := { program := "ytbhnlfpcodeloaa", sum := "6553748e39fc670db7a916b8b289137e90f814549ea92b47e39a4616023ac3a7", func := "loop.example/g00773/laws.FnBits", spec := "fnBits", apart := false }
def FnBitsSaid : Prop := fnBitsRow.holds Try.pinned (OpenSpec.ofChange fnBitsSpec)

/-- ITS FALSE NEIGHBOUR: 'it returns false'. Refute it at one input. -/
def fnBitsWrong : ChangeSpec := { name := "fnBits", fn := fun _ => fun
  | [d] => { results := [.lit (.bool false)], args := [d] }
  | _ => none }
def FnBitsWrongFalsely : Prop := fnBitsRow.holds Try.pinned (OpenSpec.ofChange fnBitsWrong)

/-- 'laws.FnExactCutAt': WHATEVER THE INPUT: true; the input reads as it did. -/
def fnExactCutAtSpec : ChangeSpec := { name := "fnExactCutAt", fn := fun _ => fun
  | [d1, d2] => { results := [.lit (.bool true)], args := [d1, d2] }
  | _ => none }
def fnExactCutAtRow : OpenClaim := { program := "ytbhnlfpcodeloaa", sum := "6553748e39fc670db7a916b8b289137e90f814549ea92b47e39a4616023ac3a7", func := "loop.example/g00773/laws.FnExactCutAt", spec := "fnExactCutAt", apart := false }
def FnExactCutAtSaid : Prop := fnExactCutAtRow.holds Try.pinned (OpenSpec.ofChange fnExactCutAtSpec)

/-- ITS FALSE NEIGHBOUR: 'it returns false'. Refute it at one input. -/
def fnExactCutAtWrong : ChangeSpec := { name := "fnExactCutAt", fn := fun _ => fun
  | [d1, d2] => { results := [.lit (.bool false)], args := [d1, d2] }
  | _ => none }
def FnExactCutAtWrongFalsely : Prop := fnExactCutAtRow.holds Try.pinned (OpenSpec.ofChange fnExactCutAtWrong)

/-- 'laws.FnExactFilOk': WHATEVER THE INPUT: true; the input reads as it did. -/
def fnExactFilOkSpec : ChangeSpec := { name := "fnExactFilOk", fn := fun _ => fun
  | [d1, d2] => { results := [.lit (.bool true)], args := [d1, d2] }
  | _ => none }
def fnExactFilOkRow : OpenClaim := { program := "ytbhnlfpcodeloaa", sum := "6553748e39fc670db7a916b8b289137e90f814549ea92b47e39a4616023ac3a7", func := "loop.example/g00773/laws.FnExactFilOk", spec := "fnExactFilOk", apart := false }
def FnExactFilOkSaid : Prop := fnExactFilOkRow.holds Try.pinned (OpenSpec.ofChange fnExactFilOkSpec)

/-- ITS FALSE NEIGHBOUR: 'it returns false'. Refute it at one input. -/
def fnExactFilOkWrong : ChangeSpec := { name := "fnExactFilOk", fn := fun _ => fun
  | [d1, d2] => { results := [.lit (.bool false)], args := [d1, d2] }
  | _ => none }
def FnExactFilOkWrongFalsely : Prop := fnExactFilOkRow.holds Try.pinned (OpenSpec.ofChange fnExactFilOkWrong)

/-- 'laws.FnExactCompose': WHATEVER THE INPUT: true; the input reads as it did. -/
def fnExactComposeSpec : ChangeSpec := { name := "fnExactCompose", fn := fun _ => fun
  | [d] => { results := [.lit (.bool true)], args := [d] }
  | _ => none }
def fnExactComposeRow : OpenClaim := { program := "ytbhnlfpcodeloaa", sum := "6553748e39fc670db7a916b8b289137e90f814549ea92b47e39a4616023ac3a7", func := "loop.example/g00773/laws.FnExactCompose", spec := "fnExactCompose", recurses := true, apart := false }
def FnExactComposeSaid : Prop := fnExactComposeRow.holds Try.pinned (OpenSpec.ofChange fnExactComposeSpec)

/-- ITS FALSE NEIGHBOUR: 'it returns false'. Refute it at one input. -/
def fnExactComposeWrong : ChangeSpec := { name := "fnExactCompose", fn := fun _ => fun
  | [d] => { results := [.lit (.bool false)], args := [d] }
  | _ => none }
def FnExactComposeWrongFalsely : Prop := fnExactComposeRow.holds Try.pinned (OpenSpec.ofChange fnExactComposeWrong)

/-- 'laws.FnExactFilRead': WHATEVER THE INPUT: true; the input reads as it did. -/
def fnExactFilReadSpec : ChangeSpec := { name := "fnExactFilRead", fn := fun _ => fun
  | [d1, d2, d3, d4] => { results := [.lit (.bool true)], args := [d1, d2, d3, d4] }
  | _ => none }
def fnExactFilReadRow : OpenClaim := { program := "ytbhnlfpcodeloaa", sum := "6553748e39fc670db7a916b8b289137e90f814549ea92b47e39a4616023ac3a7", func := "loop.example/g00773/laws.FnExactFilRead", spec := "fnExactFilRead", apart := false }
def FnExactFilReadSaid : Prop := fnExactFilReadRow.holds Try.pinned (OpenSpec.ofChange fnExactFilReadSpec)

/-- ITS FALSE NEIGHBOUR: 'it returns false'. Refute it at one input. -/
def fnExactFilReadWrong : ChangeSpec := { name := "fnExactFilRead", fn := fun _ => fun
  | [d1, d2, d3, d4] => { results := [.lit (.bool false)], args := [d1, d2, d3, d4] }
  | _ => none }
def FnExactFilReadWrongFalsely : Prop := fnExactFilReadRow.holds Try.pinned (OpenSpec.ofChange fnExactFilReadWrong)

/-- 'laws.FnExactFilCut': WHATEVER THE INPUT: true; the input reads as it did. -/
def fnExactFilCutSpec : ChangeSpec := { name := "fnExactFilCut", fn := fun _ => fun
  | [d1, d2, d3] => { results := [.lit (.bool true)], args := [d1, d2, d3] }
  | _ => none }
def fnExactFilCutRow : OpenClaim := { program := "ytbhnlfpcodeloaa", sum := "6553748e39fc670db7a916b8b289137e90f814549ea92b47e39a4616023ac3a7", func := "loop.example/g00773/laws.FnExactFilCut", spec := "fnExactFilCut", apart := false }
def FnExactFilCutSaid : Prop := fnExactFilCutRow.holds Try.pinned (OpenSpec.ofChange fnExactFilCutSpec)

/-- ITS FALSE NEIGHBOUR: 'it returns false'. Refute it at one input. -/
def fnExactFilCutWrong : ChangeSpec := { name := "fnExactFilCut", fn := fun _ => fun
  | [d1, d2, d3] => { results := [.lit (.bool false)], args := [d1, d2, d3] }
  | _ => none }
def FnExactFilCutWrongFalsely : Prop := fnExactFilCutRow.holds Try.pinned (OpenSpec.ofChange fnExactFilCutWrong)

/-- 'laws.FnExactBlocksOf': WHATEVER THE INPUT: true; the input reads as it did. -/
def fnExactBlocksOfSpec : ChangeSpec := { name := "fnExactBlocksOf", fn := fun _ => fun
  | [d] => { results := [.lit (.bool true)], args := [d] }
  | _ => none }
def fnExactBlocksOfRow : OpenClaim := { program := "ytbhnlfpcodeloaa", sum := "6553748e39fc670db7a916b8b289137e90f814549ea92b47e39a4616023ac3a7", func := "loop.example/g00773/laws.FnExactBlocksOf", spec := "fnExactBlocksOf", recurses := true, apart := false }
def FnExactBlocksOfSaid : Prop := fnExactBlocksOfRow.holds Try.pinned (OpenSpec.ofChange fnExactBlocksOfSpec)

/-- ITS FALSE NEIGHBOUR: 'it returns false'. Refute it at one input. -/
def fnExactBlocksOfWrong : ChangeSpec := { name := "fnExactBlocksOf", fn := fun _ => fun
  | [d] => { results := [.lit (.bool false)], args := [d] }
  | _ => none }
def FnExactBlocksOfWrongFalsely : Prop := fnExactBlocksOfRow.holds Try.pinned (OpenSpec.ofChange fnExactBlocksOfWrong)

/-- 'laws.FnOthers': WHATEVER THE INPUT: true; the input reads as it did. -/
def fnOthersSpec : ChangeSpec := { name := "fnOthers", fn := fun _ => fun
  | [d] => { results := [.lit (.bool true)], args := [d] }
  | _ => none }
def fnOthersRow : OpenClaim := { program := "ytbhnlfpcodeloaa", sum := "6553748e39fc670db7a916b8b289137e90f814549ea92b47e39a4616023ac3a7", func := "loop.example/g00773/laws.FnOthers", spec := "fnOthers", apart := false }
def FnOthersSaid : Prop := fnOthersRow.holds Try.pinned (OpenSpec.ofChange fnOthersSpec)

/-- ITS FALSE NEIGHBOUR: 'it returns false'. Refute it at one input. -/
def fnOthersWrong : ChangeSpec := { name := "fnOthers", fn := fun _ => fun
  | [d] => { results := [.lit (.bool false)], args := [d] }
  | _ => none }
def FnOthersWrongFalsely : Prop := fnOthersRow.holds Try.pinned (OpenSpec.ofChange fnOthersWrong)

/-- 'laws.FnExts': WHATEVER THE INPUT: true; the input reads as it did. -/
def fnExtsSpec : ChangeSpec := { name := "fnExts", fn := fun _ => fun
  | [d] => { results := [.lit (.bool true)], args := [d] }
  | _ => none }
def fnExtsRow : OpenClaim := { program := "ytbhnlfpcodeloaa", sum := "6553748e39fc670db7a916b8b289137e90f814549ea92b47e39a4616023ac3a7", func := "loop.example/g00773/laws.FnExts", spec := "fnExts", recurses := true, apart := false }
def FnExtsSaid : Prop := fnExtsRow.holds Try.pinned (OpenSpec.ofChange fnExtsSpec)

/-- ITS FALSE NEIGHBOUR: 'it returns false'. Refute it at one input. -/
def fnExtsWrong : ChangeSpec := { name := "fnExts", fn := fun _ => fun
  | [d] => { results := [.lit (.bool false)], args := [d] }
  | _ => none }
def FnExtsWrongFalsely : Prop := fnExtsRow.holds Try.pinned (OpenSpec.ofChange fnExtsWrong)

/- THE SECOND FORM. 'bulk': how many values and letters a reading holds, each counted each time it is reached (what is shared counts as often as it is met; a slice's spare places count too). A statement '..UptoSaid' is the law's where the arguments, and the package variables that the reading takes, are together of bulk at most 1048576: NARROWER than '..Said'. Prove '..Said' where nothing that the law and all that it calls make is longer than what came in: it says more and counts as full. Else prove '..UptoSaid'. A law counts once. -/
mutual
def uptoBulk {H : Type} : DataW H → Nat
  | .lit (.string bytes) => bytes.length + 1
  | .lit _ => 1
  | .nil => 1
  | .ptr d => uptoBulk d + 1
  | .slice elems spare => uptoBulkAll elems + uptoBulkAll spare + 1
  | .agg parts => uptoBulkAll parts + 1
  | .iface _ d => uptoBulk d + 1
  | .map entries => uptoBulkEntries entries + 1
  | .held _ => 1
def uptoBulkAll {H : Type} : List (DataW H) → Nat
  | [] => 0
  | d :: r => uptoBulk d + uptoBulkAll r
def uptoBulkEntries {H : Type} : List (Lit × DataW H) → Nat
  | [] => 0
  | x :: r => uptoBulkEntry x + uptoBulkEntries r
def uptoBulkEntry {H : Type} : Lit × DataW H → Nat
  | (.string bytes, d) => bytes.length + uptoBulk d + 1
  | (_, d) => uptoBulk d + 1
 end
def uptoSmall : (H : Type) → List (DataW H) → Bool := fun _ ds => decide (uptoBulkAll ds ≤ 1048576)
def OpenSpec.upto (s : _root_.Go.ChangeSpec) : _root_.Go.OpenSpec := { _root_.Go.OpenSpec.ofChange s with cond := some uptoSmall }

/-- 'laws.FnFile', WHERE WHAT IT READS IS OF BULK AT MOST 1048576: true; the input reads as it did. -/
def fnFileUptoRow : OpenClaim := { program := "ytbhnlfpcodeloaa", sum := "6553748e39fc670db7a916b8b289137e90f814549ea92b47e39a4616023ac3a7", func := "loop.example/g00773/laws.FnFile", spec := "fnFile", apart := false, narrowed := true }
def FnFileUptoSaid : Prop := fnFileUptoRow.holds Try.pinned (OpenSpec.upto fnFileSpec)

/-- 'laws.FnUnits', WHERE WHAT IT READS IS OF BULK AT MOST 1048576: true; the input reads as it did. -/
def fnUnitsUptoRow : OpenClaim := { program := "ytbhnlfpcodeloaa", sum := "6553748e39fc670db7a916b8b289137e90f814549ea92b47e39a4616023ac3a7", func := "loop.example/g00773/laws.FnUnits", spec := "fnUnits", apart := false, narrowed := true }
def FnUnitsUptoSaid : Prop := fnUnitsUptoRow.holds Try.pinned (OpenSpec.upto fnUnitsSpec)

/-- 'laws.FnExactUnits', WHERE WHAT IT READS IS OF BULK AT MOST 1048576: true; the input reads as it did. -/
def fnExactUnitsUptoRow : OpenClaim := { program := "ytbhnlfpcodeloaa", sum := "6553748e39fc670db7a916b8b289137e90f814549ea92b47e39a4616023ac3a7", func := "loop.example/g00773/laws.FnExactUnits", spec := "fnExactUnits", apart := false, narrowed := true }
def FnExactUnitsUptoSaid : Prop := fnExactUnitsUptoRow.holds Try.pinned (OpenSpec.upto fnExactUnitsSpec)

/-- 'laws.FnExactMinus', WHERE WHAT IT READS IS OF BULK AT MOST 1048576: true; the input reads as it did. -/
def fnExactMinusUptoRow : OpenClaim := { program := "ytbhnlfpcodeloaa", sum := "6553748e39fc670db7a916b8b289137e90f814549ea92b47e39a4616023ac3a7", func := "loop.example/g00773/laws.FnExactMinus", spec := "fnExactMinus", apart := false, narrowed := true }
def FnExactMinusUptoSaid : Prop := fnExactMinusUptoRow.holds Try.pinned (OpenSpec.upto fnExactMinusSpec)

/-- 'laws.FnExactBlockAt', WHERE WHAT IT READS IS OF BULK AT MOST 1048576: true; the input reads as it did. -/
def fnExactBlockAtUptoRow : OpenClaim := { program := "ytbhnlfpcodeloaa", sum := "6553748e39fc670db7a916b8b289137e90f814549ea92b47e39a4616023ac3a7", func := "loop.example/g00773/laws.FnExactBlockAt", spec := "fnExactBlockAt", apart := false, narrowed := true }
def FnExactBlockAtUptoSaid : Prop := fnExactBlockAtUptoRow.holds Try.pinned (OpenSpec.upto fnExactBlockAtSpec)

/-- 'laws.FnExactPair', WHERE WHAT IT READS IS OF BULK AT MOST 1048576: true; the input reads as it did. -/
def fnExactPairUptoRow : OpenClaim := { program := "ytbhnlfpcodeloaa", sum := "6553748e39fc670db7a916b8b289137e90f814549ea92b47e39a4616023ac3a7", func := "loop.example/g00773/laws.FnExactPair", spec := "fnExactPair", apart := false, narrowed := true }
def FnExactPairUptoSaid : Prop := fnExactPairUptoRow.holds Try.pinned (OpenSpec.upto fnExactPairSpec)

/-- 'laws.FnExactUnion', WHERE WHAT IT READS IS OF BULK AT MOST 1048576: true; the input reads as it did. -/
def fnExactUnionUptoRow : OpenClaim := { program := "ytbhnlfpcodeloaa", sum := "6553748e39fc670db7a916b8b289137e90f814549ea92b47e39a4616023ac3a7", func := "loop.example/g00773/laws.FnExactUnion", spec := "fnExactUnion", apart := false, narrowed := true }
def FnExactUnionUptoSaid : Prop := fnExactUnionUptoRow.holds Try.pinned (OpenSpec.upto fnExactUnionSpec)

/-- 'laws.FnRanges', WHERE WHAT IT READS IS OF BULK AT MOST 1048576: true; the input reads as it did. -/
def fnRangesUptoRow : OpenClaim := { program := "ytbhnlfpcodeloaa", sum := "6553748e39fc670db7a916b8b289137e90f814549ea92b47e39a4616023ac3a7", func := "loop.example/g00773/laws.FnRanges", spec := "fnRanges", apart := false, narrowed := true }
def FnRangesUptoSaid : Prop := fnRangesUptoRow.holds Try.pinned (OpenSpec.upto fnRangesSpec)

/-- 'laws.FnBits', WHERE WHAT IT READS IS OF BULK AT MOST 1048576: true; the input reads as it did. -/
def fnBitsUptoRow : OpenClaim := { program := "ytbhnlfpcodeloaa", sum := "6553748e39fc670db7a916b8b289137e90f814549ea92b47e39a4616023ac3a7", func := "loop.example/g00773/laws.FnBits", spec := "fnBits", apart := false, narrowed := true }
def FnBitsUptoSaid : Prop := fnBitsUptoRow.holds Try.pinned (OpenSpec.upto fnBitsSpec)

/-- 'laws.FnExactCutAt', WHERE WHAT IT READS IS OF BULK AT MOST 1048576: true; the input reads as it did. -/
def fnExactCutAtUptoRow : OpenClaim := { program := "ytbhnlfpcodeloaa", sum := "6553748e39fc670db7a916b8b289137e90f814549ea92b47e39a4616023ac3a7", func := "loop.example/g00773/laws.FnExactCutAt", spec := "fnExactCutAt", apart := false, narrowed := true }
def FnExactCutAtUptoSaid : Prop := fnExactCutAtUptoRow.holds Try.pinned (OpenSpec.upto fnExactCutAtSpec)

/-- 'laws.FnExactFilOk', WHERE WHAT IT READS IS OF BULK AT MOST 1048576: true; the input reads as it did. -/
def fnExactFilOkUptoRow : OpenClaim := { program := "ytbhnlfpcodeloaa", sum := "6553748e39fc670db7a916b8b289137e90f814549ea92b47e39a4616023ac3a7", func := "loop.example/g00773/laws.FnExactFilOk", spec := "fnExactFilOk", apart := false, narrowed := true }
def FnExactFilOkUptoSaid : Prop := fnExactFilOkUptoRow.holds Try.pinned (OpenSpec.upto fnExactFilOkSpec)

/-- 'laws.FnExactCompose', WHERE WHAT IT READS IS OF BULK AT MOST 1048576: true; the input reads as it did. -/
def fnExactComposeUptoRow : OpenClaim := { program := "ytbhnlfpcodeloaa", sum := "6553748e39fc670db7a916b8b289137e90f814549ea92b47e39a4616023ac3a7", func := "loop.example/g00773/laws.FnExactCompose", spec := "fnExactCompose", recurses := true, apart := false, narrowed := true }
def FnExactComposeUptoSaid : Prop := fnExactComposeUptoRow.holds Try.pinned (OpenSpec.upto fnExactComposeSpec)

/-- 'laws.FnExactFilRead', WHERE WHAT IT READS IS OF BULK AT MOST 1048576: true; the input reads as it did. -/
def fnExactFilReadUptoRow : OpenClaim := { program := "ytbhnlfpcodeloaa", sum := "6553748e39fc670db7a916b8b289137e90f814549ea92b47e39a4616023ac3a7", func := "loop.example/g00773/laws.FnExactFilRead", spec := "fnExactFilRead", apart := false, narrowed := true }
def FnExactFilReadUptoSaid : Prop := fnExactFilReadUptoRow.holds Try.pinned (OpenSpec.upto fnExactFilReadSpec)

/-- 'laws.FnExactFilCut', WHERE WHAT IT READS IS OF BULK AT MOST 1048576: true; the input reads as it did. -/
def fnExactFilCutUptoRow : OpenClaim := { program := "ytbhnlfpcodeloaa", sum := "6553748e39fc670db7a916b8b289137e90f814549ea92b47e39a4616023ac3a7", func := "loop.example/g00773/laws.FnExactFilCut", spec := "fnExactFilCut", apart := false, narrowed := true }
def FnExactFilCutUptoSaid : Prop := fnExactFilCutUptoRow.holds Try.pinned (OpenSpec.upto fnExactFilCutSpec)

/-- 'laws.FnExactBlocksOf', WHERE WHAT IT READS IS OF BULK AT MOST 1048576: true; the input reads as it did. -/
def fnExactBlocksOfUptoRow : OpenClaim := { program := "ytbhnlfpcodeloaa", sum := "6553748e39fc670db7a916b8b289137e90f814549ea92b47e39a4616023ac3a7", func := "loop.example/g00773/laws.FnExactBlocksOf", spec := "fnExactBlocksOf", recurses := true, apart := false, narrowed := true }
def FnExactBlocksOfUptoSaid : Prop := fnExactBlocksOfUptoRow.holds Try.pinned (OpenSpec.upto fnExactBlocksOfSpec)

/-- 'laws.FnOthers', WHERE WHAT IT READS IS OF BULK AT MOST 1048576: true; the input reads as it did. -/
def fnOthersUptoRow : OpenClaim := { program := "ytbhnlfpcodeloaa", sum := "6553748e39fc670db7a916b8b289137e90f814549ea92b47e39a4616023ac3a7", func := "loop.example/g00773/laws.FnOthers", spec := "fnOthers", apart := false, narrowed := true }
def FnOthersUptoSaid : Prop := fnOthersUptoRow.holds Try.pinned (OpenSpec.upto fnOthersSpec)

/-- 'laws.FnExts', WHERE WHAT IT READS IS OF BULK AT MOST 1048576: true; the input reads as it did. -/
def fnExtsUptoRow : OpenClaim := { program := "ytbhnlfpcodeloaa", sum := "6553748e39fc670db7a916b8b289137e90f814549ea92b47e39a4616023ac3a7", func := "loop.example/g00773/laws.FnExts", spec := "fnExts", recurses := true, apart := false, narrowed := true }
def FnExtsUptoSaid : Prop := fnExtsUptoRow.holds Try.pinned (OpenSpec.upto fnExtsSpec)

end Rows
end Go.Proofs.Ytbhnlfpcodeloaa
