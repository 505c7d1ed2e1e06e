/-
  NARROWER THAN 'FOR EVERY INPUT', by the rows' own cells (each row's printed sentence says how): FnExactOrder: laid · FnExactStarts: laid · FnExactGlob: laid · FnGlob: laid · FnCompose: laid · FnExactSortNames: laid · FnSorted: laid.
  DERIVED. THE GIVEN ROWS OF THIS SEAT. 7 by the template 'for every input the law returns true; each argument reads behind the call as it read before'; 0 by the template 'total and deterministic' (their statements: YtfmifaneggenoaaDoorTotals.lean).
  GIVEN WITH THE SEED: the statements are not yours to turn. If you find one false, say at which input.
  Laid BY PROGRAM, IN A SANDBOX (cutbox-rows.mjs): the forced cells as the released guide's own fill.sh prints them over the translation b8da4df90ba75776… (all of the seat's roots in one cut). By AI agents, Wed Nov 11 2026. No macro, syntax, notation, axiom, sorry.
-/
import Derived.Test.YtfmifaneggenoaaDoorChecked
import GoSem.Claim
import GoSem.ClaimJoined
import GoSem.ClaimMapViews
import Derived.JoinedTies
import Derived.KernelRfl
namespace Go.Proofs.YtfmifaneggenoaaDoor
/- THE CELL 'sum', in the pinned program and in every row, IS THE sha256 OF THE DUMP (.gsa) THAT YtfmifaneggenoaaDoorProg.lean LOADS. Nothing in Lean hashes anything: it is a label: what it is worth is what the hold of that sum in a sandbox is worth. -/
noncomputable def Tryd.pinned : Pinned := { name := "ytfmifaneggenoaadoor", sum := "b8da4df90ba75776b0d9d2e57342dd0c2e3d1f39208b142289e9d267e060873d", checked := Tryd.checked }
namespace Rows
def none {H : Type} : Left H := { results := [], args := [] }

/- WHAT THE LISTED PACKAGE-LEVEL VARIABLES READ AS WHEN THE CALL BEGINS. Each datum BY PROGRAM (the guide's laid-datum.mjs) off the statement by which the dump's own 'gosem.cut.vars' lays the variable. In a bare row this is a premise. The card (YtfmifaneggenoaaDoorCards.lean) ties it to the program's text. -/
def laid_loop_example_g00773_impl_knownParts {H : Type} : DataW H := .agg [.lit (.int .i64 32), .lit (.int .i64 46), .lit (.int .i64 48), .lit (.int .i64 126), .lit (.int .i64 161), .lit (.int .i64 255), .lit (.int .i64 469), .lit (.int .i64 470), .lit (.int .i64 768), .lit (.int .i64 772), .lit (.int .i64 776), .lit (.int .i64 776), .lit (.int .i64 778), .lit (.int .i64 778), .lit (.int .i64 803), .lit (.int .i64 803), .lit (.int .i64 807), .lit (.int .i64 807), .lit (.int .i64 902), .lit (.int .i64 902), .lit (.int .i64 904), .lit (.int .i64 906), .lit (.int .i64 908), .lit (.int .i64 908), .lit (.int .i64 910), .lit (.int .i64 911), .lit (.int .i64 913), .lit (.int .i64 929), .lit (.int .i64 931), .lit (.int .i64 937), .lit (.int .i64 940), .lit (.int .i64 943), .lit (.int .i64 945), .lit (.int .i64 969), .lit (.int .i64 972), .lit (.int .i64 974), .lit (.int .i64 1040), .lit (.int .i64 1103), .lit (.int .i64 4352), .lit (.int .i64 4370), .lit (.int .i64 4449), .lit (.int .i64 4469), .lit (.int .i64 4520), .lit (.int .i64 4546), .lit (.int .i64 7840), .lit (.int .i64 7841), .lit (.int .i64 7852), .lit (.int .i64 7853), .lit (.int .i64 8486), .lit (.int .i64 8486), .lit (.int .i64 8491), .lit (.int .i64 8491), .lit (.int .i64 44032), .lit (.int .i64 55203)]

/-- 'laws.FnExactOrder': WHATEVER THE INPUT: true; the input reads as it did. -/
def fnExactOrderSpec : ChangeSpec := { name := "fnExactOrder", vars := ["loop.example/g00773/impl.knownParts"], fn := fun _ => fun
  | [d1, d2, g1] => { results := [.lit (.bool true)], args := [d1, d2], vars := [g1] }
  | _ => none }
def fnExactOrderRow : OpenClaim := { program := "ytfmifaneggenoaadoor", sum := "b8da4df90ba75776b0d9d2e57342dd0c2e3d1f39208b142289e9d267e060873d", func := "loop.example/g00773/laws.FnExactOrder", spec := "fnExactOrder", recurses := true, named := ["loop.example/g00773/impl.knownParts"], apart := false, laid := [("loop.example/g00773/impl.knownParts", laid_loop_example_g00773_impl_knownParts)] }
def FnExactOrderSaid : Prop := fnExactOrderRow.holds Tryd.pinned (OpenSpec.ofChange fnExactOrderSpec)

/-- ITS FALSE NEIGHBOUR: 'it returns false'. Refute it at one input. -/
def fnExactOrderWrong : ChangeSpec := { name := "fnExactOrder", vars := ["loop.example/g00773/impl.knownParts"], fn := fun _ => fun
  | [d1, d2, g1] => { results := [.lit (.bool false)], args := [d1, d2], vars := [g1] }
  | _ => none }
def FnExactOrderWrongFalsely : Prop := fnExactOrderRow.holds Tryd.pinned (OpenSpec.ofChange fnExactOrderWrong)

/-- 'laws.FnExactStarts': WHATEVER THE INPUT: true; the input reads as it did. -/
def fnExactStartsSpec : ChangeSpec := { name := "fnExactStarts", vars := ["loop.example/g00773/impl.knownParts"], fn := fun _ => fun
  | [d1, d2, g1] => { results := [.lit (.bool true)], args := [d1, d2], vars := [g1] }
  | _ => none }
def fnExactStartsRow : OpenClaim := { program := "ytfmifaneggenoaadoor", sum := "b8da4df90ba75776b0d9d2e57342dd0c2e3d1f39208b142289e9d267e060873d", func := "loop.example/g00773/laws.FnExactStarts", spec := "fnExactStarts", unfollowed := true, recurses := true, named := ["loop.example/g00773/impl.knownParts"], apart := false, laid := [("loop.example/g00773/impl.knownParts", laid_loop_example_g00773_impl_knownParts)] }
def FnExactStartsSaid : Prop := fnExactStartsRow.holds Tryd.pinned (OpenSpec.ofChange fnExactStartsSpec)

/-- ITS FALSE NEIGHBOUR: 'it returns false'. Refute it at one input. -/
def fnExactStartsWrong : ChangeSpec := { name := "fnExactStarts", vars := ["loop.example/g00773/impl.knownParts"], fn := fun _ => fun
  | [d1, d2, g1] => { results := [.lit (.bool false)], args := [d1, d2], vars := [g1] }
  | _ => none }
def FnExactStartsWrongFalsely : Prop := fnExactStartsRow.holds Tryd.pinned (OpenSpec.ofChange fnExactStartsWrong)

/-- 'laws.FnExactGlob': WHATEVER THE INPUT: true; the input reads as it did. -/
def fnExactGlobSpec : ChangeSpec := { name := "fnExactGlob", vars := ["loop.example/g00773/impl.knownParts"], fn := fun _ => fun
  | [d1, d2, g1] => { results := [.lit (.bool true)], args := [d1, d2], vars := [g1] }
  | _ => none }
def fnExactGlobRow : OpenClaim := { program := "ytfmifaneggenoaadoor", sum := "b8da4df90ba75776b0d9d2e57342dd0c2e3d1f39208b142289e9d267e060873d", func := "loop.example/g00773/laws.FnExactGlob", spec := "fnExactGlob", recurses := true, named := ["loop.example/g00773/impl.knownParts"], apart := false, laid := [("loop.example/g00773/impl.knownParts", laid_loop_example_g00773_impl_knownParts)] }
def FnExactGlobSaid : Prop := fnExactGlobRow.holds Tryd.pinned (OpenSpec.ofChange fnExactGlobSpec)

/-- ITS FALSE NEIGHBOUR: 'it returns false'. Refute it at one input. -/
def fnExactGlobWrong : ChangeSpec := { name := "fnExactGlob", vars := ["loop.example/g00773/impl.knownParts"], fn := fun _ => fun
  | [d1, d2, g1] => { results := [.lit (.bool false)], args := [d1, d2], vars := [g1] }
  | _ => none }
def FnExactGlobWrongFalsely : Prop := fnExactGlobRow.holds Tryd.pinned (OpenSpec.ofChange fnExactGlobWrong)

/-- 'laws.FnGlob': WHATEVER THE INPUT: true; the input reads as it did. -/
def fnGlobSpec : ChangeSpec := { name := "fnGlob", vars := ["loop.example/g00773/impl.knownParts"], fn := fun _ => fun
  | [d, g1] => { results := [.lit (.bool true)], args := [d], vars := [g1] }
  | _ => none }
def fnGlobRow : OpenClaim := { program := "ytfmifaneggenoaadoor", sum := "b8da4df90ba75776b0d9d2e57342dd0c2e3d1f39208b142289e9d267e060873d", func := "loop.example/g00773/laws.FnGlob", spec := "fnGlob", unfollowed := true, recurses := true, named := ["loop.example/g00773/impl.knownParts"], apart := false, laid := [("loop.example/g00773/impl.knownParts", laid_loop_example_g00773_impl_knownParts)] }
def FnGlobSaid : Prop := fnGlobRow.holds Tryd.pinned (OpenSpec.ofChange fnGlobSpec)

/-- ITS FALSE NEIGHBOUR: 'it returns false'. Refute it at one input. -/
def fnGlobWrong : ChangeSpec := { name := "fnGlob", vars := ["loop.example/g00773/impl.knownParts"], fn := fun _ => fun
  | [d, g1] => { results := [.lit (.bool false)], args := [d], vars := [g1] }
  | _ => none }
def FnGlobWrongFalsely : Prop := fnGlobRow.holds Tryd.pinned (OpenSpec.ofChange fnGlobWrong)

/-- 'laws.FnCompose': WHATEVER THE INPUT: true; the input reads as it did. -/
def fnComposeSpec : ChangeSpec := { name := "fnCompose", vars := ["loop.example/g00773/impl.knownParts"], fn := fun _ => fun
  | [d, g1] => { results := [.lit (.bool true)], args := [d], vars := [g1] }
  | _ => none }
def fnComposeRow : OpenClaim := { program := "ytfmifaneggenoaadoor", sum := "b8da4df90ba75776b0d9d2e57342dd0c2e3d1f39208b142289e9d267e060873d", func := "loop.example/g00773/laws.FnCompose", spec := "fnCompose", recurses := true, named := ["loop.example/g00773/impl.knownParts"], apart := false, laid := [("loop.example/g00773/impl.knownParts", laid_loop_example_g00773_impl_knownParts)] }
def FnComposeSaid : Prop := fnComposeRow.holds Tryd.pinned (OpenSpec.ofChange fnComposeSpec)

/-- ITS FALSE NEIGHBOUR: 'it returns false'. Refute it at one input. -/
def fnComposeWrong : ChangeSpec := { name := "fnCompose", vars := ["loop.example/g00773/impl.knownParts"], fn := fun _ => fun
  | [d, g1] => { results := [.lit (.bool false)], args := [d], vars := [g1] }
  | _ => none }
def FnComposeWrongFalsely : Prop := fnComposeRow.holds Tryd.pinned (OpenSpec.ofChange fnComposeWrong)

/-- 'laws.FnExactSortNames': WHATEVER THE INPUT: true; the input reads as it did. -/
def fnExactSortNamesSpec : ChangeSpec := { name := "fnExactSortNames", vars := ["loop.example/g00773/impl.knownParts"], fn := fun _ => fun
  | [d, g1] => { results := [.lit (.bool true)], args := [d], vars := [g1] }
  | _ => none }
def fnExactSortNamesRow : OpenClaim := { program := "ytfmifaneggenoaadoor", sum := "b8da4df90ba75776b0d9d2e57342dd0c2e3d1f39208b142289e9d267e060873d", func := "loop.example/g00773/laws.FnExactSortNames", spec := "fnExactSortNames", unfollowed := true, recurses := true, named := ["loop.example/g00773/impl.knownParts"], apart := false, laid := [("loop.example/g00773/impl.knownParts", laid_loop_example_g00773_impl_knownParts)] }
def FnExactSortNamesSaid : Prop := fnExactSortNamesRow.holds Tryd.pinned (OpenSpec.ofChange fnExactSortNamesSpec)

/-- ITS FALSE NEIGHBOUR: 'it returns false'. Refute it at one input. -/
def fnExactSortNamesWrong : ChangeSpec := { name := "fnExactSortNames", vars := ["loop.example/g00773/impl.knownParts"], fn := fun _ => fun
  | [d, g1] => { results := [.lit (.bool false)], args := [d], vars := [g1] }
  | _ => none }
def FnExactSortNamesWrongFalsely : Prop := fnExactSortNamesRow.holds Tryd.pinned (OpenSpec.ofChange fnExactSortNamesWrong)

/-- 'laws.FnSorted': WHATEVER THE INPUT: true; the input reads as it did. -/
def fnSortedSpec : ChangeSpec := { name := "fnSorted", vars := ["loop.example/g00773/impl.knownParts"], fn := fun _ => fun
  | [d, g1] => { results := [.lit (.bool true)], args := [d], vars := [g1] }
  | _ => none }
def fnSortedRow : OpenClaim := { program := "ytfmifaneggenoaadoor", sum := "b8da4df90ba75776b0d9d2e57342dd0c2e3d1f39208b142289e9d267e060873d", func := "loop.example/g00773/laws.FnSorted", spec := "fnSorted", unfollowed := true, recurses := true, named := ["loop.example/g00773/impl.knownParts"], apart := false, laid := [("loop.example/g00773/impl.knownParts", laid_loop_example_g00773_impl_knownParts)] }
def FnSortedSaid : Prop := fnSortedRow.holds Tryd.pinned (OpenSpec.ofChange fnSortedSpec)

/-- ITS FALSE NEIGHBOUR: 'it returns false'. Refute it at one input. -/
def fnSortedWrong : ChangeSpec := { name := "fnSorted", vars := ["loop.example/g00773/impl.knownParts"], fn := fun _ => fun
  | [d, g1] => { results := [.lit (.bool false)], args := [d], vars := [g1] }
  | _ => none }
def FnSortedWrongFalsely : Prop := fnSortedRow.holds Tryd.pinned (OpenSpec.ofChange fnSortedWrong)

/- THE SECOND FORM. 'bulk': how many values and letters a reading holds, each counted each time it is reached (what is shared counts as often as it is met; a slice's spare places count too). A statement '..UptoSaid' is the law's where the arguments, and the package variables that the reading takes, are together of bulk at most 1048576: NARROWER than '..Said'. Prove '..Said' where nothing that the law and all that it calls make is longer than what came in: it says more and counts as full. Else prove '..UptoSaid'. A law counts once. -/
mutual
def uptoBulk {H : Type} : DataW H → Nat
  | .lit (.string bytes) => bytes.length + 1
  | .lit _ => 1
  | .nil => 1
  | .ptr d => uptoBulk d + 1
  | .slice elems spare => uptoBulkAll elems + uptoBulkAll spare + 1
  | .agg parts => uptoBulkAll parts + 1
  | .iface _ d => uptoBulk d + 1
  | .map entries => uptoBulkEntries entries + 1
  | .held _ => 1
def uptoBulkAll {H : Type} : List (DataW H) → Nat
  | [] => 0
  | d :: r => uptoBulk d + uptoBulkAll r
def uptoBulkEntries {H : Type} : List (Lit × DataW H) → Nat
  | [] => 0
  | x :: r => uptoBulkEntry x + uptoBulkEntries r
def uptoBulkEntry {H : Type} : Lit × DataW H → Nat
  | (.string bytes, d) => bytes.length + uptoBulk d + 1
  | (_, d) => uptoBulk d + 1
 end
def uptoSmall : (H : Type) → List (DataW H) → Bool := fun _ ds => decide (uptoBulkAll ds ≤ 1048576)
def OpenSpec.upto (s : _root_.Go.ChangeSpec) : _root_.Go.OpenSpec := { _root_.Go.OpenSpec.ofChange s with cond := some uptoSmall }

/-- 'laws.FnExactOrder', WHERE WHAT IT READS IS OF BULK AT MOST 1048576: true; the input reads as it did. -/
def fnExactOrderUptoRow : OpenClaim := { program := "ytfmifaneggenoaadoor", sum := "b8da4df90ba75776b0d9d2e57342dd0c2e3d1f39208b142289e9d267e060873d", func := "loop.example/g00773/laws.FnExactOrder", spec := "fnExactOrder", recurses := true, named := ["loop.example/g00773/impl.knownParts"], apart := false, laid := [("loop.example/g00773/impl.knownParts", laid_loop_example_g00773_impl_knownParts)], narrowed := true }
def FnExactOrderUptoSaid : Prop := fnExactOrderUptoRow.holds Tryd.pinned (OpenSpec.upto fnExactOrderSpec)

/-- 'laws.FnExactStarts', WHERE WHAT IT READS IS OF BULK AT MOST 1048576: true; the input reads as it did. -/
def fnExactStartsUptoRow : OpenClaim := { program := "ytfmifaneggenoaadoor", sum := "b8da4df90ba75776b0d9d2e57342dd0c2e3d1f39208b142289e9d267e060873d", func := "loop.example/g00773/laws.FnExactStarts", spec := "fnExactStarts", unfollowed := true, recurses := true, named := ["loop.example/g00773/impl.knownParts"], apart := false, laid := [("loop.example/g00773/impl.knownParts", laid_loop_example_g00773_impl_knownParts)], narrowed := true }
def FnExactStartsUptoSaid : Prop := fnExactStartsUptoRow.holds Tryd.pinned (OpenSpec.upto fnExactStartsSpec)

/-- 'laws.FnExactGlob', WHERE WHAT IT READS IS OF BULK AT MOST 1048576: true; the input reads as it did. -/
def fnExactGlobUptoRow : OpenClaim := { program := "ytfmifaneggenoaadoor", sum := "b8da4df90ba75776b0d9d2e57342dd0c2e3d1f39208b142289e9d267e060873d", func := "loop.example/g00773/laws.FnExactGlob", spec := "fnExactGlob", recurses := true, named := ["loop.example/g00773/impl.knownParts"], apart := false, laid := [("loop.example/g00773/impl.knownParts", laid_loop_example_g00773_impl_knownParts)], narrowed := true }
def FnExactGlobUptoSaid : Prop := fnExactGlobUptoRow.holds Tryd.pinned (OpenSpec.upto fnExactGlobSpec)

/-- 'laws.FnGlob', WHERE WHAT IT READS IS OF BULK AT MOST 1048576: true; the input reads as it did. -/
def fnGlobUptoRow : OpenClaim := { program := "ytfmifaneggenoaadoor", sum := "b8da4df90ba75776b0d9d2e57342dd0c2e3d1f39208b142289e9d267e060873d", func := "loop.example/g00773/laws.FnGlob", spec := "fnGlob", unfollowed := true, recurses := true, named := ["loop.example/g00773/impl.knownParts"], apart := false, laid := [("loop.example/g00773/impl.knownParts", laid_loop_example_g00773_impl_knownParts)], narrowed := true }
def FnGlobUptoSaid : Prop := fnGlobUptoRow.holds Tryd.pinned (OpenSpec.upto fnGlobSpec)

/-- 'laws.FnCompose', WHERE WHAT IT READS IS OF BULK AT MOST 1048576: true; the input reads as it did. -/
def fnComposeUptoRow : OpenClaim := { program := "ytfmifaneggenoaadoor", sum := "b8da4df90ba75776b0d9d2e57342dd0c2e3d1f39208b142289e9d267e060873d", func := "loop.example/g00773/laws.FnCompose", spec := "fnCompose", recurses := true, named := ["loop.example/g00773/impl.knownParts"], apart := false, laid := [("loop.example/g00773/impl.knownParts", laid_loop_example_g00773_impl_knownParts)], narrowed := true }
def FnComposeUptoSaid : Prop := fnComposeUptoRow.holds Tryd.pinned (OpenSpec.upto fnComposeSpec)

/-- 'laws.FnExactSortNames', WHERE WHAT IT READS IS OF BULK AT MOST 1048576: true; the input reads as it did. -/
def fnExactSortNamesUptoRow : OpenClaim := { program := "ytfmifaneggenoaadoor", sum := "b8da4df90ba75776b0d9d2e57342dd0c2e3d1f39208b142289e9d267e060873d", func := "loop.example/g00773/laws.FnExactSortNames", spec := "fnExactSortNames", unfollowed := true, recurses := true, named := ["loop.example/g00773/impl.knownParts"], apart := false, laid := [("loop.example/g00773/impl.knownParts", laid_loop_example_g00773_impl_knownParts)], narrowed := true }
def FnExactSortNamesUptoSaid : Prop := fnExactSortNamesUptoRow.holds Tryd.pinned (OpenSpec.upto fnExactSortNamesSpec)

/-- 'laws.FnSorted', WHERE WHAT IT READS IS OF BULK AT MOST 1048576: true; the input reads as it did. -/
def fnSortedUptoRow : OpenClaim := { program := "ytfmifaneggenoaadoor", sum := "b8da4df90ba75776b0d9d2e57342dd0c2e3d1f39208b142289e9d267e060873d", func := "loop.example/g00773/laws.FnSorted", spec := "fnSorted", unfollowed := true, recurses := true, named := ["loop.example/g00773/impl.knownParts"], apart := false, laid := [("loop.example/g00773/impl.knownParts", laid_loop_example_g00773_impl_knownParts)], narrowed := true }
def FnSortedUptoSaid : Prop := fnSortedUptoRow.holds Tryd.pinned (OpenSpec.upto fnSortedSpec)

end Rows
end Go.Proofs.YtfmifaneggenoaaDoor
