/-
Whatever device is drawn, both mount the same; and what a mounted one holds mounts again, with any part of its transaction written.
-/
import Derived.Test.YtmpldngnkacnmaaGreatDoorFnMount
import Derived.Test.YtmpldngnkacnmaaGreatDoorGt
import Derived.Test.YtmpldngnkacnmaaGreatDoorTie
import Derived.Test.YtmpldngnkacnmaaGreatDoorCards
import Derived.Test.YtmpldngnkacnmaaGreatDoorChkD
import Derived.SevenTiedAt
import Derived.ChangeMaps5
namespace Go.Proofs.YtmpldngnkacnmaaGreatDoor.lawFnMount
open Go.ChangeShapes Go.WideShapes Go.ChangeAt Go.RowKit
set_option linter.unusedVariables false
theorem laidHere : laidOutB Tryz.prog = true := by kernel_rfl
theorem door_met (os : Os) (args : Array Value) : laidMetH Tryz.prog Rows.fnMountRow.laid ((World.doorLaid Tryz.prog 400 os).forCall (fun _ _ => 0) ⟨#[], args, []⟩).memory :=
 laidMetH_of_parts3 (fuel := 8) (laidMet_of_run' 8 (by kernel_rfl) (by kernel_rfl)) (by kernel_rfl) (by kernel_rfl)
set_option maxRecDepth 100000 in
theorem lifted (os : Os) (started : os.Started) (H : Type) (enc : TypeId × Value → H) :
 ReturnsInHanded {} Tryz.checked os 3 .any (fun w args => (Rows.fnMountSpec.pre enc Tryz.prog Tryz.f3 [] false w args ∧ laidMetH Tryz.prog Rows.fnMountRow.laid w) ∧ sizedMet enc Tryz.prog Tryz.f3 (OpenSpec.ofChange Rows.fnMountSpec) false w args)
  (Rows.fnMountSpec.post enc Tryz.prog Tryz.f3 false true false false) := by
 refine returnsInHanded_of_change_and (C := Tryz.checked) (X := fun w _ => laidMetH Tryz.prog Rows.fnMountRow.laid w) (fun _ _ _ hh h => h.of_heap hh) own started (by kernel_rfl) Tryz.func3
  (ChangeSpec.witness_shaped (enc := enc) (C := Tryz.checked) (os := os) (X := fun w _ => laidMetH Tryz.prog Rows.fnMountRow.laid w) false (World.doorLaid Tryz.prog 400 os) #[.slice none 0 0] 8 rfl (World.shaped_of_RefB (by kernel_rfl) (by kernel_rfl)) (by kernel_rfl) (by kernel_rfl) (by kernel_rfl) (door_met os _)) ?_
 intro W base args ds gs before hval0 hW _ _ hL _;have hval : ∀ (j : Nat) t v, Tryz.f3.params[j]? = some t → args[j]? = some v → Value.okWide Tryz.prog W .any base t v := hval0;have hW' := hW;obtain ⟨p, q, hA0, hV, rfl, hfz, hnd⟩ := hW;have hA : DataW.TrodAll enc Tryz.prog W 0 (fun _ => true) true Tryz.f3.params.toList args.toList ds p := hA0;rw [Tryz.params3] at hA hval;obtain ⟨v0, vs0, d0, ds0, p0, q0, hargs, rfl, rfl, h0, r0⟩ := trodAll_cons hA;obtain ⟨rfl, rfl, rfl⟩ := trodAll_nil r0;obtain rfl : args = #[v0] := by cases args; simp_all
 obtain ⟨_, _, _, _, _, _, rfl, _, _, _, _, rfl⟩ := trodVars_one hV;have hK : KT W := KT_of_laid (by rw [MakeChecks.laidMetH_plain _ _ _ (by kernel_rfl)] at hL; exact hL);obtain ⟨A0, n0, c0, l0, rfl, hr0, hnc0, hcm0⟩ := rd_code Tryz.underlying22 Tryz.underlying5 (by kernel_rfl) (hval 0 22 v0 rfl rfl) h0;refine (lawFnMount_walk A0 n0 c0 l0 W hr0 (by simp only [maxLen] at hcm0; omega) hK).mono fun e W' ⟨he, hf⟩ => ?_;subst he;exact ⟨_, rfl, law_post hW' rfl rfl Tryz.underlying4 laidHere (by kernel_rfl) (by kernel_rfl) hf⟩
theorem closed : joinedFacts Tryz.pinned.checked.prog 3 Tryz.f3 Rows.fnMountSpec Rows.fnMountRow = true := by
 unfold joinedFacts;rw [chk_stops, chk_enter, chk_final, chk_make]
 kernel_rfl
theorem row_holds : Rows.FnMountSaid :=
 OpenClaim.holds_of_wide 3 Tryz.f3 rfl rfl rfl rfl rfl rfl rfl ⟨rfl, rfl, rfl, rfl, rfl⟩ rfl rfl rfl rfl rfl (by kernel_rfl) Tryz.func3 closed
  (of_decide_eq_true (by kernel_rfl)) (by unfold Func.isWrapper; first | (rw [if_pos (by decide +kernel)]; kernel_rfl) | (rw [if_neg (by decide +kernel)]; exact ⟨rfl, rfl⟩))
  (fun os started H enc _ => lifted os started H enc)
theorem holds : Rows.FnMountCardSaid :=
 Claim7.holds_tied_plain_at .later [] [.data] true _ _
  row_holds (fun _ h => by cases h) (by kernel_rfl) (fun _ h => by cases h) fnMount_row_tie rfl ⟨rfl, rfl⟩ (by kernel_rfl) rfl
  (fun f fn hf hfn => by
   obtain rfl : f = 3 := Option.some.inj ((show Tryz.prog.funcNamed "loop.example/g00773/laws.FnMount" = some 3 by kernel_rfl).symm.trans hf) |>.symm
   obtain rfl : fn = Tryz.f3 := (Option.some.inj (Tryz.func3.symm.trans hfn)).symm;exact ⟨by kernel_rfl, fun j t ht => by
    rw [Tryz.params3] at ht;have hall : ([22] : List TypeId).all (fun t => !Tryz.prog.wantsStandIn t) = true := by kernel_rfl
    have hmem : t ∈ ([22] : List TypeId) := List.mem_of_getElem? (i := j) (by simpa using ht);have hres : Tryz.prog.wantsStandIn t = false := by simpa using List.all_eq_true.1 hall t hmem
    exact hres⟩)
  (by kernel_rfl)
end Go.Proofs.YtmpldngnkacnmaaGreatDoor.lawFnMount
