/-
The program folds a row of calls from the first volume on as the reference does, for all rows of calls and all numbers, gives a volume of its own, and leaves what came in as it was.
-/
import Derived.Test.YtllonpbhgbhogaaGreatDoorFoldLaw
import Derived.Test.YtllonpbhgbhogaaGreatDoorGk
import Derived.Test.YtllonpbhgbhogaaGreatDoorTie
import Derived.Test.YtllonpbhgbhogaaGreatDoorCards
import Derived.Test.YtllonpbhgbhogaaGreatDoorChkD
import Derived.SevenTiedAt
import Derived.ChangeMaps5
namespace Go.Proofs.YtllonpbhgbhogaaGreatDoor.lawFnExactFoldCalls
open Go.ChangeShapes Go.WideShapes Go.ChangeAt Go.RowKit
set_option linter.unusedVariables false
theorem door_met (os : Os) (args : Array Value) : laidMetH Tryz.prog Rows.fnExactFoldCallsRow.laid ((World.doorLaid Tryz.prog 400 os).forCall (fun _ _ => 0) ⟨#[], args, []⟩).memory :=
 laidMetH_of_parts3 (fuel := 8) (laidMet_of_run' 8 (by kernel_rfl) (by kernel_rfl)) (by kernel_rfl) (by kernel_rfl)
set_option maxRecDepth 100000 in
theorem lifted (os : Os) (started : os.Started) (H : Type) (enc : TypeId × Value → H) :
 ReturnsInHanded {} Tryz.checked os 7 .any (fun w args => (Rows.fnExactFoldCallsSpec.pre enc Tryz.prog Tryz.f7 [] false w args ∧ laidMetH Tryz.prog Rows.fnExactFoldCallsRow.laid w) ∧ sizedMet enc Tryz.prog Tryz.f7 (OpenSpec.ofChange Rows.fnExactFoldCallsSpec) false w args)
  (Rows.fnExactFoldCallsSpec.post enc Tryz.prog Tryz.f7 false true false false) := by
 refine returnsInHanded_of_change_and (C := Tryz.checked) (X := fun w _ => laidMetH Tryz.prog Rows.fnExactFoldCallsRow.laid w) (fun _ _ _ hh h => h.of_heap hh) own started (by kernel_rfl) Tryz.func7
  (ChangeSpec.witness_shaped (enc := enc) (C := Tryz.checked) (os := os) (X := fun w _ => laidMetH Tryz.prog Rows.fnExactFoldCallsRow.laid w) false (World.doorLaid Tryz.prog 400 os) #[.slice none 0 0, .int .i64 0] 8 rfl (World.shaped_of_RefB (by kernel_rfl) (by kernel_rfl)) (by kernel_rfl) (by kernel_rfl) (by kernel_rfl) (door_met os _)) ?_
 intro W base args ds gs before hval0 hW _ _ hL _;have hval : ∀ (j : Nat) t v, Tryz.f7.params[j]? = some t → args[j]? = some v → Value.okWide Tryz.prog W .any base t v := hval0;have hW' := hW;obtain ⟨p, q, hA0, hV, rfl, hfz, hnd⟩ := hW;have hA : DataW.TrodAll enc Tryz.prog W 0 (fun _ => true) true Tryz.f7.params.toList args.toList ds p := hA0;rw [Tryz.params7] at hA hval;obtain ⟨v0, vs0, d0, ds0, p0, q0, hargs, rfl, rfl, h0, r0⟩ := trodAll_cons hA;obtain ⟨v1, vs1, d1, ds1, p1, q1, rfl, rfl, rfl, h1, r1⟩ := trodAll_cons r0;obtain ⟨rfl, rfl, rfl⟩ := trodAll_nil r1;obtain rfl : args = #[v0, v1] := by cases args; simp_all
 obtain ⟨_, _, _, _, _, _, rfl, _, _, _, _, rfl⟩ := trodVars_one hV;have hK : KT W := KT_of_laid (by rw [MakeChecks.laidMetH_plain _ _ _ (by kernel_rfl)] at hL; exact hL);obtain ⟨kz, rfl, rfl, rfl, wf1⟩ := open_int Tryz.underlying3 (hval 1 3 v1 rfl rfl) h1;obtain ⟨Aq, nq, cq, rfl⟩ := okWide_slice Tryz.underlying53 (hval 0 53 v0 rfl rfl);obtain ⟨fuel, hf⟩ := h0;obtain ⟨A, n, c, l, e0, a1, a2, a3, a4⟩ := rd_calls_of hf;injection e0 with e1 e2 e3;subst e1 e2 e3;refine (lawFnExactFoldCalls_walk Aq nq cq l kz W a1 a2 (by simp only [maxLen] at a4; omega) hK).mono fun e W' ⟨he, hf⟩ => ?_;subst he;exact ⟨_, rfl, law_post hW' rfl rfl Tryz.underlying4 laidOut (by kernel_rfl) (by kernel_rfl) hf⟩
theorem closed : joinedFacts Tryz.pinned.checked.prog 7 Tryz.f7 Rows.fnExactFoldCallsSpec Rows.fnExactFoldCallsRow = true := by
 unfold joinedFacts;rw [chk_stops, chk_enter, chk_final, chk_make]
 kernel_rfl
theorem row_holds : Rows.FnExactFoldCallsSaid :=
 OpenClaim.holds_of_wide 7 Tryz.f7 rfl rfl rfl rfl rfl rfl rfl ⟨rfl, rfl, rfl, rfl, rfl⟩ rfl rfl rfl rfl rfl (by kernel_rfl) Tryz.func7 closed
  (of_decide_eq_true (by kernel_rfl)) (by unfold Func.isWrapper; first | (rw [if_pos (by decide +kernel)]; kernel_rfl) | (rw [if_neg (by decide +kernel)]; exact ⟨rfl, rfl⟩))
  (fun os started H enc _ => lifted os started H enc)
theorem holds : Rows.FnExactFoldCallsCardSaid :=
 Claim7.holds_tied_plain_at .later [] [.data] true _ _
  row_holds (fun _ h => by cases h) (by kernel_rfl) (fun _ h => by cases h) fnExactFoldCalls_row_tie rfl ⟨rfl, rfl⟩ (by kernel_rfl) rfl
  (fun f fn hf hfn => by
   obtain rfl : f = 7 := Option.some.inj ((show Tryz.prog.funcNamed "loop.example/g00773/laws.FnExactFoldCalls" = some 7 by kernel_rfl).symm.trans hf) |>.symm
   obtain rfl : fn = Tryz.f7 := (Option.some.inj (Tryz.func7.symm.trans hfn)).symm;exact ⟨by kernel_rfl, fun j t ht => by
    rw [Tryz.params7] at ht;have hall : ([53, 3] : List TypeId).all (fun t => !Tryz.prog.wantsStandIn t) = true := by kernel_rfl
    have hmem : t ∈ ([53, 3] : List TypeId) := List.mem_of_getElem? (i := j) (by simpa using ht);have hres : Tryz.prog.wantsStandIn t = false := by simpa using List.all_eq_true.1 hall t hmem
    exact hres⟩)
  (by kernel_rfl)
end Go.Proofs.YtllonpbhgbhogaaGreatDoor.lawFnExactFoldCalls
