/-
The program does a call on a volume as the reference does, at all volumes and all calls, gives a volume of its own, and leaves what came in as it was.
-/
import Derived.Test.YtllonpbhgbhogaaGreatDoorVolDoLaw
import Derived.Test.YtllonpbhgbhogaaGreatDoorGk
import Derived.Test.YtllonpbhgbhogaaGreatDoorTie
import Derived.Test.YtllonpbhgbhogaaGreatDoorCards
import Derived.Test.YtllonpbhgbhogaaGreatDoorChkD
import Derived.SevenTiedAt
import Derived.ChangeMaps5
namespace Go.Proofs.YtllonpbhgbhogaaGreatDoor.lawFnExactVolDo
open Go.ChangeShapes Go.WideShapes Go.ChangeAt Go.RowKit
set_option linter.unusedVariables false
theorem door_met (os : Os) (args : Array Value) : laidMetH Tryz.prog Rows.fnExactVolDoRow.laid ((World.doorLaid Tryz.prog 400 os).forCall (fun _ _ => 0) ⟨#[], args, []⟩).memory :=
 laidMetH_of_parts3 (fuel := 8) (laidMet_of_run' 8 (by kernel_rfl) (by kernel_rfl)) (by kernel_rfl) (by kernel_rfl)
set_option maxRecDepth 100000 in
theorem lifted (os : Os) (started : os.Started) (H : Type) (enc : TypeId × Value → H) :
 ReturnsInHanded {} Tryz.checked os 3 .any (fun w args => (Rows.fnExactVolDoSpec.pre enc Tryz.prog Tryz.f3 [] false w args ∧ laidMetH Tryz.prog Rows.fnExactVolDoRow.laid w) ∧ sizedMet enc Tryz.prog Tryz.f3 (OpenSpec.ofChange Rows.fnExactVolDoSpec) false w args)
  (Rows.fnExactVolDoSpec.post enc Tryz.prog Tryz.f3 false true false false) := by
 refine returnsInHanded_of_change_and (C := Tryz.checked) (X := fun w _ => laidMetH Tryz.prog Rows.fnExactVolDoRow.laid w) (fun _ _ _ hh h => h.of_heap hh) own started (by kernel_rfl) Tryz.func3
  (ChangeSpec.witness_shaped (enc := enc) (C := Tryz.checked) (os := os) (X := fun w _ => laidMetH Tryz.prog Rows.fnExactVolDoRow.laid w) false (World.doorLaid Tryz.prog 400 os) #[.agg #[.int .i64 0, .slice none 0 0], .agg #[.int .i64 0, .int .i64 0, .string ⟨#[]⟩, .int .i64 0, .string ⟨#[]⟩, .string ⟨#[]⟩]] 8 rfl (World.shaped_of_RefB (by kernel_rfl) (by kernel_rfl)) (by kernel_rfl) (by kernel_rfl) (by kernel_rfl) (door_met os _)) ?_
 intro W base args ds gs before hval0 hW _ _ hL _;have hval : ∀ (j : Nat) t v, Tryz.f3.params[j]? = some t → args[j]? = some v → Value.okWide Tryz.prog W .any base t v := hval0;have hW' := hW;obtain ⟨p, q, hA0, hV, rfl, hfz, hnd⟩ := hW;have hA : DataW.TrodAll enc Tryz.prog W 0 (fun _ => true) true Tryz.f3.params.toList args.toList ds p := hA0;rw [Tryz.params3] at hA hval;obtain ⟨v0, vs0, d0, ds0, p0, q0, hargs, rfl, rfl, h0, r0⟩ := trodAll_cons hA;obtain ⟨v1, vs1, d1, ds1, p1, q1, rfl, rfl, rfl, h1, r1⟩ := trodAll_cons r0;obtain ⟨rfl, rfl, rfl⟩ := trodAll_nil r1;obtain rfl : args = #[v0, v1] := by cases args; simp_all
 obtain ⟨_, _, _, _, _, _, rfl, _, _, _, _, rfl⟩ := trodVars_one hV;have hK : KT W := KT_of_laid (by rw [MakeChecks.laidMetH_plain _ _ _ (by kernel_rfl)] at hL; exact hL);obtain ⟨cs, rfl, hsz⟩ := okWide_struct Tryz.underlying24 (hval 0 24 v0 rfl rfl);obtain ⟨cs2, rfl, hsz2⟩ := okWide_struct Tryz.underlying26 (hval 1 26 v1 rfl rfl);obtain ⟨fuel, hf⟩ := h0;obtain ⟨fuel2, hf2⟩ := h1;have hcl : cs.toList.length = 2 := by
  have : Tryz.prog.cellsOf 24 = 2 := by kernel_rfl
  rw [this] at hsz; simpa using hsz
 have hcl2 : cs2.toList.length = 6 := by
  have : Tryz.prog.cellsOf 26 = 6 := by kernel_rfl
  rw [this] at hsz2; simpa using hsz2
 have hf3 : DataW.trod enc Tryz.prog W 0 (fun _ => true) true fuel 24 cs.toList = some (d0, p0) := hf;have hf4 : DataW.trod enc Tryz.prog W 0 (fun _ => true) true fuel2 26 cs2.toList = some (d1, p1) := hf2;obtain ⟨next, A, n, c, L, ecs, a1, a2, a3, a4, _⟩ := vol_of hcl hf3;obtain ⟨x0, x1, x2, x3, x4, x5, ecs2, b1, b2, b3, _, _, _⟩ := call_of hcl2 hf4;obtain rfl : cs = #[.int .i64 next, .slice A n c] := by
  apply Array.toList_inj.1; exact ecs
 obtain rfl : cs2 = #[.int .i64 x0, .int .i64 x1, .string x2, .int .i64 x3, .string x4, .string x5] := by
  apply Array.toList_inj.1; exact ecs2
 refine (lawFnExactVolDo_walk next A n c L x0 x1 x2 x3 x4 x5 W a1 a2 (by simp only [maxLen] at a4; omega) b1 b2 b3 hK).mono fun e W' ⟨he, hf⟩ => ?_;subst he;exact ⟨_, rfl, law_post hW' rfl rfl Tryz.underlying4 laidOut (by kernel_rfl) (by kernel_rfl) hf⟩
theorem closed : joinedFacts Tryz.pinned.checked.prog 3 Tryz.f3 Rows.fnExactVolDoSpec Rows.fnExactVolDoRow = true := by
 unfold joinedFacts;rw [chk_stops, chk_enter, chk_final, chk_make]
 kernel_rfl
theorem row_holds : Rows.FnExactVolDoSaid :=
 OpenClaim.holds_of_wide 3 Tryz.f3 rfl rfl rfl rfl rfl rfl rfl ⟨rfl, rfl, rfl, rfl, rfl⟩ rfl rfl rfl rfl rfl (by kernel_rfl) Tryz.func3 closed
  (of_decide_eq_true (by kernel_rfl)) (by unfold Func.isWrapper; first | (rw [if_pos (by decide +kernel)]; kernel_rfl) | (rw [if_neg (by decide +kernel)]; exact ⟨rfl, rfl⟩))
  (fun os started H enc _ => lifted os started H enc)
theorem holds : Rows.FnExactVolDoCardSaid :=
 Claim7.holds_tied_plain_at .later [] [.data] true _ _
  row_holds (fun _ h => by cases h) (by kernel_rfl) (fun _ h => by cases h) fnExactVolDo_row_tie rfl ⟨rfl, rfl⟩ (by kernel_rfl) rfl
  (fun f fn hf hfn => by
   obtain rfl : f = 3 := Option.some.inj ((show Tryz.prog.funcNamed "loop.example/g00773/laws.FnExactVolDo" = some 3 by kernel_rfl).symm.trans hf) |>.symm
   obtain rfl : fn = Tryz.f3 := (Option.some.inj (Tryz.func3.symm.trans hfn)).symm;exact ⟨by kernel_rfl, fun j t ht => by
    rw [Tryz.params3] at ht;have hall : ([24, 26] : List TypeId).all (fun t => !Tryz.prog.wantsStandIn t) = true := by kernel_rfl
    have hmem : t ∈ ([24, 26] : List TypeId) := List.mem_of_getElem? (i := j) (by simpa using ht);have hres : Tryz.prog.wantsStandIn t = false := by simpa using List.all_eq_true.1 hall t hmem
    exact hres⟩)
  (by kernel_rfl)
end Go.Proofs.YtllonpbhgbhogaaGreatDoor.lawFnExactVolDo
