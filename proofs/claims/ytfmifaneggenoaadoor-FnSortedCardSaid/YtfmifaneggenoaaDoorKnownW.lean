/-
  Known, the program's and the reference's.
-/
import Derived.Test.YtfmifaneggenoaaDoorMKn
import Derived.Test.YtfmifaneggenoaaDoorHeap
import Derived.Test.YtfmifaneggenoaaDoorInfo
import Derived.Test.YtfmifaneggenoaaDoorL1In
import Derived.Test.YtfmifaneggenoaaDoorWithin
namespace Go.Proofs.YtfmifaneggenoaaDoor
open Go.RowKit

set_option linter.unusedVariables false
set_option maxRecDepth 100000 in
set_option maxHeartbeats 4000000 in
theorem specKnown_any (c : Int) (w : World) :
    Calls Tryd.prog 62 #[.int .i64 c] w fun e w' => e = .returned (.bool (knownS c)) ∧ Fr w w' := by
  have H1 := (Hp.start w).lit 3 1 26 (knFrom.map (Value.int .i64)) rfl (by simp [maxLen])
  have H2 := H1.lit 3 1 26 (knTo.map (Value.int .i64)) rfl (by simp [maxLen])
  have e1 : (w.alloc (.cells (knFrom.map (Value.int .i64)).toArray 3)).heap.size = w.heap.size + 1 := Array.size_push _
  rw [e1] at H2
  clear H1 e1
  go_enter Tryd.func62, Tryd.ntmps62
  go_wp2_with fail
  go_loopw [5] (fun kv wr => ∃ i : Nat, kv = .int .i64 i ∧ i ≤ 26 ∧ (knTbl.take i).any (fun p => inB c p.1 p.2) = false ∧ Hp [] w wr [.row 3 1 (.slice (some ⟨w.heap.size + 1, 0, none⟩) 26 26) 26 (knTo.map (Value.int .i64)), .row 3 1 (.slice (some ⟨w.heap.size, 0, none⟩) 26 26) 26 (knFrom.map (Value.int .i64))]) (fun kv _ => 26 - (intOf kv).toNat)
  case atStart => exact ⟨0, rfl, by omega, rfl, H2⟩
  case round =>
    clear H2
    obtain ⟨i, rfl, hi, hany, H⟩ := hrel
    by_cases hlt : i < 26
    · obtain ⟨⟨p, q⟩, hx⟩ := at_some knTbl_len hlt
      have cp := H.atM 1 rfl (show knFrom[i]? = some p by rw [knFrom_eq, List.getElem?_map, hx]; rfl)
      have cq := H.atM 0 rfl (show knTo[i]? = some q by rw [knTo_eq, List.getElem?_map, hx]; rfl)
      have hi0 : (0 : Int) ≤ (i : Int) := by omega
      have hi1 : (i : Int) < 26 := by omega
      have HX := Lib.hid hx
      have HA := Lib.hid hany
      clear hx hany
      go_wp2_with fail
      refine wp_region_quiet_lit (by kernel_rfl) (by kernel_rfl) ?_
      repeat (any_goals (first | go_big_quiet_step ((go_at_call 60; exact Calls.quiet_of_same (l1In_any _ _ _ _))) | quiet_step ((go_at_call 60; exact Calls.quiet_of_same (l1In_any _ _ _ _))) | (refine wpQuiet_step (fun K hK => ?_); go_simp; split <;> (refine hK _ ?_; clear hK K))))
      all_goals (refine wpQuiet_nil ?_; intro _ hw_; obtain ⟨nq, hw__⟩ := hw_; subst hw__)
      replace H := H.on nq
      have hbb : inB c p q = true ∨ inB c p q = false := by cases inB c p q <;> simp
      rcases hbb with hb | hb
      · rw [hb]
        go_wp2_with fail
        go_ret
        refine ⟨ret_bool ?_, H.fr⟩
        have : knTbl.any (fun p => inB c p.1 p.2) = true := List.any_eq_true.2 ⟨(p, q), HX.out.mem, hb⟩
        rw [knownS, this, Bool.true_and]
        by_cases h47 : c = 47 <;> simp [h47]
      · rw [hb]
        go_wp2_with fail
        go_roundw
        case rel => exact ⟨i + 1, by go_num, by omega, by rw [At.take HX.out, List.any_append, HA.out]; simpa using hb, H⟩
        case measure => simp [intOf]; omega
    · have hi26 : i = 26 := by omega
      have HA := Lib.hid hany
      clear hany
      go_wp2_with fail
      go_ret
      refine ⟨?_, H.fr⟩
      have h := HA.out
      rw [hi26, List.take_of_length_le (by rw [knTbl_len]; omega)] at h
      rw [knownS, h]
      rfl

/-- The program's table of known signs lies where its initialiser laid it. -/
def KT (w : World) : Prop := Rd w (some ⟨0, 0, none⟩) 27 2 (kpPairs.flatMap cPair)
theorem KT.fr {w w' : World} (h : KT w) (f : Fr w w') : KT w' := Rd.fr (show Rd w (some ⟨0, 0, none⟩) 27 2 (kpPairs.flatMap cPair) from h) f
theorem KT.cells {w : World} (h : KT w) {k : Nat} {p q : Int} (hx : At kpPairs k (p, q)) : w.cell? ⟨0, k * 2, none⟩ = some (.int .i64 p) ∧ w.cell? ⟨0, k * 2 + 1, none⟩ = some (.int .i64 q) := by
  have h' : Rd w (some ⟨0, 0, none⟩) 27 2 (kpPairs.flatMap cPair) := h
  obtain ⟨bk, of, e, hcell⟩ := h'.elem (f := cPair) (fun _ => rfl) hx (by omega)
  injection e with e
  injection e with e1 e2
  subst e1 e2
  have ca := hcell 0 _ rfl
  have cb := hcell 1 _ rfl
  simp only [Nat.zero_add, Nat.add_zero] at ca cb
  exact ⟨ca, cb⟩
set_option maxRecDepth 100000 in
set_option maxHeartbeats 4000000 in
theorem implKnown_any (c : Int) (w : World) (hk : KT w) :
    Calls Tryd.prog 81 #[.int .i64 c] w fun e w' => e = .returned (.bool (knownS c)) ∧ Fr w w' := by
  have G := Lib.hid hk
  clear hk
  go_enter Tryd.func81, Tryd.ntmps81
  go_wp2_with fail
  go_loopw [3] (fun iv wr => ∃ (k p : Nat), iv = .int .i64 p ∧ p = k * 2 ∧ k ≤ 27 ∧ (kpPairs.take k).any (fun p => inB c p.1 p.2) = false ∧ Fr w wr) (fun iv _ => 54 - (intOf iv).toNat)
  case atStart => exact ⟨0, 0, rfl, rfl, by omega, rfl, Below.refl _ _⟩
  case round =>
    obtain ⟨k, p, rfl, hp, hk, hany, hf⟩ := hrel
    by_cases hlt : k < 27
    · obtain ⟨⟨u, v⟩, hx⟩ := at_some kpPairs_len hlt
      obtain ⟨ca, cb⟩ := KT.cells (G.out.fr hf) hx
      obtain ⟨p1, hp1⟩ : ∃ q : Nat, q = p + 1 := ⟨_, rfl⟩
      rw [← hp] at ca cb
      rw [← hp1] at cb
      have hw : IntKind.i64.wrap ((p : Int) + 1) = (p1 : Int) := by rw [IntWalk.i64_in _ (by omega)]; omega
      have HX := Lib.hid hx
      have HA := Lib.hid hany
      have HP := Lib.hid hp
      have hp54 : p < 54 := by omega
      have h0 : (0 : Int) ≤ (p : Int) := by omega
      have h1 : (p : Int) < 54 := by omega
      have h2 : (0 : Int) ≤ (p1 : Int) := by omega
      have h3 : (p1 : Int) < 54 := by omega
      have HF := Lib.hid hf
      clear hx hp hp1 hany hf
      go_wp2_with fail
      refine wp_region_quiet_lit (by kernel_rfl) (by kernel_rfl) ?_
      repeat (any_goals (first | go_big_quiet_step ((go_at_call 71; exact Calls.quiet_of_same (within_any _ _ _ _))) | quiet_step ((go_at_call 71; exact Calls.quiet_of_same (within_any _ _ _ _))) | (refine wpQuiet_step (fun K hK => ?_); go_simp; split <;> (refine hK _ ?_; clear hK K))))
      all_goals (refine wpQuiet_nil ?_; intro _ hw_; obtain ⟨nq, hw__⟩ := hw_; subst hw__)
      have hf := HF.out.on nq
      have hbb : inB c u v = true ∨ inB c u v = false := by cases inB c u v <;> simp
      rcases hbb with hb | hb
      · have HE := Lib.hid (show knownS c = true by rw [← pairs_known]; exact List.any_eq_true.2 ⟨(u, v), HX.out.mem, hb⟩)
        rw [hb]
        go_wp2_with fail
        go_ret
        rw [HE.out]
        exact ⟨rfl, hf⟩
      · rw [hb]
        go_wp2_with fail
        go_roundw
        case rel => exact ⟨k + 1, p + 2, by go_num, by have := HP.out; omega, by omega, by rw [At.take HX.out, List.any_append, HA.out]; simpa using hb, hf⟩
        case measure => simp [intOf]; omega
    · have hge : ¬ ((p : Int) < 54) := by omega
      have HE := Lib.hid (show knownS c = false by
        rw [List.take_of_length_le (by rw [kpPairs_len]; omega)] at hany
        rw [← pairs_known]; exact hany)
      clear hany
      go_wp2_with fail
      go_ret
      rw [HE.out]
      exact ⟨rfl, hf⟩
end Go.Proofs.YtfmifaneggenoaaDoor
