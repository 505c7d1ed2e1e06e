/-
  RangesOk: the program and the reference say the same of every list of ranges.
-/
import Derived.Test.YtejanpkkhkimcaaDoorL1In
import Derived.Test.YtejanpkkhkimcaaDoorWithin
namespace Go.Proofs.YtejanpkkhkimcaaDoor
open Go.RowKit

set_option maxHeartbeats 1000000 in
theorem implRangesOk_any (A : Option Addr) (n c : Nat) (l : List (Int × Int)) (w : World) (h : Rd w A n 2 (l.flatMap cRange)) (hn : n ≤ 1048576) :
    Calls Tryd.prog 23 #[.slice A n c] w fun e w' => e = .returned (.bool (rOk l)) ∧ Fr w w' := by
  have hl : l.length = n := h.lenk cRange_len (by omega)
  have HL := Lib.hid hl
  clear hl
  go_enter Tryd.func23, Tryd.ntmps23
  go_wp2_with fail
  go_loopw [7] (fun i wr => ∃ k : Nat, k ≤ n ∧ i = .int .i64 k ∧ (∀ j, j < k → rAt l j = true) ∧ Fr w wr) (fun i _ => n - (intOf i).toNat)
  case atStart => exact ⟨0, Nat.zero_le _, rfl, fun j hj => absurd hj (by omega), Below.refl _ _⟩
  case round =>
    obtain ⟨k, hk, rfl, hall, hfr⟩ := hrel
    by_cases hlt : k < n
    · obtain ⟨⟨a, b⟩, hx⟩ := some_at HL.out hlt
      have h' := h.fr hfr
      obtain ⟨bk, of, rfl, hcell⟩ := h'.elem cRange_len hx (by omega)
      have ca := hcell 0 _ rfl; simp only [Nat.add_zero] at ca
      have cb := hcell 1 _ rfl
      have hbk : bk < wr.heap.size := World.block_lt_of_cell? wr _ ca
      have HA := Lib.hid hall
      have HF := Lib.hid hfr
      have HX := Lib.hid hx
      clear hcell h hall hfr hx
      rcases Nat.eq_zero_or_pos k with hk0 | hk0
      · subst hk0
        clear h'
        simp only [Nat.zero_mul, Nat.add_zero] at ca cb
        have HR := Lib.hid (rAt_zero HX.out)
        go_wp2_with fail
        refine wp_region_quiet_lit (by kernel_rfl) (by kernel_rfl) ?_
        repeat (any_goals (first | go_big_quiet_step ((go_at_call 22; exact Calls.quiet_of_same (within_any _ _ _ _))) | quiet_step ((go_at_call 22; exact Calls.quiet_of_same (within_any _ _ _ _))) | (refine wpQuiet_step (fun K hK => ?_); go_simp; split <;> (refine hK _ ?_; clear hK K))))
        all_goals (refine wpQuiet_nil ?_; intro _ hw_; obtain ⟨nq, hw__⟩ := hw_; subst hw__)
        all_goals go_wp2
        all_goals first
          | (go_ret; exact ⟨ret_bool (rOk_no HL.out hlt (by rw [HR.out]; simp [*])).symm, (Fr.al HF.out _).on _⟩)
          | skip
        go_roundw
        case rel => exact ⟨1, by omega, rfl, all_step HA.out (by rw [HR.out]; simp [*]), (Fr.al HF.out _).on _⟩
        case measure => simp [intOf]; omega
      · obtain ⟨k, rfl⟩ : ∃ m, k = m + 1 := ⟨k - 1, by omega⟩
        obtain ⟨⟨a', b'⟩, hx'⟩ := some_at HL.out (show k < n by omega)
        obtain ⟨_, _, e, hcell⟩ := h'.elem cRange_len hx' (by omega)
        injection e with e
        injection e with e1 e2
        subst e1 e2
        have cp := hcell 1 _ rfl
        have hb' := rAt_bounds hx' (HA.out k (by omega))
        have HR := Lib.hid (rAt_succ HX.out hx')
        have hs : IntKind.i64.wrap (b' + 1) = b' + 1 := IntWalk.i64_in _ (by omega)
        clear hcell h' hx'
        go_wp2_with fail
        refine wp_region_quiet_lit (by kernel_rfl) (by kernel_rfl) ?_
        repeat (any_goals (first | go_big_quiet_step ((go_at_call 22; exact Calls.quiet_of_same (within_any _ _ _ _))) | quiet_step ((go_at_call 22; exact Calls.quiet_of_same (within_any _ _ _ _))) | (refine wpQuiet_step (fun K hK => ?_); go_simp; split <;> (refine hK _ ?_; clear hK K))))
        all_goals (refine wpQuiet_nil ?_; intro _ hw_; obtain ⟨nq, hw__⟩ := hw_; subst hw__)
        all_goals go_wp2
        all_goals first
          | (go_ret; exact ⟨ret_bool (rOk_no HL.out hlt (by rw [HR.out]; simp [*])).symm, (Fr.al HF.out _).on _⟩)
          | skip
        go_roundw
        case rel => exact ⟨k + 1 + 1, by omega, by go_num, all_step HA.out (by rw [HR.out]; simp [*]), (Fr.al HF.out _).on _⟩
        case measure => simp [intOf]; omega
    · go_wp2
      go_ret
      obtain rfl : k = n := by omega
      exact ⟨ret_bool (rOk_yes HL.out hall).symm, hfr⟩

set_option maxHeartbeats 1000000 in
theorem specRangesOk_any (A : Option Addr) (n c : Nat) (l : List (Int × Int)) (w : World) (h : Rd w A n 2 (l.flatMap cRange)) (hn : n ≤ 1048576) :
    Calls Tryd.prog 11 #[.slice A n c] w fun e w' => e = .returned (.bool (rOk l)) ∧ Dr w w' := by
  have hl : l.length = n := h.lenk cRange_len (by omega)
  have HL := Lib.hid hl
  clear hl
  go_enter Tryd.func11, Tryd.ntmps11
  go_wp2_with fail
  go_loopw [3] (fun i wr => ∃ k : Nat, k ≤ n ∧ i = .int .i64 k ∧ (∀ j, j < k → rAt l j = true) ∧ Dr w wr) (fun i _ => n - (intOf i).toNat)
  case atStart => exact ⟨0, Nat.zero_le _, rfl, fun j hj => absurd hj (by omega), Dr.refl _⟩
  case round =>
    obtain ⟨k, hk, rfl, hall, hfr⟩ := hrel
    by_cases hlt : k < n
    · obtain ⟨⟨a, b⟩, hx⟩ := some_at HL.out hlt
      have h' := h.fr hfr.fr
      obtain ⟨bk, of, rfl, hcell⟩ := h'.elem cRange_len hx (by omega)
      have ca := hcell 0 _ rfl; simp only [Nat.add_zero] at ca
      have cb := hcell 1 _ rfl
      have HA := Lib.hid hall
      have HX := Lib.hid hx
      have HF := Lib.hid hfr
      clear hcell h hall hfr hx
      rcases Nat.eq_zero_or_pos k with hk0 | hk0
      · subst hk0
        clear h'
        simp only [Nat.zero_mul, Nat.add_zero] at ca cb
        have HR := Lib.hid (rAt_zero HX.out)
        go_wp2_with fail
        refine wp_region_quiet_lit (by kernel_rfl) (by kernel_rfl) ?_
        repeat (any_goals (first | go_big_quiet_step ((go_at_call 21; exact Calls.quiet_of_same (l1In_any _ _ _ _))) | quiet_step ((go_at_call 21; exact Calls.quiet_of_same (l1In_any _ _ _ _))) | (refine wpQuiet_step (fun K hK => ?_); go_simp; split <;> (refine hK _ ?_; clear hK K))))
        all_goals (refine wpQuiet_nil ?_; intro _ hw_; obtain ⟨nq, hw__⟩ := hw_; subst hw__)
        all_goals go_wp2
        all_goals first
          | (go_ret; exact ⟨ret_bool (rOk_no HL.out hlt (by rw [HR.out]; simp [*])).symm, Dr.on HF.out _⟩)
          | skip
        go_roundw
        case rel => exact ⟨1, by omega, rfl, all_step HA.out (by rw [HR.out]; simp [*]), Dr.on HF.out _⟩
        case measure => simp [intOf]; omega
      · obtain ⟨k, rfl⟩ : ∃ m, k = m + 1 := ⟨k - 1, by omega⟩
        obtain ⟨⟨a', b'⟩, hx'⟩ := some_at HL.out (show k < n by omega)
        obtain ⟨_, _, e, hcell⟩ := h'.elem cRange_len hx' (by omega)
        injection e with e
        injection e with e1 e2
        subst e1 e2
        have cp := hcell 1 _ rfl
        have hb' := rAt_bounds hx' (HA.out k (by omega))
        have HR := Lib.hid (rAt_succ HX.out hx')
        have hs : IntKind.i64.wrap (b' + 1) = b' + 1 := IntWalk.i64_in _ (by omega)
        clear hcell h' hx'
        go_wp2_with fail
        refine wp_region_quiet_lit (by kernel_rfl) (by kernel_rfl) ?_
        repeat (any_goals (first | go_big_quiet_step ((go_at_call 21; exact Calls.quiet_of_same (l1In_any _ _ _ _))) | quiet_step ((go_at_call 21; exact Calls.quiet_of_same (l1In_any _ _ _ _))) | (refine wpQuiet_step (fun K hK => ?_); go_simp; split <;> (refine hK _ ?_; clear hK K))))
        all_goals (refine wpQuiet_nil ?_; intro _ hw_; obtain ⟨nq, hw__⟩ := hw_; subst hw__)
        all_goals go_wp2
        all_goals first
          | (go_ret; exact ⟨ret_bool (rOk_no HL.out hlt (by rw [HR.out]; simp [*])).symm, Dr.on HF.out _⟩)
          | skip
        go_roundw
        case rel => exact ⟨k + 1 + 1, by omega, by go_num, all_step HA.out (by rw [HR.out]; simp [*]), Dr.on HF.out _⟩
        case measure => simp [intOf]; omega
    · go_wp2
      go_ret
      obtain rfl : k = n := by omega
      exact ⟨ret_bool (rOk_yes HL.out hall).symm, hfr⟩
end Go.Proofs.YtejanpkkhkimcaaDoor
