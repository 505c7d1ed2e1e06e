/-
  RangesOk: the program and the reference say the same of every list of ranges.
-/
import Derived.Test.YtbhnlfpcodeloaaRangeS
namespace Go.Proofs.Ytbhnlfpcodeloaa
open Go.RowKit

/-- Is x from lo to hi? -/
def inB (x lo hi : Int) : Bool := decide (lo ≤ x) && decide (x ≤ hi)

theorem within_any (x lo hi : Int) (w : World) :
    Calls Try.prog 104 #[.int .i64 x, .int .i64 lo, .int .i64 hi] w fun e w' => e = .returned (.bool (inB x lo hi)) ∧ w' = w := by
  go_enter Try.func104, Try.ntmps104
  go_wp2
  all_goals go_ret
  · exact ⟨by simp [inB, *], rfl⟩
  · exact ⟨by simp [inB]; omega, rfl⟩

theorem l1In_any (x lo hi : Int) (w : World) :
    Calls Try.prog 110 #[.int .i64 x, .int .i64 lo, .int .i64 hi] w fun e w' => e = .returned (.bool (inB x lo hi)) ∧ w' = w := by
  go_enter Try.func110, Try.ntmps110
  go_wp2
  all_goals go_ret
  · exact ⟨by simp [inB, *], rfl⟩
  · exact ⟨by simp [inB]; omega, rfl⟩

/-- Is the range at place i right, as it stands behind the one ahead? -/
def rAt (l : List (Int × Int)) (i : Nat) : Bool :=
  inB (l.getD i (0, 0)).1 0 1114111 && inB (l.getD i (0, 0)).2 (l.getD i (0, 0)).1 1114111 && !(decide (0 < i) && decide ((l.getD i (0, 0)).1 ≤ (l.getD (i - 1) (0, 0)).2 + 1))
def rOk (l : List (Int × Int)) : Bool := (List.range l.length).all (rAt l)

theorem rAt_zero {l : List (Int × Int)} {a b : Int} (h : l[0]? = some (a, b)) : rAt l 0 = (inB a 0 1114111 && inB b a 1114111) := by
  simp [rAt, h]
theorem rAt_succ {l : List (Int × Int)} {k : Nat} {a b a' b' : Int} (h : l[k + 1]? = some (a, b)) (h' : l[k]? = some (a', b')) :
    rAt l (k + 1) = (inB a 0 1114111 && inB b a 1114111 && !decide (a ≤ b' + 1)) := by
  simp [rAt, h, h']
theorem rOk_yes {l : List (Int × Int)} {n : Nat} (hl : l.length = n) (h : ∀ j, j < n → rAt l j = true) : rOk l = true := by
  subst hl
  simpa [rOk] using h
theorem rOk_no {l : List (Int × Int)} {n k : Nat} (hl : l.length = n) (hk : k < n) (h : rAt l k = false) : rOk l = false := by
  subst hl
  simp only [rOk, List.all_eq_false, List.mem_range]
  exact ⟨k, hk, by simp [h]⟩
theorem all_step {p : Nat → Bool} {k : Nat} (h : ∀ j, j < k → p j = true) (hk : p k = true) : ∀ j, j < k + 1 → p j = true := by
  intro j hj
  rcases Nat.lt_or_ge j k with h1 | h1
  · exact h j h1
  · obtain rfl : j = k := by omega
    exact hk
theorem inB_iff {x lo hi : Int} : inB x lo hi = true ↔ lo ≤ x ∧ x ≤ hi := by simp [inB]
theorem rAt_bounds {l : List (Int × Int)} {k : Nat} {a b : Int} (hx : l[k]? = some (a, b)) (h : rAt l k = true) : 0 ≤ b ∧ b ≤ 1114111 := by
  simp only [rAt, List.getD, hx, Option.getD_some, Bool.and_eq_true, inB_iff] at h
  omega

set_option maxHeartbeats 1000000 in
theorem implRangesOk_any (A : Option Addr) (n c : Nat) (l : List (Int × Int)) (w : World) (h : Rd w A n 2 (l.flatMap cRange)) (hn : n ≤ 1048576) :
    Calls Try.prog 120 #[.slice A n c] w fun e w' => e = .returned (.bool (rOk l)) ∧ Fr w w' := by
  have hl : l.length = n := h.lenk cRange_len (by omega)
  have HL := Lib.hid hl
  clear hl
  go_enter Try.func120, Try.ntmps120
  go_wp2_with fail
  go_loopw [7] (fun i wr => ∃ k : Nat, k ≤ n ∧ i = .int .i64 k ∧ (∀ j, j < k → rAt l j = true) ∧ Fr w wr) (fun i _ => n - (intOf i).toNat)
  case atStart => exact ⟨0, Nat.zero_le _, rfl, fun j hj => absurd hj (by omega), Below.refl _ _⟩
  case round =>
    obtain ⟨k, hk, rfl, hall, hfr⟩ := hrel
    by_cases hlt : k < n
    · obtain ⟨⟨a, b⟩, hx⟩ := some_at HL.out hlt
      have h' := h.fr hfr
      obtain ⟨bk, of, rfl, hcell⟩ := h'.elem cRange_len hx (by omega)
      have ca := hcell 0 _ rfl; simp only [Nat.add_zero] at ca
      have cb := hcell 1 _ rfl
      have hbk : bk < wr.heap.size := World.block_lt_of_cell? wr _ ca
      have HA := Lib.hid hall
      have HF := Lib.hid hfr
      have HX := Lib.hid hx
      clear hcell h hall hfr hx
      rcases Nat.eq_zero_or_pos k with hk0 | hk0
      · subst hk0
        clear h'
        simp only [Nat.zero_mul, Nat.add_zero] at ca cb
        have HR := Lib.hid (rAt_zero HX.out)
        go_wp2_with fail
        refine wp_region_quiet_lit (by kernel_rfl) (by kernel_rfl) ?_
        repeat (any_goals (first | go_big_quiet_step ((go_at_call 104; exact Calls.quiet_of_same (within_any _ _ _ _))) | quiet_step ((go_at_call 104; exact Calls.quiet_of_same (within_any _ _ _ _))) | (refine wpQuiet_step (fun K hK => ?_); go_simp; split <;> (refine hK _ ?_; clear hK K))))
        all_goals (refine wpQuiet_nil ?_; intro _ hw_; obtain ⟨nq, hw__⟩ := hw_; subst hw__)
        all_goals go_wp2
        all_goals first
          | (go_ret; exact ⟨ret_bool (rOk_no HL.out hlt (by rw [HR.out]; simp [*])).symm, (Fr.al HF.out _).on _⟩)
          | skip
        go_roundw
        case rel => exact ⟨1, by omega, rfl, all_step HA.out (by rw [HR.out]; simp [*]), (Fr.al HF.out _).on _⟩
        case measure => simp [intOf]; omega
      · obtain ⟨k, rfl⟩ : ∃ m, k = m + 1 := ⟨k - 1, by omega⟩
        obtain ⟨⟨a', b'⟩, hx'⟩ := some_at HL.out (show k < n by omega)
        obtain ⟨_, _, e, hcell⟩ := h'.elem cRange_len hx' (by omega)
        injection e with e
        injection e with e1 e2
        subst e1 e2
        have cp := hcell 1 _ rfl
        have hb' := rAt_bounds hx' (HA.out k (by omega))
        have HR := Lib.hid (rAt_succ HX.out hx')
        have hs : IntKind.i64.wrap (b' + 1) = b' + 1 := IntWalk.i64_in _ (by omega)
        clear hcell h' hx'
        go_wp2_with fail
        refine wp_region_quiet_lit (by kernel_rfl) (by kernel_rfl) ?_
        repeat (any_goals (first | go_big_quiet_step ((go_at_call 104; exact Calls.quiet_of_same (within_any _ _ _ _))) | quiet_step ((go_at_call 104; exact Calls.quiet_of_same (within_any _ _ _ _))) | (refine wpQuiet_step (fun K hK => ?_); go_simp; split <;> (refine hK _ ?_; clear hK K))))
        all_goals (refine wpQuiet_nil ?_; intro _ hw_; obtain ⟨nq, hw__⟩ := hw_; subst hw__)
        all_goals go_wp2
        all_goals first
          | (go_ret; exact ⟨ret_bool (rOk_no HL.out hlt (by rw [HR.out]; simp [*])).symm, (Fr.al HF.out _).on _⟩)
          | skip
        go_roundw
        case rel => exact ⟨k + 1 + 1, by omega, by go_num, all_step HA.out (by rw [HR.out]; simp [*]), (Fr.al HF.out _).on _⟩
        case measure => simp [intOf]; omega
    · go_wp2
      go_ret
      obtain rfl : k = n := by omega
      exact ⟨ret_bool (rOk_yes HL.out hall).symm, hfr⟩

set_option maxHeartbeats 1000000 in
theorem specRangesOk_any (A : Option Addr) (n c : Nat) (l : List (Int × Int)) (w : World) (h : Rd w A n 2 (l.flatMap cRange)) (hn : n ≤ 1048576) :
    Calls Try.prog 58 #[.slice A n c] w fun e w' => e = .returned (.bool (rOk l)) ∧ Dr w w' := by
  have hl : l.length = n := h.lenk cRange_len (by omega)
  have HL := Lib.hid hl
  clear hl
  go_enter Try.func58, Try.ntmps58
  go_wp2_with fail
  go_loopw [3] (fun i wr => ∃ k : Nat, k ≤ n ∧ i = .int .i64 k ∧ (∀ j, j < k → rAt l j = true) ∧ Dr w wr) (fun i _ => n - (intOf i).toNat)
  case atStart => exact ⟨0, Nat.zero_le _, rfl, fun j hj => absurd hj (by omega), Dr.refl _⟩
  case round =>
    obtain ⟨k, hk, rfl, hall, hfr⟩ := hrel
    by_cases hlt : k < n
    · obtain ⟨⟨a, b⟩, hx⟩ := some_at HL.out hlt
      have h' := h.fr hfr.fr
      obtain ⟨bk, of, rfl, hcell⟩ := h'.elem cRange_len hx (by omega)
      have ca := hcell 0 _ rfl; simp only [Nat.add_zero] at ca
      have cb := hcell 1 _ rfl
      have HA := Lib.hid hall
      have HX := Lib.hid hx
      have HF := Lib.hid hfr
      clear hcell h hall hfr hx
      rcases Nat.eq_zero_or_pos k with hk0 | hk0
      · subst hk0
        clear h'
        simp only [Nat.zero_mul, Nat.add_zero] at ca cb
        have HR := Lib.hid (rAt_zero HX.out)
        go_wp2_with fail
        refine wp_region_quiet_lit (by kernel_rfl) (by kernel_rfl) ?_
        repeat (any_goals (first | go_big_quiet_step ((go_at_call 110; exact Calls.quiet_of_same (l1In_any _ _ _ _))) | quiet_step ((go_at_call 110; exact Calls.quiet_of_same (l1In_any _ _ _ _))) | (refine wpQuiet_step (fun K hK => ?_); go_simp; split <;> (refine hK _ ?_; clear hK K))))
        all_goals (refine wpQuiet_nil ?_; intro _ hw_; obtain ⟨nq, hw__⟩ := hw_; subst hw__)
        all_goals go_wp2
        all_goals first
          | (go_ret; exact ⟨ret_bool (rOk_no HL.out hlt (by rw [HR.out]; simp [*])).symm, Dr.on HF.out _⟩)
          | skip
        go_roundw
        case rel => exact ⟨1, by omega, rfl, all_step HA.out (by rw [HR.out]; simp [*]), Dr.on HF.out _⟩
        case measure => simp [intOf]; omega
      · obtain ⟨k, rfl⟩ : ∃ m, k = m + 1 := ⟨k - 1, by omega⟩
        obtain ⟨⟨a', b'⟩, hx'⟩ := some_at HL.out (show k < n by omega)
        obtain ⟨_, _, e, hcell⟩ := h'.elem cRange_len hx' (by omega)
        injection e with e
        injection e with e1 e2
        subst e1 e2
        have cp := hcell 1 _ rfl
        have hb' := rAt_bounds hx' (HA.out k (by omega))
        have HR := Lib.hid (rAt_succ HX.out hx')
        have hs : IntKind.i64.wrap (b' + 1) = b' + 1 := IntWalk.i64_in _ (by omega)
        clear hcell h' hx'
        go_wp2_with fail
        refine wp_region_quiet_lit (by kernel_rfl) (by kernel_rfl) ?_
        repeat (any_goals (first | go_big_quiet_step ((go_at_call 110; exact Calls.quiet_of_same (l1In_any _ _ _ _))) | quiet_step ((go_at_call 110; exact Calls.quiet_of_same (l1In_any _ _ _ _))) | (refine wpQuiet_step (fun K hK => ?_); go_simp; split <;> (refine hK _ ?_; clear hK K))))
        all_goals (refine wpQuiet_nil ?_; intro _ hw_; obtain ⟨nq, hw__⟩ := hw_; subst hw__)
        all_goals go_wp2
        all_goals first
          | (go_ret; exact ⟨ret_bool (rOk_no HL.out hlt (by rw [HR.out]; simp [*])).symm, Dr.on HF.out _⟩)
          | skip
        go_roundw
        case rel => exact ⟨k + 1 + 1, by omega, by go_num, all_step HA.out (by rw [HR.out]; simp [*]), Dr.on HF.out _⟩
        case measure => simp [intOf]; omega
    · go_wp2
      go_ret
      obtain rfl : k = n := by omega
      exact ⟨ret_bool (rOk_yes HL.out hall).symm, hfr⟩
end Go.Proofs.Ytbhnlfpcodeloaa
