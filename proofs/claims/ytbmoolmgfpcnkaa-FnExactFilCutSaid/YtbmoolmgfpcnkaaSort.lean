/-
  slices.Sort at a short row of ints of the call's own: the same ints, rising.
-/
import Derived.Test.YtbmoolmgfpcnkaaBytes
namespace Go.Proofs.Ytbmoolmgfpcnkaa
open Go.RowKit

def Ups (k : Nat) (ys : List Int) : Prop := ∀ p q x y, p < q → q < k → ys[p]? = some x → ys[q]? = some y → x ≤ y
def Exc (k j : Nat) (ys : List Int) : Prop := ∀ p q x y, p < q → q ≤ k → q ≠ j → ys[p]? = some x → ys[q]? = some y → x ≤ y
theorem Exc.start {k : Nat} {ys : List Int} (h : Ups k ys) : Exc k k ys := fun p q x y h1 h2 h3 hx hy => h p q x y h1 (by omega) hx hy
theorem Exc.stop {k j : Nat} {ys : List Int} (h : Exc k j ys) (hj : j = 0 ∨ ∃ x y, ys[j - 1]? = some x ∧ ys[j]? = some y ∧ x ≤ y ∧ 0 < j) : Ups (k + 1) ys := by
  intro p q x y h1 h2 hx hy
  by_cases hq : q = j
  · subst hq
    rcases hj with h0 | ⟨x', y', hx', hy', hxy, hj0⟩
    · omega
    · rw [hy] at hy'
      injection hy' with hy'
      subst hy'
      by_cases hp : p = q - 1
      · subst hp
        rw [hx] at hx'
        injection hx' with hx'
        omega
      · have := h p (q - 1) x x' (by omega) (by omega) (by omega) hx hx'
        omega
  · exact h p q x y h1 (by omega) hq hx hy
/-- Places j - 1 and j exchanged. -/
def swp (ys : List Int) (j : Nat) (x y : Int) : List Int := (ys.set j x).set (j - 1) y
theorem swp_at {ys : List Int} {j : Nat} {x y : Int} (hx : ys[j - 1]? = some x) (hy : ys[j]? = some y) (hj : 0 < j) (p : Nat) : (swp ys j x y)[p]? = if p = j - 1 then some y else if p = j then some x else ys[p]? := by
  have hjl := (List.getElem?_eq_some_iff.1 hy).1
  unfold swp
  rw [List.getElem?_set, List.getElem?_set]
  by_cases h1 : p = j - 1
  · subst h1; simp; omega
  · by_cases h2 : p = j
    · subst h2
      rw [if_neg (by omega), if_pos rfl, if_pos hjl, if_neg h1, if_pos rfl]
    · rw [if_neg (by omega), if_neg (by omega), if_neg h1, if_neg h2]
theorem Exc.swap {k j : Nat} {ys : List Int} {x y : Int} (h : Exc k j ys) (hx : ys[j - 1]? = some x) (hy : ys[j]? = some y) (hj : 0 < j) (hjk : j ≤ k) (hlt : y < x) : Exc k (j - 1) (swp ys j x y) := by
  intro p q u v h1 h2 h3 hu hv
  rw [swp_at hx hy hj] at hu hv
  rw [if_neg h3] at hv
  by_cases hq : q = j
  · rw [if_pos hq] at hv
    injection hv with hv
    subst hv
    by_cases hp : p = j - 1
    · rw [if_pos hp] at hu
      injection hu with hu
      omega
    · rw [if_neg hp, if_neg (by omega)] at hu
      exact h p (j - 1) u x (by omega) (by omega) (by omega) hu hx
  · rw [if_neg hq] at hv
    by_cases hp : p = j - 1
    · rw [if_pos hp] at hu
      injection hu with hu
      subst hu
      exact h j q y v (by omega) h2 hq hy hv
    · rw [if_neg hp] at hu
      by_cases hp2 : p = j
      · rw [if_pos hp2] at hu
        injection hu with hu
        subst hu
        exact h (j - 1) q x v (by omega) h2 hq hx hv
      · rw [if_neg hp2] at hu
        exact h p q u v h1 h2 hq hu hv
theorem swp_perm {ys : List Int} {j : Nat} {x y : Int} (hx : ys[j - 1]? = some x) (hy : ys[j]? = some y) (hj : 0 < j) : (swp ys j x y).Perm ys := by
  obtain ⟨i, rfl⟩ : ∃ i, j = i + 1 := ⟨j - 1, by omega⟩
  simp only [Nat.add_sub_cancel] at hx
  have e : ys = ys.take i ++ x :: y :: ys.drop (i + 2) := by
    have h1 : ys.drop i = x :: ys.drop (i + 1) := by
      obtain ⟨hk, rfl⟩ := List.getElem?_eq_some_iff.1 hx
      exact List.drop_eq_getElem_cons hk
    have h2 : ys.drop (i + 1) = y :: ys.drop (i + 2) := by
      obtain ⟨hk, rfl⟩ := List.getElem?_eq_some_iff.1 hy
      exact List.drop_eq_getElem_cons hk
    rw [← h2, ← h1, List.take_append_drop]
  have hl : (ys.take i).length = i := by have := (List.getElem?_eq_some_iff.1 hx).1; rw [List.length_take]; omega
  have e2 : swp ys (i + 1) x y = ys.take i ++ y :: x :: ys.drop (i + 2) := by
    unfold swp
    simp only [Nat.add_sub_cancel]
    conv => lhs; rw [e]
    rw [List.set_append, if_neg (by omega), hl, show i + 1 - i = 1 from by omega, List.set_cons_succ, List.set_cons_zero, List.set_append, if_neg (by omega), hl, Nat.sub_self, List.set_cons_zero]
  rw [e2]
  conv => rhs; rw [e]
  exact List.Perm.append_left _ (List.Perm.swap _ _ _)

theorem isNaN_any (x : Int) (w : World) : Calls Try.prog 119 #[.int .i64 x] w fun e w' => e = .returned (.bool false) ∧ w' = w := by
  go_enter Try.func119, Try.ntmps119
  go_wp2
  go_ret
  exact ⟨rfl, rfl⟩
theorem less_any (x y : Int) (w : World) : Calls Try.prog 109 #[.int .i64 x, .int .i64 y] w fun e w' => e = .returned (.bool (decide (x < y))) ∧ w' = w := by
  go_enter Try.func109, Try.ntmps109
  go_wp2_with fail
  refine (isNaN_any x _).mono ?_
  rintro e w' ⟨rfl, rfl⟩
  go_wp2
  go_ret
  exact ⟨rfl, rfl⟩

set_option maxRecDepth 100000 in
set_option maxHeartbeats 4000000 in
theorem isort_any (g n c base : Nat) (xs : List Int) (w : World) (h : w.ownsRow base 3 1 (.slice (some ⟨g, 0, none⟩) n c) n (xs.map (Value.int .i64))) (hn : n ≤ 1000) :
    Calls Try.prog 103 #[.slice (some ⟨g, 0, none⟩) n c, .int .i64 0, .int .i64 n] w fun e w' => ∃ ys : List Int, e = .returned (.tuple #[]) ∧ ys.Perm xs ∧ Ups n ys ∧ Hp [g] w w' [.row 3 1 (.slice (some ⟨g, 0, none⟩) n c) n (ys.map (Value.int .i64))] := by
  have H0 : Hp [g] w w [.row 3 1 (.slice (some ⟨g, 0, none⟩) n c) n (xs.map (Value.int .i64))] := Hp.start_row h
  have HL := Lib.hid (show xs.length = n by have := h.1; simpa using this)
  clear h
  go_enter Try.func103, Try.ntmps103
  go_wp2_with fail
  go_loopw [6] (fun i wr => ∃ (k : Nat) (ys : List Int), i = .int .i64 k ∧ 1 ≤ k ∧ (k ≤ n ∨ k = 1) ∧ ys.Perm xs ∧ Ups k ys ∧ Hp [g] w wr [.row 3 1 (.slice (some ⟨g, 0, none⟩) n c) n (ys.map (Value.int .i64))]) (fun i _ => n - (intOf i).toNat)
  case atStart => exact ⟨1, xs, rfl, by omega, .inr rfl, List.Perm.refl _, fun p q x y h1 h2 => by omega, H0⟩
  case round =>
    clear H0
    obtain ⟨k, ys, rfl, hk1, hk2, hp, hu, H⟩ := hrel
    by_cases hlt : k < n
    · obtain ⟨wo, rfl⟩ : ∃ wo : World, wo = wr := ⟨_, rfl⟩
      have HP := Lib.hid hp
      have HU := Lib.hid hu
      clear hp hu
      go_wp2_with fail
      go_loopw [7] (fun v wi => ∃ (j : Nat) (zs : List Int), v = .int .i64 j ∧ j ≤ k ∧ zs.Perm xs ∧ Exc k j zs ∧ Hp [g] w wi [.row 3 1 (.slice (some ⟨g, 0, none⟩) n c) n (zs.map (Value.int .i64))]) (fun v _ => (intOf v).toNat)
      case atStart => exact ⟨k, ys, rfl, Nat.le_refl _, HP.out, .start HU.out, H⟩
      case round =>
        clear H HP HU
        obtain ⟨j, zs, rfl, hj, hp, hex, H⟩ := hrel
        have HP := Lib.hid hp
        have HE := Lib.hid hex
        have hzl : zs.length = n := by rw [hp.length_eq]; exact HL.out
        have HZ := Lib.hid hzl
        clear hp hex hzl
        rcases Nat.eq_zero_or_pos j with hj0 | hj0
        · subst hj0
          have HUP := Lib.hid (HE.out.stop (.inl rfl))
          go_wp2_with fail
          refine wp_region_quiet_lit (by kernel_rfl) (by kernel_rfl) ?_
          repeat (any_goals (first | go_big_quiet_step ((fail)) | quiet_step ((fail)) | (refine wpQuiet_step (fun K hK => ?_); go_simp; split <;> (refine hK _ ?_; clear hK K))))
          all_goals (refine wpQuiet_nil ?_; intro _ hw_; obtain ⟨nq, hw__⟩ := hw_; subst hw__)
          go_wp2_with fail
          go_roundw
          case rel => exact ⟨k + 1, zs, by go_num, by omega, by omega, HP.out, HUP.out, H.on nq⟩
          case measure => simp [intOf]; omega
        · obtain ⟨y, hy⟩ := at_some HZ.out (show j < n by omega)
          obtain ⟨x, hx⟩ := at_some HZ.out (show j - 1 < n by omega)
          obtain ⟨j, rfl⟩ : ∃ q, j = q + 1 := ⟨j - 1, by omega⟩
          simp only [Nat.add_sub_cancel] at hx
          have cy := H.atM 0 rfl hy
          have cx := H.atM 0 rfl hx
          have fy := H.free 0 rfl (j + 1)
          have fx := H.free 0 rfl j
          have hj1 : (0 : Int) < ((j + 1 : Nat) : Int) := by omega
          have hw1 : IntKind.i64.wrap ((j : Int)) = (j : Int) := IntWalk.i64_in _ (by omega)
          have hi0 : (0 : Int) ≤ (j : Int) + 1 := by omega
          have hi1 : (j : Int) + 1 < (n : Int) := by omega
          have hi2 : (0 : Int) ≤ (j : Int) := by omega
          have hi3 : (j : Int) < (n : Int) := by omega
          by_cases hxy : y < x
          · have hd : decide (y < x) = true := by simpa using hxy
            go_wp2_with fail
            refine wp_region_quiet_lit (by kernel_rfl) (by kernel_rfl) ?_
            repeat (any_goals (first | go_big_quiet_step ((go_at_call 109; exact Calls.quiet_of_same (less_any y x _))) | quiet_step ((go_at_call 109; exact Calls.quiet_of_same (less_any y x _))) | (refine wpQuiet_step (fun K hK => ?_); go_simp; split <;> (refine hK _ ?_; clear hK K))))
            all_goals (refine wpQuiet_nil ?_; intro _ hw_; obtain ⟨nq, hw__⟩ := hw_; subst hw__)
            go_wp2_with fail
            replace H := H.on nq
            obtain ⟨w8, hw8⟩ : ∃ q : World, q = wr.drewN nq := ⟨_, rfl⟩
            rw [← hw8] at H ⊢
            clear hw8 cx cy fx fy
            have cy := H.atM 0 rfl hy
            have cx := H.atM 0 rfl hx
            have fy := H.free 0 rfl (j + 1)
            have fx := H.free 0 rfl j
            go_region
            go_wp2_with fail
            have H9 := Lib.hid ((H.putM 0 rfl (j + 1) x).putM 0 rfl j y).drew
            go_roundw
            case rel => exact ⟨j, swp zs (j + 1) x y, rfl, by omega, (swp_perm (j := j + 1) hx hy (by omega)).trans HP.out, HE.out.swap (j := j + 1) hx hy (by omega) hj hxy, H9.out⟩
            case measure => simp [intOf]
          · have hd : decide (y < x) = false := by simpa using hxy
            have HUP := Lib.hid (HE.out.stop (.inr ⟨x, y, hx, hy, by omega, by omega⟩))
            go_wp2_with fail
            refine wp_region_quiet_lit (by kernel_rfl) (by kernel_rfl) ?_
            repeat (any_goals (first | go_big_quiet_step ((go_at_call 109; exact Calls.quiet_of_same (less_any y x _))) | quiet_step ((go_at_call 109; exact Calls.quiet_of_same (less_any y x _))) | (refine wpQuiet_step (fun K hK => ?_); go_simp; split <;> (refine hK _ ?_; clear hK K))))
            all_goals (refine wpQuiet_nil ?_; intro _ hw_; obtain ⟨nq, hw__⟩ := hw_; subst hw__)
            go_wp2_with fail
            go_roundw
            case rel => exact ⟨k + 1, zs, by go_num, by omega, by omega, HP.out, HUP.out, H.on nq⟩
            case measure => simp [intOf]; omega
    · have HU := Lib.hid (show Ups n ys from fun p q x y h1 h2 hx hy => hu p q x y h1 (by omega) hx hy)
      have HP := Lib.hid hp
      clear hu hp
      go_wp2_with fail
      go_end0
      exact ⟨ys, rfl, HP.out, HU.out, H⟩

set_option maxRecDepth 100000 in
set_option maxHeartbeats 4000000 in
theorem pdq_any (g n c base : Nat) (k : Int) (xs : List Int) (w : World) (h : w.ownsRow base 3 1 (.slice (some ⟨g, 0, none⟩) n c) n (xs.map (Value.int .i64))) (hn : n ≤ 12) :
    Calls Try.prog 97 #[.slice (some ⟨g, 0, none⟩) n c, .int .i64 0, .int .i64 n, .int .i64 k] w fun e w' => ∃ ys : List Int, e = .returned (.tuple #[]) ∧ ys.Perm xs ∧ Ups n ys ∧ Hp [g] w w' [.row 3 1 (.slice (some ⟨g, 0, none⟩) n c) n (ys.map (Value.int .i64))] := by
  have hd : decide ((n : Int) ≤ 12) = true := by simp; omega
  go_enter Try.func97, Try.ntmps97
  go_wp2_with fail
  refine wp_loop_rounds 1 ?_
  rw [rounds_succ]
  go_wp2_with fail
  refine (isort_any g n c base xs _ h (by omega)).mono ?_
  rintro e w1 ⟨ys, rfl, hp, hu, H⟩
  go_wp2_with fail
  refine bodyPost_ret (results_none rfl _ _ _) rfl ?_
  exact ⟨ys, rfl, hp, hu, H⟩

set_option maxRecDepth 100000 in
set_option maxHeartbeats 1000000 in
theorem len64_any (m : Nat) (hm : m ≤ 12) (w : World) : Calls Try.prog 113 #[.int .u64 m] w fun e w' => ∃ k : Int, e = .returned (.int .i64 k) ∧ w' = w := by
  have h1 : ¬ (4294967296 : Int) ≤ m := by omega
  have h2 : ¬ (65536 : Int) ≤ m := by omega
  have h3 : ¬ (256 : Int) ≤ m := by omega
  have h4 : (m : Int) % 256 = m := by omega
  have h5 : (m : Int) < 256 := by omega
  have h6 : (0 : Int) ≤ m := by omega
  go_enter Try.func113, Try.ntmps113
  go_wp2
  go_ret
  exact ⟨⟨_, rfl⟩, rfl⟩
theorem blen_any (m : Nat) (hm : m ≤ 12) (w : World) : Calls Try.prog 98 #[.int .u64 m] w fun e w' => ∃ k : Int, e = .returned (.int .i64 k) ∧ w' = w := by
  go_enter Try.func98, Try.ntmps98
  go_wp2_with fail
  refine (len64_any m hm _).mono ?_
  rintro e w' ⟨k, rfl, rfl⟩
  go_wp2
  go_ret
  first | exact ⟨⟨_, rfl⟩, rfl⟩ | exact ⟨_, rfl, rfl⟩

set_option maxRecDepth 100000 in
set_option maxHeartbeats 1000000 in
theorem sort_any (g n c base : Nat) (xs : List Int) (w : World) (h : w.ownsRow base 3 1 (.slice (some ⟨g, 0, none⟩) n c) n (xs.map (Value.int .i64))) (hn : n ≤ 12) :
    Calls Try.prog 79 #[.slice (some ⟨g, 0, none⟩) n c] w fun e w' => ∃ ys : List Int, e = .returned (.tuple #[]) ∧ ys.Perm xs ∧ Ups n ys ∧ Hp [g] w w' [.row 3 1 (.slice (some ⟨g, 0, none⟩) n c) n (ys.map (Value.int .i64))] := by
  go_enter Try.func79, Try.ntmps79
  go_wp2_with fail
  refine (blen_any n hn _).mono ?_
  rintro e w0 ⟨k, rfl, rfl⟩
  go_wp2_with fail
  refine (pdq_any g n c base k xs _ h hn).mono ?_
  rintro e w1 ⟨ys, rfl, hp, hu, H⟩
  have HP := Lib.hid hp
  have HU := Lib.hid hu
  clear hp hu h
  go_wp2_with fail
  go_end0
  exact ⟨ys, rfl, HP.out, HU.out, H⟩
end Go.Proofs.Ytbmoolmgfpcnkaa
