/-
  Many texts in one: ApartS, Node.
-/
import Derived.Test.YtaogikhpglcmjaaGreatDoorGi
import Derived.Deep.RegionHeld3
namespace Go.Proofs.YtaogikhpglcmjaaGreatDoor
open Go.RowKit

/-- All signs in their parts, in the order of the text. -/
def allT (l : List Int) : List Int := l.flatMap takeS
theorem allT_len (l : List Int) : (allT l).length ≤ 27 * l.length := by
  have := flat_le take_len l
  rw [allT]; omega
theorem apart_all (l : List Int) : apartL l = (allT l).foldl ins [] := rfl
/-- The first i in order, the rest as it was. -/
def part (F : List Int) (i : Nat) : List Int := (F.take i).foldl ins [] ++ F.drop i
theorem part_len {F : List Int} (i : Nat) : (part F i).length = F.length := by
  rw [part, List.length_append, foldl_len, List.length_take, List.length_drop, List.length_nil]; omega
theorem part_one (F : List Int) : part F 1 = F := by
  cases F with
  | nil => rfl
  | cons x r => rw [part, List.take_succ_cons, List.take_zero, List.foldl_cons, ins_nil]; rfl
theorem part_all {F : List Int} {i : Nat} (h : F.length ≤ i) : part F i = F.foldl ins [] := by
  rw [part, List.take_of_length_le h, List.drop_of_length_le h, List.append_nil]

set_option linter.unusedVariables false
set_option linter.unusedSimpArgs false
set_option maxRecDepth 100000 in
set_option maxHeartbeats 8000000 in
theorem specApart_any (A : Option Addr) (n c : Nat) (l : List Int) (w : World) (h : Rd w A n 1 (l.map (Value.int .i64))) (hn : n ≤ 2097152) (hok : ∀ x ∈ l, InI x) :
    Calls Tryz.prog 131 #[.slice A n c] w (Made w 3 1 (apartL l).length ((apartL l).map (Value.int .i64))) := by
  have HL := Lib.hid h.len1
  have G := Lib.hid h
  have OK := Lib.hid hok
  have H0 := (Hp.start w).lit0 3 1
  have HAP := Lib.hid (apart_all l)
  have hfl : (allT l).length ≤ 100000000 := by
    have := allT_len l
    rw [HL.out] at this
    omega
  generalize apartL l = ap at HAP ⊢
  clear h hok
  go_enter Tryz.func131, Tryz.ntmps131
  go_wp2_with fail
  go_loopw [3, 4] (fun v iv wr => ∃ i : Nat, iv = .int .i64 i ∧ i ≤ n ∧ Hp [] w wr [.row 3 1 v (allT (l.take i)).length ((allT (l.take i)).map (Value.int .i64))]) (fun _ iv _ => n - (intOf iv).toNat)
  case atStart => exact ⟨0, rfl, by omega, H0⟩
  case round =>
    clear H0
    obtain ⟨i, rfl, hi, H⟩ := hrel
    obtain ⟨B, d, rfl⟩ := H.shape 0 rfl
    by_cases hlt : i < n
    · obtain ⟨cc, hx⟩ := at_some HL.out hlt
      obtain ⟨bk, of, rfl, hc⟩ := (H.old G.out).get1 hx
      have hi0 : (0 : Int) ≤ (i : Int) := by omega
      have hi1 : (i : Int) < (n : Int) := by omega
      have hic := OK.out cc hx.mem
      have HT := Lib.hid (show allT (l.take (i + 1)) = allT (l.take i) ++ takeS cc by rw [hx.take, allT, List.flatMap_append, List.flatMap_singleton]; rfl)
      have hol : (allT (l.take i)).length ≤ 27 * 2097152 := by
        have := allT_len (l.take i)
        have h2 : (l.take i).length ≤ n := by rw [List.length_take]; omega
        omega
      have htl := take_len cc
      clear hx
      generalize allT (l.take i) = o at H HT hol ⊢
      go_wp2_with fail
      refine (l4Take_any cc _ hic).mono ?_
      rintro e w1 ⟨T, dt, rfl, ot, ft⟩
      have H1 := H.made ot ft
      clear H ot ft hc hic
      generalize takeS cc = ts at H1 HT htl ⊢
      go_wp2_with (at_builtin; refine wp_appS (f := Value.int .i64) H1 rfl _ _ _ rfl Tryz.underlying82 infoInt rfl 1 _ o rfl rfl T dt ts rfl (own_cap' (H1.row 0 rfl)) (H1.rd 0 rfl) (by simp [Value.oneCell']) (by simp only [maxLen]; omega) (by omega) ?_)
      intro v' w' H'
      have H2 : Hp [] w w' [.row 3 1 v' (allT (l.take (i + 1))).length ((allT (l.take (i + 1))).map (Value.int .i64))] := by
        rw [HT.out, List.map_append, List.length_append]
        exact H'.tail
      clear H' H1
      go_wp2_with fail
      go_roundw
      case rel => exact ⟨i + 1, by go_num, by omega, H2⟩
      case measure => simp [intOf]; omega
    · rw [List.take_of_length_le (by rw [HL.out]; omega)] at H ⊢
      have hge : ¬ ((i : Int) < (n : Int)) := by omega
      generalize allT l = F at H HAP hfl ⊢
      obtain ⟨N, hN⟩ : ∃ N, N = F.length := ⟨_, rfl⟩
      have HN := Lib.hid hN
      rw [← hN] at H hfl ⊢
      have HP0 := Lib.hid (part_one F)
      clear hN
      go_wp2_with fail
      go_loopw [5] (fun iv wr => ∃ i : Nat, iv = .int .i64 i ∧ 1 ≤ i ∧ (i ≤ N ∨ i = 1) ∧ Hp [] w wr [.row 3 1 (.slice B N d) N ((part F i).map (Value.int .i64))]) (fun iv _ => N - (intOf iv).toNat)
      case atStart => exact ⟨1, rfl, by omega, .inr rfl, by rw [HP0.out]; exact H⟩
      case round =>
        clear H
        obtain ⟨i, rfl, hi1, hi2, H⟩ := hrel
        by_cases hlt2 : i < N
        · obtain ⟨x, hx⟩ := at_some (l := F) HN.out.symm hlt2
          have HX := Lib.hid hx
          obtain ⟨gO, dO, e, _⟩ := H.form 0 rfl (by omega)
          injection e with e1 _ e2
          subst e1 e2
          obtain ⟨o, ho⟩ : ∃ o, o = (F.take i).foldl ins [] := ⟨_, rfl⟩
          have HO := Lib.hid ho
          have hol : o.length = i := by
            rw [ho, foldl_len, List.length_take, ← HN.out]
            simp only [List.length_nil]; omega
          have HOL := Lib.hid hol
          have HPI := Lib.hid (show part F i = o.take i ++ x :: (o.drop i ++ F.drop (i + 1)) by
            rw [part, ← ho, List.take_of_length_le (l := o) (by omega), List.drop_of_length_le (l := o) (by omega), List.nil_append]
            congr 1
            have := hx
            obtain ⟨hk, he⟩ := List.getElem?_eq_some_iff.1 this
            rw [List.drop_eq_getElem_cons hk, he])
          clear hx ho hol
          rw [HPI.out] at H
          go_wp2_with fail
          go_loopw [6] (fun kv wr => ∃ k : Nat, kv = .int .i64 k ∧ k ≤ i ∧ (∀ y ∈ o.drop k, cls x < cls y) ∧ (k < o.length → 0 < cls x) ∧ Hp [] w wr [.row 3 1 (.slice (some ⟨gO, 0, none⟩) N d) N ((o.take k ++ x :: (o.drop k ++ F.drop (i + 1))).map (Value.int .i64))]) (fun kv _ => (intOf kv).toNat)
          case atStart => exact ⟨i, rfl, by omega, by rw [List.drop_of_length_le (by rw [HOL.out]; omega)]; simp, by rw [HOL.out]; omega, H⟩
          case round =>
            clear H
            obtain ⟨k, rfl, hk, hd, h0, H⟩ := hrel
            have HD := Lib.hid hd
            have HZ := Lib.hid h0
            clear hd h0
            have HKO := Lib.hid (show k ≤ o.length by rw [HOL.out]; exact hk)
            rcases Nat.eq_zero_or_pos k with hk0 | hk0
            · subst hk0
              have HS := Lib.hid (ins_stop HKO.out HD.out HZ.out (.inl rfl))
              have HE := Lib.hid (show part F (i + 1) = o.take 0 ++ x :: (o.drop 0 ++ F.drop (i + 1)) by
                rw [part, HX.out.take, List.foldl_append, ← HO.out]
                show ins o x ++ _ = _
                rw [HS.out, List.append_assoc]; rfl)
              go_wp2_with fail
              refine wp_region_quiet_lit (by kernel_rfl) (by kernel_rfl) ?_
              repeat (any_goals (first | go_big_quiet_step ((fail)) | quiet_step ((fail)) | (refine wpQuiet_step (fun K hK => ?_); go_simp; split <;> (refine hK _ ?_; clear hK K))))
              all_goals (refine wpQuiet_nil ?_; intro _ hw_; obtain ⟨nq, hw__⟩ := hw_; subst hw__)
              replace H := H.on nq
              go_wp2_with fail
              go_roundw
              case rel => exact ⟨i + 1, by go_num, by omega, .inl (by omega), by rw [HE.out]; exact H⟩
              case measure => simp [intOf]; omega
            · obtain ⟨q, rfl⟩ : ∃ q, k = q + 1 := ⟨k - 1, by omega⟩
              obtain ⟨y, hy⟩ := at_some (l := o) HOL.out (show q < i by omega)
              have HY := Lib.hid hy
              have hax : At (o.take (q + 1) ++ x :: (o.drop (q + 1) ++ F.drop (i + 1))) (q + 1) x := At.app (by have := HKO.out; rw [List.length_take]; omega)
              have hay : At (o.take (q + 1) ++ x :: (o.drop (q + 1) ++ F.drop (i + 1))) q y := At.pre (by rw [At, List.getElem?_take_of_lt (by omega)]; exact hy)
              have cx := H.drew.atM 0 rfl hax
              have cy := H.drew.atM 0 rfl hay
              have hj1' : (0 : Int) < ((q + 1 : Nat) : Int) := by omega
              have hw1 : IntKind.i64.wrap ((q : Int)) = (q : Int) := IntWalk.i64_in _ (by omega)
              have hi0' : (0 : Int) ≤ (q : Int) + 1 := by omega
              have hi1' : (q : Int) + 1 < (N : Int) := by omega
              have hi2' : (0 : Int) ≤ (q : Int) := by omega
              have hi3' : (q : Int) < (N : Int) := by omega
              by_cases hx0 : 0 < cls x
              · have hd1 : decide (0 < cls x) = true := by simpa using hx0
                have ht1 : (0 < cls x) = True := eq_true hx0
                by_cases hxy : cls x < cls y
                · have hd2 : decide (cls x < cls y) = true := by simpa using hxy
                  have ht2 : (cls x < cls y) = True := eq_true hxy
                  go_wp2_with fail
                  go_region_held3 (fun w' => w'.cell? ⟨gO, q + 1, none⟩ = some (.int .i64 x) ∧ w'.cell? ⟨gO, q, none⟩ = some (.int .i64 y))
                    (first
                      | exact ⟨cxc, cyc⟩
                      | exact ⟨cxb, cyb⟩
                      | exact ⟨cxa, cya⟩
                      | exact ⟨cx, cy⟩)
                    ((first
                      | (go_at_call 145
                         refine (specClass_any _ _).mono ?_
                         rintro e w5 ⟨rfl, f5⟩
                         first
                           | (have HC := HB.go f5
                              have cxc := HC.atM 0 rfl hax
                              have cyc := HC.atM 0 rfl hay)
                           | (have HB := HA.go f5
                              have cxb := HB.atM 0 rfl hax
                              have cyb := HB.atM 0 rfl hay)
                           | (have HA := H.drew.go f5
                              have cxa := HA.atM 0 rfl hax
                              have cya := HA.atM 0 rfl hay))))
                  clear H HA HB cx cy cxa cya cxb cyb cxc cyc
                  have cx := HC.atM 0 rfl hax
                  have cy := HC.atM 0 rfl hay
                  have fx := HC.free 0 rfl (q + 1)
                  have H8 := HC.putM 0 rfl (q + 1) y
                  have fy := H8.free 0 rfl q
                  have H9 := H8.putM 0 rfl q x
                  simp only [List.set_cons_zero] at H9
                  rw [ins_swap hy] at H9
                  have H10 := Lib.hid H9
                  have HC' := Lib.hid HC
                  clear H9 HC
                  go_wp2_with fail
                  go_roundw
                  case rel => exact ⟨q, rfl, by omega, fun z hz => by
                    rw [List.drop_eq_getElem_cons (show q < o.length by rw [HOL.out]; omega), List.mem_cons] at hz
                    rcases hz with rfl | hz
                    · have := (List.getElem?_eq_some_iff.1 HY.out).2
                      rw [this]; exact hxy
                    · exact HD.out z hz, fun _ => hx0, H10.out⟩
                  case measure => simp [intOf]
                · have hd2 : decide (cls x < cls y) = false := by simpa using hxy
                  have ht2 : (cls x < cls y) = False := eq_false hxy
                  have HS := Lib.hid (ins_stop HKO.out HD.out HZ.out (.inr (.inr ⟨y, HY.out, hxy, by omega⟩)))
                  have HE := Lib.hid (show part F (i + 1) = o.take (q + 1) ++ x :: (o.drop (q + 1) ++ F.drop (i + 1)) by
                    rw [part, HX.out.take, List.foldl_append, ← HO.out]
                    show ins o x ++ _ = _
                    rw [HS.out, List.append_assoc]; rfl)
                  go_wp2_with fail
                  go_region_held3 (fun w' => w'.cell? ⟨gO, q + 1, none⟩ = some (.int .i64 x) ∧ w'.cell? ⟨gO, q, none⟩ = some (.int .i64 y))
                    (first
                      | exact ⟨cxc, cyc⟩
                      | exact ⟨cxb, cyb⟩
                      | exact ⟨cxa, cya⟩
                      | exact ⟨cx, cy⟩)
                    ((first
                      | (go_at_call 145
                         refine (specClass_any _ _).mono ?_
                         rintro e w5 ⟨rfl, f5⟩
                         first
                           | (have HC := HB.go f5
                              have cxc := HC.atM 0 rfl hax
                              have cyc := HC.atM 0 rfl hay)
                           | (have HB := HA.go f5
                              have cxb := HB.atM 0 rfl hax
                              have cyb := HB.atM 0 rfl hay)
                           | (have HA := H.drew.go f5
                              have cxa := HA.atM 0 rfl hax
                              have cya := HA.atM 0 rfl hay))))
                  go_wp2_with fail
                  go_roundw
                  case rel => exact ⟨i + 1, by go_num, by omega, .inl (by omega), by rw [HE.out]; exact HC⟩
                  case measure => simp [intOf]; omega
              · have hcx0 : cls x = 0 := by have := cls_bound x; omega
                have HS := Lib.hid (ins_stop HKO.out HD.out HZ.out (.inr (.inl hx0)))
                clear hx0
                have HE := Lib.hid (show part F (i + 1) = o.take (q + 1) ++ x :: (o.drop (q + 1) ++ F.drop (i + 1)) by
                  rw [part, HX.out.take, List.foldl_append, ← HO.out]
                  show ins o x ++ _ = _
                  rw [HS.out, List.append_assoc]; rfl)
                go_wp2_with fail
                refine wp_region_held_drew (S := fun w' => w'.cell? ⟨gO, q + 1, none⟩ = some (.int .i64 x) ∧ w'.cell? ⟨gO, q, none⟩ = some (.int .i64 y)) (by kernel_rfl) ?_ (fun hHeld => ?_)
                · exact ⟨cx, cy⟩
                refine wpAnyH_take (i := 0) (v := ?_) rfl (by kernel_rfl) (by kernel_rfl) (by kernel_rfl) (fun _ _ _ h => h) (Or.inl ⟨by kernel_rfl, ?_⟩) (by assumption) ?_
                rotate_left
                · (intro w hSw; (try dsimp only at hSw); go_simp; try (with_reducible rfl))
                try simp only [List.getElem_toArray, List.getElem_cons_succ, List.getElem_cons_zero, Act.put, List.setIfInBounds_toArray, List.set_cons_zero, List.set_cons_succ]
                refine wpAnyH_take (i := 1) (v := ?_) rfl (by kernel_rfl) (by kernel_rfl) (by kernel_rfl) (fun _ _ _ h => h) (Or.inl ⟨by kernel_rfl, ?_⟩) (by assumption) ?_
                rotate_left
                · (intro w hSw; (try dsimp only at hSw); go_simp; try (with_reducible rfl))
                try simp only [List.getElem_toArray, List.getElem_cons_succ, List.getElem_cons_zero, Act.put, List.setIfInBounds_toArray, List.set_cons_zero, List.set_cons_succ]
                refine wpAnyH_take (i := 2) (v := ?_) rfl (by kernel_rfl) (by kernel_rfl) (by kernel_rfl) (fun _ _ _ h => h) (Or.inl ⟨by kernel_rfl, ?_⟩) (by assumption) ?_
                rotate_left
                · (intro w hSw; (try dsimp only at hSw); go_simp; try (with_reducible rfl))
                try simp only [List.getElem_toArray, List.getElem_cons_succ, List.getElem_cons_zero, Act.put, List.setIfInBounds_toArray, List.set_cons_zero, List.set_cons_succ]
                refine wpAnyH_take (i := 3) (v := ?_) rfl (by kernel_rfl) (by kernel_rfl) (by kernel_rfl) (fun _ _ _ h => h) (Or.inl ⟨by kernel_rfl, ?_⟩) (by assumption) ?_
                rotate_left
                · (intro w hSw; (try dsimp only at hSw); go_simp; try (with_reducible rfl))
                try simp only [List.getElem_toArray, List.getElem_cons_succ, List.getElem_cons_zero, Act.put, List.setIfInBounds_toArray, List.set_cons_zero, List.set_cons_succ]
                refine wpAnyH_take (i := 4) (v := ?_) rfl (by kernel_rfl) (by kernel_rfl) (by kernel_rfl) (fun _ _ _ h => h) (Or.inl ⟨by kernel_rfl, ?_⟩) (by assumption) ?_
                rotate_left
                · (intro w hSw; (try dsimp only at hSw); go_simp; try (with_reducible rfl))
                try simp only [List.getElem_toArray, List.getElem_cons_succ, List.getElem_cons_zero, Act.put, List.setIfInBounds_toArray, List.set_cons_zero, List.set_cons_succ]
                refine wpAnyH_take (i := 5) (v := ?_) rfl (by kernel_rfl) (by kernel_rfl) (by kernel_rfl) (fun _ _ _ h => h) (Or.inl ⟨by kernel_rfl, ?_⟩) (by assumption) ?_
                rotate_left
                · (intro w hSw; (try dsimp only at hSw); go_simp; try (with_reducible rfl))
                try simp only [List.getElem_toArray, List.getElem_cons_succ, List.getElem_cons_zero, Act.put, List.setIfInBounds_toArray, List.set_cons_zero, List.set_cons_succ]
                refine wpAnyH_take (i := 6) (v := ?_) rfl (by kernel_rfl) (by kernel_rfl) (by kernel_rfl) (fun _ _ _ h => h) (Or.inl ⟨by kernel_rfl, ?_⟩) (by assumption) ?_
                rotate_left
                · (intro w hSw; (try dsimp only at hSw); go_simp; try (with_reducible rfl))
                try simp only [List.getElem_toArray, List.getElem_cons_succ, List.getElem_cons_zero, Act.put, List.setIfInBounds_toArray, List.set_cons_zero, List.set_cons_succ]
                refine wpAnyH_ready (rs := [7]) (by kernel_rfl) (by simp) ?_
                refine AllReadyH.cons rfl (fun K hK => ?_) AllReadyH.nil
                go_simp
                refine (specClass_any _ _).mono ?_
                rintro e w5 ⟨rfl, f5⟩
                have HA := H.drew.go f5
                have cxa := HA.atM 0 rfl hax
                have cya := HA.atM 0 rfl hay
                go_wp2_with fail
                refine hK.out _ _ ?_ (fun hHeld => ?_)
                · exact ⟨cxa, cya⟩
                clear hK K
                try simp only [List.getElem_toArray, List.getElem_cons_succ, List.getElem_cons_zero, Act.put, List.setIfInBounds_toArray, List.set_cons_zero, List.set_cons_succ]
                refine wpAnyH_take (i := 8) (v := ?_) rfl (by kernel_rfl) (by kernel_rfl) (by kernel_rfl) (fun _ _ _ h => h) (Or.inl ⟨by kernel_rfl, ?_⟩) (by assumption) ?_
                rotate_left
                · (intro w hSw; (try dsimp only at hSw); go_simp; try (with_reducible rfl))
                try simp only [List.getElem_toArray, List.getElem_cons_succ, List.getElem_cons_zero, Act.put, List.setIfInBounds_toArray, List.set_cons_zero, List.set_cons_succ]
                refine wpAnyH_take (i := 9) (v := ?_) rfl (by kernel_rfl) (by kernel_rfl) (by kernel_rfl) (fun _ _ _ h => h) (Or.inl ⟨by kernel_rfl, ?_⟩) (by assumption) ?_
                rotate_left
                · (intro w hSw; (try dsimp only at hSw); go_simp; try (with_reducible rfl))
                try simp only [List.getElem_toArray, List.getElem_cons_succ, List.getElem_cons_zero, Act.put, List.setIfInBounds_toArray, List.set_cons_zero, List.set_cons_succ]
                refine wpAnyH_take (i := 10) (v := ?_) rfl (by kernel_rfl) (by kernel_rfl) (by kernel_rfl) (fun _ _ _ h => h) (Or.inl ⟨by kernel_rfl, ?_⟩) (by assumption) ?_
                rotate_left
                · (intro w hSw; (try dsimp only at hSw); go_simp; try (with_reducible rfl))
                try simp only [List.getElem_toArray, List.getElem_cons_succ, List.getElem_cons_zero, Act.put, List.setIfInBounds_toArray, List.set_cons_zero, List.set_cons_succ]
                refine wpAnyH_take (i := 11) (v := undef) rfl (by kernel_rfl) (by kernel_rfl) (by kernel_rfl) (fun _ _ _ h => h) (Or.inr ⟨by kernel_rfl, rfl⟩) (by assumption) ?_
                try simp only [List.getElem_toArray, List.getElem_cons_succ, List.getElem_cons_zero, Act.put, List.setIfInBounds_toArray, List.set_cons_zero, List.set_cons_succ]
                refine wpAnyH_take (i := 12) (v := undef) rfl (by kernel_rfl) (by kernel_rfl) (by kernel_rfl) (fun _ _ _ h => h) (Or.inr ⟨by kernel_rfl, rfl⟩) (by assumption) ?_
                try simp only [List.getElem_toArray, List.getElem_cons_succ, List.getElem_cons_zero, Act.put, List.setIfInBounds_toArray, List.set_cons_zero, List.set_cons_succ]
                refine wpAnyH_take (i := 13) (v := undef) rfl (by kernel_rfl) (by kernel_rfl) (by kernel_rfl) (fun _ _ _ h => h) (Or.inr ⟨by kernel_rfl, rfl⟩) (by assumption) ?_
                try simp only [List.getElem_toArray, List.getElem_cons_succ, List.getElem_cons_zero, Act.put, List.setIfInBounds_toArray, List.set_cons_zero, List.set_cons_succ]
                refine wpAnyH_take (i := 14) (v := undef) rfl (by kernel_rfl) (by kernel_rfl) (by kernel_rfl) (fun _ _ _ h => h) (Or.inr ⟨by kernel_rfl, rfl⟩) (by assumption) ?_
                try simp only [List.getElem_toArray, List.getElem_cons_succ, List.getElem_cons_zero, Act.put, List.setIfInBounds_toArray, List.set_cons_zero, List.set_cons_succ]
                refine wpAnyH_take (i := 15) (v := undef) rfl (by kernel_rfl) (by kernel_rfl) (by kernel_rfl) (fun _ _ _ h => h) (Or.inr ⟨by kernel_rfl, rfl⟩) (by assumption) ?_
                try simp only [List.getElem_toArray, List.getElem_cons_succ, List.getElem_cons_zero, Act.put, List.setIfInBounds_toArray, List.set_cons_zero, List.set_cons_succ]
                refine wpAnyH_take (i := 16) (v := undef) rfl (by kernel_rfl) (by kernel_rfl) (by kernel_rfl) (fun _ _ _ h => h) (Or.inr ⟨by kernel_rfl, rfl⟩) (by assumption) ?_
                try simp only [List.getElem_toArray, List.getElem_cons_succ, List.getElem_cons_zero, Act.put, List.setIfInBounds_toArray, List.set_cons_zero, List.set_cons_succ]
                refine wpAnyH_take (i := 17) (v := undef) rfl (by kernel_rfl) (by kernel_rfl) (by kernel_rfl) (fun _ _ _ h => h) (Or.inr ⟨by kernel_rfl, rfl⟩) (by assumption) ?_
                try simp only [List.getElem_toArray, List.getElem_cons_succ, List.getElem_cons_zero, Act.put, List.setIfInBounds_toArray, List.set_cons_zero, List.set_cons_succ]
                refine wpAnyH_take (i := 18) (v := undef) rfl (by kernel_rfl) (by kernel_rfl) (by kernel_rfl) (fun _ _ _ h => h) (Or.inr ⟨by kernel_rfl, rfl⟩) (by assumption) ?_
                try simp only [List.getElem_toArray, List.getElem_cons_succ, List.getElem_cons_zero, Act.put, List.setIfInBounds_toArray, List.set_cons_zero, List.set_cons_succ]
                refine wpAnyH_take (i := 19) (v := undef) rfl (by kernel_rfl) (by kernel_rfl) (by kernel_rfl) (fun _ _ _ h => h) (Or.inr ⟨by kernel_rfl, rfl⟩) (by assumption) ?_
                try simp only [List.getElem_toArray, List.getElem_cons_succ, List.getElem_cons_zero, Act.put, List.setIfInBounds_toArray, List.set_cons_zero, List.set_cons_succ]
                refine wpAnyH_take (i := 20) (v := undef) rfl (by kernel_rfl) (by kernel_rfl) (by kernel_rfl) (fun _ _ _ h => h) (Or.inr ⟨by kernel_rfl, rfl⟩) (by assumption) ?_
                try simp only [List.getElem_toArray, List.getElem_cons_succ, List.getElem_cons_zero, Act.put, List.setIfInBounds_toArray, List.set_cons_zero, List.set_cons_succ]
                refine wpAnyH_take (i := 21) (v := undef) rfl (by kernel_rfl) (by kernel_rfl) (by kernel_rfl) (fun _ _ _ h => h) (Or.inr ⟨by kernel_rfl, rfl⟩) (by assumption) ?_
                try simp only [List.getElem_toArray, List.getElem_cons_succ, List.getElem_cons_zero, Act.put, List.setIfInBounds_toArray, List.set_cons_zero, List.set_cons_succ]
                refine wpAnyH_take (i := 22) (v := undef) rfl (by kernel_rfl) (by kernel_rfl) (by kernel_rfl) (fun _ _ _ h => h) (Or.inr ⟨by kernel_rfl, rfl⟩) (by assumption) ?_
                try simp only [List.getElem_toArray, List.getElem_cons_succ, List.getElem_cons_zero, Act.put, List.setIfInBounds_toArray, List.set_cons_zero, List.set_cons_succ]
                refine wpAnyH_take (i := 23) (v := ?_) rfl (by kernel_rfl) (by kernel_rfl) (by kernel_rfl) (fun _ _ _ h => h) (Or.inl ⟨by kernel_rfl, ?_⟩) (by assumption) ?_
                rotate_left
                · (intro w hSw; (try dsimp only at hSw); go_simp; try (with_reducible rfl))
                try simp only [List.getElem_toArray, List.getElem_cons_succ, List.getElem_cons_zero, Act.put, List.setIfInBounds_toArray, List.set_cons_zero, List.set_cons_succ]
                refine wpAnyH_done (by kernel_rfl) ?_ _
                go_wp2_with fail
                go_roundw
                case rel => exact ⟨i + 1, by go_num, by omega, .inl (by omega), by rw [HE.out]; exact HA⟩
                case measure => simp [intOf]; omega
        · have hFN : F.length ≤ i := by rw [← HN.out]; omega
          have hE := part_all hFN
          rw [← HAP.out] at hE
          have hl := part_len (F := F) i
          rw [hE, ← HN.out] at hl
          have HE := Lib.hid hE
          have HLN := Lib.hid hl
          have hge : ¬ ((i : Int) < (N : Int)) := by omega
          clear hFN hE hl
          rw [HE.out] at H
          go_wp2_with fail
          go_ret
          rw [HLN.out]
          exact H.toMade 0 rfl
end Go.Proofs.YtaogikhpglcmjaaGreatDoor

namespace Go.Proofs.YtaogikhpglcmjaaGreatDoor
open Go.RowKit

/-- A row that was just made takes the place of one of many. -/
theorem Hp.into {W : List Nat} {w0 w : World} {l : List Ob} {rs : List Row} {r : Row} (h : Hp W w0 w (r.ob :: l)) (i : Nat) (hi : l[i]? = some (.many rs)) (j : Nat) : Hp W w0 w (l.set i (.many (rs.set j r))) := by
  have hm : Ob.many rs ∈ l := List.mem_of_getElem? hi
  have hmo := h.ok _ (List.mem_cons_of_mem _ hm)
  have hro := h.ok _ List.mem_cons_self
  have hap := List.pairwise_cons.1 h.ap
  have hrm : ∀ r' ∈ rs, r.apart r' := fun r' hr' g hg hg2 => hap.1 _ hm g hg ⟨r', hr', hg2⟩
  refine ⟨h.gr, fun o ho => ?_, fun o ho g hg => ?_, pairwise_set Ob.apart_symm hap.2 fun k b hk hb g hg => ?_⟩
  · rcases List.mem_or_eq_of_mem_set ho with h1 | rfl
    · exact h.ok _ (List.mem_cons_of_mem _ h1)
    · refine ⟨fun r' hr' => ?_, pairwise_set Row.apart_symm hmo.2 fun k b _ hb => hrm b (List.mem_of_getElem? hb)⟩
      rcases List.mem_or_eq_of_mem_set hr' with h2 | rfl
      · exact hmo.1 r' h2
      · exact hro
  · rcases List.mem_or_eq_of_mem_set ho with h1 | rfl
    · exact h.own _ (List.mem_cons_of_mem _ h1) g hg
    · obtain ⟨r', hr', hv⟩ := hg
      rcases List.mem_or_eq_of_mem_set hr' with h2 | rfl
      · exact h.own _ (List.mem_cons_of_mem _ hm) g ⟨r', h2, hv⟩
      · exact h.own _ List.mem_cons_self g hv
  · obtain ⟨r', hr', hv⟩ := hg
    rcases List.mem_or_eq_of_mem_set hr' with h2 | rfl
    · exact pairwise_at Ob.apart_symm hap.2 hi hb (fun e => hk e.symm) g ⟨r', h2, hv⟩
    · exact hap.1 b (List.mem_of_getElem? hb) g hv
/-- .. or stands behind them. -/
theorem Hp.push {W : List Nat} {w0 w : World} {l : List Ob} {rs : List Row} {r : Row} (h : Hp W w0 w (r.ob :: l)) (i : Nat) (hi : l[i]? = some (.many rs)) : Hp W w0 w (l.set i (.many (rs ++ [r]))) := by
  have hm : Ob.many rs ∈ l := List.mem_of_getElem? hi
  have hmo := h.ok _ (List.mem_cons_of_mem _ hm)
  have hro := h.ok _ List.mem_cons_self
  have hap := List.pairwise_cons.1 h.ap
  have hrm : ∀ r' ∈ rs, r.apart r' := fun r' hr' g hg hg2 => hap.1 _ hm g hg ⟨r', hr', hg2⟩
  refine ⟨h.gr, fun o ho => ?_, fun o ho g hg => ?_, pairwise_set Ob.apart_symm hap.2 fun k b hk hb g hg => ?_⟩
  · rcases List.mem_or_eq_of_mem_set ho with h1 | rfl
    · exact h.ok _ (List.mem_cons_of_mem _ h1)
    · refine ⟨fun r' hr' => ?_, List.pairwise_append.2 ⟨hmo.2, List.pairwise_singleton _ _, fun a ha b hb => ?_⟩⟩
      · rcases List.mem_append.1 hr' with h2 | h2
        · exact hmo.1 r' h2
        · rw [List.mem_singleton.1 h2]; exact hro
      · rw [List.mem_singleton.1 hb]; exact Row.apart_symm (hrm a ha)
  · rcases List.mem_or_eq_of_mem_set ho with h1 | rfl
    · exact h.own _ (List.mem_cons_of_mem _ h1) g hg
    · obtain ⟨r', hr', hv⟩ := hg
      rcases List.mem_append.1 hr' with h2 | h2
      · exact h.own _ (List.mem_cons_of_mem _ hm) g ⟨r', h2, hv⟩
      · rw [List.mem_singleton.1 h2] at hv; exact h.own _ List.mem_cons_self g hv
  · obtain ⟨r', hr', hv⟩ := hg
    rcases List.mem_append.1 hr' with h2 | h2
    · exact pairwise_at Ob.apart_symm hap.2 hi hb (fun e => hk e.symm) g ⟨r', h2, hv⟩
    · rw [List.mem_singleton.1 h2] at hv; exact hap.1 b (List.mem_of_getElem? hb) g hv
/-- No rows at all. -/
theorem Hp.many0 {W : List Nat} {w0 w : World} {l : List Ob} (h : Hp W w0 w l) : Hp W w0 w (.many [] :: l) :=
  Hp.fold (rs := []) (by simpa using h)
/-- One of many, written or grown in its own place. -/
theorem Hp.turnIn {W : List Nat} {w0 w w' : World} {l : List Ob} {rs : List Row} {r r' : Row} (h : Hp W w0 w l) (i : Nat) (hi : l[i]? = some (.many rs)) (j : Nat) (hj : rs[j]? = some r) (g : Gr r.v.ownBlock.toList w w') (ho : r'.ok w')
    (hb : r'.v.ownBlock = r.v.ownBlock ∨ ∀ b, r'.v.ownBlock = some b → w.heap.size ≤ b) : Hp W w0 w' (l.set i (.many (rs.set j r'))) := by
  have hmo := h.ok _ (List.mem_of_getElem? hi)
  refine h.turnG (o' := .many (rs.set j r')) i hi g (fun b hb => ⟨r, List.mem_of_getElem? hj, by simpa using hb⟩) ⟨fun x hx => ?_, pairwise_set Row.apart_symm hmo.2 fun k b hk hb2 => ?_⟩ (fun b hb2 => ?_)
  · obtain ⟨k, hk⟩ := List.getElem?_of_mem hx
    by_cases hjk : j = k
    · subst hjk
      rw [List.getElem?_set_self (List.getElem?_eq_some_iff.1 hj).1] at hk
      injection hk with hk; subst hk; exact ho
    · rw [List.getElem?_set_ne hjk] at hk
      exact row_kept (hmo.1 x (List.mem_of_getElem? hk)) g fun b hb2 hb3 => pairwise_at Row.apart_symm hmo.2 hj hk hjk b (by simpa using hb3) hb2
  · intro c hc hc2
    rcases hb with e | e
    · exact pairwise_at Row.apart_symm hmo.2 hj hb2 (fun e => hk e.symm) c (e ▸ hc) hc2
    · have h1 := e c hc
      have h2 := (World.ownsRow.lt (hmo.1 b (List.mem_of_getElem? hb2)) c hc2).2
      omega
  · obtain ⟨x, hx, hv⟩ := hb2
    rcases List.mem_or_eq_of_mem_set hx with h2 | rfl
    · exact .inl ⟨x, h2, hv⟩
    · rcases hb with e | e
      · exact .inl ⟨r, List.mem_of_getElem? hj, e ▸ hv⟩
      · exact .inr (e b hv)

/-- An inode: id, kind, links, data, entries. -/
abbrev Nod := Int × Int × Int × ByteArray × List (Int × Int × ByteArray × Int)
instance decTail : DecidableEq (ByteArray × List (Int × Int × ByteArray × Int)) := inferInstance
instance decTail2 : DecidableEq (Int × Int × ByteArray × List (Int × Int × ByteArray × Int)) := inferInstance
instance decNod : DecidableEq Nod := inferInstance
/-- An inode with the slice of its entries, as cells. -/
def cNV (p : Value × Nod) : List Value := [.int .i64 p.2.1, .int .i64 p.2.2.1, .int .i64 p.2.2.2.1, .string p.2.2.2.2.1, p.1]
theorem cNV_len (p : Value × Nod) : (cNV p).length = 5 := rfl
def rowE (p : Value × Nod) : Row := ⟨127, 4, p.1, p.2.2.2.2.2.length, p.2.2.2.2.2.flatMap cEnt⟩
theorem infoInode : (Tryz.prog.info? 90).map (fun i => (i.zero, i.size, i.bytes)) = some (some (.agg #[.int .i64 0, .int .i64 0, .int .i64 0, .string ⟨#[]⟩, .slice none 0 0]), 5, 64) := by kernel_rfl
/-- The slice (A, n) reads as inodes. -/
structure RdN (w : World) (A : Option Addr) (n : Nat) (L : List (Value × Nod)) : Prop where
  out : Rd w A n 5 (L.flatMap cNV)
  inn : ∀ p ∈ L, ∃ (B : Option Addr) (m d : Nat), p.1 = .slice B m d ∧ Rd w B m 4 (p.2.2.2.2.2.flatMap cEnt)
theorem RdN.fr {w w' : World} {A : Option Addr} {n : Nat} {L : List (Value × Nod)} (h : RdN w A n L) (f : Fr w w') : RdN w' A n L :=
  ⟨h.out.fr f, fun p hp => by
    obtain ⟨B, m, d, e, hr⟩ := h.inn p hp
    exact ⟨B, m, d, e, hr.fr f⟩⟩
theorem RdN.len {w : World} {A : Option Addr} {n : Nat} {L : List (Value × Nod)} (h : RdN w A n L) : L.length = n := h.out.lenk cNV_len (by omega)
theorem rowE_shape {w : World} {p : Value × Nod} (h : (rowE p).ok w) : ∃ (B : Option Addr) (d : Nat), p.1 = .slice B p.2.2.2.2.2.length d ∧ Rd w B p.2.2.2.2.2.length 4 (p.2.2.2.2.2.flatMap cEnt) := by
  have h1 : w.ownsRow 0 127 4 p.1 p.2.2.2.2.2.length (p.2.2.2.2.2.flatMap cEnt) := h
  obtain ⟨B, d, e⟩ := own_shape h1
  rw [e] at h1
  exact ⟨B, d, e, Rd.of_own h1⟩
/-- The outer row; the outer row and the rows of entries as one thing. -/
def rowN (v : Value) (n : Nat) (L : List (Value × Nod)) : Row := ⟨90, 5, v, n, L.flatMap cNV⟩
def obN (v : Value) (n : Nat) (L : List (Value × Nod)) : Ob := .many (rowN v n L :: L.map rowE)
theorem Hp.join2 {W : List Nat} {w0 w : World} {l : List Ob} {r : Row} {rs : List Row} (h : Hp W w0 w (r.ob :: .many rs :: l)) : Hp W w0 w (.many (r :: rs) :: l) :=
  Hp.fold (rs := r :: rs) ((h.swap.unfold).perm (by
    rw [List.map_cons, List.cons_append]
    exact List.perm_middle))
theorem Hp.split2 {W : List Nat} {w0 w : World} {l : List Ob} {r : Row} {rs : List Row} (h : Hp W w0 w (.many (r :: rs) :: l)) : Hp W w0 w (r.ob :: .many rs :: l) :=
  (Hp.fold (rs := rs) ((h.unfold).perm (by
    rw [List.map_cons, List.cons_append]
    exact List.perm_middle.symm))).swap
theorem obN_rd {w : World} {A : Option Addr} {n m c : Nat} {L : List (Value × Nod)} (h : (obN (.slice A m c) n L).ok w) (hm : n = m) : RdN w A n L := by
  subst hm
  exact ⟨Rd.of_own (show w.ownsRow 0 90 5 (.slice A n c) n (L.flatMap cNV) from h.1 _ List.mem_cons_self), fun p hp => by
    obtain ⟨B, d, e, hr⟩ := rowE_shape (h.1 (rowE p) (List.mem_cons_of_mem _ (List.mem_map_of_mem hp)))
    exact ⟨B, _, d, e, hr⟩⟩
theorem Hp.rdN {W : List Nat} {w0 w : World} {l : List Ob} {A : Option Addr} {n c : Nat} {L : List (Value × Nod)} (h : Hp W w0 w l) (i : Nat) (hi : l[i]? = some (obN (.slice A n c) n L)) : RdN w A n L :=
  obN_rd (h.ok _ (List.mem_of_getElem? hi)) rfl
theorem Hp.shapeN {W : List Nat} {w0 w : World} {l : List Ob} {v : Value} {n : Nat} {L : List (Value × Nod)} (h : Hp W w0 w l) (i : Nat) (hi : l[i]? = some (obN v n L)) : ∃ A c, v = .slice A n c :=
  own_shape (show w.ownsRow 0 90 5 v n (L.flatMap cNV) from (h.ok _ (List.mem_of_getElem? hi)).1 _ List.mem_cons_self)
theorem RdN.elem {w : World} {A : Option Addr} {n k : Nat} {L : List (Value × Nod)} {p : Value × Nod} (h : RdN w A n L) (hp : L[k]? = some p) :
    ∃ (b o : Nat) (B : Option Addr) (d : Nat), A = some ⟨b, o, none⟩ ∧ p.1 = .slice B p.2.2.2.2.2.length d ∧ Rd w B p.2.2.2.2.2.length 4 (p.2.2.2.2.2.flatMap cEnt) ∧ ∀ j u, (cNV p)[j]? = some u → w.cell? ⟨b, o + k * 5 + j, none⟩ = some u := by
  obtain ⟨b, o, hA, hc⟩ := h.out.elem cNV_len hp (by omega)
  obtain ⟨B, m, d, e, hr⟩ := h.inn p (List.mem_of_getElem? hp)
  have hm := hr.lenk cEnt_len (by omega)
  rw [← hm] at e hr
  exact ⟨b, o, B, d, hA, e, hr, fun j u hu => hc j u hu⟩
end Go.Proofs.YtaogikhpglcmjaaGreatDoor
