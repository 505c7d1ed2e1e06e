/-
  The law FnUnits, walked.
-/
import Derived.Test.YtlhjglkghdfbnaaDrawSigns
import Derived.Test.YtlhjglkghdfbnaaUnits
import Derived.Test.YtlhjglkghdfbnaaIntSS
import Derived.Test.YtlhjglkghdfbnaaAppS
import Derived.Test.YtlhjglkghdfbnaaLaw2
namespace Go.Proofs.Ytlhjglkghdfbnaa
open Go.RowKit

/-- Each row is a letter and its marks. -/
def GoodU (o : List (List Int)) : Prop := ∀ (i : Nat) (u : List Int), o[i]? = some u → ∃ (c : Int) (r : List Int), u = c :: r ∧ (∀ x ∈ r, cls x ≠ 0) ∧ (0 < i → cls c = 0)
theorem GoodU.step {o : List (List Int)} (h : GoodU o) (c : Int) : GoodU (uStep o c) := by
  intro i u hu
  rw [uStep] at hu
  split at hu
  · rename_i hor
    rcases Nat.lt_or_ge i o.length with hi | hi
    · rw [List.getElem?_append_left hi] at hu
      exact h i u hu
    · rw [List.getElem?_append_right hi] at hu
      have h0 : i - o.length = 0 := by
        have := (List.getElem?_eq_some_iff.1 hu).1
        simp at this; omega
      rw [h0] at hu
      simp at hu
      subst hu
      refine ⟨c, [], rfl, by simp, fun hp => ?_⟩
      rcases hor with ho | hc
      · subst ho; simp at h0; omega
      · exact hc
  · rename_i hor
    simp only [not_or] at hor
    rcases List.eq_nil_or_concat o with h5 | ⟨o', v, rfl⟩
    · exact absurd h5 hor.1
    · rw [List.concat_eq_append] at h
      simp only [List.concat_eq_append, List.dropLast_concat, List.getLastD_concat] at hu
      rcases Nat.lt_or_ge i o'.length with hi | hi
      · rw [List.getElem?_append_left hi] at hu
        exact h i u (by rw [List.getElem?_append_left hi]; exact hu)
      · rw [List.getElem?_append_right hi] at hu
        have h0 : i - o'.length = 0 := by
          have := (List.getElem?_eq_some_iff.1 hu).1
          simp at this; omega
        rw [h0] at hu
        simp at hu
        subst hu
        obtain ⟨a, r, hv, hr, ha⟩ := h i v (by rw [List.getElem?_append_right hi, h0]; rfl)
        subst hv
        refine ⟨a, r ++ [c], rfl, fun x hx => ?_, ha⟩
        rcases List.mem_append.1 hx with h6 | h6
        · exact hr x h6
        · rw [List.mem_singleton.1 h6]; exact hor.2
theorem units_good (l : List Int) : GoodU (unitsL l) := by
  have key : ∀ (l : List Int) (o : List (List Int)), GoodU o → GoodU (l.foldl uStep o) := by
    intro l
    induction l with
    | nil => intro o h; exact h
    | cons c l ih => intro o h; exact ih _ (h.step c)
  exact key l [] (fun i u h => by simp at h)

set_option linter.unusedVariables false
theorem big_any (A : Option Addr) (n c : Nat) (w : World) (_hn : n ≤ 9223372036854775807) :
    Calls Try.prog 13 #[.slice A n c] w fun e w' => e = .returned (.bool (decide (1048576 < n))) ∧ w = w' := by
  go_enter Try.func13, Try.ntmps13
  go_wp2
  go_ret
  exact ⟨ret_bool (by simp; omega), rfl⟩
set_option maxRecDepth 100000 in
set_option maxHeartbeats 1000000 in
theorem sameInts_yes (A : Option Addr) (n c : Nat) (B : Option Addr) (m d : Nat) (l : List Int) (w : World) (h : Rd w A n 1 (l.map (Value.int .i64))) (h' : Rd w B m 1 (l.map (Value.int .i64))) (hn : n ≤ 100000000) :
    Calls Try.prog 16 #[.slice A n c, .slice B m d] w fun e w' => e = .returned (.bool true) ∧ Fr w w' := by
  have hl := h.len1
  have hl' := h'.len1
  obtain rfl : n = m := by omega
  have HL := Lib.hid hl
  clear hl hl'
  have G := Lib.hid h
  have G' := Lib.hid h'
  clear h h'
  go_enter Try.func16, Try.ntmps16
  go_wp2_with fail
  go_loopw [5] (fun i wr => ∃ k : Nat, k ≤ n ∧ i = .int .i64 k ∧ Fr w wr) (fun i _ => n - (intOf i).toNat)
  case atStart => exact ⟨0, by omega, rfl, Below.refl _ _⟩
  case round =>
    obtain ⟨k, hk, rfl, hfr⟩ := hrel
    by_cases hlt : k < n
    · obtain ⟨u, hx⟩ := at_some HL.out hlt
      obtain ⟨b1, o1, rfl, c0⟩ := (G.out.fr hfr).get1 hx
      obtain ⟨b2, o2, rfl, d0⟩ := (G'.out.fr hfr).get1 hx
      have hk0 : (0 : Int) ≤ (k : Int) := by omega
      have hk1 : (k : Int) < (n : Int) := by omega
      clear hx
      go_wp2_with fail
      refine wp_region_quiet_lit (by kernel_rfl) (by kernel_rfl) ?_
      repeat (any_goals (first | go_big_quiet_step ((fail)) | quiet_step ((fail)) | (refine wpQuiet_step (fun K hK => ?_); go_simp; split <;> (refine hK _ ?_; clear hK K))))
      all_goals (refine wpQuiet_nil ?_; intro _ hw_; obtain ⟨nq, hw__⟩ := hw_; subst hw__)
      go_wp2_with fail
      go_roundw
      case rel => exact ⟨k + 1, by omega, by go_num, hfr.on _⟩
      case measure => simp [intOf]; omega
    · go_wp2_with fail
      go_ret
      exact ⟨rfl, hfr⟩

set_option maxRecDepth 100000 in
set_option maxHeartbeats 4000000 in
theorem lawFnUnits_walk (A : Option Addr) (n c : Nat) (bs : List UInt8) (w : World) (hA : Rd w A n 1 (bs.map cU8)) (hcap : n ≤ 9223372036854775807) :
    Calls Try.prog 4 #[.slice A n c] w fun e w' => e = .returned (.bool true) ∧ Fr w w' := by
  by_cases hbig : 1048576 < n
  · have hd : decide (1048576 < n) = true := by simpa using hbig
    go_enter Try.func4, Try.ntmps4
    go_wp2_with fail
    refine (big_any A n c _ hcap).mono ?_
    rintro e w1 ⟨rfl, rfl⟩
    rw [hd]
    go_wp2_with fail
    go_ret
    exact ⟨rfl, Below.refl _ _⟩
  have hd : decide (1048576 < n) = false := by simpa using hbig
  go_enter Try.func4, Try.ntmps4
  go_wp2_with fail
  refine (big_any A n c _ hcap).mono ?_
  rintro e w1 ⟨rfl, rfl⟩
  rw [hd]
  go_wp2_with fail
  refine (drawUnits_any A n c bs _ hA (by omega)).mono ?_
  rintro e w2 ⟨B, d, l, rfl, hl, _, H2⟩
  go_wp2_with fail
  refine (implUnits_any _ _ _ l _ (H2.rd 0 rfl) (by omega)).mono ?_
  rintro e w3 ⟨U, cu, vs, rfl, hv, K3⟩
  have H3 := (H2.join K3).lit0 3 1
  have HV := Lib.hid hv
  have HG := Lib.hid (units_good l)
  have HFL := Lib.hid (units_flat l)
  have hul := units_len l
  have HIN := Lib.hid (fun (u : List Int) (hu : u ∈ unitsL l) => units_in hu)
  clear H2 K3 hv
  generalize unitsL l = ul at H3 HV HG HFL hul HIN
  obtain ⟨m, hm⟩ : ∃ m, m = ul.length := ⟨_, rfl⟩
  have HM := Lib.hid hm
  rw [← hm] at H3 hul ⊢
  clear hm
  go_wp2_with fail
  go_loopw [5, 6] (fun v iv wr => ∃ i : Nat, iv = .int .i64 i ∧ i ≤ m ∧ Hp [] w wr [.row 3 1 v ((ul.take i).flatten).length (((ul.take i).flatten).map (Value.int .i64)), manyR (.slice U m cu) vs ul, .row 3 1 (.slice B l.length d) l.length (l.map (Value.int .i64))]) (fun _ iv _ => m - (intOf iv).toNat)
  case atStart => exact ⟨0, rfl, by omega, H3⟩
  case round =>
    clear H3
    obtain ⟨i, rfl, hi, H⟩ := hrel
    obtain ⟨B1, d1, rfl⟩ := H.shape 0 rfl
    by_cases hlt : i < m
    · obtain ⟨u, hx⟩ := some_at HM.out.symm hlt
      obtain ⟨a, r, hur, hrr, haa⟩ := HG.out i u hx
      have hub := HIN.out u (List.mem_of_getElem? hx)
      have HX := Lib.hid hx
      have HUR := Lib.hid hur
      have HRR := Lib.hid hrr
      have HT := Lib.hid (show (ul.take (i + 1)).flatten = (ul.take i).flatten ++ u by rw [List.take_add_one, hx]; simp)
      have hfl : ((ul.take i).flatten).length ≤ 10 := by
        have h1 : (ul.take i).flatten.length + (ul.drop i).flatten.length = ul.flatten.length := by rw [← List.length_append, ← List.flatten_append, List.take_append_drop]
        rw [HFL.out] at h1
        omega
      have hu1 : 1 ≤ u.length := by rw [hur]; simp
      have hi0 : (0 : Int) ≤ (i : Int) := by omega
      have hi1 : (i : Int) < (m : Int) := by omega
      have hud : ((u.length : Int) == 0) = false := by rw [beq_eq_false_iff_ne]; omega
      have R := H.rdR 1 rfl (HV.out.trans HM.out.symm) HV.out
      obtain ⟨bu, ou, Bu, du, e, cu1, ru⟩ := R.at_ hx
      subst e
      obtain ⟨b2, o2, e, ca⟩ := ru.get1 (j := 0) (x := a) (by rw [hur]; rfl)
      subst e
      simp only [Nat.add_zero] at ca
      clear hx hur hrr R
      generalize (ul.take i).flatten = fl at H HT hfl
      have hu0 : (0 : Int) < (u.length : Int) := by omega
      by_cases h0 : i = 0
      · have hd0 : decide ((0 : Int) < (i : Int)) = false := by simp; omega
        have hd1 : ¬ 0 < i := by omega
        clear h0
        have HH := Lib.hid H
        have HCU := Lib.hid cu1
        have HRU := Lib.hid ru
        clear H ru
        go_wp2_with fail
        go_loopw [7] (fun kv w6 => ∃ k : Nat, kv = .int .i64 k ∧ 1 ≤ k ∧ k ≤ u.length ∧ Hp [] w w6 [.row 3 1 (.slice B1 fl.length d1) fl.length (fl.map (Value.int .i64)), manyR (.slice (some ⟨bu, ou, none⟩) m cu) vs ul, .row 3 1 (.slice B l.length d) l.length (l.map (Value.int .i64))] ∧ Rd w6 (some ⟨b2, o2, none⟩) u.length 1 (u.map (Value.int .i64)) ∧ w6.cell? ⟨bu, ou + i, none⟩ = some (.slice (some ⟨b2, o2, none⟩) u.length du)) (fun kv _ => u.length - (intOf kv).toNat)
        case atStart => exact ⟨1, rfl, by omega, hu1, HH.out, HRU.out, HCU.out⟩
        case round =>
          clear HH HCU HRU
          obtain ⟨k, rfl, hk1, hk, H, ru, cu1⟩ := hrel
          by_cases hkt : k < u.length
          · obtain ⟨x, hx⟩ := some_at (l := u) rfl hkt
            obtain ⟨b3, o3, e, cx⟩ := ru.get1 hx
            injection e with e
            injection e with e1 e2
            subst e1 e2
            have hxr : x ∈ r := by
              rw [HUR.out] at hx
              obtain ⟨q, rfl⟩ : ∃ q, k = q + 1 := ⟨k - 1, by omega⟩
              rw [List.getElem?_cons_succ] at hx
              exact List.mem_of_getElem? hx
            have hcx : (cls x == 0) = false := by simpa using HRR.out x hxr
            have hk0 : (0 : Int) ≤ (k : Int) := by omega
            have hk2 : (k : Int) < (u.length : Int) := by omega
            clear hx hxr
            go_wp2_with fail
            refine (specClass_any _ _).mono ?_
            rintro e w7 ⟨rfl, f7⟩
            have H7 := Lib.hid (H.go f7)
            have C7 := Lib.hid (fr_cell f7 cu1)
            have R7 := Lib.hid (ru.fr f7)
            clear H cu1 ru cx f7
            go_wp2_with fail
            go_roundw
            case rel => exact ⟨k + 1, by go_num, by omega, by omega, H7.out, R7.out, C7.out⟩
            case measure => simp [intOf]; omega
          · have hge : ¬ ((k : Int) < (u.length : Int)) := by omega
            have hub10 : u.length ≤ 10 := by omega
            go_wp2_with (at_builtin; refine wp_appS (f := Value.int .i64) H rfl _ _ _ rfl Try.underlying22 infoInt rfl 0 _ fl rfl rfl _ _ u rfl (fun e => by cases e) ru (by simp [Value.oneCell']) (by simp only [maxLen]; omega) (by omega) ?_)
            intro v' w' H'
            have H2 := Lib.hid (show Hp [] w w' [.row 3 1 v' ((ul.take (i + 1)).flatten).length (((ul.take (i + 1)).flatten).map (Value.int .i64)), manyR (.slice (some ⟨bu, ou, none⟩) m cu) vs ul, .row 3 1 (.slice B l.length d) l.length (l.map (Value.int .i64))] by
              rw [HT.out, List.map_append, List.length_append]
              exact H')
            clear H' H ru cu1
            go_wp2_with fail
            go_roundw
            case rel => exact ⟨i + 1, by go_num, by omega, H2.out⟩
            case measure => simp [intOf]; omega
      · have hd0 : decide ((0 : Int) < (i : Int)) = true := by simp; omega
        have hd1 : 0 < i := by omega
        have hca : (cls a != 0) = false := by rw [haa (by omega)]; rfl
        have hca2 : (cls a == 0) = true := by rw [haa (by omega)]; rfl
        go_wp2_with fail
        refine (specClass_any _ _).mono ?_
        rintro e w5 ⟨rfl, f5⟩
        replace H := H.go f5
        replace cu1 := fr_cell f5 cu1
        replace ru := ru.fr f5
        clear f5 ca h0
        have HH := Lib.hid H
        have HCU := Lib.hid cu1
        have HRU := Lib.hid ru
        clear H ru
        go_wp2_with fail
        go_loopw [7] (fun kv w6 => ∃ k : Nat, kv = .int .i64 k ∧ 1 ≤ k ∧ k ≤ u.length ∧ Hp [] w w6 [.row 3 1 (.slice B1 fl.length d1) fl.length (fl.map (Value.int .i64)), manyR (.slice (some ⟨bu, ou, none⟩) m cu) vs ul, .row 3 1 (.slice B l.length d) l.length (l.map (Value.int .i64))] ∧ Rd w6 (some ⟨b2, o2, none⟩) u.length 1 (u.map (Value.int .i64)) ∧ w6.cell? ⟨bu, ou + i, none⟩ = some (.slice (some ⟨b2, o2, none⟩) u.length du)) (fun kv _ => u.length - (intOf kv).toNat)
        case atStart => exact ⟨1, rfl, by omega, hu1, HH.out, HRU.out, HCU.out⟩
        case round =>
          clear HH HCU HRU
          obtain ⟨k, rfl, hk1, hk, H, ru, cu1⟩ := hrel
          by_cases hkt : k < u.length
          · obtain ⟨x, hx⟩ := some_at (l := u) rfl hkt
            obtain ⟨b3, o3, e, cx⟩ := ru.get1 hx
            injection e with e
            injection e with e1 e2
            subst e1 e2
            have hxr : x ∈ r := by
              rw [HUR.out] at hx
              obtain ⟨q, rfl⟩ : ∃ q, k = q + 1 := ⟨k - 1, by omega⟩
              rw [List.getElem?_cons_succ] at hx
              exact List.mem_of_getElem? hx
            have hcx : (cls x == 0) = false := by simpa using HRR.out x hxr
            have hk0 : (0 : Int) ≤ (k : Int) := by omega
            have hk2 : (k : Int) < (u.length : Int) := by omega
            clear hx hxr
            go_wp2_with fail
            refine (specClass_any _ _).mono ?_
            rintro e w7 ⟨rfl, f7⟩
            have H7 := Lib.hid (H.go f7)
            have C7 := Lib.hid (fr_cell f7 cu1)
            have R7 := Lib.hid (ru.fr f7)
            clear H cu1 ru cx f7
            go_wp2_with fail
            go_roundw
            case rel => exact ⟨k + 1, by go_num, by omega, by omega, H7.out, R7.out, C7.out⟩
            case measure => simp [intOf]; omega
          · have hge : ¬ ((k : Int) < (u.length : Int)) := by omega
            have hub10 : u.length ≤ 10 := by omega
            go_wp2_with (at_builtin; refine wp_appS (f := Value.int .i64) H rfl _ _ _ rfl Try.underlying22 infoInt rfl 0 _ fl rfl rfl _ _ u rfl (fun e => by cases e) ru (by simp [Value.oneCell']) (by simp only [maxLen]; omega) (by omega) ?_)
            intro v' w' H'
            have H2 := Lib.hid (show Hp [] w w' [.row 3 1 v' ((ul.take (i + 1)).flatten).length (((ul.take (i + 1)).flatten).map (Value.int .i64)), manyR (.slice (some ⟨bu, ou, none⟩) m cu) vs ul, .row 3 1 (.slice B l.length d) l.length (l.map (Value.int .i64))] by
              rw [HT.out, List.map_append, List.length_append]
              exact H')
            clear H' H ru cu1
            go_wp2_with fail
            go_roundw
            case rel => exact ⟨i + 1, by go_num, by omega, H2.out⟩
            case measure => simp [intOf]; omega
    · have hge : ¬ ((i : Int) < (m : Int)) := by omega
      have ht : (ul.take i).flatten = l := by rw [List.take_of_length_le (by rw [← HM.out]; omega), HFL.out]
      rw [ht] at H ⊢
      clear ht
      go_wp2_with fail
      refine (sameInts_yes _ _ _ _ _ _ l _ (H.rd 0 rfl) (H.rd 2 rfl) (by omega)).mono ?_
      rintro e w5 ⟨rfl, f5⟩
      have H5 := H.go f5
      clear H
      go_wp2_with fail
      go_ret
      exact ⟨rfl, H5.fr⟩
end Go.Proofs.Ytlhjglkghdfbnaa
