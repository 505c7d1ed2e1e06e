/-
  Units, the program's and the reference's.
-/
import Derived.Test.YtfmifaneggenoaaDoorMUnits
import Derived.Test.YtfmifaneggenoaaDoorRowsI
namespace Go.Proofs.YtfmifaneggenoaaDoor
open Go.RowKit

set_option linter.unusedVariables false
set_option linter.unusedSimpArgs false
set_option maxRecDepth 100000 in
set_option maxHeartbeats 8000000 in
theorem implUnits_any (A : Option Addr) (n c : Nat) (l : List Int) (w : World) (h : Rd w A n 1 (l.map (Value.int .i64))) (hn : n ≤ 2097152) :
    Calls Tryd.prog 82 #[.slice A n c] w (MadeR w (unitsL l)) := by
  have HL := Lib.hid h.len1
  have G := Lib.hid h
  have H0 := (Hp.start w).lit0 29 1
  have HAP := Lib.hid (fun (i : Nat) (hi : l.length ≤ i) => show unitsL (l.take i) = unitsL l by rw [List.take_of_length_le hi])
  generalize hul : unitsL l = ul at HAP ⊢
  clear h hul
  go_enter Tryd.func82, Tryd.ntmps82
  go_wp2_with fail
  go_loopw [3, 9] (fun v iv wr => ∃ (i : Nat) (vs : List Value), iv = .int .i64 i ∧ i ≤ n ∧ vs.length = (unitsL (l.take i)).length ∧ Hp [] w wr (rowsOb v vs (unitsL (l.take i)))) (fun _ iv _ => n - (intOf iv).toNat)
  case atStart => exact ⟨0, [], rfl, by omega, rfl, H0⟩
  case round =>
    clear H0
    obtain ⟨i, vs, rfl, hi, hvl, H⟩ := hrel
    rw [rowsOb] at H
    obtain ⟨B, d, rfl⟩ := H.shape 0 rfl
    by_cases hlt : i < n
    · obtain ⟨c0, hx⟩ := at_some HL.out hlt
      obtain ⟨bk, of, rfl, hc⟩ := (H.old G.out).get1 hx
      have hi0 : (0 : Int) ≤ (i : Int) := by omega
      have hi1 : (i : Int) < (n : Int) := by omega
      have HU := Lib.hid (units_next (l := l) (i := i) hx)
      have hul := units_len (l.take i)
      have hz0 : (unitsL (l.take i)) = [] ↔ i = 0 := by
        rw [units_nil]
        constructor
        · intro h
          have := congrArg List.length h
          rw [List.length_take, HL.out, List.length_nil] at this
          omega
        · rintro rfl; rfl
      have hvb : vs.length ≤ 2097152 := by rw [List.length_take] at hul; omega
      have HZ := Lib.hid hz0
      have HUB := Lib.hid (fun (u : List Int) (hu : u ∈ unitsL (l.take i)) => show u.length ≤ 2097152 from Nat.le_trans (units_in hu) (by rw [List.length_take]; omega))
      clear hz0 hx hul
      have HVL := Lib.hid hvl
      clear hvl
      generalize unitsL (l.take i) = L at H HU HZ HUB HVL
      by_cases h0 : i = 0
      · have hd : ((i : Int) == 0) = true := by simp [h0]
        have HI := Lib.hid h0
        clear h0
        have H1 := H.lit 3 1 1 [.int .i64 c0] rfl (by simp [maxLen])
        have HN := Lib.hid (HU.out.trans (uStep_new (.inl (HZ.out.2 HI.out))))
        go_wp2_with (at_builtin; refine wp_appM (f := cSl) H1 rfl _ _ _ rfl Tryd.underlying45 infoInts rfl 1 _ vs rfl rfl _ _ (Value.slice (some ⟨wr.heap.size, 0, none⟩) 1 1) rfl (by simp) rfl (by simp only [maxLen]; omega) (by omega) ?_)
        intro v' w' H'
        have H2 := Lib.hid (rows_push (l := [c0]) HVL.out rfl H')
        clear H' H1
        go_wp2_with fail
        go_roundw
        case rel => exact ⟨i + 1, vs ++ [Value.slice (some ⟨wr.heap.size, 0, none⟩) 1 1], by go_num, by omega, by rw [HN.out, List.length_append, List.length_append, HVL.out]; rfl, by rw [HN.out]; exact H2.out⟩
        case measure => simp [intOf]; omega
      · have hd : ((i : Int) == 0) = false := by simpa using h0
        go_wp2_with fail
        refine (implClass_any _ _).mono ?_
        rintro e wr ⟨rfl, rfl⟩
        by_cases hcl : cls c0 = 0
        · have hd2 : (cls c0 == 0) = true := by simpa using hcl
          have H1 := H.lit 3 1 1 [.int .i64 c0] rfl (by simp [maxLen])
          have HN := Lib.hid (HU.out.trans (uStep_new (.inr hcl)))
          go_wp2_with (at_builtin; refine wp_appM (f := cSl) H1 rfl _ _ _ rfl Tryd.underlying45 infoInts rfl 1 _ vs rfl rfl _ _ (Value.slice (some ⟨wr.heap.size, 0, none⟩) 1 1) rfl (by simp) rfl (by simp only [maxLen]; omega) (by omega) ?_)
          intro v' w' H'
          have H2 := Lib.hid (rows_push (l := [c0]) HVL.out rfl H')
          clear H' H1
          go_wp2_with fail
          go_roundw
          case rel => exact ⟨i + 1, vs ++ [Value.slice (some ⟨wr.heap.size, 0, none⟩) 1 1], by go_num, by omega, by rw [HN.out, List.length_append, List.length_append, HVL.out]; rfl, by rw [HN.out]; exact H2.out⟩
          case measure => simp [intOf]; omega
        · have hd2 : (cls c0 == 0) = false := by simpa using hcl
          rcases List.eq_nil_or_concat L with hL | ⟨L', u0, hL⟩
          · exact absurd (HZ.out.1 hL) h0
          · rw [List.concat_eq_append] at hL
            subst hL
            have HN := Lib.hid (HU.out.trans (uStep_add hcl))
            obtain ⟨q, hq⟩ : ∃ q, q = L'.length := ⟨_, rfl⟩
            have hvq : vs.length = q + 1 := by rw [HVL.out, hq]; simp
            have hlq : (L' ++ [u0])[q]? = some u0 := by rw [hq]; simp
            obtain ⟨uv, hv⟩ := some_at (l := vs) hvq (show q < q + 1 by omega)
            obtain ⟨gO, dO, e, _⟩ := H.form 0 rfl (by omega)
            injection e with e1 _ e2
            subst e1 e2
            have cq := H.atM (f1 := cSl) 0 rfl hv
            obtain ⟨BU, dU, hU⟩ := H.shape (q + 1) (rowsOb_in0 hv hlq)
            subst hU
            have hq0 : (0 : Int) ≤ (q : Int) := by omega
            have hq1 : (q : Int) < ((q : Int) + 1) := by omega
            have hq2 : (q : Int) < (vs.length : Int) := by omega
            have hw1 : IntKind.i64.wrap ((vs.length : Int) - 1) = (q : Int) := by rw [IntWalk.i64_in _ (by omega)]; omega
            have hub : u0.length ≤ 2097152 := HUB.out u0 (by simp)
            have HV := Lib.hid hv
            have HQ := Lib.hid hq
            have HLQ := Lib.hid hlq
            have HVQ := Lib.hid hvq
            clear hv hq hlq hvq
            simp only [cSl] at cq
            go_wp2_with (at_builtin; refine wp_appM (f := Value.int .i64) H rfl _ _ _ rfl Tryd.underlying29 infoInt rfl (q + 1) _ u0 (rowsOb_in0 HV.out HLQ.out) rfl _ _ c0 rfl (by simp) rfl (by simp only [maxLen]; omega) (by omega) ?_)
            intro v' w' H'
            replace H' : Hp [] w w' ((rowsOb (.slice (some ⟨gO, 0, none⟩) vs.length d) vs (L' ++ [u0])).set (q + 1) (.row 3 1 v' (u0 ++ [c0]).length ((u0 ++ [c0]).map (Value.int .i64)))) := by
              rw [List.map_append, List.length_append]
              exact H'
            rw [rowsOb_set0 HVL.out (by rw [List.length_append, List.length_singleton, HQ.out]; omega)] at H'
            obtain ⟨B3, d3, e3⟩ := inner_shape H' (i := q) (v := v') (l := u0 ++ [c0]) (by rw [List.getElem?_set_self (by rw [HVQ.out]; omega)]) (by rw [List.getElem?_set_self (by rw [List.length_append, List.length_singleton, HQ.out]; omega)])
            rw [List.length_append, List.length_singleton] at e3
            subst e3
            have cq' := H'.atM (f1 := cSl) 0 rfl HV.out
            simp only [cSl] at cq'
            have fq := H'.free 0 rfl q
            have H2 := H'.putM (f1 := cSl) 0 rfl q (.slice B3 (u0.length + 1) d3)
            have HS := Lib.hid (show (L' ++ [u0]).set q (u0 ++ [c0]) = L' ++ [u0 ++ [c0]] by rw [HQ.out, List.set_append_right _ _ (Nat.le_refl _)]; simp)
            rw [HS.out] at H2
            have H3 := Lib.hid H2
            clear H H' H2 cq
            go_wp2_with fail
            go_roundw
            case rel => exact ⟨i + 1, vs.set q (.slice B3 (u0.length + 1) d3), by go_num, by omega, by rw [HN.out, List.length_set, HVQ.out, HQ.out]; simp, by rw [HN.out, rowsOb, List.length_set]; exact H3.out⟩
            case measure => simp [intOf]; omega
    · have hge : ¬ ((i : Int) < (n : Int)) := by omega
      rw [HAP.out i (by rw [HL.out]; omega)] at H hvl
      have HF : Hp [] w wr [manyR (.slice B vs.length d) vs ul] := Hp.fold (l := []) (rs := rowO _ vs :: inner vs ul) (by rw [List.append_nil]; exact H)
      have HVL := Lib.hid hvl
      clear hvl H
      go_wp2_with fail
      go_ret
      exact ⟨B, d, vs, by rw [HVL.out]; rfl, HVL.out, by rw [← HVL.out]; exact HF⟩

set_option maxRecDepth 100000 in
set_option maxHeartbeats 8000000 in
theorem specUnits_any (A : Option Addr) (n c : Nat) (l : List Int) (w : World) (h : Rd w A n 1 (l.map (Value.int .i64))) (hn : n ≤ 2097152) (hnc : n ≤ c) :
    Calls Tryd.prog 79 #[.slice A n c] w (MadeR w (unitsL l)) := by
  have HL := Lib.hid h.len1
  have G := Lib.hid h
  have H0 := (Hp.start w).lit0 29 1
  clear h
  go_enter Tryd.func79, Tryd.ntmps79
  go_wp2_with fail
  go_loopw [3, 4, 5] (fun v fv iv wr => ∃ (i f : Nat) (vs : List Value) (o : List (List Int)), iv = .int .i64 i ∧ fv = .int .i64 f ∧ 1 ≤ i ∧ i ≤ n + 1 ∧ vs.length = o.length ∧ o.length ≤ i ∧ Hp [] w wr (rowsOb v vs o) ∧ (i ≤ n → f < i ∧ o ++ [(l.take i).drop f] = unitsL (l.take i)) ∧ (i = n + 1 → o = unitsL l)) (fun _ _ iv _ => n + 1 - (intOf iv).toNat)
  case atStart =>
    refine ⟨1, 0, [], [], rfl, rfl, by omega, by omega, rfl, by simp, H0, fun h1 => ⟨by omega, ?_⟩, fun h1 => ?_⟩
    · obtain ⟨c0, hx⟩ := some_at HL.out (show 0 < n by omega)
      exact spec_first hx
    · have : l = [] := List.eq_nil_of_length_eq_zero (by rw [HL.out]; omega)
      rw [this]; rfl
  case round =>
    clear H0
    obtain ⟨i, f, vs, o, rfl, rfl, hi1, hi, hvl, hol, H, hin, hout⟩ := hrel
    rw [rowsOb] at H
    obtain ⟨B, d, rfl⟩ := H.shape 0 rfl
    have HVL := Lib.hid hvl
    clear hvl
    by_cases hlt : i ≤ n
    · obtain ⟨hf, hst⟩ := hin hlt
      have HST := Lib.hid hst
      clear hst hout hin
      obtain ⟨bk, of, rfl, _⟩ := G.out.2 (by omega)
      have hi0 : (0 : Int) ≤ (i : Int) := by omega
      have hin0 : (i : Int) ≤ (n : Int) := by omega
      have hvb : vs.length ≤ 2097153 := by rw [HVL.out]; omega
      by_cases he : i = n
      · have hd : ((i : Int) == (n : Int)) = true := by simp [he]
        have HI := Lib.hid he
        clear he
        have H1 := H.lit0 3 1
        have hseg : ((l.take i).drop f).length = i - f := by rw [List.length_drop, List.length_take, HL.out, Nat.min_eq_left (by omega)]
        have hrd : Rd (wr.alloc (.cells #[] 3)) (some ⟨bk, of + f, none⟩) (i - f) 1 (((l.take i).drop f).map (Value.int .i64)) := (H1.old G.out).cut (by omega) (by omega)
        obtain ⟨sg, hsg⟩ : ∃ q, q = (l.take i).drop f := ⟨_, rfl⟩
        rw [← hsg] at hseg hrd
        have HSE := Lib.hid hsg
        have HSG := Lib.hid hseg
        clear hseg hsg
        have hfi : (f : Int) ≤ (i : Int) := by omega
        have hf0 : (0 : Int) ≤ (f : Int) := by omega
        have hin : (i : Int) ≤ (n : Int) := by omega
        go_wp2_with (at_builtin; refine wp_appRd H1 rfl _ _ _ rfl Tryd.underlying29 infoInt rfl (by decide) 0 _ _ _ rfl rfl _ _ _ _ rfl (fun e => by cases e) hrd (by simp [Value.oneCell']) (by simp only [maxLen]; omega) (by omega) ?_)
        intro v' w' H'
        have H2 : Hp [] w w' (.row 3 1 v' (i - f) (sg.map (Value.int .i64)) :: .row 29 1 (.slice B vs.length d) vs.length (vs.map cSl) :: (inner vs o).map Row.ob) := by
          simpa using H'
        clear H' H1 hrd
        obtain ⟨B3, d3, rfl⟩ := H2.shape 0 rfl
        go_wp2_with (at_builtin; refine wp_appM (f := cSl) H2 rfl _ _ _ rfl Tryd.underlying45 infoInts rfl 1 _ vs rfl rfl _ _ (Value.slice B3 (i - f) d3) rfl (by simp) rfl (by simp only [maxLen]; omega) (by omega) ?_)
        intro v' w' H'
        have H3 := Lib.hid (rows_push (l := sg) HVL.out HSG.out.symm H')
        clear H' H2 H
        go_wp2_with fail
        go_roundw
        case rel => exact ⟨i + 1, i, vs ++ [Value.slice B3 (i - f) d3], o ++ [sg], by go_num, rfl, by omega, by omega, by rw [List.length_append, List.length_append, HVL.out]; rfl, by rw [List.length_append, List.length_singleton]; omega, H3.out, fun h1 => absurd HI.out (by omega), fun _ => by rw [HSE.out, HST.out, HI.out, List.take_of_length_le (by rw [HL.out]; omega)]⟩
        case measure => simp [intOf]; omega
      · have hd : ((i : Int) == (n : Int)) = false := by simpa using fun h : (i : Int) = (n : Int) => he (by omega)
        obtain ⟨c0, hx⟩ := at_some HL.out (show i < n by omega)
        obtain ⟨bk', of', e, hc⟩ := (H.old G.out).get1 hx
        injection e with e
        injection e with e1 e2
        subst e1 e2
        have hi1' : (i : Int) < (n : Int) := by omega
        go_wp2_with fail
        refine (specClass_any _ _).mono ?_
        rintro e w2 ⟨rfl, f2⟩
        replace H := H.go f2
        clear hc
        have hne : i < n := by omega
        have HX := Lib.hid (show l[i]? = some c0 from hx)
        clear hx
        by_cases hcl : cls c0 = 0
        · have hd2 : (cls c0 == 0) = true := by simpa using hcl
          obtain ⟨wr, hwr⟩ : ∃ q : World, q = w2 := ⟨_, rfl⟩
          rw [← hwr] at H ⊢
          clear hwr
          have H1 := H.lit0 3 1
          have hseg : ((l.take i).drop f).length = i - f := by rw [List.length_drop, List.length_take, HL.out, Nat.min_eq_left (by omega)]
          have hrd : Rd (wr.alloc (.cells #[] 3)) (some ⟨bk, of + f, none⟩) (i - f) 1 (((l.take i).drop f).map (Value.int .i64)) := (H1.old G.out).cut (by omega) (by omega)
          obtain ⟨sg, hsg⟩ : ∃ q, q = (l.take i).drop f := ⟨_, rfl⟩
          rw [← hsg] at hseg hrd
          have HSE := Lib.hid hsg
          have HSG := Lib.hid hseg
          clear hseg hsg
          have hfi : (f : Int) ≤ (i : Int) := by omega
          have hf0 : (0 : Int) ≤ (f : Int) := by omega
          have hin : (i : Int) ≤ (n : Int) := by omega
          go_wp2_with (at_builtin; refine wp_appRd H1 rfl _ _ _ rfl Tryd.underlying29 infoInt rfl (by decide) 0 _ _ _ rfl rfl _ _ _ _ rfl (fun e => by cases e) hrd (by simp [Value.oneCell']) (by simp only [maxLen]; omega) (by omega) ?_)
          intro v' w' H'
          have H2 : Hp [] w w' (.row 3 1 v' (i - f) (sg.map (Value.int .i64)) :: .row 29 1 (.slice B vs.length d) vs.length (vs.map cSl) :: (inner vs o).map Row.ob) := by
            simpa using H'
          clear H' H1 hrd
          obtain ⟨B3, d3, rfl⟩ := H2.shape 0 rfl
          go_wp2_with (at_builtin; refine wp_appM (f := cSl) H2 rfl _ _ _ rfl Tryd.underlying45 infoInts rfl 1 _ vs rfl rfl _ _ (Value.slice B3 (i - f) d3) rfl (by simp) rfl (by simp only [maxLen]; omega) (by omega) ?_)
          intro v' w' H'
          have H3 := Lib.hid (rows_push (l := sg) HVL.out HSG.out.symm H')
          clear H' H2 H
          go_wp2_with fail
          go_roundw
          case rel => exact ⟨i + 1, i, vs ++ [Value.slice B3 (i - f) d3], o ++ [sg], by go_num, rfl, by omega, by omega, by rw [List.length_append, List.length_append, HVL.out]; rfl, by rw [List.length_append, List.length_singleton]; omega, H3.out, fun h1 => ⟨by omega, by rw [HSE.out]; exact spec_cut HST.out HX.out hcl⟩, fun h1 => absurd h1 (by omega)⟩
          case measure => simp [intOf]; omega
        · have hd2 : (cls c0 == 0) = false := by simpa using hcl
          go_wp2_with fail
          go_roundw
          case rel => exact ⟨i + 1, f, vs, o, by go_num, rfl, by omega, by omega, HVL.out, by omega, H, fun h1 => ⟨by omega, spec_on HST.out (by omega) HX.out hcl⟩, fun h1 => absurd h1 (by omega)⟩
          case measure => simp [intOf]; omega
    · have hge : ¬ ((i : Int) ≤ (n : Int)) := by omega
      have HO := Lib.hid (hout (by omega))
      have HF : Hp [] w wr [manyR (.slice B vs.length d) vs o] := Hp.fold (l := []) (rs := rowO _ vs :: inner vs o) (by rw [List.append_nil]; exact H)
      clear H hout hin
      go_wp2_with fail
      go_ret
      rw [← HO.out]
      exact ⟨B, d, vs, by rw [← HVL.out]; rfl, HVL.out, by rw [← HVL.out]; exact HF⟩
end Go.Proofs.YtfmifaneggenoaaDoor
