/-
  extents and l16Exts: the extents of blocks, in memory of the call's own.
-/
import Derived.Test.YtbmoolmgfpcnkaaFlat
namespace Go.Proofs.Ytbmoolmgfpcnkaa
open Go.RowKit

set_option maxRecDepth 100000 in
set_option maxHeartbeats 4000000 in
theorem implExtents_any (A : Option Addr) (c : Nat) (m : List Int) (w : World) (h : Rd w A 12 1 (m.map (Value.int .i64))) (hm : BlkOk m) :
    Calls Try.prog 75 #[.slice A 12 c] w (Made w 92 3 (extsL m).length ((extsL m).flatMap cExt)) := by
  have HL := Lib.hid h.len1
  have G := Lib.hid h
  have HM := Lib.hid hm
  clear h hm
  have H0 := (Hp.start w).lit0 92 3
  go_enter Try.func75, Try.ntmps75
  go_wp2_with fail
  go_loopw [3, 9] (fun v i wr => ∃ k : Nat, k ≤ 12 ∧ i = .int .i64 k ∧ Hp [] w wr [.row 92 3 v (extsTo m k).length ((extsTo m k).flatMap cExt)]) (fun _ i _ => 12 - (intOf i).toNat)
  case atStart => exact ⟨0, by omega, rfl, H0⟩
  case round =>
    clear H0
    obtain ⟨k, hk, rfl, H⟩ := hrel
    have hlen := extsTo_len m k
    have hlast := extsTo_last HM.out HL.out k hk
    by_cases hlt : k < 12
    · obtain ⟨x, hx⟩ := at_some HL.out hlt
      obtain ⟨bk, of, rfl, cx⟩ := (H.old G.out).get1 hx
      have hxb := HM.out x hx.mem
      by_cases hneg : x < 0
      · have HE := Lib.hid (extsTo_skip hx hneg)
        clear hlast
        go_wp2_with fail
        go_roundw
        case rel => exact ⟨k + 1, by omega, by go_num, by rw [HE.out]; exact H⟩
        case measure => simp [intOf]; omega
      · rcases Nat.eq_zero_or_pos k with hk0 | hk0
        · subst hk0
          simp only [Nat.add_zero] at cx
          have HE := Lib.hid (extsTo_app hx hneg (goesOn_zero m))
          clear hlast
          go_wp2_with (at_builtin; refine wp_appL (f := cExt) (H) rfl _ _ _ rfl Try.underlying32 infoExt rfl (by decide) 0 _ _ rfl rfl _ _ (((0 : Nat) : Int), x, 1) rfl (by simp) rfl (by simp [cExt, Value.oneCell']) (by first | (simp only [maxLen]; omega) | (simp [maxLen]; done) | (simp [maxLen]; omega)) (by first | omega | (simp; done) | (simp; omega)) ?_)
          intro v' w' H'
          go_wp2
          go_roundw
          case rel => exact ⟨1, by omega, rfl, by rw [HE.out]; simpa using H'⟩
          case measure => simp [intOf]
        · obtain ⟨k, rfl⟩ : ∃ q, k = q + 1 := ⟨k - 1, by omega⟩
          obtain ⟨y, hy⟩ := at_some HL.out (show k < 12 by omega)
          obtain ⟨_, _, e, cy⟩ := (H.old G.out).get1 hy
          injection e with e
          injection e with e1 e2
          subst e1 e2
          have hyb := HM.out y hy.mem
          by_cases hg : goesOn m (k + 1) = true
          · have hg2 := hg
            rw [goesOn_succ hx hy] at hg2
            simp only [Bool.and_eq_true, decide_eq_true_eq] at hg2
            obtain ⟨hy0, hxy⟩ := hg2
            obtain ⟨o, a, b, q, ho, h1, h2⟩ := hlast.1 (by omega) (by simpa [List.getD_eq_getElem?_getD, show m[k]? = some y from hy] using hy0)
            have h3 := hlast.2 o a b q ho
            have HE := Lib.hid ((extsTo_grow hx hneg hg).trans (by rw [ho, extGrow_snoc]))
            rw [ho] at H hlen
            simp only [List.length_append, List.length_singleton] at H hlen
            obtain ⟨g, c2, rfl, _⟩ := H.form 0 rfl (by omega)
            have d1 := H.atL 0 rfl cExt_len (j := o.length) (r := 2) (x := (a, b, q)) (by simp) rfl
            have hz := H.free 0 rfl (o.length * 3 + 2)
            have H3 := H.putL 0 rfl cExt_len o.length 2 (x := (a, b, q)) (a, b, q + 1) (.int .i64 (q + 1)) (by simp) (by omega) rfl
            rw [set_snoc] at H3
            have H4 := Lib.hid H3
            have hq1 : q ≤ 12 := h3.2.2.2.2.2.2.1
            have hq2 : 1 ≤ q := h3.2.1
            have hxy2 : (x == y + 1) = true := by simp [hxy]
            clear H3 H h1 h2 h3 hlast hxy
            go_wp2_with fail
            go_roundw
            case rel => exact ⟨k + 1 + 1, by omega, by go_num, by rw [HE.out]; simpa using H4.out⟩
            case measure => simp [intOf]; omega
          · have hgf : goesOn m (k + 1) = false := by simpa using hg
            have HE := Lib.hid (extsTo_app hx hneg hgf)
            rw [goesOn_succ hx hy, Bool.and_eq_false_iff, decide_eq_false_iff_not, decide_eq_false_iff_not] at hgf
            clear hlast hg
            by_cases hy0 : y < 0
            · have hyd : decide (0 ≤ y) = false := by simpa using hy0
              go_wp2_with (at_builtin; refine wp_appL (f := cExt) (H) rfl _ _ _ rfl Try.underlying32 infoExt rfl (by decide) 0 _ _ rfl rfl _ _ (((k + 1 : Nat) : Int), x, 1) rfl (by simp) rfl (by simp [cExt, Value.oneCell']) (by first | (simp only [maxLen]; omega) | (simp [maxLen]; done) | (simp [maxLen]; omega)) (by first | omega | (simp; done) | (simp; omega)) ?_)
              intro v' w' H'
              go_wp2
              go_roundw
              case rel => exact ⟨k + 1 + 1, by omega, by go_num, by rw [HE.out]; simpa using H'⟩
              case measure => simp [intOf]; omega
            · have hxy : (x == y + 1) = false := by
                rcases hgf with h1 | h1
                · omega
                · simpa using h1
              clear hgf
              go_wp2_with (at_builtin; refine wp_appL (f := cExt) (H) rfl _ _ _ rfl Try.underlying32 infoExt rfl (by decide) 0 _ _ rfl rfl _ _ (((k + 1 : Nat) : Int), x, 1) rfl (by simp) rfl (by simp [cExt, Value.oneCell']) (by first | (simp only [maxLen]; omega) | (simp [maxLen]; done) | (simp [maxLen]; omega)) (by first | omega | (simp; done) | (simp; omega)) ?_)
              intro v' w' H'
              go_wp2
              go_roundw
              case rel => exact ⟨k + 1 + 1, by omega, by go_num, by rw [HE.out]; simpa using H'⟩
              case measure => simp [intOf]; omega
    · have e : extsTo m k = extsL m := by rw [extsL, HL.out]; congr 1; omega
      rw [e] at H
      obtain ⟨A1, c1, rfl⟩ := H.shape 0 rfl
      go_wp2_with fail
      go_ret
      exact H.toMade 0 rfl

set_option maxRecDepth 100000 in
set_option maxHeartbeats 4000000 in
theorem specExts_any (A : Option Addr) (c : Nat) (m : List Int) (w : World) (h : Rd w A 12 1 (m.map (Value.int .i64))) (hm : BlkOk m) :
    Calls Try.prog 78 #[.slice A 12 c] w (Made w 92 3 (extsL m).length ((extsL m).flatMap cExt)) := by
  have HL := Lib.hid h.len1
  have G := Lib.hid h
  have HM := Lib.hid hm
  clear h hm
  have H0 := (Hp.start w).lit0 92 3
  go_enter Try.func78, Try.ntmps78
  go_wp2_with fail
  go_loopw [3, 4] (fun v i wr => ∃ k : Nat, k ≤ 12 ∧ i = .int .i64 k ∧ Hp [] w wr [.row 92 3 v (extsTo m k).length ((extsTo m k).flatMap cExt)]) (fun _ i _ => 12 - (intOf i).toNat)
  case atStart => exact ⟨0, by omega, rfl, H0⟩
  case round =>
    clear H0
    obtain ⟨k, hk, rfl, H⟩ := hrel
    have hlen := extsTo_len m k
    have hlast := extsTo_last HM.out HL.out k hk
    by_cases hlt : k < 12
    · obtain ⟨x, hx⟩ := at_some HL.out hlt
      obtain ⟨bk, of, rfl, cx⟩ := (H.old G.out).get1 hx
      have hxb := HM.out x hx.mem
      by_cases hneg : x < 0
      · have HE := Lib.hid (extsTo_skip hx hneg)
        clear hlast
        go_wp2_with fail
        go_roundw
        case rel => exact ⟨k + 1, by omega, by go_num, by rw [HE.out]; exact H⟩
        case measure => simp [intOf]; omega
      · rcases List.eq_nil_or_concat (extsTo m k) with ho | ⟨o, ⟨a, b, q⟩, ho⟩
        · have hgf : goesOn m k = false := goesOn_nil (by rw [← ho]; exact hlast)
          have HE := Lib.hid ((extsTo_app hx hneg hgf).trans (by rw [ho]))
          rw [ho] at H
          obtain ⟨A1, c1, rfl⟩ := H.shape 0 rfl
          clear hlast ho hgf hlen
          go_wp2_with fail
          refine wp_region_quiet_lit (by kernel_rfl) (by kernel_rfl) ?_
          repeat (any_goals (first | go_big_quiet_step ((fail)) | quiet_step ((fail)) | (refine wpQuiet_step (fun K hK => ?_); go_simp; split <;> (refine hK _ ?_; clear hK K))))
          all_goals (refine wpQuiet_nil ?_; intro _ hw_; obtain ⟨nq, hw__⟩ := hw_; subst hw__)
          go_wp2_with (at_builtin; refine wp_appL (f := cExt) ((H.on nq)) rfl _ _ _ rfl Try.underlying32 infoExt rfl (by decide) 0 _ _ rfl rfl _ _ ((k : Int), x, 1) rfl (by simp) rfl (by simp [cExt, Value.oneCell']) (by first | (simp only [maxLen]; omega) | (simp [maxLen]; done) | (simp [maxLen]; omega)) (by first | omega | (simp; done) | (simp; omega)) ?_)
          intro v' w' H'
          go_wp2
          go_roundw
          case rel => exact ⟨k + 1, by omega, by go_num, by rw [HE.out]; simpa using H'⟩
          case measure => simp [intOf]; omega
        · rw [List.concat_eq_append] at ho
          have h3 := hlast.2 o a b q ho
          have hgl : goesOn m k = (decide (a + q = k) && decide (b + q = x)) := goesOn_last (by rw [← ho]; exact hlast) hx
          rw [ho] at H hlen
          simp only [List.length_append, List.length_singleton] at H hlen
          obtain ⟨g, c2, rfl, _⟩ := H.form 0 rfl (by omega)
          have d0 := H.atL 0 rfl cExt_len (j := o.length) (r := 0) (x := (a, b, q)) (by simp) rfl
          have d1 := H.atL 0 rfl cExt_len (j := o.length) (r := 1) (x := (a, b, q)) (by simp) rfl
          have d2 := H.atL 0 rfl cExt_len (j := o.length) (r := 2) (x := (a, b, q)) (by simp) rfl
          simp only [Nat.add_zero] at d0
          have hw1 : IntKind.i64.wrap (a + q) = a + q := IntWalk.i64_in _ (by omega)
          have hw2 : IntKind.i64.wrap (b + q) = b + q := IntWalk.i64_in _ (by omega)
          have hw3 : IntKind.i64.wrap (o.length : Int) = (o.length : Int) := IntWalk.i64_in _ (by omega)
          have hx0 : (0 : Int) ≤ (o.length : Int) := by omega
          have hx1 : (o.length : Int) < (o.length : Int) + 1 := by omega
          by_cases hc1 : a + q = k
          · have hcb1 : ((a + q) == (k : Int)) = true := by simp [hc1]
            by_cases hc2 : b + q = x
            · have hcb2 : ((b + q) == x) = true := by simp [hc2]
              have HE := Lib.hid ((extsTo_grow hx hneg (by rw [hgl]; simp [hc1, hc2])).trans (by rw [ho, extGrow_snoc]))
              have HF := Lib.hid H
              clear H hc1 hc2 hlast hgl ho
              go_wp2_with fail
              refine wp_region_quiet_lit (by kernel_rfl) (by kernel_rfl) ?_
              repeat (any_goals (first | go_big_quiet_step ((fail)) | quiet_step ((fail)) | (refine wpQuiet_step (fun K hK => ?_); go_simp; split <;> (refine hK _ ?_; clear hK K))))
              all_goals (refine wpQuiet_nil ?_; intro _ hw_; obtain ⟨nq, hw__⟩ := hw_; subst hw__)
              have H := HF.out.on nq
              have e2 := H.atL 0 rfl cExt_len (j := o.length) (r := 2) (x := (a, b, q)) (by simp) rfl
              have hz := H.free 0 rfl (o.length * 3 + 2)
              have H3 := H.putL 0 rfl cExt_len o.length 2 (x := (a, b, q)) (a, b, q + 1) (.int .i64 (q + 1)) (by simp) (by omega) rfl
              rw [set_snoc] at H3
              have H4 := Lib.hid H3
              clear H H3 HF
              go_wp2_with fail
              go_roundw
              case rel => exact ⟨k + 1, by omega, by go_num, by rw [HE.out]; simpa using H4.out⟩
              case measure => simp [intOf]; omega
            · have hcb2 : ((b + q) == x) = false := by simpa using hc2
              have HE := Lib.hid ((extsTo_app hx hneg (by rw [hgl]; simp [hc2])).trans (by rw [ho]))
              have HF : Hid (Hp [] w wr [.row 92 3 (.slice (some ⟨g, 0, none⟩) (o.length + 1) c2) (o ++ [(a, b, q)]).length ((o ++ [(a, b, q)]).flatMap cExt)]) := H.recast (by simp)
              have hlo : (o ++ [(a, b, q)]).length ≤ 12 := by simp; omega
              clear H hc1 hc2 hlast hgl ho
              go_wp2_with fail
              refine wp_region_quiet_lit (by kernel_rfl) (by kernel_rfl) ?_
              repeat (any_goals (first | go_big_quiet_step ((fail)) | quiet_step ((fail)) | (refine wpQuiet_step (fun K hK => ?_); go_simp; split <;> (refine hK _ ?_; clear hK K))))
              all_goals (refine wpQuiet_nil ?_; intro _ hw_; obtain ⟨nq, hw__⟩ := hw_; subst hw__)
              go_wp2_with (at_builtin; refine wp_appL (f := cExt) ((HF.out.on nq)) rfl _ _ _ rfl Try.underlying32 infoExt rfl (by decide) 0 _ _ rfl rfl _ _ ((k : Int), x, 1) rfl (by simp) rfl (by simp [cExt, Value.oneCell']) (by first | (simp only [maxLen]; omega) | (simp [maxLen]; done) | (simp [maxLen]; omega)) (by first | omega | (simp; done) | (simp; omega)) ?_)
              intro v' w' H'
              go_wp2
              go_roundw
              case rel => exact ⟨k + 1, by omega, by go_num, by rw [HE.out]; simpa using H'⟩
              case measure => simp [intOf]; omega
          · have hcb1 : ((a + q) == (k : Int)) = false := by simpa using hc1
            have HE := Lib.hid ((extsTo_app hx hneg (by rw [hgl]; simp [hc1])).trans (by rw [ho]))
            have HF : Hid (Hp [] w wr [.row 92 3 (.slice (some ⟨g, 0, none⟩) (o.length + 1) c2) (o ++ [(a, b, q)]).length ((o ++ [(a, b, q)]).flatMap cExt)]) := H.recast (by simp)
            have hlo : (o ++ [(a, b, q)]).length ≤ 12 := by simp; omega
            clear H hc1 hlast hgl ho
            go_wp2_with fail
            refine wp_region_quiet_lit (by kernel_rfl) (by kernel_rfl) ?_
            repeat (any_goals (first | go_big_quiet_step ((fail)) | quiet_step ((fail)) | (refine wpQuiet_step (fun K hK => ?_); go_simp; split <;> (refine hK _ ?_; clear hK K))))
            all_goals (refine wpQuiet_nil ?_; intro _ hw_; obtain ⟨nq, hw__⟩ := hw_; subst hw__)
            go_wp2_with (at_builtin; refine wp_appL (f := cExt) ((HF.out.on nq)) rfl _ _ _ rfl Try.underlying32 infoExt rfl (by decide) 0 _ _ rfl rfl _ _ ((k : Int), x, 1) rfl (by simp) rfl (by simp [cExt, Value.oneCell']) (by first | (simp only [maxLen]; omega) | (simp [maxLen]; done) | (simp [maxLen]; omega)) (by first | omega | (simp; done) | (simp; omega)) ?_)
            intro v' w' H'
            go_wp2
            go_roundw
            case rel => exact ⟨k + 1, by omega, by go_num, by rw [HE.out]; simpa using H'⟩
            case measure => simp [intOf]; omega
    · have e : extsTo m k = extsL m := by rw [extsL, HL.out]; congr 1; omega
      rw [e] at H
      obtain ⟨A1, c1, rfl⟩ := H.shape 0 rfl
      go_wp2_with fail
      go_ret
      exact H.toMade 0 rfl
end Go.Proofs.Ytbmoolmgfpcnkaa
