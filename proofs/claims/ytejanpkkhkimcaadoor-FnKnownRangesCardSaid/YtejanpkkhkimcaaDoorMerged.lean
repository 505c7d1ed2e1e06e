/-
  merged: ranges joined where they touch, in memory of its own.
-/
import Derived.Test.YtejanpkkhkimcaaDoorMMerge
import Derived.Maps.AppendAt
namespace Go.Proofs.YtejanpkkhkimcaaDoor
open Go.RowKit

theorem mergeR_step {l : List (Int × Int)} {k : Nat} {r : Int × Int} (h : l[k]? = some r) : mergeR (l.take (k + 1)) = putR (mergeR (l.take k)) r := by
  rw [List.take_add_one, h]
  exact mergeR_snoc _ _
theorem mergeR_len (l : List (Int × Int)) : (mergeR l).length ≤ l.length := by
  have := merge_len (l := l) (o := [])
  simpa [mergeR] using this

set_option linter.unusedSimpArgs false
set_option maxRecDepth 100000 in
set_option maxHeartbeats 4000000 in
theorem merged_any (A : Option Addr) (n c : Nat) (l : List (Int × Int)) (w : World) (h : Rd w A n 2 (l.flatMap cRange)) (hn : n ≤ 16777216) (hs : SgR l) :
    Calls Tryd.prog 19 #[.slice A n c] w (Made w 37 2 (mergeR l).length ((mergeR l).flatMap cRange)) := by
  obtain ⟨i0, hi, hz0, hz1, hz2⟩ := info_parts infoRange
  have HL := Lib.hid (h.lenk cRange_len (by omega))
  have H := Lib.hid h
  have HS := Lib.hid hs
  clear h hs
  go_enter Tryd.func19, Tryd.ntmps19
  go_wp2_with fail
  go_loopw [3, 10] (fun v i wr => ∃ k : Nat, k ≤ n ∧ i = .int .i64 k ∧ wr.ownsRow w.heap.size 37 2 v (mergeR (l.take k)).length ((mergeR (l.take k)).flatMap cRange) ∧ Fr w wr) (fun _ i _ => n - (intOf i).toNat)
  case atStart => exact ⟨0, by omega, rfl, World.ownsRow_lit w #[] 0 (Nat.le_refl _) (by simp [maxLen]) rfl, Fr.al (Below.refl _ _) _⟩
  case round =>
    obtain ⟨k, hk, rfl, hown, hfr⟩ := hrel
    by_cases hlt : k < n
    · obtain ⟨⟨u, v⟩, hx⟩ := some_at HL.out hlt
      obtain ⟨bk, of, rfl, hcell⟩ := (H.out.fr hfr).elem cRange_len hx (by omega)
      have ca := hcell 0 _ rfl; simp only [Nat.add_zero] at ca
      have cb := hcell 1 _ rfl
      have hbk : bk < wr.heap.size := World.block_lt_of_cell? wr _ ca
      have hr := HS.out (u, v) (List.mem_of_getElem? hx)
      simp only at hr
      have HE := Lib.hid (mergeR_step hx)
      have HF := Lib.hid hfr
      have hsg : SgR (mergeR (l.take k)) := SgR_merge (by intro x hx; simp at hx) (SgR_take HS.out k)
      have hlen : (mergeR (l.take k)).length ≤ k := by have := mergeR_len (l.take k); simp only [List.length_take] at this; omega
      clear hx hfr hcell
      generalize hm : mergeR (l.take k) = m at hown hsg hlen
      rw [hm] at HE
      rcases List.eq_nil_or_concat m with rfl | ⟨o, ⟨qa, qb⟩, rfl⟩
      · have HE2 : Hid (mergeR (l.take (k + 1)) = [(u, v)]) := by rw [Hid, HE.out]; rfl
        obtain ⟨A', c', rfl⟩ := own_shape hown
        have HO := Lib.hid hown
        clear hown HE hsg
        go_wp2_with fail
        refine wp_region_quiet_lit (by kernel_rfl) (by kernel_rfl) ?_
        repeat (any_goals (first | go_big_quiet_step ((fail)) | quiet_step ((fail)) | (refine wpQuiet_step (fun K hK => ?_); go_simp; split <;> (refine hK _ ?_; clear hK K))))
        all_goals (refine wpQuiet_nil ?_; intro _ hw_; obtain ⟨nq, hw__⟩ := hw_; subst hw__)
        go_wp2_with (at_builtin; (refine wpList_append_own _ rfl (.tmp 44) (.tmp 46) 22 rfl w.heap.size 37 i0 _ 2 16 Tryd.underlying22 hi hz0 hz1 hz2 rfl (by decide) _ _ _ rfl ((own_fr HO.out ((Fr.al (Below.refl _ _) _).on _)).alloc _) ⟨wr.heap.size + 1, 0, none⟩ 1 1 (cRange (u, v)) rfl rfl (news_at_ _ _ _ (by simp)) (by simp [cRange, Value.oneCell']) (by first | (simp only [maxLen]; omega) | (simp [maxLen]; done) | (simp [maxLen]; omega)) (by first | omega | (simp; done) | (simp; omega)) (by have := HF.out.size; simp; omega) ?_))
        intro v' w3 hown' hgrow _
        have HO' := Lib.hid hown'
        have HF' := Lib.hid (Below.grown (Fr.al ((Fr.al HF.out _).on _) _) hgrow (by have := HF.out.size; simp; omega) (fun g hg => (HO.out.lt g hg).1))
        clear hown' hgrow
        go_wp2
        go_roundw
        case rel => exact ⟨k + 1, by omega, by go_num, by rw [HE2.out]; simpa using HO'.out, HF'.out⟩
        case measure => simp [intOf]; omega
      · have hq := hsg (qa, qb) (by simp)
        rw [List.concat_eq_append] at *
        simp only [List.length_append, List.length_cons, List.length_nil, Nat.zero_add] at hlen hq hown
        have hw1 : IntKind.i64.wrap (qb + 1) = qb + 1 := IntWalk.i64_in _ (by omega)
        obtain ⟨A', c', rfl⟩ := own_shape hown
        obtain ⟨g, rfl, hg1, hg2⟩ := own_form hown (by omega)
        have d1 : wr.cell? ⟨g, o.length * 2 + 1, none⟩ = some (.int .i64 qb) := by
          have hc1 := hown.cellAt (o.length * 2 + 1) (by omega)
          rw [List.flatMap_append, List.getElem?_append_right (by rw [flat_len cRange_len]; omega), flat_len cRange_len, show o.length * 2 + 1 - o.length * 2 = 1 from by omega] at hc1
          exact hc1
        by_cases hlt2 : qb + 1 < u
        · have HE2 : Hid (mergeR (l.take (k + 1)) = o ++ [(qa, qb)] ++ [(u, v)]) := by rw [Hid, HE.out, putR_app hlt2]
          have HO := Lib.hid hown
          clear hown HE hsg
          go_wp2_with fail
          refine wp_region_quiet_lit (by kernel_rfl) (by kernel_rfl) ?_
          repeat (any_goals (first | go_big_quiet_step ((fail)) | quiet_step ((fail)) | (refine wpQuiet_step (fun K hK => ?_); go_simp; split <;> (refine hK _ ?_; clear hK K))))
          all_goals (refine wpQuiet_nil ?_; intro _ hw_; obtain ⟨nq, hw__⟩ := hw_; subst hw__)
          go_wp2_with (at_builtin; (refine wpList_append_own _ rfl (.tmp 44) (.tmp 46) 22 rfl w.heap.size 37 i0 _ 2 16 Tryd.underlying22 hi hz0 hz1 hz2 rfl (by decide) _ _ _ rfl ((own_fr HO.out ((Fr.al (Below.refl _ _) _).on _)).alloc _) ⟨wr.heap.size + 1, 0, none⟩ 1 1 (cRange (u, v)) rfl rfl (news_at_ _ _ _ (by simp)) (by simp [cRange, Value.oneCell']) (by first | (simp only [maxLen]; omega) | (simp [maxLen]; done) | (simp [maxLen]; omega)) (by first | omega | (simp; done) | (simp; omega)) (by have := HF.out.size; simp; omega) ?_))
          intro v' w3 hown' hgrow _
          have HO' := Lib.hid hown'
          have HF' := Lib.hid (Below.grown (Fr.al ((Fr.al HF.out _).on _) _) hgrow (by have := HF.out.size; simp; omega) (fun g hg => (HO.out.lt g hg).1))
          clear hown' hgrow
          go_wp2
          go_roundw
          case rel => exact ⟨k + 1, by omega, by go_num, by rw [HE2.out]; simpa using HO'.out, HF'.out⟩
          case measure => simp [intOf]; omega
        · obtain ⟨mx, hmx⟩ : ∃ mx : Int, mx = if qb < v then v else qb := ⟨_, rfl⟩
          have HE2 : Hid (mergeR (l.take (k + 1)) = o ++ [(qa, mx)]) := by
            have hmax : max qb v = mx := by rw [hmx]; split <;> omega
            rw [Hid, HE.out, putR_join hlt2, hmax]
          have HMX := Lib.hid hmx
          clear hmx
          have HO := Lib.hid hown
          clear hown HE hsg
          go_wp2_with fail
          refine wp_region_quiet_lit (by kernel_rfl) (by kernel_rfl) ?_
          repeat (any_goals (first | go_big_quiet_step ((fail)) | quiet_step ((fail)) | (refine wpQuiet_step (fun K hK => ?_); go_simp; split <;> (refine hK _ ?_; clear hK K))))
          all_goals (refine wpQuiet_nil ?_; intro _ hw_; obtain ⟨nq, hw__⟩ := hw_; subst hw__)
          go_wp2_with fail
          have hw2 : IntKind.i64.wrap (o.length : Int) = (o.length : Int) := IntWalk.i64_in _ (by omega)
          have hx0 : (0 : Int) ≤ (o.length : Int) := by omega
          have hx1 : (o.length : Int) < (o.length : Int) + 1 := by omega
          obtain ⟨w4, hw4⟩ : ∃ q : World, q = (wr.alloc (.cells #[.int .i64 u, .int .i64 v] 37)).drewN nq := ⟨_, rfl⟩
          rw [← hw4]
          have f4 : Fr wr w4 := by rw [hw4]; exact (Fr.al (Below.refl _ _) _).on _
          have O4 := own_fr HO.out f4
          have B4 : Bk w4 wr.heap.size 37 [.int .i64 u, .int .i64 v] := by rw [hw4]; exact (Bk.new_ wr _ _ rfl).fr (Fr.on (Below.refl _ _) _)
          have r1 := B4.at_ (j := 1) rfl
          have d4 : w4.cell? ⟨g, o.length * 2 + 1, none⟩ = some (.int .i64 qb) := cell_later f4 d1
          have fz := O4.frozenAt (o.length * 2 + 1)
          have hst := O4.stored (o.length * 2 + 1) (.int .i64 mx)
          rw [List.flatMap_append, List.set_append, if_neg (by rw [flat_len cRange_len]; omega), flat_len cRange_len, show o.length * 2 + 1 - o.length * 2 = 1 from by omega] at hst
          have HST := Lib.hid hst
          have F4 := Lib.hid (HF.out.then f4)
          clear hw4 f4 O4 B4 hst d1 ca cb
          go_still_tail 14, (by kernel_rfl)
          go_wp2_with fail
          simp only [← HMX.out]
          go_roundw
          case rel => exact ⟨k + 1, by omega, by go_num, by rw [HE2.out]; simpa [cRange] using own_fr HST.out.1 (Fr.drew_ _), Fr.then (show Fr w (w4.setCell ⟨g, o.length * 2 + 1, none⟩ (.int .i64 mx)) from Below.setCell F4.out hg1 _) (Fr.drew_ _)⟩
          case measure => simp [intOf]; omega
    · obtain rfl : k = n := by omega
      have e : mergeR (l.take k) = mergeR l := by rw [List.take_of_length_le (by rw [HL.out]; omega)]
      rw [e] at hown
      obtain ⟨A', c', rfl⟩ := own_shape hown
      have HO := Lib.hid hown
      clear hown
      go_wp2
      go_ret
      exact ⟨A', c', rfl, HO.out, hfr⟩
end Go.Proofs.YtejanpkkhkimcaaDoor
