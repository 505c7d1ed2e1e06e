/-
  l12Put: a range put behind the others, in a row of the call's own.
-/
import Derived.Test.YtejanpkkhkimcaaDoorMerged
namespace Go.Proofs.YtejanpkkhkimcaaDoor
open Go.RowKit

/-- The answer is the row that was handed in, or its heir; below base nothing has turned. -/
def Heir (w : World) (base : Nat) (E : TypeId) (k : Nat) (n : Nat) (xs : List Value) (e : Ending) (w' : World) : Prop :=
  ∃ A c, e = .returned (.slice A n c) ∧ w'.ownsRow base E k (.slice A n c) n xs ∧ Below base w w'

set_option linter.unusedSimpArgs false
set_option maxRecDepth 100000 in
set_option maxHeartbeats 4000000 in
theorem l12Put_any (A : Option Addr) (n c base : Nat) (l : List (Int × Int)) (a b : Int) (w : World) (hl : l.length = n)
    (h : w.ownsRow base 37 2 (.slice A n c) n (l.flatMap cRange)) (hb : base ≤ w.heap.size) (hn : n ≤ 16777216) (hs : SgR l) (hr : 0 ≤ a ∧ a ≤ 1114111 ∧ 0 ≤ b ∧ b ≤ 1114111) :
    Calls Tryd.prog 18 #[.slice A n c, .agg #[.int .i64 a, .int .i64 b]] w (Heir w base 37 2 (putR l (a, b)).length ((putR l (a, b)).flatMap cRange)) := by
  obtain ⟨i0, hi, hz0, hz1, hz2⟩ := info_parts infoRange
  rcases List.eq_nil_or_concat l with rfl | ⟨o, ⟨qa, qb⟩, rfl⟩
  · have hn0 : n = 0 := by simpa using hl.symm
    subst hn0
    have H := Lib.hid h
    have HP : Hid (putR [] (a, b) = [(a, b)]) := rfl
    clear h hl
    go_enter Tryd.func18, Tryd.ntmps18
    go_wp2_with fail
    refine wp_region_quiet_lit (by kernel_rfl) (by kernel_rfl) ?_
    repeat (any_goals (first | go_big_quiet_step ((fail)) | quiet_step ((fail)) | (refine wpQuiet_step (fun K hK => ?_); go_simp; split <;> (refine hK _ ?_; clear hK K))))
    all_goals (refine wpQuiet_nil ?_; intro _ hw_; obtain ⟨nq, hw__⟩ := hw_; subst hw__)
    go_wp2_with (at_builtin; refine wpList_append_own _ rfl (.tmp 22) (.tmp 24) 22 rfl base 37 i0 _ 2 16 Tryd.underlying22 hi hz0 hz1 hz2 rfl (by decide) _ _ _ rfl ((own_fr H.out ((Fr.al (Below.refl _ _) _).on _)).alloc _) ⟨w.heap.size + 1, 0, none⟩ 1 1 (cRange (a, b)) rfl rfl (news_at_ _ _ _ (by simp)) (by simp [cRange, Value.oneCell']) (by simp [maxLen]) (by simp) (by simp; omega) ?_)
    intro v' w3 hown' hgrow _
    have HO' := Lib.hid hown'
    have HF' : Hid (Below base w w3) := Lib.hid (Below.grown (Below.alloc (Below.mono ((Fr.al (Below.refl _ _) _).on _) hb) (by simp; omega) _) hgrow (by simp; omega) (fun g hg => (H.out.lt g hg).1))
    clear hown' hgrow
    obtain ⟨A', c', rfl⟩ := own_shape HO'.out
    go_wp2
    go_ret
    exact ⟨A', c', rfl, by rw [HP.out]; simpa using HO'.out, HF'.out⟩
  · rw [List.concat_eq_append] at *
    have hq := hs (qa, qb) (by simp)
    simp only [List.length_append, List.length_cons, List.length_nil, Nat.zero_add] at hl hq
    subst hl
    obtain ⟨g, rfl, hg1, hg2⟩ := own_form h (by omega)
    have d1 : w.cell? ⟨g, o.length * 2 + 1, none⟩ = some (.int .i64 qb) := by
      have hc1 := h.cellAt (o.length * 2 + 1) (by omega)
      rw [List.flatMap_append, List.getElem?_append_right (by rw [flat_len cRange_len]; omega), flat_len cRange_len, show o.length * 2 + 1 - o.length * 2 = 1 from by omega] at hc1
      exact hc1
    have hw1 : IntKind.i64.wrap (qb + 1) = qb + 1 := IntWalk.i64_in _ (by omega)
    have H := Lib.hid h
    clear h
    have hw2 : IntKind.i64.wrap (o.length : Int) = (o.length : Int) := IntWalk.i64_in _ (by omega)
    have hx0 : (0 : Int) ≤ (o.length : Int) := by omega
    have hx1 : (o.length : Int) < (o.length : Int) + 1 := by omega
    have hn0 : ((o.length : Int) + 1 == 0) = false := by simp; omega
    by_cases hlt : qb + 1 < a
    · have HP := Lib.hid (putR_app (o := o) (q := (qa, qb)) (r := (a, b)) hlt)
      go_enter Tryd.func18, Tryd.ntmps18
      go_wp2_with fail
      refine wp_region_quiet_lit (by kernel_rfl) (by kernel_rfl) ?_
      repeat (any_goals (first | go_big_quiet_step ((fail)) | quiet_step ((fail)) | (refine wpQuiet_step (fun K hK => ?_); go_simp; split <;> (refine hK _ ?_; clear hK K))))
      all_goals (refine wpQuiet_nil ?_; intro _ hw_; obtain ⟨nq, hw__⟩ := hw_; subst hw__)
      go_wp2_with (at_builtin; refine wpList_append_own _ rfl (.tmp 22) (.tmp 24) 22 rfl base 37 i0 _ 2 16 Tryd.underlying22 hi hz0 hz1 hz2 rfl (by decide) _ _ _ rfl ((own_fr H.out ((Fr.al (Below.refl _ _) _).on _)).alloc _) ⟨w.heap.size + 1, 0, none⟩ 1 1 (cRange (a, b)) rfl rfl (news_at_ _ _ _ (by simp)) (by simp [cRange, Value.oneCell']) (by simp only [maxLen]; omega) (by omega) (by simp; omega) ?_)
      intro v' w3 hown' hgrow _
      have HO' := Lib.hid hown'
      have HF' : Hid (Below base w w3) := Lib.hid (Below.grown (Below.alloc (Below.mono ((Fr.al (Below.refl _ _) _).on _) hb) (by simp; omega) _) hgrow (by simp; omega) (fun g hg => (H.out.lt g hg).1))
      clear hown' hgrow
      obtain ⟨A', c', rfl⟩ := own_shape HO'.out
      go_wp2
      go_ret
      rw [HP.out]
      exact ⟨A', c', by simp, by simpa using HO'.out, HF'.out⟩
    · skip
      by_cases hqb : qb < b
      · have HP : Hid (putR (o ++ [(qa, qb)]) (a, b) = o ++ [(qa, b)]) := by rw [Hid, putR_join hlt, show max qb b = b from by omega]
        go_enter Tryd.func18, Tryd.ntmps18
        go_wp2_with fail
        refine wp_region_quiet_lit (by kernel_rfl) (by kernel_rfl) ?_
        repeat (any_goals (first | go_big_quiet_step ((fail)) | quiet_step ((fail)) | (refine wpQuiet_step (fun K hK => ?_); go_simp; split <;> (refine hK _ ?_; clear hK K))))
        all_goals (refine wpQuiet_nil ?_; intro _ hw_; obtain ⟨nq, hw__⟩ := hw_; subst hw__)
        obtain ⟨w4, hw4⟩ : ∃ q : World, q = (w.alloc (.cells #[.int .i64 a, .int .i64 b] 37)).drewN nq := ⟨_, rfl⟩
        rw [← hw4]
        have f4 : Fr w w4 := by rw [hw4]; exact (Fr.al (Below.refl _ _) _).on _
        have O4 := own_fr H.out f4
        have B4 : Bk w4 w.heap.size 37 [.int .i64 a, .int .i64 b] := by rw [hw4]; exact (Bk.new_ w _ _ rfl).fr (Fr.on (Below.refl _ _) _)
        have r1 := B4.at_ (j := 1) rfl
        have d4 : w4.cell? ⟨g, o.length * 2 + 1, none⟩ = some (.int .i64 qb) := cell_later f4 d1
        have fz := O4.frozenAt (o.length * 2 + 1)
        have HST : Hid (∀ w5, Fr w4 w5 → (w5.setCell ⟨g, o.length * 2 + 1, none⟩ (.int .i64 b)).ownsRow base 37 2 (.slice (some ⟨g, 0, none⟩) (o.length + 1) c) (o.length + 1) (o.flatMap cRange ++ [.int .i64 qa, .int .i64 b])) := by
          intro w5 f5
          have hst := (own_fr O4 f5).stored (o.length * 2 + 1) (.int .i64 b)
          rw [List.flatMap_append, List.set_append, if_neg (by rw [flat_len cRange_len]; omega), flat_len cRange_len, show o.length * 2 + 1 - o.length * 2 = 1 from by omega] at hst
          simpa [cRange] using hst.1
        have HO4 := Lib.hid O4
        have F4 := Lib.hid f4
        clear hw4 f4 O4 B4 d1
        go_wp2_with fail
        refine wp_region_quiet_lit (by kernel_rfl) (by kernel_rfl) ?_
        repeat (any_goals (first | go_big_quiet_step ((fail)) | quiet_step ((fail)) | (refine wpQuiet_step (fun K hK => ?_); go_simp; split <;> (refine hK _ ?_; clear hK K))))
        all_goals (refine wpQuiet_nil ?_; intro _ hw_; obtain ⟨nq, hw__⟩ := hw_; subst hw__)
        go_wp2_with fail
        go_ret
        rw [HP.out]
        exact ⟨some ⟨g, 0, none⟩, c, by simp, by simpa [cRange] using HST.out _ (Fr.drewN_ _ _), Below.setCell (Below.mono (F4.out.then (Fr.drewN_ _ _)) hb) hg1 _⟩
      · have HP : Hid (putR (o ++ [(qa, qb)]) (a, b) = o ++ [(qa, qb)]) := by rw [Hid, putR_join hlt, show max qb b = qb from by omega]
        go_enter Tryd.func18, Tryd.ntmps18
        go_wp2_with fail
        refine wp_region_quiet_lit (by kernel_rfl) (by kernel_rfl) ?_
        repeat (any_goals (first | go_big_quiet_step ((fail)) | quiet_step ((fail)) | (refine wpQuiet_step (fun K hK => ?_); go_simp; split <;> (refine hK _ ?_; clear hK K))))
        all_goals (refine wpQuiet_nil ?_; intro _ hw_; obtain ⟨nq, hw__⟩ := hw_; subst hw__)
        go_wp2_with fail
        refine wp_region_quiet_lit (by kernel_rfl) (by kernel_rfl) ?_
        repeat (any_goals (first | go_big_quiet_step ((fail)) | quiet_step ((fail)) | (refine wpQuiet_step (fun K hK => ?_); go_simp; split <;> (refine hK _ ?_; clear hK K))))
        all_goals (refine wpQuiet_nil ?_; intro _ hw_; obtain ⟨nq, hw__⟩ := hw_; subst hw__)
        go_wp2_with fail
        go_ret
        rw [HP.out]
        exact ⟨some ⟨g, 0, none⟩, c, by simp, by simpa using own_fr H.out (((Fr.al (Below.refl _ _) _).on _).on _), Below.mono (((Fr.al (Below.refl _ _) _).on _).on _) hb⟩
end Go.Proofs.YtejanpkkhkimcaaDoor
