/-
  l12Over and KnownRanges, the reference's and the program's: both hand back the same ranges.
-/
import Derived.Test.YtejanpkkhkimcaaDoorKnown
namespace Go.Proofs.YtejanpkkhkimcaaDoor
open Go.RowKit

set_option linter.unusedVariables false
set_option maxRecDepth 100000 in
set_option maxHeartbeats 4000000 in
theorem over_any (A : Option Addr) (n c : Nat) (l : List (Int × Int)) (a b : Int) (m : Nat) (w0 w : World) (H : Hp [] w0 w [.row 37 2 (.slice A n c) n (l.flatMap cRange)]) (hl : l.length = n) (hn : n ≤ 4000) (hm : m ≤ 4000) (hs : SgR l) (ha : 0 ≤ a) (hb : b + 1 = a + m) (hb2 : b ≤ 1114111) :
    Calls Tryd.prog 17 #[.slice A n c, .int .i64 a, .int .i64 b] w fun e w' => ∃ A' c', e = .returned (.slice A' (overN l a m).length c') ∧ Hp [] w0 w' [.row 37 2 (.slice A' (overN l a m).length c') (overN l a m).length ((overN l a m).flatMap cRange)] := by
  subst hl
  have HM := Lib.hid (fun j (h : j = m) => show overN l a j = overN l a m by rw [h])
  generalize hmm : overN l a m = om at HM ⊢
  clear hmm
  go_enter Tryd.func17, Tryd.ntmps17
  go_wp2_with fail
  go_loopw [0, 7] (fun v cv wr => ∃ (j : Nat) (A' : Option Addr) (c' : Nat), j ≤ m ∧ cv = .int .i64 (a + j) ∧ v = .slice A' (overN l a j).length c' ∧ Hp [] w0 wr [.row 37 2 (.slice A' (overN l a j).length c') (overN l a j).length ((overN l a j).flatMap cRange)]) (fun _ cv _ => (b + 1 - intOf cv).toNat)
  case atStart => exact ⟨0, A, c, by omega, by simp, rfl, H⟩
  case round =>
    clear H
    obtain ⟨j, A', c', hj, rfl, rfl, H⟩ := hrel
    have hsg := overN_sg hs ha j (by omega)
    have hlen := overN_len (o := l) (a := a) j
    have HY := Lib.hid (overN_yes (o := l) (a := a) (n := j))
    have HN := Lib.hid (overN_no (o := l) (a := a) (n := j))
    have HE := Lib.hid (HM.out j)
    generalize overN l a j = o at H hsg hlen HY HN HE ⊢
    by_cases hlt : j < m
    · have hle : decide (a + (j : Int) ≤ b) = true := by simp; omega
      go_wp2_with fail
      refine (specKnown_any (a + j) _ (by omega)).mono ?_
      rintro e w1 ⟨rfl, f1⟩
      have H1 := H.go f1
      clear H
      have hkk : knownS (a + j) = true ∨ knownS (a + j) = false := by cases knownS (a + j) <;> simp
      rcases hkk with hk | hk
      · rw [hk]
        go_wp2_with fail
        refine (l12Put_any A' o.length c' w0.heap.size o (a + j) (a + j) _ rfl (H1.out 0 rfl) H1.size (by omega) hsg ⟨by omega, by omega, by omega, by omega⟩).mono ?_
        rintro e w2 ⟨A2, c2, rfl, o2, f2⟩
        have H2 := H1.heir o2 f2
        clear H1 o2 f2
        rw [← HY.out hk] at H2 ⊢
        go_wp2_with fail
        go_roundw
        case rel => exact ⟨j + 1, A2, c2, by omega, by go_num, rfl, H2⟩
        case measure => simp [intOf]; omega
      · rw [hk]
        rw [← HN.out hk] at H1 ⊢
        go_wp2_with fail
        go_roundw
        case rel => exact ⟨j + 1, A', c', by omega, by go_num, rfl, H1⟩
        case measure => simp [intOf]; omega
    · have hle : decide (a + (j : Int) ≤ b) = false := by simp; omega
      rw [HE.out (by omega)] at H ⊢
      go_wp2_with fail
      go_ret
      exact ⟨A', c', rfl, H⟩

set_option maxRecDepth 100000 in
set_option maxHeartbeats 4000000 in
theorem specKnownRanges_any (w : World) : Calls Tryd.prog 5 #[] w (Made w 37 2 KR.length (KR.flatMap cRange)) := by
  have H0 := (Hp.start w).lit0 37 2
  go_enter Tryd.func5, Tryd.ntmps5
  go_wp2_with fail
  refine (over_any _ 0 0 [] 0 544 545 w _ H0 rfl (by decide) (by decide) (by intro x hx; simp at hx) (by decide) (by decide) (by decide)).mono ?_
  rintro e w1 ⟨A1, c1, rfl, H1⟩
  clear H0
  rw [over1] at H1 ⊢
  go_wp2_with fail
  refine (over_any A1 K1.length c1 K1 767 1120 354 w _ H1 rfl (by decide) (by decide) (by rw [← over1]; exact overN_sg (by intro x hx; simp at hx) (by decide) _ (by decide)) (by decide) (by decide) (by decide)).mono ?_
  rintro e w2 ⟨A2, c2, rfl, H2⟩
  clear H1
  rw [over2] at H2 ⊢
  go_wp2_with fail
  refine (over_any A2 K2.length c2 K2 4336 4608 273 w _ H2 rfl (by decide) (by decide) (by unfold SgR; decide +kernel) (by decide) (by decide) (by decide)).mono ?_
  rintro e w3 ⟨A3, c3, rfl, H3⟩
  clear H2
  rw [over3] at H3 ⊢
  go_wp2_with fail
  refine (over_any A3 K3.length c3 K3 7824 7952 129 w _ H3 rfl (by decide) (by decide) (by unfold SgR; decide +kernel) (by decide) (by decide) (by decide)).mono ?_
  rintro e w4 ⟨A4, c4, rfl, H4⟩
  clear H3
  rw [over4] at H4 ⊢
  go_wp2_with fail
  refine (over_any A4 K4.length c4 K4 8464 8512 49 w _ H4 rfl (by decide) (by decide) (by unfold SgR; decide +kernel) (by decide) (by decide) (by decide)).mono ?_
  rintro e w5 ⟨A5, c5, rfl, H5⟩
  clear H4
  rw [over5] at H5 ⊢
  go_wp2_with fail
  refine (l12Put_any A5 K5.length c5 w.heap.size K5 44032 55203 _ rfl (H5.out 0 rfl) H5.size (by decide) (by unfold SgR; decide +kernel) ⟨by decide, by decide, by decide, by decide⟩).mono ?_
  rintro e w6 ⟨A6, c6, rfl, o6, f6⟩
  have H6 := H5.heir o6 f6
  clear H5 o6 f6
  rw [over6] at H6 ⊢
  go_wp2_with fail
  go_ret
  exact H6.toMade 0 rfl

/-- The program's table of known signs lies where its initialiser laid it. -/
def KT (w : World) : Prop := Rd w (some ⟨0, 0, none⟩) 27 2 (kpPairs.flatMap cRange)
theorem KT.cells {w : World} (h : KT w) {k : Nat} {p q : Int} (hx : At kpPairs k (p, q)) : w.cell? ⟨0, k * 2, none⟩ = some (.int .i64 p) ∧ w.cell? ⟨0, k * 2 + 1, none⟩ = some (.int .i64 q) := by
  have h' : Rd w (some ⟨0, 0, none⟩) 27 2 (kpPairs.flatMap cRange) := h
  obtain ⟨bk, of, e, hcell⟩ := h'.elem cRange_len hx (by omega)
  injection e with e
  injection e with e1 e2
  subst e1 e2
  have ca := hcell 0 _ rfl
  have cb := hcell 1 _ rfl
  simp only [Nat.zero_add, Nat.add_zero] at ca cb
  exact ⟨ca, cb⟩

set_option maxRecDepth 100000 in
set_option maxHeartbeats 4000000 in
theorem implKnownRanges_any (w : World) (hk : KT w) : Calls Tryd.prog 6 #[] w (Made w 37 2 KR.length (KR.flatMap cRange)) := by
  have G := Lib.hid hk
  clear hk
  have H0 := (Hp.start w).lit0 37 2
  go_enter Tryd.func6, Tryd.ntmps6
  go_wp2_with fail
  go_loopw [1, 2] (fun v iv wr => ∃ (k p : Nat), k ≤ 27 ∧ p = k * 2 ∧ iv = .int .i64 p ∧ Hp [] w wr [.row 37 2 v k ((kpPairs.take k).flatMap cRange)]) (fun _ iv _ => 54 - (intOf iv).toNat)
  case atStart => exact ⟨0, 0, by omega, rfl, rfl, H0⟩
  case round =>
    clear H0
    obtain ⟨k, p, hk, hp, rfl, H⟩ := hrel
    obtain ⟨B, d, rfl⟩ := H.shape 0 rfl
    by_cases hlt : k < 27
    · obtain ⟨⟨u, v⟩, hx⟩ := at_some kpPairs_len hlt
      obtain ⟨ca, cb⟩ := KT.cells (Rd.drew (H.old G.out)) hx
      obtain ⟨p1, hp1⟩ : ∃ q : Nat, q = p + 1 := ⟨_, rfl⟩
      rw [← hp] at ca cb
      rw [← hp1] at cb
      have hw : IntKind.i64.wrap ((p : Int) + 1) = (p1 : Int) := by rw [IntWalk.i64_in _ (by omega)]; omega
      have hlen : (kpPairs.take k).length = k := by rw [List.length_take, kpPairs_len]; omega
      have HX := Lib.hid (At.take hx)
      have HL1 := Lib.hid (show (kpPairs.take (k + 1)).length = k + 1 by rw [List.length_take, kpPairs_len]; omega)
      have HL := Lib.hid hlen
      have HP := Lib.hid hp
      have HP1 := Lib.hid hp1
      have hp54 : p < 54 := by omega
      have h0 : (0 : Int) ≤ (p : Int) := by omega
      have h1 : (p : Int) < 54 := by omega
      have h2 : (0 : Int) ≤ (p1 : Int) := by omega
      have h3 : (p1 : Int) < 54 := by omega
      generalize kpPairs.take k = o at H HX HL hlen
      clear hx hlen hp hp1
      have HH := Lib.hid H
      clear H
      go_wp2_with fail
      go_region_law (first
        | (refine step_appL (f := cRange) HH.out.drew rfl _ _ _ rfl Tryd.underlying22 infoRange rfl (by decide) 0 (.slice B k d) o (by rw [HL.out]; rfl) (by simp [Act.eval]) _ 37 (u, v) (by simp [Act.eval]) rfl rfl (by simp [cRange, Value.oneCell']) (by rw [HL.out]; simp only [maxLen]; omega) (by rw [HL.out]; omega) ?_
           intro v' w6 H6_
           rw [← HX.out, HL1.out] at H6_
           have H7 := Lib.hid H6_
           clear H6_))
      all_goals go_wp2_with fail
      all_goals go_roundw
      all_goals first
        | exact ⟨k + 1, p + 2, by omega, by have := HP.out; omega, by go_num, H7.out⟩
        | (simp [intOf]; omega)
    · have ht : kpPairs.take k = kpPairs := List.take_of_length_le (by rw [kpPairs_len]; omega)
      have hge : ¬ ((p : Int) < 54) := by omega
      rw [ht] at H
      clear ht hp
      go_wp2_with fail
      refine (merged_any B k d kpPairs _ (H.rd 0 rfl) (by omega) SgR_pairs).mono ?_
      rintro e w1 ⟨A1, c1, rfl, o1, f1⟩
      rw [merge_pairs] at o1 ⊢
      have H1 := H.made o1 f1
      go_wp2_with fail
      go_ret
      exact H1.toMade 0 rfl
end Go.Proofs.YtejanpkkhkimcaaDoor
