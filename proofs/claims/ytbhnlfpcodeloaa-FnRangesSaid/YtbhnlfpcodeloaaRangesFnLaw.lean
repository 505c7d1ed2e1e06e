/-
  The law FnRanges, walked.
-/
import Derived.Test.YtbhnlfpcodeloaaMRanges
import Derived.Test.YtbhnlfpcodeloaaDrawRanges
import Derived.Test.YtbhnlfpcodeloaaUnion
import Derived.Test.YtbhnlfpcodeloaaMinus
import Derived.Test.YtbhnlfpcodeloaaCountOf
import Derived.Test.YtbhnlfpcodeloaaLaw
namespace Go.Proofs.Ytbhnlfpcodeloaa
open Go.RowKit

theorem cntR_bound (l : RR) : 0 ≤ cntR l ∧ cntR l ≤ 1114112 * l.length := by
  unfold cntR
  split
  · rename_i h
    exact sumR_bound l (valF_ok (rOk_okF.1 h))
  · omega
theorem big_any (A : Option Addr) (n c : Nat) (w : World) (_hn : n ≤ 9223372036854775807) :
    Calls Try.prog 20 #[.slice A n c] w fun e w' => e = .returned (.bool (decide (1048576 < n))) ∧ w = w' := by
  go_enter Try.func20, Try.ntmps20
  go_wp2
  go_ret
  exact ⟨ret_bool (by simp; omega), rfl⟩

set_option maxRecDepth 100000 in
set_option maxHeartbeats 1000000 in
theorem sameRanges_yes (A : Option Addr) (n c : Nat) (B : Option Addr) (m d : Nat) (l : RR) (w : World) (h : Rd w A n 2 (l.flatMap cRange)) (h' : Rd w B m 2 (l.flatMap cRange)) (hn : n ≤ 1048576) :
    Calls Try.prog 61 #[.slice A n c, .slice B m d] w fun e w' => e = .returned (.bool true) ∧ Fr w w' := by
  have hl := h.lenk cRange_len (by omega)
  have hl' := h'.lenk cRange_len (by omega)
  obtain rfl : n = m := by omega
  have HL := Lib.hid hl
  clear hl hl'
  have G := Lib.hid h
  have G' := Lib.hid h'
  clear h h'
  go_enter Try.func61, Try.ntmps61
  go_wp2_with fail
  go_loopw [5] (fun i wr => ∃ k : Nat, k ≤ n ∧ i = .int .i64 k ∧ Fr w wr) (fun i _ => n - (intOf i).toNat)
  case atStart => exact ⟨0, by omega, rfl, Below.refl _ _⟩
  case round =>
    obtain ⟨k, hk, rfl, hfr⟩ := hrel
    by_cases hlt : k < n
    · obtain ⟨⟨u, v⟩, hx⟩ := at_some HL.out hlt
      obtain ⟨b1, o1, rfl, hcell⟩ := (G.out.fr hfr).elem cRange_len hx (by omega)
      have c0 := hcell 0 _ rfl; simp only [Nat.add_zero] at c0
      have c1 := hcell 1 _ rfl
      obtain ⟨b2, o2, rfl, hcell'⟩ := (G'.out.fr hfr).elem cRange_len hx (by omega)
      have d0 := hcell' 0 _ rfl; simp only [Nat.add_zero] at d0
      have d1 := hcell' 1 _ rfl
      have hk0 : (0 : Int) ≤ (k : Int) := by omega
      have hk1 : (k : Int) < (n : Int) := by omega
      clear hcell hcell'
      go_wp2_with fail
      refine wp_region_quiet_lit (by kernel_rfl) (by kernel_rfl) ?_
      repeat (any_goals (first | go_big_quiet_step ((fail)) | quiet_step ((fail)) | (refine wpQuiet_step (fun K hK => ?_); go_simp; split <;> (refine hK _ ?_; clear hK K))))
      all_goals (refine wpQuiet_nil ?_; intro _ hw_; obtain ⟨nq, hw__⟩ := hw_; subst hw__)
      go_wp2_with fail
      go_roundw
      case rel => exact ⟨k + 1, by omega, by go_num, hfr.on _⟩
      case measure => simp [intOf]; omega
    · go_wp2_with fail
      go_ret
      exact ⟨rfl, hfr⟩

set_option maxRecDepth 100000 in
set_option maxHeartbeats 4000000 in
theorem lawFnRanges_walk (A : Option Addr) (n c : Nat) (bs : List UInt8) (w : World) (hA : Rd w A n 1 (bs.map cU8)) (hcap : n ≤ 9223372036854775807) :
    Calls Try.prog 10 #[.slice A n c] w fun e w' => e = .returned (.bool true) ∧ Fr w w' := by
  by_cases hbig : 1048576 < n
  · have hd : decide (1048576 < n) = true := by simpa using hbig
    go_enter Try.func10, Try.ntmps10
    go_wp2_with fail
    refine (big_any A n c _ hcap).mono ?_
    rintro e w1 ⟨rfl, rfl⟩
    rw [hd]
    go_wp2_with fail
    go_ret
    exact ⟨rfl, Below.refl _ _⟩
  have hd : decide (1048576 < n) = false := by simpa using hbig
  go_enter Try.func10, Try.ntmps10
  go_wp2_with fail
  refine (big_any A n c _ hcap).mono ?_
  rintro e w1 ⟨rfl, rfl⟩
  rw [hd]
  go_wp2_with fail
  refine (drawUnion_any A n c bs _ hA (by omega)).mono ?_
  rintro e w2 ⟨A1, c1, a, B1, d1, b, rfl, la, lb, H2⟩
  clear hA hd hbig
  go_wp2_with fail
  refine (implUnion_any _ _ _ a _ _ _ b _ (H2.rd 0 rfl) (H2.rd 1 rfl) (by omega) (by omega)).mono ?_
  rintro e w3 ⟨A3, c3, rfl, o3, f3⟩
  have H3 := H2.made o3 f3
  clear H2 o3 f3
  go_wp2_with fail
  refine (implMinus_any _ _ _ a _ _ _ b _ (H3.rd 1 rfl) (H3.rd 2 rfl) (by omega) (by omega)).mono ?_
  rintro e w4 ⟨A4, c4, rfl, o4, f4⟩
  have H4 := H3.made o4 f4
  clear H3 o4 f4
  have lu := union_len a b
  have lm : (minus a b).length ≤ 30 := Nat.le_trans (minus_len2 a b) (Nat.mul_le_mul la (Nat.add_le_add_right lb 1))
  by_cases ha : rOk a = true
  · by_cases hb : rOk b = true
    · have HLW := Lib.hid (ranges_law ha hb)
      have lw := union_len (minus a b) b
      go_wp2_with fail
      refine (specRangesOk_any _ _ _ a _ (H4.rd 2 rfl) (by omega)).mono ?_
      rintro e w5 ⟨rfl, f5⟩
      have H5 := H4.go f5.fr
      clear H4 f5
      rw [ha]
      go_wp2_with fail
      refine (specRangesOk_any _ _ _ b _ (H5.rd 3 rfl) (by omega)).mono ?_
      rintro e w6 ⟨rfl, f6⟩
      have H6 := H5.go f6.fr
      clear H5 f6
      rw [hb]
      clear ha hb
      go_wp2_with fail
      go_loopw [7] (fun v wr => ∃ k : Nat, k ≤ 61 ∧ v = .int .i64 ((k : Int) - 1) ∧ Hp [] w wr [.row 127 2 (.slice A4 (minus a b).length c4) (minus a b).length ((minus a b).flatMap cRange), .row 127 2 (.slice A3 (union a b).length c3) (union a b).length ((union a b).flatMap cRange),
          .row 127 2 (.slice A1 a.length c1) a.length (a.flatMap cRange), .row 127 2 (.slice B1 b.length d1) b.length (b.flatMap cRange)]) (fun v _ => 61 - (intOf v + 1).toNat)
      case atStart => exact ⟨0, by omega, rfl, H6⟩
      case round =>
        clear H6
        obtain ⟨k, hk, rfl, H⟩ := hrel
        by_cases hlt : k < 61
        · have hlt2 := Lib.hid hlt
          go_wp2_with fail
          refine (specInRanges_any _ _ _ a _ _ (H.rd 2 rfl) (by omega)).mono ?_
          rintro e w7 ⟨rfl, f7⟩
          have H7 := H.go f7.fr
          clear H f7
          go_wp2_with fail
          refine (specInRanges_any _ _ _ b _ _ (H7.rd 3 rfl) (by omega)).mono ?_
          rintro e w8 ⟨rfl, f8⟩
          have H8 := H7.go f8.fr
          clear H7 f8
          obtain ⟨p, hp⟩ : ∃ p, inR a ((k : Int) - 1) = p := ⟨_, rfl⟩
          obtain ⟨q, hq⟩ : ∃ q, inR b ((k : Int) - 1) = q := ⟨_, rfl⟩
          have HU := Lib.hid (show inR (union a b) ((k : Int) - 1) = (p || q) by rw [HLW.out.2.2.1, hp, hq])
          have HM := Lib.hid (show inR (minus a b) ((k : Int) - 1) = (p && !q) by rw [HLW.out.2.2.2.1, hp, hq])
          rw [hp, hq]
          clear hp hq
          have hw : IntKind.i64.wrap ((k : Int) - 1 + 1) = ((k + 1 : Nat) : Int) - 1 := (IntWalk.i64_in _ (by omega)).trans (by omega)
          cases p <;> cases q
          all_goals
            go_wp2_with fail
            refine (implInRanges_any _ _ _ (union a b) _ _ (H8.rd 1 rfl) (by omega)).mono ?_
            rintro e w9 ⟨rfl, f9⟩
            have H9 := H8.go f9
            rw [HU.out]
            go_wp2_with fail
            refine (implInRanges_any _ _ _ (minus a b) _ _ (H9.rd 0 rfl) (by omega)).mono ?_
            rintro e w10 ⟨rfl, f10⟩
            have H10 := H9.go f10
            rw [HM.out]
            clear H8 H9 f9 f10
            go_wp2_with fail
            go_roundw
            case rel => exact ⟨k + 1, hlt2.out, by first | rfl | (congr 1; omega), H10⟩
            case measure => have h9 := hlt2.out; simp only [intOf]; omega
        · go_wp2_with fail
          refine (specRangesOk_any _ _ _ (union a b) _ (H.rd 1 rfl) (by omega)).mono ?_
          rintro e w5 ⟨rfl, f5⟩
          have H5 := H.go f5.fr
          clear H f5
          rw [HLW.out.1]
          go_wp2_with fail
          refine (specRangesOk_any _ _ _ (minus a b) _ (H5.rd 0 rfl) (by omega)).mono ?_
          rintro e w6 ⟨rfl, f6⟩
          have H6 := H5.go f6.fr
          clear H5 f6
          rw [HLW.out.2.1]
          go_wp2_with fail
          refine (implUnion_any _ _ _ b _ _ _ a _ (H6.rd 3 rfl) (H6.rd 2 rfl) (by omega) (by omega)).mono ?_
          rintro e w7 ⟨A7, c7, rfl, o7, f7⟩
          rw [HLW.out.2.2.2.2.1] at o7 ⊢
          have H7 := H6.made o7 f7
          clear H6 o7 f7
          go_wp2_with fail
          refine (sameRanges_yes _ _ _ _ _ _ (union a b) _ (H7.rd 2 rfl) (H7.rd 0 rfl) (by omega)).mono ?_
          rintro e w8 ⟨rfl, f8⟩
          have H8 := H7.go f8
          clear H7 f8
          go_wp2_with fail
          refine (implCountOf_any _ _ _ (union a b) _ (H8.rd 2 rfl) (by omega)).mono ?_
          rintro e w9 ⟨rfl, f9⟩
          have H9 := H8.go f9
          clear H8 f9
          rw [HLW.out.2.2.2.2.2.2]
          go_wp2_with fail
          refine (implCountOf_any _ _ _ b _ (H9.rd 4 rfl) (by omega)).mono ?_
          rintro e w10 ⟨rfl, f10⟩
          have H10 := H9.go f10
          clear H9 f10
          go_wp2_with fail
          refine (implCountOf_any _ _ _ (minus a b) _ (H10.rd 1 rfl) (by omega)).mono ?_
          rintro e w11 ⟨rfl, f11⟩
          have H11 := H10.go f11
          clear H10 f11
          obtain ⟨cb, hcb⟩ : ∃ x, x = cntR b := ⟨_, rfl⟩
          obtain ⟨cm, hcm⟩ : ∃ x, x = cntR (minus a b) := ⟨_, rfl⟩
          have hbb := cntR_bound b
          have hbm := cntR_bound (minus a b)
          rw [← hcb] at hbb
          rw [← hcm] at hbm
          rw [← hcb, ← hcm]
          have hw : IntKind.i64.wrap (cb + cm) = cb + cm := IntWalk.i64_in _ (by omega)
          clear hcb hcm
          go_wp2_with fail
          refine (implUnion_any _ _ _ (minus a b) _ _ _ b _ (H11.rd 1 rfl) (H11.rd 4 rfl) (by omega) (by omega)).mono ?_
          rintro e w12 ⟨A12, c12, rfl, o12, f12⟩
          rw [HLW.out.2.2.2.2.2.1] at o12 ⊢
          have H12 := H11.made o12 f12
          clear H11 o12 f12
          go_wp2_with fail
          refine (sameRanges_yes _ _ _ _ _ _ (union a b) _ (H12.rd 0 rfl) (H12.rd 3 rfl) (by omega)).mono ?_
          rintro e w13 ⟨rfl, f13⟩
          have H13 := H12.go f13
          clear H12 f13
          go_wp2_with fail
          go_ret
          exact ⟨rfl, H13.fr⟩
    · have hb' : rOk b = false := by simpa using hb
      have e1 : union a b = [] := by simp [union, hb']
      have e2 : minus a b = [] := by simp [minus, hb']
      rw [e1, e2] at H4 ⊢
      clear e1 e2 lu lm hb
      go_wp2_with fail
      refine (specRangesOk_any _ _ _ a _ (H4.rd 2 rfl) (by omega)).mono ?_
      rintro e w5 ⟨rfl, f5⟩
      have H5 := H4.go f5.fr
      clear H4 f5
      rw [ha]
      go_wp2_with fail
      refine (specRangesOk_any _ _ _ b _ (H5.rd 3 rfl) (by omega)).mono ?_
      rintro e w6 ⟨rfl, f6⟩
      have H6 := H5.go f6.fr
      clear H5 f6
      rw [hb']
      go_wp2_with fail
      go_ret
      exact ⟨rfl, H6.fr⟩
  · have ha' : rOk a = false := by simpa using ha
    have e1 : union a b = [] := by simp [union, ha']
    have e2 : minus a b = [] := by simp [minus, ha']
    rw [e1, e2] at H4 ⊢
    clear e1 e2 lu lm ha
    go_wp2_with fail
    refine (specRangesOk_any _ _ _ a _ (H4.rd 2 rfl) (by omega)).mono ?_
    rintro e w5 ⟨rfl, f5⟩
    have H5 := H4.go f5.fr
    clear H4 f5
    rw [ha']
    go_wp2_with fail
    go_ret
    exact ⟨rfl, H5.fr⟩
end Go.Proofs.Ytbhnlfpcodeloaa
