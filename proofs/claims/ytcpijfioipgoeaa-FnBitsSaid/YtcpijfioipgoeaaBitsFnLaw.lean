/-
  The law FnBits, walked.
-/
import Derived.Test.YtcpijfioipgoeaaSetRun
import Derived.Test.YtcpijfioipgoeaaDrawBits
import Derived.Test.YtcpijfioipgoeaaFreeOf
import Derived.Test.YtcpijfioipgoeaaLaw
namespace Go.Proofs.Ytcpijfioipgoeaa
open Go.RowKit

theorem big_any (A : Option Addr) (n c : Nat) (w : World) (_hn : n ≤ 9223372036854775807) :
    Calls Try.prog 4 #[.slice A n c] w fun e w' => e = .returned (.bool (decide (1048576 < n))) ∧ w = w' := by
  go_enter Try.func4, Try.ntmps4
  go_wp2
  go_ret
  exact ⟨ret_bool (by simp; omega), rfl⟩
theorem runs_none {L : List Bool} (h : L.length ≠ 24) : runs L = [] := by rw [runs, if_neg h]

set_option linter.unusedVariables false
set_option maxRecDepth 100000 in
set_option maxHeartbeats 8000000 in
theorem lawFnBits_walk (A : Option Addr) (n c : Nat) (bs : List UInt8) (w : World) (hA : Rd w A n 1 (bs.map cU8)) (hcap : n ≤ 9223372036854775807) :
    Calls Try.prog 3 #[.slice A n c] w fun e w' => e = .returned (.bool true) ∧ Fr w w' := by
  by_cases hbig : 1048576 < n
  · have hd : decide (1048576 < n) = true := by simpa using hbig
    go_enter Try.func3, Try.ntmps3
    go_wp2_with fail
    refine (big_any A n c _ hcap).mono ?_
    rintro e w1 ⟨rfl, rfl⟩
    rw [hd]
    go_wp2_with fail
    go_ret
    exact ⟨rfl, Below.refl _ _⟩
  have hd : decide (1048576 < n) = false := by simpa using hbig
  have hn : n ≤ 1048576 := by omega
  have G := Lib.hid hA
  go_enter Try.func3, Try.ntmps3
  go_wp2_with fail
  refine (big_any A n c _ hcap).mono ?_
  rintro e w1 ⟨rfl, rfl⟩
  rw [hd]
  clear hd
  go_wp2_with fail
  refine (drawSetRun_any A n c bs _ hA hn).mono ?_
  rintro e w1 ⟨B, kb, db, L, a, m, v, rfl, hL, hkb, ia, im, H1⟩
  clear hA
  have HL := Lib.hid hL
  clear hL
  go_wp2_with fail
  refine (implRuns_any B kb db L _ (H1.rd 0 rfl)).mono ?_
  rintro e w2 ⟨A2, c2, rfl, o2, f2⟩
  have H2 := H1.made o2 f2
  clear H1 o2 f2
  obtain ⟨kr, hkr⟩ : ∃ q, q = (runs L).length := ⟨_, rfl⟩
  have HKR := Lib.hid hkr
  have hkr24 : kr ≤ 24 := by rw [hkr]; exact (runs_bounds L).1
  rw [← hkr] at H2 ⊢
  clear hkr
  go_wp2_with fail
  refine (implSetRun_any B kb db L a m v _ (H2.rd 1 rfl) (own_cap (H2.row 1 rfl)) ia im).mono ?_
  rintro e w3 ⟨X, dx, kx, rfl, hkx, K3⟩
  have H3 := H2.join K3
  clear H2 K3
  have HKX := Lib.hid hkx
  clear hkx
  obtain ⟨ok, hok⟩ : ∃ q, q = setOk L a m v := ⟨_, rfl⟩
  have HOK := Lib.hid hok
  rw [← hok]
  clear hok
  go_wp2_with fail
  refine (specSetRun_any B kb db L a m v _ (H3.rd 2 rfl) (own_cap (H3.row 2 rfl)) ia im).mono ?_
  rintro e w4 ⟨X4, d4, k4, rfl, hk4, K4⟩
  have H4 := (H3.join K4).tail
  clear H3 K4 hk4
  rw [← HOK.out]
  have hoo : (ok != ok) = false := by cases ok <;> rfl
  go_wp2_with fail
  refine (specBitsOk_any B kb db _).mono ?_
  rintro e w5 ⟨rfl, rfl⟩
  by_cases h23 : kb = 23
  · have hr0 : runs L = [] := runs_none (by rw [HL.out]; omega)
    have hkr0 : kr = 0 := by rw [HKR.out, hr0]; rfl
    have hkx0 : kx = 0 := by rw [HKX.out, setRes_len, if_neg (by rw [HL.out]; omega)]
    have HS := Lib.hid (show sumLen (runs L) = 0 by rw [hr0]; rfl)
    subst hkr0 hkx0 h23
    clear hr0 hkb
    rw [show decide (23 = 24) = false from rfl]
    go_wp2_with fail
    refine (implFreeOf_any B 23 db L _ (H4.rd 2 rfl)).mono ?_
    rintro e w6 ⟨rfl, f6⟩
    have H6 := H4.go f6
    clear H4
    rw [HS.out]
    go_wp2_with fail
    go_ret
    exact ⟨rfl, H6.fr⟩
  obtain rfl : kb = 24 := by omega
  clear h23 hkb
  rw [decide_eq_true rfl]
  have hkx24 : kx = 24 := by rw [HKX.out, setRes_len, if_pos HL.out]
  subst hkx24
  obtain ⟨gB, dB, e, hgB⟩ := H4.form 2 rfl (by decide)
  injection e with e1 _ e2
  subst e1 e2
  clear hgB
  go_wp2_with fail
  go_loopw [12, 13] (fun s iv wr => ∃ i : Nat, i ≤ kr ∧ iv = .int .i64 i ∧ s = .int .i64 (sumLen ((runs L).take i)) ∧ Hp [] w wr [.row 4 1 (.slice X 24 dx) 24 ((setRes L a m v).map Value.bool), .row 34 2 (.slice A2 kr c2) kr ((runs L).flatMap cRun), .row 4 1 (.slice (some ⟨gB, 0, none⟩) 24 db) 24 (L.map Value.bool)]) (fun _ iv _ => 24 - (intOf iv).toNat)
  case atStart => exact ⟨0, by omega, rfl, rfl, H4⟩
  case round =>
    clear H4
    obtain ⟨i, hi, rfl, rfl, H⟩ := hrel
    have hsb := sum_take_bound L i
    by_cases hlt : i < kr
    · obtain ⟨⟨ra, rl⟩, hx⟩ := at_some HKR.out.symm hlt
      have hr := runs_in L _ hx.mem
      obtain ⟨aN, rfl⟩ := Int.eq_ofNat_of_zero_le hr.1
      obtain ⟨lN, rfl⟩ := Int.eq_ofNat_of_zero_le (show 0 ≤ rl by have := hr.2.2; simp only at this; omega)
      have hq24 : aN + lN ≤ 24 := by have := hr.2.1; simp only at this; omega
      have hl1 : 1 ≤ lN := by have := hr.2.2; simp only at this; omega
      have HFREE := Lib.hid (fun (j : Nat) (h1 : aN ≤ j) (h2 : j < aN + lN) => runs_free hx.mem (j := j) (by simp only; omega) (by simp only; omega))
      obtain ⟨gR, cR, e, hgR⟩ := H.form 1 rfl (by omega)
      injection e with e1 _ e2
      subst e1 e2
      clear hgR hr
      have HX := Lib.hid hx
      have HH := Lib.hid H
      have ca := H.atL 1 rfl cRun_len (r := 0) hx rfl
      simp only [Nat.add_zero] at ca
      have cb := H.atL 1 rfl cRun_len (r := 1) hx rfl
      clear hx
      obtain ⟨q, hq⟩ : ∃ q : Nat, q = aN + lN := ⟨_, rfl⟩
      have hwq : IntKind.i64.wrap ((aN : Int) + (lN : Int)) = (q : Int) := by rw [IntWalk.i64_in _ (by omega)]; omega
      have HQ := Lib.hid hq
      have hqb : q ≤ 24 := by omega
      have haq : aN ≤ q := by omega
      have hi0 : (0 : Int) ≤ (i : Int) := by omega
      have hi1 : (i : Int) < (kr : Int) := by omega
      have hd1 : decide ((lN : Int) < 1) = false := by simp; omega
      have hwsum : IntKind.i64.wrap (sumLen ((runs L).take i) + (lN : Int)) = sumLen ((runs L).take i) + (lN : Int) := IntWalk.i64_in _ (by omega)
      clear hq
      rcases Nat.eq_zero_or_pos i with hz | hz
      · subst hz
        go_wp2_with fail
        refine wp_region_quiet_lit (by kernel_rfl) (by kernel_rfl) ?_
        repeat (any_goals (first | go_big_quiet_step ((fail)) | quiet_step ((fail)) | (refine wpQuiet_step (fun K hK => ?_); go_simp; split <;> (refine hK _ ?_; clear hK K))))
        all_goals (refine wpQuiet_nil ?_; intro _ hw_; obtain ⟨nq, hw__⟩ := hw_; subst hw__)
        go_wp2_with fail
        replace H := H.on nq
        obtain ⟨w6, hw6⟩ : ∃ q : World, q = wr.drewN nq := ⟨_, rfl⟩
        rw [← hw6] at H ⊢
        clear hw6 ca cb
        have ca := H.atL 1 rfl cRun_len (r := 0) HX.out rfl
        simp only [Nat.add_zero] at ca
        have cb := H.atL 1 rfl cRun_len (r := 1) HX.out rfl
        go_wp2_with fail
        clear ca cb
        go_loopw [14] (fun kv wq => ∃ j : Nat, kv = .int .i64 j ∧ aN ≤ j ∧ j ≤ q ∧ Hp [] w wq [.row 4 1 (.slice X 24 dx) 24 ((setRes L a m v).map Value.bool), .row 34 2 (.slice (some ⟨gR, 0, none⟩) kr c2) kr ((runs L).flatMap cRun), .row 4 1 (.slice (some ⟨gB, 0, none⟩) 24 db) 24 (L.map Value.bool)]) (fun kv _ => 24 - (intOf kv).toNat)
        case atStart => exact ⟨aN, rfl, Nat.le_refl _, by omega, H⟩
        case round =>
          clear H
          obtain ⟨j, rfl, hj1, hj2, H⟩ := hrel
          have ca := H.atL 1 rfl cRun_len (r := 0) HX.out rfl
          simp only [Nat.add_zero] at ca
          have cb := H.atL 1 rfl cRun_len (r := 1) HX.out rfl
          by_cases hjq : j < q
          · go_wp2_with fail
            refine wp_region_quiet_lit (by kernel_rfl) (by kernel_rfl) ?_
            repeat (any_goals (first | go_big_quiet_step ((fail)) | quiet_step ((fail)) | (refine wpQuiet_step (fun K hK => ?_); go_simp; split <;> (refine hK _ ?_; clear hK K))))
            all_goals (refine wpQuiet_nil ?_; intro _ hw_; obtain ⟨nq, hw__⟩ := hw_; subst hw__)
            replace H := H.on nq
            obtain ⟨w7, hw7⟩ : ∃ q : World, q = wr.drewN nq := ⟨_, rfl⟩
            rw [← hw7] at H ⊢
            clear hw7 ca cb
            have cf := H.atM 2 rfl (HFREE.out j hj1 (by have := HQ.out; omega))
            have hj0 : decide ((j : Int) < 0) = false := by simp
            have hj24 : decide ((24 : Int) ≤ (j : Int)) = false := by simp; omega
            have hj2' : (0 : Int) ≤ (j : Int) := by omega
            have hj3' : (j : Int) < 24 := by omega
            go_wp2_with fail
            go_roundw
            case rel => exact ⟨j + 1, by go_num, by omega, by omega, H⟩
            case measure => simp [intOf]; omega
          · go_wp2_with fail
            refine wp_region_quiet_lit (by kernel_rfl) (by kernel_rfl) ?_
            repeat (any_goals (first | go_big_quiet_step ((fail)) | quiet_step ((fail)) | (refine wpQuiet_step (fun K hK => ?_); go_simp; split <;> (refine hK _ ?_; clear hK K))))
            all_goals (refine wpQuiet_nil ?_; intro _ hw_; obtain ⟨nq, hw__⟩ := hw_; subst hw__)
            replace H := H.on nq
            obtain ⟨w7, hw7⟩ : ∃ q : World, q = wr.drewN nq := ⟨_, rfl⟩
            rw [← hw7] at H ⊢
            clear hw7 ca cb
            have cb2 := H.atL 1 rfl cRun_len (r := 1) HX.out rfl
            go_wp2_with fail
            go_roundw
            case rel => first | exact ⟨i + 1, by omega, by go_num, by rw [At.take HX.out, sumLen_snoc] <;> go_num, H⟩ | exact ⟨0 + 1, by omega, by go_num, by rw [At.take HX.out, sumLen_snoc]; have e0 : sumLen [] = 0 := rfl; have e1 : sumLen (List.take 0 (runs L)) = 0 := rfl; rw [e0, e1]; simp only [Value.int.injEq, true_and]; unfold wrap64; omega, H⟩
            case measure => simp [intOf] <;> omega
      · obtain ⟨i', hi'⟩ : ∃ i' : Nat, i = i' + 1 := ⟨i - 1, by omega⟩
        obtain ⟨⟨pa, pl⟩, hy⟩ := at_some HKR.out.symm (show i' < kr by omega)
        have hgap : pa + pl < aN := runs_next hy (by rw [← hi']; exact HX.out)
        have hin := runs_in L _ hy.mem
        have hin0 : 0 ≤ pa ∧ 1 ≤ pl := ⟨hin.1, hin.2.2⟩
        have cc := H.atL 1 rfl cRun_len (r := 0) hy rfl
        simp only [Nat.add_zero] at cc
        have cd := H.atL 1 rfl cRun_len (r := 1) hy rfl
        have hwi : IntKind.i64.wrap ((i : Int) - 1) = (i' : Int) := by rw [IntWalk.i64_in _ (by omega)]; omega
        have hws : IntKind.i64.wrap (pa + pl) = pa + pl := IntWalk.i64_in _ (by omega)
        have hd2 : decide ((0 : Int) < (i : Int)) = true := by simp; omega
        have hd3 : decide ((aN : Int) ≤ pa + pl) = false := by simp; omega
        have hi2 : (0 : Int) ≤ (i' : Int) := by omega
        have hi3 : (i' : Int) < (kr : Int) := by omega
        clear hi' hin
        go_wp2_with fail
        refine wp_region_quiet_lit (by kernel_rfl) (by kernel_rfl) ?_
        repeat (any_goals (first | go_big_quiet_step ((fail)) | quiet_step ((fail)) | (refine wpQuiet_step (fun K hK => ?_); go_simp; split <;> (refine hK _ ?_; clear hK K))))
        all_goals (refine wpQuiet_nil ?_; intro _ hw_; obtain ⟨nq, hw__⟩ := hw_; subst hw__)
        go_wp2_with fail
        replace H := H.on nq
        obtain ⟨w6, hw6⟩ : ∃ q : World, q = wr.drewN nq := ⟨_, rfl⟩
        rw [← hw6] at H ⊢
        clear hw6 ca cb
        have ca := H.atL 1 rfl cRun_len (r := 0) HX.out rfl
        simp only [Nat.add_zero] at ca
        have cb := H.atL 1 rfl cRun_len (r := 1) HX.out rfl
        go_wp2_with fail
        clear ca cb
        go_loopw [14] (fun kv wq => ∃ j : Nat, kv = .int .i64 j ∧ aN ≤ j ∧ j ≤ q ∧ Hp [] w wq [.row 4 1 (.slice X 24 dx) 24 ((setRes L a m v).map Value.bool), .row 34 2 (.slice (some ⟨gR, 0, none⟩) kr c2) kr ((runs L).flatMap cRun), .row 4 1 (.slice (some ⟨gB, 0, none⟩) 24 db) 24 (L.map Value.bool)]) (fun kv _ => 24 - (intOf kv).toNat)
        case atStart => exact ⟨aN, rfl, Nat.le_refl _, by omega, H⟩
        case round =>
          clear H
          obtain ⟨j, rfl, hj1, hj2, H⟩ := hrel
          have ca := H.atL 1 rfl cRun_len (r := 0) HX.out rfl
          simp only [Nat.add_zero] at ca
          have cb := H.atL 1 rfl cRun_len (r := 1) HX.out rfl
          by_cases hjq : j < q
          · go_wp2_with fail
            refine wp_region_quiet_lit (by kernel_rfl) (by kernel_rfl) ?_
            repeat (any_goals (first | go_big_quiet_step ((fail)) | quiet_step ((fail)) | (refine wpQuiet_step (fun K hK => ?_); go_simp; split <;> (refine hK _ ?_; clear hK K))))
            all_goals (refine wpQuiet_nil ?_; intro _ hw_; obtain ⟨nq, hw__⟩ := hw_; subst hw__)
            replace H := H.on nq
            obtain ⟨w7, hw7⟩ : ∃ q : World, q = wr.drewN nq := ⟨_, rfl⟩
            rw [← hw7] at H ⊢
            clear hw7 ca cb
            have cf := H.atM 2 rfl (HFREE.out j hj1 (by have := HQ.out; omega))
            have hj0 : decide ((j : Int) < 0) = false := by simp
            have hj24 : decide ((24 : Int) ≤ (j : Int)) = false := by simp; omega
            have hj2' : (0 : Int) ≤ (j : Int) := by omega
            have hj3' : (j : Int) < 24 := by omega
            go_wp2_with fail
            go_roundw
            case rel => exact ⟨j + 1, by go_num, by omega, by omega, H⟩
            case measure => simp [intOf]; omega
          · go_wp2_with fail
            refine wp_region_quiet_lit (by kernel_rfl) (by kernel_rfl) ?_
            repeat (any_goals (first | go_big_quiet_step ((fail)) | quiet_step ((fail)) | (refine wpQuiet_step (fun K hK => ?_); go_simp; split <;> (refine hK _ ?_; clear hK K))))
            all_goals (refine wpQuiet_nil ?_; intro _ hw_; obtain ⟨nq, hw__⟩ := hw_; subst hw__)
            replace H := H.on nq
            obtain ⟨w7, hw7⟩ : ∃ q : World, q = wr.drewN nq := ⟨_, rfl⟩
            rw [← hw7] at H ⊢
            clear hw7 ca cb
            have cb2 := H.atL 1 rfl cRun_len (r := 1) HX.out rfl
            go_wp2_with fail
            go_roundw
            case rel => first | exact ⟨i + 1, by omega, by go_num, by rw [At.take HX.out, sumLen_snoc] <;> go_num, H⟩ | exact ⟨0 + 1, by omega, by go_num, by rw [At.take HX.out, sumLen_snoc]; have e0 : sumLen [] = 0 := rfl; have e1 : sumLen (List.take 0 (runs L)) = 0 := rfl; rw [e0, e1]; simp only [Value.int.injEq, true_and]; unfold wrap64; omega, H⟩
            case measure => simp [intOf] <;> omega
    · have hst : sumLen ((runs L).take i) = sumLen (runs L) := by rw [List.take_of_length_le (by rw [← HKR.out]; omega)]
      rw [hst]
      clear hst hsb hi hkr24
      obtain ⟨sm, hsm⟩ : ∃ q, q = sumLen (runs L) := ⟨_, rfl⟩
      have HSM := Lib.hid hsm
      rw [← hsm]
      clear hsm
      go_wp2_with fail
      refine (drawFindRun_any A n c bs _ (H.old G.out) hn).mono ?_
      rintro e w6 ⟨F, kf, df, LF, q, rfl, hLF, hkf, iq, K6⟩
      have H6 := H.join K6
      clear H K6 hLF hkf
      go_wp2_with fail
      refine (implFreeOf_any (some ⟨gB, 0, none⟩) 24 db L _ (H6.rd 3 rfl)).mono ?_
      rintro e w7 ⟨rfl, f7⟩
      have H7 := H6.go f7
      clear H6
      rw [← HSM.out]
      go_wp2_with fail
      refine (specFreeOf_any (some ⟨gB, 0, none⟩) 24 db L _ (H7.rd 3 rfl)).mono ?_
      rintro e w8 ⟨rfl, f8⟩
      have H8 := H7.go f8
      clear H7
      rw [← HSM.out]
      go_wp2_with fail
      refine (implFindRun_any F kf df LF q _ (H8.rd 0 rfl)).mono ?_
      rintro e w9 ⟨rfl, f9⟩
      have H9 := H8.go f9
      clear H8
      obtain ⟨fr, hfr⟩ : ∃ y, y = findR (runs LF) q := ⟨_, rfl⟩
      have HFR := Lib.hid hfr
      rw [← hfr]
      clear hfr
      go_wp2_with fail
      refine (specFindRun_any F kf df LF q _ (H9.rd 0 rfl)).mono ?_
      rintro e w10 ⟨rfl, f10⟩
      have H10 := H9.go f10
      clear H9
      rw [← HFR.out]
      cases ok with
      | false =>
        go_wp2_with fail
        go_ret
        exact ⟨rfl, H10.fr⟩
      | true =>
        go_wp2_with fail
        refine (implSetRun_any X 24 dx (setRes L a m v) a m (!v) _ (H10.rd 1 rfl) (own_cap (H10.row 1 rfl)) ia im).mono ?_
        rintro e w11 ⟨Y, dy, ky, rfl, hky, K⟩
        have hb := setRes_back HOK.out.symm
        rw [hb.2] at hky K
        rw [hb.1]
        clear hb
        obtain rfl : ky = 24 := hky.trans HL.out
        clear hky
        have H11 := H10.join K
        clear H10 K
        obtain ⟨gY, cY, e, hgY⟩ := H11.form 0 rfl (by decide)
        injection e with e1 _ e2
        subst e1 e2
        clear hgY
        go_wp2_with fail
        go_loopw [19] (fun kv wr => ∃ j : Nat, kv = .int .i64 j ∧ j ≤ 24 ∧ Hp [] w wr [.row 4 1 (.slice (some ⟨gY, 0, none⟩) 24 dy) 24 (L.map Value.bool), .row 4 1 (.slice F kf df) kf (LF.map Value.bool), .row 4 1 (.slice X 24 dx) 24 ((setRes L a m v).map Value.bool), .row 34 2 (.slice A2 kr c2) kr ((runs L).flatMap cRun), .row 4 1 (.slice (some ⟨gB, 0, none⟩) 24 db) 24 (L.map Value.bool)]) (fun kv _ => 24 - (intOf kv).toNat)
        case atStart => exact ⟨0, rfl, by omega, H11⟩
        case round =>
          clear H11
          obtain ⟨j, rfl, hj, H11⟩ := hrel
          by_cases hj24 : j < 24
          · obtain ⟨x, hx⟩ := at_some HL.out hj24
            have cy := H11.atM 0 rfl hx
            have cb := H11.atM 4 rfl hx
            have hxx : (x != x) = false := by simp
            have hj2' : (0 : Int) ≤ (j : Int) := by omega
            have hj3' : (j : Int) < 24 := by omega
            go_wp2_with fail
            refine wp_region_quiet_lit (by kernel_rfl) (by kernel_rfl) ?_
            repeat (any_goals (first | go_big_quiet_step ((fail)) | quiet_step ((fail)) | (refine wpQuiet_step (fun K hK => ?_); go_simp; split <;> (refine hK _ ?_; clear hK K))))
            all_goals (refine wpQuiet_nil ?_; intro _ hw_; obtain ⟨nq, hw__⟩ := hw_; subst hw__)
            go_wp2_with fail
            replace H11 := H11.on nq
            go_wp2_with fail
            go_roundw
            case rel => exact ⟨j + 1, by go_num, by omega, H11⟩
            case measure => simp [intOf]; omega
          · go_wp2_with fail
            go_ret
            exact ⟨rfl, H11.fr⟩
end Go.Proofs.Ytcpijfioipgoeaa
