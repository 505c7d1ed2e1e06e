/-
  ExtsOk of the program.
-/
import Derived.Test.YtbmoolmgfpcnkaaGa
import Derived.Test.YtbmoolmgfpcnkaaExtS
namespace Go.Proofs.Ytbmoolmgfpcnkaa
open Go.RowKit

theorem within_of {x lo hi : Int} {b : Bool} (h : inB x lo hi = b) (w : World) :
    Calls Try.prog 56 #[.int .i64 x, .int .i64 lo, .int .i64 hi] w fun e w' => e = .returned (.bool b) ∧ w = w' := by
  subst h
  exact (within_any x lo hi w).mono fun _ _ h => ⟨h.1, h.2.symm⟩

theorem isPart_any (x n size : Int) (h1 : 1 ≤ size) (h2 : size ≤ 100) (w : World) :
    Calls Try.prog 95 #[.int .i64 x, .int .i64 n, .int .i64 size] w fun e w' => e = .returned (.bool (isP x n size)) ∧ w = w' := by
  obtain ⟨b1, q1⟩ : ∃ q, inB x 0 (size - 1) = q := ⟨_, rfl⟩
  have Q1 := Lib.hid q1
  have hr : isP x n size = (b1 && inB n 1 (size - x)) := by simp [isP, q1]
  have HR := Lib.hid hr
  clear q1 hr
  cases b1
  · go_enter Try.func95, Try.ntmps95
    go_wp2_with fail
    refine (within_of Q1.out _).mono ?_
    rintro e w2 ⟨rfl, rfl⟩
    go_wp2
    go_ret
    exact ⟨ret_bool (by rw [HR.out]; rfl), rfl⟩
  · have hx := inB_iff.1 Q1.out
    go_enter Try.func95, Try.ntmps95
    go_wp2_with fail
    refine (within_of Q1.out _).mono ?_
    rintro e w2 ⟨rfl, rfl⟩
    go_wp2_with fail
    refine (within_of rfl _).mono ?_
    rintro e w2 ⟨rfl, rfl⟩
    go_wp2
    go_ret
    exact ⟨ret_bool (by rw [HR.out]; simp), rfl⟩
theorem isPart_of {x n size : Int} {b : Bool} (h1 : 1 ≤ size) (h2 : size ≤ 100) (h : isP x n size = b) (w : World) :
    Calls Try.prog 95 #[.int .i64 x, .int .i64 n, .int .i64 size] w fun e w' => e = .returned (.bool b) ∧ w = w' := by
  subst h
  exact isPart_any x n size h1 h2 w

set_option maxRecDepth 100000 in
set_option maxHeartbeats 4000000 in
theorem implExtsOk_any (A : Option Addr) (n c : Nat) (l : List (Int × Int × Int)) (w : World) (h : Rd w A n 3 (l.flatMap cExt)) (hn : n ≤ 1048576) :
    Calls Try.prog 72 #[.slice A n c] w fun e w' => e = .returned (.bool (eOk l)) ∧ Fr w w' := by
  have hl := h.lenk cExt_len (by omega)
  have HL := Lib.hid hl
  clear hl
  go_enter Try.func72, Try.ntmps72
  go_wp2_with fail
  generalize hw1 : w.alloc _ = w1
  have b1 : Bk w1 w.heap.size 112 (uArr l 0 0 0) := by rw [← hw1, uArr_start]; exact Bk.new w _ _
  have f1 : Fr w w1 := by rw [← hw1]; exact Fr.al (Below.refl _ _) _
  clear hw1
  go_loopw [11] (fun i wr => ∃ k : Nat, k ≤ n ∧ i = .int .i64 k ∧ (∀ j, j < k → eAt l j = true) ∧ Bk wr w.heap.size 112 (uArr l k 0 0) ∧ Fr w wr) (fun i _ => n - (intOf i).toNat)
  case atStart => exact ⟨0, Nat.zero_le _, rfl, fun j hj => absurd hj (by omega), b1, f1⟩
  case round =>
    clear b1 f1
    obtain ⟨k, hk, rfl, hall, hown, hfr⟩ := hrel
    obtain ⟨wo, rfl⟩ : ∃ wo : World, wo = wr := ⟨_, rfl⟩
    have HA := Lib.hid hall
    have HO := Lib.hid hown
    have HF := Lib.hid hfr
    clear hall hown
    by_cases hlt : k < n
    · obtain ⟨⟨a, b, m⟩, hx⟩ := some_at HL.out hlt
      obtain ⟨bk, of, rfl, hcell⟩ := (h.fr hfr).elem cExt_len hx (by omega)
      have ca := hcell 0 _ rfl; simp only [Nat.add_zero] at ca
      have cb := hcell 1 _ rfl
      have cc := hcell 2 _ rfl
      have hbk : bk < wo.heap.size := World.block_lt_of_cell? wo _ ca
      have HX := Lib.hid hx
      have H := Lib.hid h
      clear hcell hfr hx h
      obtain ⟨b1, q1⟩ : ∃ q, isP a m 12 = q := ⟨_, rfl⟩
      obtain ⟨b2, q2⟩ : ∃ q, isP b m 24 = q := ⟨_, rfl⟩
      have hre : eRange (a, b, m) = (b1 && b2) := by simp [eRange_isP, q1, q2]
      have HRE := Lib.hid hre
      have Q1 := Lib.hid q1
      have Q2 := Lib.hid q2
      clear hre q1 q2
      cases b1
      · go_wp2_with fail
        refine (isPart_of (by omega) (by omega) Q1.out _).mono ?_
        rintro e w2 ⟨rfl, rfl⟩
        go_wp2_with fail
        go_ret
        exact ⟨ret_bool (eOk_no HL.out hlt (eAt_range HX.out (by rw [HRE.out]; rfl))).symm, Fr.al HF.out _⟩
      have hm := isP_iff.1 Q1.out
      cases b2
      ·
        go_wp2_with fail
        refine (isPart_of (by omega) (by omega) Q1.out _).mono ?_
        rintro e w2 ⟨rfl, rfl⟩
        go_wp2_with fail
        refine (isPart_of (by omega) (by omega) Q2.out _).mono ?_
        rintro e w2 ⟨rfl, rfl⟩
        go_wp2_with fail
        go_ret
        exact ⟨ret_bool (eOk_no HL.out hlt (eAt_range HX.out (by rw [HRE.out]; rfl))).symm, Fr.al HF.out _⟩
      have hb := isP_iff.1 Q2.out
      obtain ⟨B, rfl⟩ := Int.eq_ofNat_of_zero_le hb.1
      obtain ⟨N, rfl⟩ := Int.eq_ofNat_of_zero_le (show 0 ≤ m by omega)
      have hwr := HF.out.size
      have hwl : w.heap.size < wo.heap.size := HO.out.lt
      rcases Nat.eq_zero_or_pos k with hk0 | hk0
      · have hk1 : (k : Int) ≤ 0 := by omega
        have HY : Hid ((∀ m, m < 24 → inE (a, (B : Int), (N : Int)) m = true → usedBy l k m = false) → eAt l k = true) := fun hu => eAt_yes HX.out (by rw [HRE.out]; rfl) (.inl hk0) hu
        clear hk0
        go_wp2_with fail
        refine (isPart_of (by omega) (by omega) Q1.out _).mono ?_
        rintro e w2 ⟨rfl, rfl⟩
        go_wp2_with fail
        refine (isPart_of (by omega) (by omega) Q2.out _).mono ?_
        rintro e w2 ⟨rfl, rfl⟩
        go_wp2_with fail
        generalize hwo : wo.alloc (Obj.cells #[Value.int IntKind.i64 a, Value.int IntKind.i64 (B : Int), Value.int IntKind.i64 (N : Int)] 92) = wb
        have fo : Fr w wb := by rw [← hwo]; exact Fr.al HF.out _
        have ko : Bk wb wo.heap.size 92 [.int .i64 a, .int .i64 B, .int .i64 N] := by rw [← hwo]; exact Bk.new wo _ _
        have oo : Bk wb w.heap.size 112 (uArr l k 0 0) := by rw [← hwo]; exact HO.out.al _
        have FO := Lib.hid fo
        have KO := Lib.hid ko
        have OO := Lib.hid oo
        clear fo ko oo hwo
        go_loopw [8] (fun v wi => ∃ t : Nat, t ≤ N ∧ v = .int .i64 ((B + t : Nat) : Int) ∧ (∀ q, q < t → usedBy l k (B + q) = false) ∧ Bk wi w.heap.size 112 (uArr l k B (B + t)) ∧ Bk wi wo.heap.size 92 [.int .i64 a, .int .i64 B, .int .i64 N] ∧ Fr w wi) (fun v _ => B + N - (intOf v).toNat)
        case atStart => exact ⟨0, Nat.zero_le _, rfl, fun q hq => absurd hq (by omega), by rw [Nat.add_zero, ← uArr_lo]; first | exact OO.out | exact OO.out.al _, by first | exact KO.out | exact KO.out.al _, by first | exact FO.out | exact FO.out.al _⟩
        case round =>
          clear OO KO FO
          obtain ⟨t, ht, rfl, hun, ho, hbk2, hfi⟩ := hrel
          have d1 : wr.cell? ⟨wo.heap.size, 1, none⟩ = some (.int .i64 B) := by rw [hbk2.cell]; rfl
          have d2 : wr.cell? ⟨wo.heap.size, 2, none⟩ = some (.int .i64 N) := by rw [hbk2.cell]; rfl
          have HB2 := Lib.hid hbk2
          have HFI := Lib.hid hfi
          have HUN := Lib.hid hun
          by_cases hlt2 : t < N
          · obtain ⟨us, hus⟩ : ∃ us, usedBy l k (B + t) = us := ⟨_, rfl⟩
            have du : wr.cell? ⟨w.heap.size, B + t, none⟩ = some (.bool us) := by rw [ho.cell, uArr_get (by omega), hus]
            have df := ho.free (B + t)
            have hst := ho.put (B + t) (.bool true)
            rw [uArr_set (by omega) (by omega)] at hst
            have HST := Lib.hid hst
            have HUS := Lib.hid hus
            clear hst hus ho hbk2 hfi hun
            cases us
            · go_wp2
              go_roundw
              case rel => exact ⟨t + 1, by omega, by go_num, all_false HUN.out HUS.out, HST.out, HB2.out.far (by omega) _ _, Below.setCell HFI.out (Nat.le_refl _) _⟩
              case measure => simp [intOf]; omega
            · go_wp2
              go_ret
              exact ⟨ret_bool (eOk_no HL.out hlt (eAt_used HX.out (show B + t < 24 by omega) (inE_iff.2 (by simp only; omega)) HUS.out)).symm, HFI.out⟩
          · obtain rfl : t = N := by omega
            have hat := HY.out (used_none HUN.out)
            rw [uArr_next HX.out] at ho
            have HAT := Lib.hid hat
            have HO2 := Lib.hid ho
            clear hat ho hbk2 hfi hun
            go_wp2
            go_roundw
            case rel => exact ⟨k + 1, by omega, by go_num, all_step HA.out HAT.out, HO2.out, HFI.out⟩
            case measure => simp [intOf]; omega
      · obtain ⟨⟨pa, pb, pm⟩, hp⟩ := some_at HL.out (show k - 1 < n by omega)
        obtain ⟨_, _, e, hcell⟩ := (H.out.fr HF.out).elem cExt_len hp (by omega)
        injection e with e
        injection e with e1 e2
        subst e1 e2
        have pc0 := hcell 0 _ rfl; simp only [Nat.add_zero] at pc0
        have pc1 := hcell 1 _ rfl
        have pc2 := hcell 2 _ rfl
        have hpr := eRange_iff.1 (eAt_rng hp (HA.out (k - 1) (by omega)))
        simp only at hpr
        have HP := Lib.hid hp
        clear hcell hp
        have hk1 : 0 < (k : Int) := by omega
        have hk2 : 0 < k := hk0
        rcases Int.lt_trichotomy a (pa + pm) with g1 | g1 | g1
        ·
          go_wp2_with fail
          refine (isPart_of (by omega) (by omega) Q1.out _).mono ?_
          rintro e w2 ⟨rfl, rfl⟩
          go_wp2_with fail
          refine (isPart_of (by omega) (by omega) Q2.out _).mono ?_
          rintro e w2 ⟨rfl, rfl⟩
          go_wp2_with fail
          go_ret
          exact ⟨ret_bool (eOk_no HL.out hlt (eAt_gap_ hk2 HX.out HP.out (by simp [eGap, g1]))).symm, (Fr.al HF.out _).al _⟩
        · subst g1
          obtain ⟨bq, hbq⟩ : ∃ bq, ((B : Int) == pb + pm) = bq := ⟨_, rfl⟩
          have HBQ := Lib.hid hbq
          cases bq
          · have HY : Hid ((∀ m, m < 24 → inE (pa + pm, (B : Int), (N : Int)) m = true → usedBy l k m = false) → eAt l k = true) := fun hu => eAt_yes HX.out (by rw [HRE.out]; rfl) (.inr ⟨_, HP.out, by simp [eGap]; simpa using HBQ.out⟩) hu
            go_wp2_with fail
            refine (isPart_of (by omega) (by omega) Q1.out _).mono ?_
            rintro e w2 ⟨rfl, rfl⟩
            go_wp2_with fail
            refine (isPart_of (by omega) (by omega) Q2.out _).mono ?_
            rintro e w2 ⟨rfl, rfl⟩
            go_wp2_with fail
            clear hbq pc0 pc1 pc2
            generalize hwo : wo.alloc (Obj.cells #[Value.int IntKind.i64 (pa + pm), Value.int IntKind.i64 (B : Int), Value.int IntKind.i64 (N : Int)] 92) = wb
            have fo : Fr w wb := by rw [← hwo]; exact Fr.al HF.out _
            have ko : Bk wb wo.heap.size 92 [.int .i64 (pa + pm), .int .i64 B, .int .i64 N] := by rw [← hwo]; exact Bk.new wo _ _
            have oo : Bk wb w.heap.size 112 (uArr l k 0 0) := by rw [← hwo]; exact HO.out.al _
            have FO := Lib.hid fo
            have KO := Lib.hid ko
            have OO := Lib.hid oo
            clear fo ko oo hwo
            go_loopw [8] (fun v wi => ∃ t : Nat, t ≤ N ∧ v = .int .i64 ((B + t : Nat) : Int) ∧ (∀ q, q < t → usedBy l k (B + q) = false) ∧ Bk wi w.heap.size 112 (uArr l k B (B + t)) ∧ Bk wi wo.heap.size 92 [.int .i64 (pa + pm), .int .i64 B, .int .i64 N] ∧ Fr w wi) (fun v _ => B + N - (intOf v).toNat)
            case atStart => exact ⟨0, Nat.zero_le _, rfl, fun q hq => absurd hq (by omega), by rw [Nat.add_zero, ← uArr_lo]; first | exact OO.out | exact OO.out.al _, by first | exact KO.out | exact KO.out.al _, by first | exact FO.out | exact FO.out.al _⟩
            case round =>
              clear OO KO FO
              obtain ⟨t, ht, rfl, hun, ho, hbk2, hfi⟩ := hrel
              have d1 : wr.cell? ⟨wo.heap.size, 1, none⟩ = some (.int .i64 B) := by rw [hbk2.cell]; rfl
              have d2 : wr.cell? ⟨wo.heap.size, 2, none⟩ = some (.int .i64 N) := by rw [hbk2.cell]; rfl
              have HB2 := Lib.hid hbk2
              have HFI := Lib.hid hfi
              have HUN := Lib.hid hun
              by_cases hlt2 : t < N
              · obtain ⟨us, hus⟩ : ∃ us, usedBy l k (B + t) = us := ⟨_, rfl⟩
                have du : wr.cell? ⟨w.heap.size, B + t, none⟩ = some (.bool us) := by rw [ho.cell, uArr_get (by omega), hus]
                have df := ho.free (B + t)
                have hst := ho.put (B + t) (.bool true)
                rw [uArr_set (by omega) (by omega)] at hst
                have HST := Lib.hid hst
                have HUS := Lib.hid hus
                clear hst hus ho hbk2 hfi hun
                cases us
                · go_wp2
                  go_roundw
                  case rel => exact ⟨t + 1, by omega, by go_num, all_false HUN.out HUS.out, HST.out, HB2.out.far (by omega) _ _, Below.setCell HFI.out (Nat.le_refl _) _⟩
                  case measure => simp [intOf]; omega
                · go_wp2
                  go_ret
                  exact ⟨ret_bool (eOk_no HL.out hlt (eAt_used HX.out (show B + t < 24 by omega) (inE_iff.2 (by simp only; omega)) HUS.out)).symm, HFI.out⟩
              · obtain rfl : t = N := by omega
                have hat := HY.out (used_none HUN.out)
                rw [uArr_next HX.out] at ho
                have HAT := Lib.hid hat
                have HO2 := Lib.hid ho
                clear hat ho hbk2 hfi hun
                go_wp2
                go_roundw
                case rel => exact ⟨k + 1, by omega, by go_num, all_step HA.out HAT.out, HO2.out, HFI.out⟩
                case measure => simp [intOf]; omega
          ·
            go_wp2_with fail
            refine (isPart_of (by omega) (by omega) Q1.out _).mono ?_
            rintro e w2 ⟨rfl, rfl⟩
            go_wp2_with fail
            refine (isPart_of (by omega) (by omega) Q2.out _).mono ?_
            rintro e w2 ⟨rfl, rfl⟩
            go_wp2_with fail
            go_ret
            exact ⟨ret_bool (eOk_no HL.out hlt (eAt_gap_ hk2 HX.out HP.out (by simp [eGap]; simpa using HBQ.out))).symm, (Fr.al HF.out _).al _⟩
        · have hne : (a == pa + pm) = false := by simp; omega
          have hng : decide (a < pa + pm) = false := by simp; omega
          have HY : Hid ((∀ m, m < 24 → inE (a, (B : Int), (N : Int)) m = true → usedBy l k m = false) → eAt l k = true) := fun hu => eAt_yes HX.out (by rw [HRE.out]; rfl) (.inr ⟨_, HP.out, by simp [eGap]; omega⟩) hu
          go_wp2_with fail
          refine (isPart_of (by omega) (by omega) Q1.out _).mono ?_
          rintro e w2 ⟨rfl, rfl⟩
          go_wp2_with fail
          refine (isPart_of (by omega) (by omega) Q2.out _).mono ?_
          rintro e w2 ⟨rfl, rfl⟩
          go_wp2_with fail
          clear hne hng pc0 pc1 pc2
          generalize hwo : wo.alloc (Obj.cells #[Value.int IntKind.i64 a, Value.int IntKind.i64 (B : Int), Value.int IntKind.i64 (N : Int)] 92) = wb
          have fo : Fr w wb := by rw [← hwo]; exact Fr.al HF.out _
          have ko : Bk wb wo.heap.size 92 [.int .i64 a, .int .i64 B, .int .i64 N] := by rw [← hwo]; exact Bk.new wo _ _
          have oo : Bk wb w.heap.size 112 (uArr l k 0 0) := by rw [← hwo]; exact HO.out.al _
          have FO := Lib.hid fo
          have KO := Lib.hid ko
          have OO := Lib.hid oo
          clear fo ko oo hwo
          go_loopw [8] (fun v wi => ∃ t : Nat, t ≤ N ∧ v = .int .i64 ((B + t : Nat) : Int) ∧ (∀ q, q < t → usedBy l k (B + q) = false) ∧ Bk wi w.heap.size 112 (uArr l k B (B + t)) ∧ Bk wi wo.heap.size 92 [.int .i64 a, .int .i64 B, .int .i64 N] ∧ Fr w wi) (fun v _ => B + N - (intOf v).toNat)
          case atStart => exact ⟨0, Nat.zero_le _, rfl, fun q hq => absurd hq (by omega), by rw [Nat.add_zero, ← uArr_lo]; first | exact OO.out | exact OO.out.al _, by first | exact KO.out | exact KO.out.al _, by first | exact FO.out | exact FO.out.al _⟩
          case round =>
            clear OO KO FO
            obtain ⟨t, ht, rfl, hun, ho, hbk2, hfi⟩ := hrel
            have d1 : wr.cell? ⟨wo.heap.size, 1, none⟩ = some (.int .i64 B) := by rw [hbk2.cell]; rfl
            have d2 : wr.cell? ⟨wo.heap.size, 2, none⟩ = some (.int .i64 N) := by rw [hbk2.cell]; rfl
            have HB2 := Lib.hid hbk2
            have HFI := Lib.hid hfi
            have HUN := Lib.hid hun
            by_cases hlt2 : t < N
            · obtain ⟨us, hus⟩ : ∃ us, usedBy l k (B + t) = us := ⟨_, rfl⟩
              have du : wr.cell? ⟨w.heap.size, B + t, none⟩ = some (.bool us) := by rw [ho.cell, uArr_get (by omega), hus]
              have df := ho.free (B + t)
              have hst := ho.put (B + t) (.bool true)
              rw [uArr_set (by omega) (by omega)] at hst
              have HST := Lib.hid hst
              have HUS := Lib.hid hus
              clear hst hus ho hbk2 hfi hun
              cases us
              · go_wp2
                go_roundw
                case rel => exact ⟨t + 1, by omega, by go_num, all_false HUN.out HUS.out, HST.out, HB2.out.far (by omega) _ _, Below.setCell HFI.out (Nat.le_refl _) _⟩
                case measure => simp [intOf]; omega
              · go_wp2
                go_ret
                exact ⟨ret_bool (eOk_no HL.out hlt (eAt_used HX.out (show B + t < 24 by omega) (inE_iff.2 (by simp only; omega)) HUS.out)).symm, HFI.out⟩
            · obtain rfl : t = N := by omega
              have hat := HY.out (used_none HUN.out)
              rw [uArr_next HX.out] at ho
              have HAT := Lib.hid hat
              have HO2 := Lib.hid ho
              clear hat ho hbk2 hfi hun
              go_wp2
              go_roundw
              case rel => exact ⟨k + 1, by omega, by go_num, all_step HA.out HAT.out, HO2.out, HFI.out⟩
              case measure => simp [intOf]; omega
    · obtain rfl : k = n := by omega
      go_wp2
      go_ret
      exact ⟨ret_bool (eOk_yes HL.out HA.out).symm, hfr⟩
end Go.Proofs.Ytbmoolmgfpcnkaa
