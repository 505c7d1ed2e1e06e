/-
  The law FnGlob, walked.
-/
import Derived.Test.YtfmifaneggenoaaDoorMGlob
import Derived.Test.YtfmifaneggenoaaDoorDrawName
import Derived.Test.YtfmifaneggenoaaDoorGlob
import Derived.Test.YtfmifaneggenoaaDoorLaw
namespace Go.Proofs.YtfmifaneggenoaaDoor
open Go.RowKit

set_option linter.unusedVariables false
set_option linter.unusedSimpArgs false
theorem bigG_any (A : Option Addr) (n c : Nat) (w : World) (_hn : n ≤ 9223372036854775807) :
    Calls Tryd.prog 16 #[.slice A n c] w fun e w' => e = .returned (.bool (decide (1048576 < n))) ∧ w = w' := by
  go_enter Tryd.func16, Tryd.ntmps16
  go_wp2
  go_ret
  exact ⟨ret_bool (by simp; omega), rfl⟩
set_option maxRecDepth 100000 in
set_option maxHeartbeats 2000000 in
theorem plainName_any (s : ByteArray) (w : World) (hs : s.size ≤ 100000000) :
    Calls Tryd.prog 21 #[.string s] w fun e w' => e = .returned (.bool (plainB (toB s))) ∧ w = w' := by
  obtain ⟨q, hq⟩ : ∃ q, q = plainB (toB s) := ⟨_, rfl⟩
  have HQ := Lib.hid hq
  rw [← hq]
  clear hq
  obtain ⟨n, hn⟩ : ∃ n, n = s.size := ⟨_, rfl⟩
  have HN := Lib.hid hn
  have hn1 : n ≤ 100000000 := by omega
  clear hn
  go_enter Tryd.func21, Tryd.ntmps21
  go_wp2_with fail
  go_loopw [3] (fun iv wr => ∃ k : Nat, k ≤ n ∧ iv = .int .i64 k ∧ plainB ((toB s).take k) = true ∧ w = wr) (fun iv _ => n - (intOf iv).toNat)
  case atStart => exact ⟨0, by omega, rfl, rfl, rfl⟩
  case round =>
    obtain ⟨k, hk, rfl, hp, rfl⟩ := hrel
    have HP := Lib.hid hp
    clear hp
    by_cases hlt : k < n
    · have hks : k < s.size := by rw [← HN.out]; exact hlt
      obtain ⟨b, hb⟩ := at_some (l := toB s) (n := n) (by rw [toB_len, ← HN.out]) hlt
      have HB := Lib.hid hb
      have HE := Lib.hid (show ((s[k]).toNat : Int) = b.toNat by rw [toB_at' hb hks])
      have hx0 : (0 : Int) ≤ (k : Int) := by omega
      have hlt2 : (k : Int) < (s.size : Int) := by omega
      clear hb
      obtain ⟨y, hy⟩ : ∃ y : Nat, y = b.toNat := ⟨_, rfl⟩
      have hyy : ((s[k]).toNat : Int) = (y : Int) := by rw [HE.out, hy]
      have HY := Lib.hid hy
      clear hy
      by_cases h42 : y = 42
      · have HF := Lib.hid (HQ.out.trans (List.all_eq_false.2 ⟨b, HB.out.mem, by rw [show b = 42 from UInt8.toNat_inj.1 (by rw [← HY.out, h42]; rfl)]; decide⟩))
        subst h42
        go_wp2_with fail
        go_ret
        rw [HF.out]
        exact ⟨rfl, rfl⟩
      · by_cases h63 : y = 63
        · have HF := Lib.hid (HQ.out.trans (List.all_eq_false.2 ⟨b, HB.out.mem, by rw [show b = 63 from UInt8.toNat_inj.1 (by rw [← HY.out, h63]; rfl)]; decide⟩))
          subst h63
          go_wp2_with fail
          go_ret
          rw [HF.out]
          exact ⟨rfl, rfl⟩
        · have d1 : (((y : Int)) == 42) = false := beq_eq_false_iff_ne.2 (by omega)
          have d2 : (((y : Int)) == 63) = false := beq_eq_false_iff_ne.2 (by omega)
          have HS := Lib.hid (show plainB ((toB s).take (k + 1)) = true by
            rw [HB.out.take, plainB, List.all_append, Bool.and_eq_true]
            refine ⟨HP.out, ?_⟩
            have n1 : b ≠ 42 := by rintro rfl; exact h42 HY.out
            have n2 : b ≠ 63 := by rintro rfl; exact h63 HY.out
            simp [n1, n2])
          clear h42 h63
          go_wp2_with fail
          go_roundw
          case rel => exact ⟨k + 1, by omega, by go_num, HS.out, by first | trivial | rfl⟩
          case measure => simp [intOf]; omega
    · have hge : ¬ ((k : Int) < (s.size : Int)) := by rw [← HN.out]; omega
      have HF := Lib.hid (HQ.out.trans (show plainB (toB s) = true by
        have h2 : (toB s).take k = toB s := List.take_of_length_le (by rw [toB_len, ← HN.out]; omega)
        have h3 := HP.out
        rwa [h2] at h3))
      go_wp2_with fail
      go_ret
      rw [HF.out]
      exact ⟨rfl, rfl⟩
/-- A string behind which a star stands. -/
theorem toB_star (s : ByteArray) : toB (s ++ ByteArray.mk #[42]) = toB s ++ [42] := by rw [toB_append]; rfl
set_option maxRecDepth 100000 in
set_option maxHeartbeats 8000000 in
theorem lawFnGlob_walk (A : Option Addr) (n c : Nat) (bs : List UInt8) (w : World) (hA : Rd w A n 1 (bs.map cU8)) (hcap : n ≤ 9223372036854775807) (hk : KT w) :
    Calls Tryd.prog 6 #[.slice A n c] w fun e w' => e = .returned (.bool true) ∧ Fr w w' := by
  by_cases hbig : 1048576 < n
  · have hd : decide (1048576 < n) = true := by simpa using hbig
    go_enter Tryd.func6, Tryd.ntmps6
    go_wp2_with fail
    refine (bigG_any A n c _ hcap).mono ?_
    rintro e w1 ⟨rfl, rfl⟩
    rw [hd]
    go_wp2_with fail
    go_ret
    exact ⟨rfl, Below.refl _ _⟩
  have hd : decide (1048576 < n) = false := by simpa using hbig
  have hn : n ≤ 1048576 := by omega
  have HA := Lib.hid hA
  go_enter Tryd.func6, Tryd.ntmps6
  go_wp2_with fail
  refine (bigG_any A n c _ hcap).mono ?_
  rintro e wq ⟨rfl, hwq⟩
  rw [← hwq, hd]
  clear hwq hd hbig
  go_wp2_with fail
  refine (drawGlob_any A n c bs _ hA hn).mono ?_
  rintro e w1 ⟨p, nn, rfl, hp, hnn, F⟩
  clear hA
  go_wp2_with fail
  refine (drawAlike_any A n c bs _ (HA.out.fr F) hn).mono ?_
  rintro e w2 ⟨a0, m, rfl, ha0, hm, f2⟩
  replace F := F.then f2
  clear f2
  go_wp2_with fail
  refine (implGlob_any p nn _ (by omega) (by omega) (hk.fr F)).mono ?_
  rintro e w3 ⟨rfl, f3⟩
  replace F := F.then f3
  clear f3
  go_wp2_with fail
  refine (specGlob_any p nn _ (by omega) (by omega)).mono ?_
  rintro e w4 ⟨rfl, f4⟩
  replace F := F.then f4
  clear f4
  have HAL := Lib.hid (fun h => glob_alike (p := toB p) (n := toB nn) (m := toB m) h)
  generalize globB (toB p) (toB nn) = g at HAL ⊢
  have hgg : (g != g) = false := by cases g <;> rfl
  go_wp2_with fail
  refine (specAlike_any nn m _ (by omega) (by omega)).mono ?_
  rintro e w5 ⟨rfl, f5⟩
  replace F := F.then f5
  clear f5
  generalize aliB (toB nn) (toB m) = al at HAL ⊢
  cases al with
  | false =>
    go_wp2_with fail
    refine (specNameOk_any nn _ (by omega)).mono ?_
    rintro e w6 ⟨rfl, f6⟩
    replace F := F.then f6
    clear f6
    have HSELF := Lib.hid (fun h => glob_self (s := toB nn) h)
    generalize nameB (toB nn) = b4 at HSELF ⊢
    cases b4 with
    | false =>
      go_wp2_with fail
      refine (drawStarts_any A n c bs _ (HA.out.fr F) hn).mono ?_
      rintro e w9 ⟨nm, pre, rfl, hnm, hpre, f9⟩
      replace F := F.then f9
      clear f9
      have htb := toB_star pre
      have hts : (pre ++ ByteArray.mk #[42]).size ≤ 101 := by rw [ByteArray.size_append]; show pre.size + 1 ≤ 101; omega
      obtain ⟨ps, hps⟩ : ∃ x, x = pre ++ ByteArray.mk #[42] := ⟨_, rfl⟩
      have hpsr : pre ++ ByteArray.mk #[42] = ps := hps.symm
      rw [hpsr] at htb hts
      have HTB := Lib.hid htb
      clear hps htb
      go_wp2_with fail
      refine (implStarts_any nm pre _ (by omega) (by omega) (hk.fr F)).mono ?_
      rintro e w10 ⟨rfl, f10⟩
      replace F := F.then f10
      clear f10
      go_wp2_with fail
      refine (specStarts_any nm pre _ (by omega) (by omega)).mono ?_
      rintro e w11 ⟨rfl, f11⟩
      replace F := F.then f11
      clear f11
      have HST := Lib.hid (fun h1 h2 h3 => glob_star (s := toB pre) (t := toB nm) h1 h2 h3)
      rw [← HTB.out] at HST
      generalize startsB (toB nm) (toB pre) = st at HST ⊢
      have hst : (st != st) = false := by cases st <;> rfl
      have hst2 : (st == st) = true := by cases st <;> rfl
      go_wp2_with fail
      refine (specNameOk_any ps _ (by omega)).mono ?_
      rintro e w12 ⟨rfl, f12⟩
      replace F := F.then f12
      clear f12
      generalize nameB (toB ps) = b1 at HST ⊢
      cases b1 with
      | false =>
        go_wp2_with fail
        go_ret
        exact ⟨rfl, F⟩
      | true =>
        go_wp2_with fail
        refine (plainName_any pre _ (by omega)).mono ?_
        rintro e wq ⟨rfl, hwq⟩
        rw [← hwq]
        clear hwq
        generalize plainB (toB pre) = b2 at HST ⊢
        cases b2 with
        | false =>
          go_wp2_with fail
          go_ret
          exact ⟨rfl, F⟩
        | true =>
          go_wp2_with fail
          refine (specNameOk_any pre _ (by omega)).mono ?_
          rintro e w13 ⟨rfl, f13⟩
          replace F := F.then f13
          clear f13
          generalize nameB (toB pre) = b3 at HST ⊢
          cases b3 with
          | false =>
            go_wp2_with fail
            go_ret
            exact ⟨rfl, F⟩
          | true =>
            go_wp2_with fail
            refine (implGlob_any ps nm _ (by omega) (by omega) (hk.fr F)).mono ?_
            rintro e w14 ⟨rfl, f14⟩
            replace F := F.then f14
            clear f14
            rw [HST.out (by trivial) (by trivial) (by trivial)]
            go_wp2_with fail
            go_ret
            exact ⟨rfl, F⟩
    | true =>
      go_wp2_with fail
      refine (plainName_any nn _ (by omega)).mono ?_
      rintro e wq ⟨rfl, hwq⟩
      rw [← hwq]
      clear hwq
      generalize plainB (toB nn) = b5
      cases b5 with
      | false =>
        go_wp2_with fail
        refine (drawStarts_any A n c bs _ (HA.out.fr F) hn).mono ?_
        rintro e w9 ⟨nm, pre, rfl, hnm, hpre, f9⟩
        replace F := F.then f9
        clear f9
        have htb := toB_star pre
        have hts : (pre ++ ByteArray.mk #[42]).size ≤ 101 := by rw [ByteArray.size_append]; show pre.size + 1 ≤ 101; omega
        obtain ⟨ps, hps⟩ : ∃ x, x = pre ++ ByteArray.mk #[42] := ⟨_, rfl⟩
        have hpsr : pre ++ ByteArray.mk #[42] = ps := hps.symm
        rw [hpsr] at htb hts
        have HTB := Lib.hid htb
        clear hps htb
        go_wp2_with fail
        refine (implStarts_any nm pre _ (by omega) (by omega) (hk.fr F)).mono ?_
        rintro e w10 ⟨rfl, f10⟩
        replace F := F.then f10
        clear f10
        go_wp2_with fail
        refine (specStarts_any nm pre _ (by omega) (by omega)).mono ?_
        rintro e w11 ⟨rfl, f11⟩
        replace F := F.then f11
        clear f11
        have HST := Lib.hid (fun h1 h2 h3 => glob_star (s := toB pre) (t := toB nm) h1 h2 h3)
        rw [← HTB.out] at HST
        generalize startsB (toB nm) (toB pre) = st at HST ⊢
        have hst : (st != st) = false := by cases st <;> rfl
        have hst2 : (st == st) = true := by cases st <;> rfl
        go_wp2_with fail
        refine (specNameOk_any ps _ (by omega)).mono ?_
        rintro e w12 ⟨rfl, f12⟩
        replace F := F.then f12
        clear f12
        generalize nameB (toB ps) = b1 at HST ⊢
        cases b1 with
        | false =>
          go_wp2_with fail
          go_ret
          exact ⟨rfl, F⟩
        | true =>
          go_wp2_with fail
          refine (plainName_any pre _ (by omega)).mono ?_
          rintro e wq ⟨rfl, hwq⟩
          rw [← hwq]
          clear hwq
          generalize plainB (toB pre) = b2 at HST ⊢
          cases b2 with
          | false =>
            go_wp2_with fail
            go_ret
            exact ⟨rfl, F⟩
          | true =>
            go_wp2_with fail
            refine (specNameOk_any pre _ (by omega)).mono ?_
            rintro e w13 ⟨rfl, f13⟩
            replace F := F.then f13
            clear f13
            generalize nameB (toB pre) = b3 at HST ⊢
            cases b3 with
            | false =>
              go_wp2_with fail
              go_ret
              exact ⟨rfl, F⟩
            | true =>
              go_wp2_with fail
              refine (implGlob_any ps nm _ (by omega) (by omega) (hk.fr F)).mono ?_
              rintro e w14 ⟨rfl, f14⟩
              replace F := F.then f14
              clear f14
              rw [HST.out (by trivial) (by trivial) (by trivial)]
              go_wp2_with fail
              go_ret
              exact ⟨rfl, F⟩
      | true =>
        go_wp2_with fail
        refine (implGlob_any nn nn _ (by omega) (by omega) (hk.fr F)).mono ?_
        rintro e w8 ⟨rfl, f8⟩
        replace F := F.then f8
        clear f8
        rw [HSELF.out (by trivial)]
        go_wp2_with fail
        refine (drawStarts_any A n c bs _ (HA.out.fr F) hn).mono ?_
        rintro e w9 ⟨nm, pre, rfl, hnm, hpre, f9⟩
        replace F := F.then f9
        clear f9
        have htb := toB_star pre
        have hts : (pre ++ ByteArray.mk #[42]).size ≤ 101 := by rw [ByteArray.size_append]; show pre.size + 1 ≤ 101; omega
        obtain ⟨ps, hps⟩ : ∃ x, x = pre ++ ByteArray.mk #[42] := ⟨_, rfl⟩
        have hpsr : pre ++ ByteArray.mk #[42] = ps := hps.symm
        rw [hpsr] at htb hts
        have HTB := Lib.hid htb
        clear hps htb
        go_wp2_with fail
        refine (implStarts_any nm pre _ (by omega) (by omega) (hk.fr F)).mono ?_
        rintro e w10 ⟨rfl, f10⟩
        replace F := F.then f10
        clear f10
        go_wp2_with fail
        refine (specStarts_any nm pre _ (by omega) (by omega)).mono ?_
        rintro e w11 ⟨rfl, f11⟩
        replace F := F.then f11
        clear f11
        have HST := Lib.hid (fun h1 h2 h3 => glob_star (s := toB pre) (t := toB nm) h1 h2 h3)
        rw [← HTB.out] at HST
        generalize startsB (toB nm) (toB pre) = st at HST ⊢
        have hst : (st != st) = false := by cases st <;> rfl
        have hst2 : (st == st) = true := by cases st <;> rfl
        go_wp2_with fail
        refine (specNameOk_any ps _ (by omega)).mono ?_
        rintro e w12 ⟨rfl, f12⟩
        replace F := F.then f12
        clear f12
        generalize nameB (toB ps) = b1 at HST ⊢
        cases b1 with
        | false =>
          go_wp2_with fail
          go_ret
          exact ⟨rfl, F⟩
        | true =>
          go_wp2_with fail
          refine (plainName_any pre _ (by omega)).mono ?_
          rintro e wq ⟨rfl, hwq⟩
          rw [← hwq]
          clear hwq
          generalize plainB (toB pre) = b2 at HST ⊢
          cases b2 with
          | false =>
            go_wp2_with fail
            go_ret
            exact ⟨rfl, F⟩
          | true =>
            go_wp2_with fail
            refine (specNameOk_any pre _ (by omega)).mono ?_
            rintro e w13 ⟨rfl, f13⟩
            replace F := F.then f13
            clear f13
            generalize nameB (toB pre) = b3 at HST ⊢
            cases b3 with
            | false =>
              go_wp2_with fail
              go_ret
              exact ⟨rfl, F⟩
            | true =>
              go_wp2_with fail
              refine (implGlob_any ps nm _ (by omega) (by omega) (hk.fr F)).mono ?_
              rintro e w14 ⟨rfl, f14⟩
              replace F := F.then f14
              clear f14
              rw [HST.out (by trivial) (by trivial) (by trivial)]
              go_wp2_with fail
              go_ret
              exact ⟨rfl, F⟩
  | true =>
    go_wp2_with fail
    refine (implGlob_any p m _ (by omega) (by omega) (hk.fr F)).mono ?_
    rintro e w7 ⟨rfl, f7⟩
    replace F := F.then f7
    clear f7
    rw [HAL.out (by trivial)]
    go_wp2_with fail
    refine (specNameOk_any nn _ (by omega)).mono ?_
    rintro e w6 ⟨rfl, f6⟩
    replace F := F.then f6
    clear f6
    have HSELF := Lib.hid (fun h => glob_self (s := toB nn) h)
    generalize nameB (toB nn) = b4 at HSELF ⊢
    cases b4 with
    | false =>
      go_wp2_with fail
      refine (drawStarts_any A n c bs _ (HA.out.fr F) hn).mono ?_
      rintro e w9 ⟨nm, pre, rfl, hnm, hpre, f9⟩
      replace F := F.then f9
      clear f9
      have htb := toB_star pre
      have hts : (pre ++ ByteArray.mk #[42]).size ≤ 101 := by rw [ByteArray.size_append]; show pre.size + 1 ≤ 101; omega
      obtain ⟨ps, hps⟩ : ∃ x, x = pre ++ ByteArray.mk #[42] := ⟨_, rfl⟩
      have hpsr : pre ++ ByteArray.mk #[42] = ps := hps.symm
      rw [hpsr] at htb hts
      have HTB := Lib.hid htb
      clear hps htb
      go_wp2_with fail
      refine (implStarts_any nm pre _ (by omega) (by omega) (hk.fr F)).mono ?_
      rintro e w10 ⟨rfl, f10⟩
      replace F := F.then f10
      clear f10
      go_wp2_with fail
      refine (specStarts_any nm pre _ (by omega) (by omega)).mono ?_
      rintro e w11 ⟨rfl, f11⟩
      replace F := F.then f11
      clear f11
      have HST := Lib.hid (fun h1 h2 h3 => glob_star (s := toB pre) (t := toB nm) h1 h2 h3)
      rw [← HTB.out] at HST
      generalize startsB (toB nm) (toB pre) = st at HST ⊢
      have hst : (st != st) = false := by cases st <;> rfl
      have hst2 : (st == st) = true := by cases st <;> rfl
      go_wp2_with fail
      refine (specNameOk_any ps _ (by omega)).mono ?_
      rintro e w12 ⟨rfl, f12⟩
      replace F := F.then f12
      clear f12
      generalize nameB (toB ps) = b1 at HST ⊢
      cases b1 with
      | false =>
        go_wp2_with fail
        go_ret
        exact ⟨rfl, F⟩
      | true =>
        go_wp2_with fail
        refine (plainName_any pre _ (by omega)).mono ?_
        rintro e wq ⟨rfl, hwq⟩
        rw [← hwq]
        clear hwq
        generalize plainB (toB pre) = b2 at HST ⊢
        cases b2 with
        | false =>
          go_wp2_with fail
          go_ret
          exact ⟨rfl, F⟩
        | true =>
          go_wp2_with fail
          refine (specNameOk_any pre _ (by omega)).mono ?_
          rintro e w13 ⟨rfl, f13⟩
          replace F := F.then f13
          clear f13
          generalize nameB (toB pre) = b3 at HST ⊢
          cases b3 with
          | false =>
            go_wp2_with fail
            go_ret
            exact ⟨rfl, F⟩
          | true =>
            go_wp2_with fail
            refine (implGlob_any ps nm _ (by omega) (by omega) (hk.fr F)).mono ?_
            rintro e w14 ⟨rfl, f14⟩
            replace F := F.then f14
            clear f14
            rw [HST.out (by trivial) (by trivial) (by trivial)]
            go_wp2_with fail
            go_ret
            exact ⟨rfl, F⟩
    | true =>
      go_wp2_with fail
      refine (plainName_any nn _ (by omega)).mono ?_
      rintro e wq ⟨rfl, hwq⟩
      rw [← hwq]
      clear hwq
      generalize plainB (toB nn) = b5
      cases b5 with
      | false =>
        go_wp2_with fail
        refine (drawStarts_any A n c bs _ (HA.out.fr F) hn).mono ?_
        rintro e w9 ⟨nm, pre, rfl, hnm, hpre, f9⟩
        replace F := F.then f9
        clear f9
        have htb := toB_star pre
        have hts : (pre ++ ByteArray.mk #[42]).size ≤ 101 := by rw [ByteArray.size_append]; show pre.size + 1 ≤ 101; omega
        obtain ⟨ps, hps⟩ : ∃ x, x = pre ++ ByteArray.mk #[42] := ⟨_, rfl⟩
        have hpsr : pre ++ ByteArray.mk #[42] = ps := hps.symm
        rw [hpsr] at htb hts
        have HTB := Lib.hid htb
        clear hps htb
        go_wp2_with fail
        refine (implStarts_any nm pre _ (by omega) (by omega) (hk.fr F)).mono ?_
        rintro e w10 ⟨rfl, f10⟩
        replace F := F.then f10
        clear f10
        go_wp2_with fail
        refine (specStarts_any nm pre _ (by omega) (by omega)).mono ?_
        rintro e w11 ⟨rfl, f11⟩
        replace F := F.then f11
        clear f11
        have HST := Lib.hid (fun h1 h2 h3 => glob_star (s := toB pre) (t := toB nm) h1 h2 h3)
        rw [← HTB.out] at HST
        generalize startsB (toB nm) (toB pre) = st at HST ⊢
        have hst : (st != st) = false := by cases st <;> rfl
        have hst2 : (st == st) = true := by cases st <;> rfl
        go_wp2_with fail
        refine (specNameOk_any ps _ (by omega)).mono ?_
        rintro e w12 ⟨rfl, f12⟩
        replace F := F.then f12
        clear f12
        generalize nameB (toB ps) = b1 at HST ⊢
        cases b1 with
        | false =>
          go_wp2_with fail
          go_ret
          exact ⟨rfl, F⟩
        | true =>
          go_wp2_with fail
          refine (plainName_any pre _ (by omega)).mono ?_
          rintro e wq ⟨rfl, hwq⟩
          rw [← hwq]
          clear hwq
          generalize plainB (toB pre) = b2 at HST ⊢
          cases b2 with
          | false =>
            go_wp2_with fail
            go_ret
            exact ⟨rfl, F⟩
          | true =>
            go_wp2_with fail
            refine (specNameOk_any pre _ (by omega)).mono ?_
            rintro e w13 ⟨rfl, f13⟩
            replace F := F.then f13
            clear f13
            generalize nameB (toB pre) = b3 at HST ⊢
            cases b3 with
            | false =>
              go_wp2_with fail
              go_ret
              exact ⟨rfl, F⟩
            | true =>
              go_wp2_with fail
              refine (implGlob_any ps nm _ (by omega) (by omega) (hk.fr F)).mono ?_
              rintro e w14 ⟨rfl, f14⟩
              replace F := F.then f14
              clear f14
              rw [HST.out (by trivial) (by trivial) (by trivial)]
              go_wp2_with fail
              go_ret
              exact ⟨rfl, F⟩
      | true =>
        go_wp2_with fail
        refine (implGlob_any nn nn _ (by omega) (by omega) (hk.fr F)).mono ?_
        rintro e w8 ⟨rfl, f8⟩
        replace F := F.then f8
        clear f8
        rw [HSELF.out (by trivial)]
        go_wp2_with fail
        refine (drawStarts_any A n c bs _ (HA.out.fr F) hn).mono ?_
        rintro e w9 ⟨nm, pre, rfl, hnm, hpre, f9⟩
        replace F := F.then f9
        clear f9
        have htb := toB_star pre
        have hts : (pre ++ ByteArray.mk #[42]).size ≤ 101 := by rw [ByteArray.size_append]; show pre.size + 1 ≤ 101; omega
        obtain ⟨ps, hps⟩ : ∃ x, x = pre ++ ByteArray.mk #[42] := ⟨_, rfl⟩
        have hpsr : pre ++ ByteArray.mk #[42] = ps := hps.symm
        rw [hpsr] at htb hts
        have HTB := Lib.hid htb
        clear hps htb
        go_wp2_with fail
        refine (implStarts_any nm pre _ (by omega) (by omega) (hk.fr F)).mono ?_
        rintro e w10 ⟨rfl, f10⟩
        replace F := F.then f10
        clear f10
        go_wp2_with fail
        refine (specStarts_any nm pre _ (by omega) (by omega)).mono ?_
        rintro e w11 ⟨rfl, f11⟩
        replace F := F.then f11
        clear f11
        have HST := Lib.hid (fun h1 h2 h3 => glob_star (s := toB pre) (t := toB nm) h1 h2 h3)
        rw [← HTB.out] at HST
        generalize startsB (toB nm) (toB pre) = st at HST ⊢
        have hst : (st != st) = false := by cases st <;> rfl
        have hst2 : (st == st) = true := by cases st <;> rfl
        go_wp2_with fail
        refine (specNameOk_any ps _ (by omega)).mono ?_
        rintro e w12 ⟨rfl, f12⟩
        replace F := F.then f12
        clear f12
        generalize nameB (toB ps) = b1 at HST ⊢
        cases b1 with
        | false =>
          go_wp2_with fail
          go_ret
          exact ⟨rfl, F⟩
        | true =>
          go_wp2_with fail
          refine (plainName_any pre _ (by omega)).mono ?_
          rintro e wq ⟨rfl, hwq⟩
          rw [← hwq]
          clear hwq
          generalize plainB (toB pre) = b2 at HST ⊢
          cases b2 with
          | false =>
            go_wp2_with fail
            go_ret
            exact ⟨rfl, F⟩
          | true =>
            go_wp2_with fail
            refine (specNameOk_any pre _ (by omega)).mono ?_
            rintro e w13 ⟨rfl, f13⟩
            replace F := F.then f13
            clear f13
            generalize nameB (toB pre) = b3 at HST ⊢
            cases b3 with
            | false =>
              go_wp2_with fail
              go_ret
              exact ⟨rfl, F⟩
            | true =>
              go_wp2_with fail
              refine (implGlob_any ps nm _ (by omega) (by omega) (hk.fr F)).mono ?_
              rintro e w14 ⟨rfl, f14⟩
              replace F := F.then f14
              clear f14
              rw [HST.out (by trivial) (by trivial) (by trivial)]
              go_wp2_with fail
              go_ret
              exact ⟨rfl, F⟩
end Go.Proofs.YtfmifaneggenoaaDoor
