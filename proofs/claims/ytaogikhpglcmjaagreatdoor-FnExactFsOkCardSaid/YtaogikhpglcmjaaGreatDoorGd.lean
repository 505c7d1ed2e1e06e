/-
  Many texts in one: TextW, MParts.
-/
import Derived.Test.YtaogikhpglcmjaaGreatDoorGc
import Derived.Test.YtaogikhpglcmjaaGreatDoorGa
namespace Go.Proofs.YtaogikhpglcmjaaGreatDoor
open Go.RowKit

set_option linter.unusedVariables false
set_option linter.unusedSimpArgs false
theorem toB_get {s : ByteArray} {i : Nat} {b : UInt8} (h : (toB s)[i]? = some b) (hs : i < s.size) : s[i] = b := by
  have : s[i] = (toB s)[i]'(by rw [toB_len]; exact hs) := by
    simp only [toB, Array.getElem_toList]; rfl
  rw [this]
  exact (List.getElem?_eq_some_iff.1 h).2

theorem implSign_any (c : Int) (w : World) :
    Calls Tryz.prog 149 #[.int .i64 c] w fun e w' => e = .returned (.bool (sgnB c)) ∧ w' = w := by
  obtain ⟨q, hq⟩ : ∃ q, q = sgnB c := ⟨_, rfl⟩
  have HQ := Lib.hid hq
  rw [← hq]
  clear hq
  go_enter Tryz.func149, Tryz.ntmps149
  go_wp2_with fail
  refine (within_any _ _ _ _).mono ?_
  rintro e w ⟨rfl, rfl⟩
  rcases (show inB c 0 1114111 = true ∨ inB c 0 1114111 = false by cases inB c 0 1114111 <;> simp) with h1 | h1
  · rw [h1]
    go_wp2_with fail
    refine (within_any _ _ _ _).mono ?_
    rintro e w ⟨rfl, rfl⟩
    go_wp2_with fail
    go_ret
    rw [HQ.out, sgnB, h1]
    exact ⟨rfl, rfl⟩
  · rw [h1]
    go_wp2_with fail
    go_ret
    rw [HQ.out, sgnB, h1]
    exact ⟨rfl, rfl⟩
theorem specSign_any (c : Int) (w : World) :
    Calls Tryz.prog 143 #[.int .i64 c] w fun e w' => e = .returned (.bool (sgnB c)) ∧ w' = w := by
  obtain ⟨q, hq⟩ : ∃ q, q = sgnB c := ⟨_, rfl⟩
  have HQ := Lib.hid hq
  rw [← hq]
  clear hq
  go_enter Tryz.func143, Tryz.ntmps143
  go_wp2_with fail
  refine (l1In_any _ _ _ _).mono ?_
  rintro e w ⟨rfl, rfl⟩
  rcases (show inB c 0 1114111 = true ∨ inB c 0 1114111 = false by cases inB c 0 1114111 <;> simp) with h1 | h1
  · rw [h1]
    go_wp2_with fail
    refine (l1In_any _ _ _ _).mono ?_
    rintro e w ⟨rfl, rfl⟩
    go_wp2_with fail
    go_ret
    rw [HQ.out, sgnB, h1]
    exact ⟨rfl, rfl⟩
  · rw [h1]
    go_wp2_with fail
    go_ret
    rw [HQ.out, sgnB, h1]
    exact ⟨rfl, rfl⟩
theorem implLeast_any (n : Nat) (w : World) (hn : n ≤ 4) :
    Calls Tryz.prog 155 #[.int .i64 n] w fun e w' => e = .returned (.int .i64 (leastC n)) ∧ Fr w w' := by
  have HF := Lib.hid (((Hp.start w).lit 3 1 5 [.int .i64 0, .int .i64 0, .int .i64 128, .int .i64 2048, .int .i64 65536] rfl (by simp [maxLen])).fr)
  rcases (show n = 0 ∨ n = 1 ∨ n = 2 ∨ n = 3 ∨ n = 4 by omega) with rfl | rfl | rfl | rfl | rfl
  all_goals
    go_enter Tryz.func155, Tryz.ntmps155
    go_wp2_with fail
    go_ret
    exact ⟨rfl, HF.out⟩
/-- accC along a text -/
theorem accC_app : ∀ (l m : List UInt8) (c : Int), accC c (l ++ m) = (accC c l).bind fun d => accC d m
  | [], m, c => rfl
  | a :: l, m, c => by
    simp only [List.cons_append, accC]
    cases contF c a with
    | none => rfl
    | some d => simp only [Option.bind_some]; exact accC_app l m d
theorem accC_take_none {r : List UInt8} {c0 c : Int} {i k : Nat} {x : UInt8} (h : accC c0 (r.take i) = some c) (hx : r[i]? = some x) (hc : contF c x = none) (hk : i < k) : accC c0 (r.take k) = none := by
  have e : r.take k = r.take i ++ x :: (r.drop (i + 1)).take (k - i - 1) := by
    obtain ⟨hi, e⟩ := List.getElem?_eq_some_iff.1 hx
    have h1 : r.take k = (r.take k).take i ++ (r.take k).drop i := (List.take_append_drop _ _).symm
    rw [List.take_take, Nat.min_eq_left (by omega), List.drop_take, List.drop_eq_getElem_cons hi, e, show k - i = (k - i - 1) + 1 by omega, List.take_succ_cons] at h1
    exact h1
  rw [e, accC_app, h, Option.bind_some, accC, hc]; rfl
theorem accC_take_some {r : List UInt8} {c0 c d : Int} {i : Nat} {x : UInt8} (h : accC c0 (r.take i) = some c) (hx : r[i]? = some x) (hc : contF c x = some d) : accC c0 (r.take (i + 1)) = some d := by
  rw [List.take_add_one, hx, Option.toList_some, accC_snoc, h, Option.bind_some, hc]
theorem acc_bound {b : UInt8} {r : List UInt8} {i : Nat} {c : Int} (h0 : sizeF b ≠ 0) (h1 : sizeF b ≠ 1) (hi : i ≤ 3) (h : accC (leadF b) (r.take i) = some c) : 0 ≤ c ∧ c < 8388608 := by
  have hl := (lead_bounds b)
  have h2 := accC_top _ _ 32 _ hl.1 (hl.2 h1 h0) h
  have h3 : (r.take i).length ≤ 3 := by rw [List.length_take]; omega
  refine ⟨h2.1, Int.lt_of_lt_of_le h2.2 ?_⟩
  rcases (show (r.take i).length = 0 ∨ (r.take i).length = 1 ∨ (r.take i).length = 2 ∨ (r.take i).length = 3 by omega) with e | e | e | e <;> rw [e] <;> decide

set_option maxRecDepth 100000 in
set_option maxHeartbeats 4000000 in
theorem implSignAt_any (s : ByteArray) (b : UInt8) (r : List UInt8) (w : World) (hs : toB s = b :: r) (hz : s.size ≤ 1000000000) :
    Calls Tryz.prog 148 #[.string s] w fun e w' => e = .returned (.tuple #[.int .i64 (oneT b r).1, .int .i64 ((oneT b r).2 : Nat)]) ∧ Fr w w' := by
  obtain ⟨p, hp⟩ : ∃ p, p = oneT b r := ⟨_, rfl⟩
  have HP := Lib.hid hp
  rw [← hp]
  clear hp
  have HS := Lib.hid hs
  have hsz : s.size = r.length + 1 := by rw [← toB_len, hs]; rfl
  have hks : 0 < s.size := by omega
  have e1 : s[0] = b := toB_get (by rw [hs]; rfl) hks
  have hb0 : ((s[0]).toNat : Int) ≤ 255 := by have := (s[0]).toNat_lt; omega
  have hb1 : (0 : Int) ≤ ((s[0]).toNat : Int) := by omega
  have hlt2 : (0 : Int) < (s.size : Int) := by omega
  have HB := Lib.hid (show (s[0]).toNat = b.toNat by rw [e1])
  have HSIZE := Lib.hid hsz
  clear hs e1 hsz
  go_enter Tryz.func148, Tryz.ntmps148
  rcases sizeF_cases b with ⟨hb, hbb⟩ | ⟨hb, hbb⟩ | ⟨hb, hbb⟩ | ⟨hb, hbb⟩ | ⟨hb, hbb⟩
  · have hd : decide (((s[0]).toNat : Int) < 128) = true := by rw [HB.out]; simp; omega
    have HE := Lib.hid (HP.out.trans (oneT_small hbb))
    go_wp2_with fail
    go_ret2
    rw [HE.out, HB.out]
    exact ⟨rfl, Below.refl _ _⟩
  · have hd : decide (((s[0]).toNat : Int) < 128) = false := by rw [HB.out]; simp; omega
    have HE := Lib.hid (HP.out.trans (oneT_none (.inl hb)))
    go_wp2_with fail
    refine (within_any _ _ _ _).mono ?_
    rintro e w ⟨rfl, rfl⟩
    have h1 : inB ((s[0]).toNat : Int) 192 223 = false := by rw [HB.out]; simp [inB]; omega
    rw [h1]
    go_wp2_with fail
    refine (within_any _ _ _ _).mono ?_
    rintro e w ⟨rfl, rfl⟩
    have h2 : inB ((s[0]).toNat : Int) 224 239 = false := by rw [HB.out]; simp [inB]; omega
    rw [h2]
    go_wp2_with fail
    refine (within_any _ _ _ _).mono ?_
    rintro e w ⟨rfl, rfl⟩
    have h3 : inB ((s[0]).toNat : Int) 240 247 = false := by rw [HB.out]; simp [inB]; omega
    rw [h3]
    go_wp2_with fail
    go_ret2
    rw [HE.out]
    exact ⟨rfl, Below.refl _ _⟩
  · have hd : decide (((s[0]).toNat : Int) < 128) = false := by rw [HB.out]; simp; omega
    go_wp2_with fail
    refine (within_any _ _ _ _).mono ?_
    rintro e w ⟨rfl, rfl⟩
    have h1 : inB ((s[0]).toNat : Int) 192 223 = true := by rw [HB.out]; simp [inB]; omega
    rw [h1]
    obtain ⟨c0, hc0⟩ : ∃ q, q = leadF b := ⟨_, rfl⟩
    have ha : bits .and .i64 ((s[0]).toNat : Int) 31 = c0 := by
      rw [and_31 (by omega) (by omega), HB.out, hc0, leadF, if_neg (by omega), if_pos (by omega)]
    have HC0 := Lib.hid hc0
    clear hc0
    have HSZ := Lib.hid hb
    have hl := lead_bounds b
    by_cases hlen : s.size < 2
    · have HE := Lib.hid (HP.out.trans (oneT_none (.inr (by rw [HSZ.out, ← HSIZE.out]; omega))))
      have hd : decide ((s.size : Int) < 2) = true := by simp; omega
      go_wp2_with fail
      go_ret2
      rw [HE.out]
      exact ⟨rfl, Below.refl _ _⟩
    · have hd : decide ((s.size : Int) < 2) = false := by simp; omega
      go_wp2_with fail
      go_loopw [6, 7] (fun cv iv wr => ∃ (i : Nat) (c : Int), iv = .int .i64 ((i + 1 : Nat) : Int) ∧ cv = .int .i64 c ∧ i + 1 ≤ 2 ∧ accC (leadF b) (r.take i) = some c ∧ wr = w) (fun _ iv _ => 2 - (intOf iv).toNat)
      case atStart => exact ⟨0, c0, rfl, rfl, by omega, by rw [HC0.out]; rfl, rfl⟩
      case round =>
        obtain ⟨i, c, rfl, rfl, hi, hacc, rfl⟩ := hrel
        have hcb := acc_bound (by rw [HSZ.out]; omega) (by rw [HSZ.out]; omega) (by omega) hacc
        have HA := Lib.hid hacc
        clear hacc
        by_cases hlt : i + 1 < 2
        · obtain ⟨x, hx⟩ := some_at (l := toB s) (toB_len s) (show i + 1 < s.size by omega)
          have hks : i + 1 < s.size := by omega
          have e1 : s[i + 1] = x := toB_get hx hks
          have hx' : r[i]? = some x := by rw [HS.out] at hx; simpa using hx
          have HX := Lib.hid hx'
          have HCB := Lib.hid (cont_byte x)
          obtain ⟨v, hv⟩ : ∃ v : Int, v = ((s[i + 1]).toNat : Int) := ⟨_, rfl⟩
          have hv2 : ((s[i + 1]).toNat : Int) = (x.toNat : Int) := by rw [e1]
          have hxb := x.toNat_lt
          rw [← hv2] at HCB
          have hi1 : ((i + 1 : Nat) : Int) < (s.size : Int) := by omega
          have hi2 : (0 : Int) ≤ ((i + 1 : Nat) : Int) := by omega
          have hi3 : ((i + 1 : Nat) : Int) < 2 := by omega
          by_cases hc : 128 ≤ x.toNat ∧ x.toNat ≤ 191
          · have hcf : contF c x = some (c * 64 + (x.toNat : Int) % 64) := by rw [contF, if_pos hc]
            have hd1 : (bits .and .u8 ((s[i + 1]).toNat : Int) 192 == 128) = true := by
              rw [HCB.out]; simp; omega
            have hsh : IntKind.i64.wrap (c * 64) = c * 64 := IntWalk.i64_in _ (by omega)
            obtain ⟨y, hyy⟩ : ∃ y : Int, y = (x.toNat : Int) % 64 := ⟨_, rfl⟩
            have hy1 : bits .and .u8 ((s[i + 1]).toNat : Int) 63 = y := by rw [hv2, hyy]; exact and8_63 (by omega) (by omega)
            have hy0 : 0 ≤ y ∧ y < 64 := by omega
            have hw : IntKind.i64.wrap y = y := IntWalk.i64_in _ (by omega)
            obtain ⟨d, hdd⟩ : ∃ d : Int, d = c * 64 + y := ⟨_, rfl⟩
            have hor : bits .or .i64 (c * 64) y = d := by rw [hdd]; exact or_join 6 (by omega) (by omega) (by omega) (by omega) (by omega) (by omega)
            have HCF := Lib.hid (hcf.trans (by rw [← hyy, ← hdd]))
            clear hv hv2 e1 hx hx' hcf hyy hdd
            go_wp2_with fail
            go_roundw
            case rel => exact ⟨i + 1, d, by go_num, rfl, by omega, accC_take_some HA.out HX.out HCF.out, by first | rfl | trivial⟩
            case measure => simp [intOf]; omega
          · have hcf : contF c x = none := by rw [contF, if_neg hc]
            have HE := Lib.hid (HP.out.trans (oneT_broken (by rw [HSZ.out]; exact accC_take_none HA.out HX.out hcf (by omega))))
            have hd1 : (bits .and .u8 ((s[i + 1]).toNat : Int) 192 == 128) = false := by
              rw [HCB.out]; simp; omega
            clear hv hv2 e1 hx hx'
            go_wp2_with fail
            go_ret2
            rw [HE.out]
            exact ⟨rfl, Below.refl _ _⟩
        · have hge : ¬ (((i + 1 : Nat) : Int) < 2) := by omega
          have hi2 : i = 2 - 1 := by omega
          subst hi2
          have HE := Lib.hid (HP.out.trans (oneT_some (by rw [HSZ.out]; omega) (by rw [HSZ.out, ← HSIZE.out]; omega) (by rw [HSZ.out]; exact HA.out)))
          go_wp2_with fail
          refine (implLeast_any 2 _ (by decide)).mono ?_
          rintro e w1 ⟨rfl, f1⟩
          by_cases hle : c < leastC 2
          · have hd1 : decide (c < leastC 2) = true := by simpa using hle
            go_wp2_with fail
            go_ret2
            rw [HE.out, HSZ.out, if_pos (.inl hle)]
            exact ⟨rfl, f1⟩
          · have hd1 : decide (c < leastC 2) = false := by simpa using hle
            go_wp2_with fail
            refine (implSign_any _ _).mono ?_
            rintro e w2 ⟨rfl, hw2⟩
            rw [← hw2] at f1
            clear hw2
            rcases (show sgnB c = true ∨ sgnB c = false by cases sgnB c <;> simp) with hsg | hsg
            · rw [hsg]
              go_wp2_with fail
              go_ret2
              rw [HE.out, HSZ.out, if_neg (by rw [hsg]; simp; omega)]
              exact ⟨rfl, f1⟩
            · rw [hsg]
              go_wp2_with fail
              go_ret2
              rw [HE.out, HSZ.out, if_pos (.inr hsg)]
              exact ⟨rfl, f1⟩
  · have hd : decide (((s[0]).toNat : Int) < 128) = false := by rw [HB.out]; simp; omega
    go_wp2_with fail
    refine (within_any _ _ _ _).mono ?_
    rintro e w ⟨rfl, rfl⟩
    have h1 : inB ((s[0]).toNat : Int) 192 223 = false := by rw [HB.out]; simp [inB]; omega
    rw [h1]
    go_wp2_with fail
    refine (within_any _ _ _ _).mono ?_
    rintro e w ⟨rfl, rfl⟩
    have h2 : inB ((s[0]).toNat : Int) 224 239 = true := by rw [HB.out]; simp [inB]; omega
    rw [h2]
    obtain ⟨c0, hc0⟩ : ∃ q, q = leadF b := ⟨_, rfl⟩
    have ha : bits .and .i64 ((s[0]).toNat : Int) 15 = c0 := by
      rw [and_15 (by omega) (by omega), HB.out, hc0, leadF, if_neg (by omega), if_neg (by omega), if_pos (by omega)]
    have HC0 := Lib.hid hc0
    clear hc0
    have HSZ := Lib.hid hb
    have hl := lead_bounds b
    by_cases hlen : s.size < 3
    · have HE := Lib.hid (HP.out.trans (oneT_none (.inr (by rw [HSZ.out, ← HSIZE.out]; omega))))
      have hd : decide ((s.size : Int) < 3) = true := by simp; omega
      go_wp2_with fail
      go_ret2
      rw [HE.out]
      exact ⟨rfl, Below.refl _ _⟩
    · have hd : decide ((s.size : Int) < 3) = false := by simp; omega
      go_wp2_with fail
      go_loopw [6, 7] (fun cv iv wr => ∃ (i : Nat) (c : Int), iv = .int .i64 ((i + 1 : Nat) : Int) ∧ cv = .int .i64 c ∧ i + 1 ≤ 3 ∧ accC (leadF b) (r.take i) = some c ∧ wr = w) (fun _ iv _ => 3 - (intOf iv).toNat)
      case atStart => exact ⟨0, c0, rfl, rfl, by omega, by rw [HC0.out]; rfl, rfl⟩
      case round =>
        obtain ⟨i, c, rfl, rfl, hi, hacc, rfl⟩ := hrel
        have hcb := acc_bound (by rw [HSZ.out]; omega) (by rw [HSZ.out]; omega) (by omega) hacc
        have HA := Lib.hid hacc
        clear hacc
        by_cases hlt : i + 1 < 3
        · obtain ⟨x, hx⟩ := some_at (l := toB s) (toB_len s) (show i + 1 < s.size by omega)
          have hks : i + 1 < s.size := by omega
          have e1 : s[i + 1] = x := toB_get hx hks
          have hx' : r[i]? = some x := by rw [HS.out] at hx; simpa using hx
          have HX := Lib.hid hx'
          have HCB := Lib.hid (cont_byte x)
          obtain ⟨v, hv⟩ : ∃ v : Int, v = ((s[i + 1]).toNat : Int) := ⟨_, rfl⟩
          have hv2 : ((s[i + 1]).toNat : Int) = (x.toNat : Int) := by rw [e1]
          have hxb := x.toNat_lt
          rw [← hv2] at HCB
          have hi1 : ((i + 1 : Nat) : Int) < (s.size : Int) := by omega
          have hi2 : (0 : Int) ≤ ((i + 1 : Nat) : Int) := by omega
          have hi3 : ((i + 1 : Nat) : Int) < 3 := by omega
          by_cases hc : 128 ≤ x.toNat ∧ x.toNat ≤ 191
          · have hcf : contF c x = some (c * 64 + (x.toNat : Int) % 64) := by rw [contF, if_pos hc]
            have hd1 : (bits .and .u8 ((s[i + 1]).toNat : Int) 192 == 128) = true := by
              rw [HCB.out]; simp; omega
            have hsh : IntKind.i64.wrap (c * 64) = c * 64 := IntWalk.i64_in _ (by omega)
            obtain ⟨y, hyy⟩ : ∃ y : Int, y = (x.toNat : Int) % 64 := ⟨_, rfl⟩
            have hy1 : bits .and .u8 ((s[i + 1]).toNat : Int) 63 = y := by rw [hv2, hyy]; exact and8_63 (by omega) (by omega)
            have hy0 : 0 ≤ y ∧ y < 64 := by omega
            have hw : IntKind.i64.wrap y = y := IntWalk.i64_in _ (by omega)
            obtain ⟨d, hdd⟩ : ∃ d : Int, d = c * 64 + y := ⟨_, rfl⟩
            have hor : bits .or .i64 (c * 64) y = d := by rw [hdd]; exact or_join 6 (by omega) (by omega) (by omega) (by omega) (by omega) (by omega)
            have HCF := Lib.hid (hcf.trans (by rw [← hyy, ← hdd]))
            clear hv hv2 e1 hx hx' hcf hyy hdd
            go_wp2_with fail
            go_roundw
            case rel => exact ⟨i + 1, d, by go_num, rfl, by omega, accC_take_some HA.out HX.out HCF.out, by first | rfl | trivial⟩
            case measure => simp [intOf]; omega
          · have hcf : contF c x = none := by rw [contF, if_neg hc]
            have HE := Lib.hid (HP.out.trans (oneT_broken (by rw [HSZ.out]; exact accC_take_none HA.out HX.out hcf (by omega))))
            have hd1 : (bits .and .u8 ((s[i + 1]).toNat : Int) 192 == 128) = false := by
              rw [HCB.out]; simp; omega
            clear hv hv2 e1 hx hx'
            go_wp2_with fail
            go_ret2
            rw [HE.out]
            exact ⟨rfl, Below.refl _ _⟩
        · have hge : ¬ (((i + 1 : Nat) : Int) < 3) := by omega
          have hi2 : i = 3 - 1 := by omega
          subst hi2
          have HE := Lib.hid (HP.out.trans (oneT_some (by rw [HSZ.out]; omega) (by rw [HSZ.out, ← HSIZE.out]; omega) (by rw [HSZ.out]; exact HA.out)))
          go_wp2_with fail
          refine (implLeast_any 3 _ (by decide)).mono ?_
          rintro e w1 ⟨rfl, f1⟩
          by_cases hle : c < leastC 3
          · have hd1 : decide (c < leastC 3) = true := by simpa using hle
            go_wp2_with fail
            go_ret2
            rw [HE.out, HSZ.out, if_pos (.inl hle)]
            exact ⟨rfl, f1⟩
          · have hd1 : decide (c < leastC 3) = false := by simpa using hle
            go_wp2_with fail
            refine (implSign_any _ _).mono ?_
            rintro e w2 ⟨rfl, hw2⟩
            rw [← hw2] at f1
            clear hw2
            rcases (show sgnB c = true ∨ sgnB c = false by cases sgnB c <;> simp) with hsg | hsg
            · rw [hsg]
              go_wp2_with fail
              go_ret2
              rw [HE.out, HSZ.out, if_neg (by rw [hsg]; simp; omega)]
              exact ⟨rfl, f1⟩
            · rw [hsg]
              go_wp2_with fail
              go_ret2
              rw [HE.out, HSZ.out, if_pos (.inr hsg)]
              exact ⟨rfl, f1⟩
  · have hd : decide (((s[0]).toNat : Int) < 128) = false := by rw [HB.out]; simp; omega
    go_wp2_with fail
    refine (within_any _ _ _ _).mono ?_
    rintro e w ⟨rfl, rfl⟩
    have h1 : inB ((s[0]).toNat : Int) 192 223 = false := by rw [HB.out]; simp [inB]; omega
    rw [h1]
    go_wp2_with fail
    refine (within_any _ _ _ _).mono ?_
    rintro e w ⟨rfl, rfl⟩
    have h2 : inB ((s[0]).toNat : Int) 224 239 = false := by rw [HB.out]; simp [inB]; omega
    rw [h2]
    go_wp2_with fail
    refine (within_any _ _ _ _).mono ?_
    rintro e w ⟨rfl, rfl⟩
    have h3 : inB ((s[0]).toNat : Int) 240 247 = true := by rw [HB.out]; simp [inB]; omega
    rw [h3]
    obtain ⟨c0, hc0⟩ : ∃ q, q = leadF b := ⟨_, rfl⟩
    have ha : bits .and .i64 ((s[0]).toNat : Int) 7 = c0 := by
      rw [and_7 (by omega) (by omega), HB.out, hc0, leadF, if_neg (by omega), if_neg (by omega), if_neg (by omega)]
    have HC0 := Lib.hid hc0
    clear hc0
    have HSZ := Lib.hid hb
    have hl := lead_bounds b
    by_cases hlen : s.size < 4
    · have HE := Lib.hid (HP.out.trans (oneT_none (.inr (by rw [HSZ.out, ← HSIZE.out]; omega))))
      have hd : decide ((s.size : Int) < 4) = true := by simp; omega
      go_wp2_with fail
      go_ret2
      rw [HE.out]
      exact ⟨rfl, Below.refl _ _⟩
    · have hd : decide ((s.size : Int) < 4) = false := by simp; omega
      go_wp2_with fail
      go_loopw [6, 7] (fun cv iv wr => ∃ (i : Nat) (c : Int), iv = .int .i64 ((i + 1 : Nat) : Int) ∧ cv = .int .i64 c ∧ i + 1 ≤ 4 ∧ accC (leadF b) (r.take i) = some c ∧ wr = w) (fun _ iv _ => 4 - (intOf iv).toNat)
      case atStart => exact ⟨0, c0, rfl, rfl, by omega, by rw [HC0.out]; rfl, rfl⟩
      case round =>
        obtain ⟨i, c, rfl, rfl, hi, hacc, rfl⟩ := hrel
        have hcb := acc_bound (by rw [HSZ.out]; omega) (by rw [HSZ.out]; omega) (by omega) hacc
        have HA := Lib.hid hacc
        clear hacc
        by_cases hlt : i + 1 < 4
        · obtain ⟨x, hx⟩ := some_at (l := toB s) (toB_len s) (show i + 1 < s.size by omega)
          have hks : i + 1 < s.size := by omega
          have e1 : s[i + 1] = x := toB_get hx hks
          have hx' : r[i]? = some x := by rw [HS.out] at hx; simpa using hx
          have HX := Lib.hid hx'
          have HCB := Lib.hid (cont_byte x)
          obtain ⟨v, hv⟩ : ∃ v : Int, v = ((s[i + 1]).toNat : Int) := ⟨_, rfl⟩
          have hv2 : ((s[i + 1]).toNat : Int) = (x.toNat : Int) := by rw [e1]
          have hxb := x.toNat_lt
          rw [← hv2] at HCB
          have hi1 : ((i + 1 : Nat) : Int) < (s.size : Int) := by omega
          have hi2 : (0 : Int) ≤ ((i + 1 : Nat) : Int) := by omega
          have hi3 : ((i + 1 : Nat) : Int) < 4 := by omega
          by_cases hc : 128 ≤ x.toNat ∧ x.toNat ≤ 191
          · have hcf : contF c x = some (c * 64 + (x.toNat : Int) % 64) := by rw [contF, if_pos hc]
            have hd1 : (bits .and .u8 ((s[i + 1]).toNat : Int) 192 == 128) = true := by
              rw [HCB.out]; simp; omega
            have hsh : IntKind.i64.wrap (c * 64) = c * 64 := IntWalk.i64_in _ (by omega)
            obtain ⟨y, hyy⟩ : ∃ y : Int, y = (x.toNat : Int) % 64 := ⟨_, rfl⟩
            have hy1 : bits .and .u8 ((s[i + 1]).toNat : Int) 63 = y := by rw [hv2, hyy]; exact and8_63 (by omega) (by omega)
            have hy0 : 0 ≤ y ∧ y < 64 := by omega
            have hw : IntKind.i64.wrap y = y := IntWalk.i64_in _ (by omega)
            obtain ⟨d, hdd⟩ : ∃ d : Int, d = c * 64 + y := ⟨_, rfl⟩
            have hor : bits .or .i64 (c * 64) y = d := by rw [hdd]; exact or_join 6 (by omega) (by omega) (by omega) (by omega) (by omega) (by omega)
            have HCF := Lib.hid (hcf.trans (by rw [← hyy, ← hdd]))
            clear hv hv2 e1 hx hx' hcf hyy hdd
            go_wp2_with fail
            go_roundw
            case rel => exact ⟨i + 1, d, by go_num, rfl, by omega, accC_take_some HA.out HX.out HCF.out, by first | rfl | trivial⟩
            case measure => simp [intOf]; omega
          · have hcf : contF c x = none := by rw [contF, if_neg hc]
            have HE := Lib.hid (HP.out.trans (oneT_broken (by rw [HSZ.out]; exact accC_take_none HA.out HX.out hcf (by omega))))
            have hd1 : (bits .and .u8 ((s[i + 1]).toNat : Int) 192 == 128) = false := by
              rw [HCB.out]; simp; omega
            clear hv hv2 e1 hx hx'
            go_wp2_with fail
            go_ret2
            rw [HE.out]
            exact ⟨rfl, Below.refl _ _⟩
        · have hge : ¬ (((i + 1 : Nat) : Int) < 4) := by omega
          have hi2 : i = 4 - 1 := by omega
          subst hi2
          have HE := Lib.hid (HP.out.trans (oneT_some (by rw [HSZ.out]; omega) (by rw [HSZ.out, ← HSIZE.out]; omega) (by rw [HSZ.out]; exact HA.out)))
          go_wp2_with fail
          refine (implLeast_any 4 _ (by decide)).mono ?_
          rintro e w1 ⟨rfl, f1⟩
          by_cases hle : c < leastC 4
          · have hd1 : decide (c < leastC 4) = true := by simpa using hle
            go_wp2_with fail
            go_ret2
            rw [HE.out, HSZ.out, if_pos (.inl hle)]
            exact ⟨rfl, f1⟩
          · have hd1 : decide (c < leastC 4) = false := by simpa using hle
            go_wp2_with fail
            refine (implSign_any _ _).mono ?_
            rintro e w2 ⟨rfl, hw2⟩
            rw [← hw2] at f1
            clear hw2
            rcases (show sgnB c = true ∨ sgnB c = false by cases sgnB c <;> simp) with hsg | hsg
            · rw [hsg]
              go_wp2_with fail
              go_ret2
              rw [HE.out, HSZ.out, if_neg (by rw [hsg]; simp; omega)]
              exact ⟨rfl, f1⟩
            · rw [hsg]
              go_wp2_with fail
              go_ret2
              rw [HE.out, HSZ.out, if_pos (.inr hsg)]
              exact ⟨rfl, f1⟩
end Go.Proofs.YtaogikhpglcmjaaGreatDoor

namespace Go.Proofs.YtaogikhpglcmjaaGreatDoor

/-- The program's rows: signs, letters, mark. -/
def rowTbl : List (List Int × List Int × Int) :=
  [([192, 200, 204, 210, 217, 224, 232, 236, 242, 249], [65, 69, 73, 79, 85, 97, 101, 105, 111, 117], 768),
   ([193, 201, 205, 211, 218, 221, 225, 233, 237, 243, 250, 253], [65, 69, 73, 79, 85, 89, 97, 101, 105, 111, 117, 121], 769),
   ([194, 202, 206, 212, 219, 226, 234, 238, 244, 251], [65, 69, 73, 79, 85, 97, 101, 105, 111, 117], 770),
   ([195, 209, 213, 227, 241, 245], [65, 78, 79, 97, 110, 111], 771),
   ([196, 203, 207, 214, 220, 228, 235, 239, 246, 252, 255], [65, 69, 73, 79, 85, 97, 101, 105, 111, 117, 121], 776),
   ([197, 229], [65, 97], 778),
   ([199, 231], [67, 99], 807),
   ([902, 904, 905, 906, 908, 910, 911], [913, 917, 919, 921, 927, 933, 937], 769),
   ([940, 941, 942, 943, 972, 973, 974], [945, 949, 951, 953, 959, 965, 969], 769),
   ([469, 470], [220, 252], 772),
   ([7840, 7841], [65, 97], 803),
   ([7852, 7853], [7840, 7841], 770),
   ([8486, 8491], [937, 197], 0)]
/-- The reference's eight rows: signs, letters (bytes), mark. -/
def rows8 : List (List Int × List UInt8 × Int) :=
  [([192, 200, 204, 210, 217, 224, 232, 236, 242, 249], [65, 69, 73, 79, 85, 97, 101, 105, 111, 117], 768),
   ([193, 201, 205, 211, 218, 221, 225, 233, 237, 243, 250, 253], [65, 69, 73, 79, 85, 89, 97, 101, 105, 111, 117, 121], 769),
   ([194, 202, 206, 212, 219, 226, 234, 238, 244, 251], [65, 69, 73, 79, 85, 97, 101, 105, 111, 117], 770),
   ([195, 209, 213, 227, 241, 245], [65, 78, 79, 97, 110, 111], 771),
   ([196, 203, 207, 214, 220, 228, 235, 239, 246, 252, 255], [65, 69, 73, 79, 85, 97, 101, 105, 111, 117, 121], 776),
   ([197, 229], [65, 97], 778),
   ([199, 231], [67, 99], 807),
   ([7840, 7841], [65, 97], 803)]
def greekP : List (Int × Int) := [(902, 913), (904, 917), (905, 919), (906, 921), (908, 927), (910, 933), (911, 937), (940, 945), (941, 949), (942, 951), (943, 953), (972, 959), (973, 965), (974, 969)]
def casesP : List (Int × List Int) := [(469, [220, 772]), (470, [252, 772]), (7852, [7840, 770]), (7853, [7841, 770]), (8486, [937]), (8491, [197])]
def hangulP (c : Int) : List Int := [4352 + (c - 44032) / 588, 4449 + (c - 44032) % 588 / 28] ++ if 0 < (c - 44032) % 28 then [4519 + (c - 44032) % 28] else []
/-- What is at c's place of a row. -/
def rowHit (c : Int) : List Int → List UInt8 → Int → List Int
  | x :: xs, y :: ys, m => if x = c then [(y.toNat : Int), m] else rowHit c xs ys m
  | _, _, _ => []
def pickP (c : Int) : List Int :=
  match (rows8.map fun r => rowHit c r.1 r.2.1 r.2.2).find? (fun l => decide (0 < l.length)) with
  | some l => l
  | none => match greekP.find? (fun p => decide (p.1 = c)) with
    | some p => [p.2, 769]
    | none => match casesP.find? (fun p => decide (p.1 = c)) with
      | some p => p.2
      | none => []
/-- The parts of a sign. -/
def partsS (c : Int) : List Int := if 0 < (pickP c).length then pickP c else if inB c 44032 55203 then hangulP c else []

theorem rowHit_at {c : Int} {m : Int} : ∀ {xs : List Int} {ys : List UInt8} {k : Nat} {y : UInt8}, xs[k]? = some c → ys[k]? = some y → (∀ (j : Nat) (x : Int), j < k → xs[j]? = some x → x ≠ c) → rowHit c xs ys m = [(y.toNat : Int), m]
  | [], _, k, _, h, _, _ => by simp at h
  | _ :: _, [], k, _, _, h, _ => by simp at h
  | x :: xs, y' :: ys, 0, y, h, h', _ => by
    simp only [List.getElem?_cons_zero, Option.some.injEq] at h h'
    subst h h'
    simp [rowHit]
  | x :: xs, y' :: ys, k + 1, y, h, h', hn => by
    simp only [List.getElem?_cons_succ] at h h'
    have h0 := hn 0 x (by omega) rfl
    rw [rowHit, if_neg h0]
    exact rowHit_at h h' fun j z hj hz => hn (j + 1) z (by omega) (by simpa using hz)
theorem rowHit_no {c : Int} {m : Int} : ∀ {xs : List Int} {ys : List UInt8}, (∀ x ∈ xs, x ≠ c) → rowHit c xs ys m = []
  | [], _, _ => by simp [rowHit]
  | _ :: _, [], _ => by simp [rowHit]
  | x :: xs, y' :: ys, hn => by
    rw [rowHit, if_neg (hn x (by simp))]
    exact rowHit_no fun z hz => hn z (by simp [hz])
theorem find_first {α : Type} {p : α → Bool} : ∀ {l : List α} {k : Nat} {x : α}, l[k]? = some x → p x = true → (∀ (j : Nat) (y : α), j < k → l[j]? = some y → p y = false) → l.find? p = some x
  | [], _, _, h, _, _ => by simp at h
  | y :: l, 0, x, h, hp, _ => by
    simp only [List.getElem?_cons_zero, Option.some.injEq] at h
    subst h
    simp [hp]
  | y :: l, k + 1, x, h, hp, hn => by
    rw [List.find?_cons, hn 0 y (by omega) rfl]
    exact find_first (by simpa using h) hp fun j z hj hz => hn (j + 1) z (by omega) (by simpa using hz)
theorem find_none {α : Type} {p : α → Bool} {l : List α} (h : ∀ (j : Nat) (y : α), l[j]? = some y → p y = false) : l.find? p = none := by
  rw [List.find?_eq_none]
  intro x hx
  obtain ⟨j, hj⟩ := List.mem_iff_getElem?.1 hx
  simp [h j x hj]
/-- A sign of the reference's rows. -/
theorem parts_row {c : Int} {i : Nat} {r : List Int × List UInt8 × Int} {l : List Int} (hr : rows8[i]? = some r) (hl : l = rowHit c r.1 r.2.1 r.2.2) (h0 : 0 < l.length) (hn : ∀ (j : Nat) (r' : List Int × List UInt8 × Int), j < i → rows8[j]? = some r' → rowHit c r'.1 r'.2.1 r'.2.2 = []) : partsS c = l := by
  have hf : (rows8.map fun r => rowHit c r.1 r.2.1 r.2.2).find? (fun l => decide (0 < l.length)) = some l := by
    refine find_first (k := i) (by rw [List.getElem?_map, hr, hl]; rfl) (by simpa using h0) fun j y hj hy => ?_
    rw [List.getElem?_map] at hy
    cases hr' : rows8[j]? with
    | none => rw [hr'] at hy; cases hy
    | some r' =>
      rw [hr'] at hy
      simp only [Option.map_some, Option.some.injEq] at hy
      rw [← hy, hn j r' hj hr']
      rfl
  have hp : pickP c = l := by rw [pickP, hf]
  rw [partsS, hp, if_pos h0]
def NoRow (c : Int) : Prop := ∀ (j : Nat) (r' : List Int × List UInt8 × Int), rows8[j]? = some r' → rowHit c r'.1 r'.2.1 r'.2.2 = []
theorem noRow_pick {c : Int} (h : NoRow c) : (rows8.map fun r => rowHit c r.1 r.2.1 r.2.2).find? (fun l => decide (0 < l.length)) = none := by
  refine find_none fun j y hy => ?_
  rw [List.getElem?_map] at hy
  cases hr' : rows8[j]? with
  | none => rw [hr'] at hy; cases hy
  | some r' =>
    rw [hr'] at hy
    simp only [Option.map_some, Option.some.injEq] at hy
    rw [← hy, h j r' hr']
    rfl
theorem parts_greek {c : Int} {k : Nat} {b : Int} (h : NoRow c) (hk : greekP[k]? = some (c, b)) (hn : ∀ (j : Nat) (p : Int × Int), j < k → greekP[j]? = some p → p.1 ≠ c) : partsS c = [b, 769] := by
  have hf : greekP.find? (fun p => decide (p.1 = c)) = some (c, b) := find_first hk (by simp) fun j y hj hy => by simpa using hn j y hj hy
  have hp : pickP c = [b, 769] := by rw [pickP, noRow_pick h, hf]
  rw [partsS, hp]
  rfl
def NoGreek (c : Int) : Prop := ∀ (j : Nat) (p : Int × Int), greekP[j]? = some p → p.1 ≠ c
theorem noGreek_find {c : Int} (h : NoGreek c) : greekP.find? (fun p => decide (p.1 = c)) = none := find_none fun j y hy => by simpa using h j y hy
theorem parts_case {c : Int} {l : List Int} (h : NoRow c) (hg : NoGreek c) (hl : casesP.find? (fun p => decide (p.1 = c)) = some (c, l)) (h0 : 0 < l.length) : partsS c = l := by
  have hp : pickP c = l := by rw [pickP, noRow_pick h, noGreek_find hg, hl]
  rw [partsS, hp, if_pos h0]
theorem parts_rest {c : Int} (h : NoRow c) (hg : NoGreek c) (hl : casesP.find? (fun p => decide (p.1 = c)) = none) : partsS c = if inB c 44032 55203 then hangulP c else [] := by
  have hp : pickP c = [] := by rw [pickP, noRow_pick h, noGreek_find hg, hl]
  rw [partsS, hp]
  rfl

/-- The pairs that make a sign (beside the Hangul ones). -/
def pairT : List ((Int × Int) × Int) := rowTbl.flatMap fun r => if 0 < r.2.2 then (r.2.1.zip r.1).map fun x => ((x.1, r.2.2), x.2) else []
def candS : List (Int × Int) := [(192, 255), (469, 470), (902, 974), (7840, 7853)]
def lookT (a b : Int) : Option Int := (pairT.find? fun e => decide (e.1 = (a, b))).map (·.2)
/-- What Pair comes to. -/
def pairF (a b : Int) : Int × Bool :=
  if inB a 4352 4370 && inB b 4449 4469 then (44032 + 588 * (a - 4352) + 28 * (b - 4449), true)
  else if (inB a 44032 55203 && decide ((a - 44032) % 28 = 0)) && inB b 4520 4546 then (a + b - 4519, true)
  else match lookT a b with
    | some c => (c, true)
    | none => (0, false)
theorem look_none {a b : Int} (h : ∀ e ∈ pairT, e.1 ≠ (a, b)) : lookT a b = none := by
  rw [lookT, List.find?_eq_none.2 (by intro e he; simpa using h e he)]
  rfl
theorem look_mem {a b : Int} {e : (Int × Int) × Int} (h : e ∈ pairT) (hk : e.1 = (a, b)) : ∃ c, lookT a b = some c := by
  cases hl : pairT.find? fun e => decide (e.1 = (a, b)) with
  | none => exact absurd hk (by simpa using List.find?_eq_none.1 hl e h)
  | some y => exact ⟨y.2, by rw [lookT, hl]; rfl⟩
/-- The program's rows: a letter of a row that has a mark. -/
def rowsGood : Bool := rowTbl.all fun r => decide (r.1.length = r.2.1.length) && (decide (¬ 0 < r.2.2) || (r.2.1.zip r.1).all fun x => lookT x.1 r.2.2 == some x.2)
theorem rows_good : rowsGood = true := by decide +kernel
theorem pair_row {a b : Int} {i k : Nat} {r : List Int × List Int × Int} {c : Int} (hr : rowTbl[i]? = some r) (hk : r.2.1[k]? = some a) (hc : r.1[k]? = some c) (hm : r.2.2 = b) (hb : 0 < b) : lookT a b = some c := by
  have h1 := List.all_eq_true.1 rows_good r (List.mem_of_getElem? hr)
  simp only [Bool.and_eq_true, Bool.or_eq_true, decide_eq_true_eq] at h1
  rcases h1.2 with h2 | h2
  · omega
  · have h3 := List.all_eq_true.1 h2 (a, c) (List.mem_of_getElem? (i := k) (by rw [List.getElem?_zip_eq_some]; exact ⟨hk, hc⟩))
    rw [← hm]
    simpa using h3
theorem rows_len {i : Nat} {r : List Int × List Int × Int} (hr : rowTbl[i]? = some r) : r.1.length = r.2.1.length := by
  have h1 := List.all_eq_true.1 rows_good r (List.mem_of_getElem? hr)
  simp only [Bool.and_eq_true, decide_eq_true_eq] at h1
  exact h1.1
theorem pair_norow {a b : Int} (h : ∀ (i : Nat) (r : List Int × List Int × Int), rowTbl[i]? = some r → 0 < r.2.2 → r.2.2 = b → a ∉ r.2.1) : lookT a b = none := by
  refine look_none fun e he hk => ?_
  obtain ⟨r, hr, he⟩ := List.mem_flatMap.1 he
  split at he
  · rename_i hm
    obtain ⟨x, hx, rfl⟩ := List.mem_map.1 he
    simp only [Prod.mk.injEq] at hk
    obtain ⟨i, hi⟩ := List.mem_iff_getElem?.1 hr
    exact h i r hi hm hk.2 (hk.1 ▸ (List.of_mem_zip hx).1)
  · simp at he
/-- The reference's search: a sign of the four stretches that has just these parts. -/
def candGood : Bool := (candS.all fun p => (List.range (p.2 - p.1 + 1).toNat).all fun (j : Nat) => match partsS (p.1 + (j : Int)) with
  | [x, y] => lookT x y == some (p.1 + (j : Int))
  | _ => true) && pairT.all fun e => decide (partsS e.2 = [e.1.1, e.1.2]) && candS.any fun p => inB e.2 p.1 p.2
theorem cand_good : candGood = true := by decide +kernel
theorem pair_cand {a b c : Int} {p : Int × Int} (hp : p ∈ candS) (hc : p.1 ≤ c ∧ c ≤ p.2) (h : partsS c = [a, b]) : lookT a b = some c := by
  have h1 := cand_good
  rw [candGood, Bool.and_eq_true] at h1
  have h2 := List.all_eq_true.1 (List.all_eq_true.1 h1.1 p hp) (c - p.1).toNat (by rw [List.mem_range]; omega)
  rw [show p.1 + ((c - p.1).toNat : Int) = c by omega, h] at h2
  simpa using h2
theorem pair_nocand {a b : Int} (h : ∀ p ∈ candS, ∀ c, p.1 ≤ c → c ≤ p.2 → partsS c ≠ [a, b]) : lookT a b = none := by
  have h1 := cand_good
  rw [candGood, Bool.and_eq_true] at h1
  refine look_none fun e he hk => ?_
  have h2 := List.all_eq_true.1 h1.2 e he
  simp only [Bool.and_eq_true, decide_eq_true_eq, List.any_eq_true, inB_iff] at h2
  obtain ⟨h3, p, hp, h4, h5⟩ := h2
  refine h p hp e.2 h4 h5 ?_
  rw [h3, hk]
end Go.Proofs.YtaogikhpglcmjaaGreatDoor
