/-
  Signs and bytes: what the program's and the reference's functions hand back.
-/
import Derived.Test.YtfmifaneggenoaaDoorMText
import Derived.Test.YtfmifaneggenoaaDoorL1In
import Derived.Test.YtfmifaneggenoaaDoorWithin
namespace Go.Proofs.YtfmifaneggenoaaDoor
open Go.RowKit

set_option linter.unusedVariables false
set_option linter.unusedSimpArgs false
theorem toB_get {s : ByteArray} {i : Nat} {b : UInt8} (h : (toB s)[i]? = some b) (hs : i < s.size) : s[i] = b := by
  have : s[i] = (toB s)[i]'(by rw [toB_len]; exact hs) := by
    simp only [toB, Array.getElem_toList]; rfl
  rw [this]
  exact (List.getElem?_eq_some_iff.1 h).2

theorem implSign_any (c : Int) (w : World) :
    Calls Tryd.prog 99 #[.int .i64 c] w fun e w' => e = .returned (.bool (sgnB c)) ∧ w' = w := by
  obtain ⟨q, hq⟩ : ∃ q, q = sgnB c := ⟨_, rfl⟩
  have HQ := Lib.hid hq
  rw [← hq]
  clear hq
  go_enter Tryd.func99, Tryd.ntmps99
  go_wp2_with fail
  refine (within_any _ _ _ _).mono ?_
  rintro e w ⟨rfl, rfl⟩
  rcases (show inB c 0 1114111 = true ∨ inB c 0 1114111 = false by cases inB c 0 1114111 <;> simp) with h1 | h1
  · rw [h1]
    go_wp2_with fail
    refine (within_any _ _ _ _).mono ?_
    rintro e w ⟨rfl, rfl⟩
    go_wp2_with fail
    go_ret
    rw [HQ.out, sgnB, h1]
    exact ⟨rfl, rfl⟩
  · rw [h1]
    go_wp2_with fail
    go_ret
    rw [HQ.out, sgnB, h1]
    exact ⟨rfl, rfl⟩
theorem specSign_any (c : Int) (w : World) :
    Calls Tryd.prog 74 #[.int .i64 c] w fun e w' => e = .returned (.bool (sgnB c)) ∧ w' = w := by
  obtain ⟨q, hq⟩ : ∃ q, q = sgnB c := ⟨_, rfl⟩
  have HQ := Lib.hid hq
  rw [← hq]
  clear hq
  go_enter Tryd.func74, Tryd.ntmps74
  go_wp2_with fail
  refine (l1In_any _ _ _ _).mono ?_
  rintro e w ⟨rfl, rfl⟩
  rcases (show inB c 0 1114111 = true ∨ inB c 0 1114111 = false by cases inB c 0 1114111 <;> simp) with h1 | h1
  · rw [h1]
    go_wp2_with fail
    refine (l1In_any _ _ _ _).mono ?_
    rintro e w ⟨rfl, rfl⟩
    go_wp2_with fail
    go_ret
    rw [HQ.out, sgnB, h1]
    exact ⟨rfl, rfl⟩
  · rw [h1]
    go_wp2_with fail
    go_ret
    rw [HQ.out, sgnB, h1]
    exact ⟨rfl, rfl⟩
theorem implLeast_any (n : Nat) (w : World) (hn : n ≤ 4) :
    Calls Tryd.prog 103 #[.int .i64 n] w fun e w' => e = .returned (.int .i64 (leastC n)) ∧ Fr w w' := by
  have HF := Lib.hid (((Hp.start w).lit 3 1 5 [.int .i64 0, .int .i64 0, .int .i64 128, .int .i64 2048, .int .i64 65536] rfl (by simp [maxLen])).fr)
  rcases (show n = 0 ∨ n = 1 ∨ n = 2 ∨ n = 3 ∨ n = 4 by omega) with rfl | rfl | rfl | rfl | rfl
  all_goals
    go_enter Tryd.func103, Tryd.ntmps103
    go_wp2_with fail
    go_ret
    exact ⟨rfl, HF.out⟩
/-- accC along a text -/
theorem accC_app : ∀ (l m : List UInt8) (c : Int), accC c (l ++ m) = (accC c l).bind fun d => accC d m
  | [], m, c => rfl
  | a :: l, m, c => by
    simp only [List.cons_append, accC]
    cases contF c a with
    | none => rfl
    | some d => simp only [Option.bind_some]; exact accC_app l m d
theorem accC_take_none {r : List UInt8} {c0 c : Int} {i k : Nat} {x : UInt8} (h : accC c0 (r.take i) = some c) (hx : r[i]? = some x) (hc : contF c x = none) (hk : i < k) : accC c0 (r.take k) = none := by
  have e : r.take k = r.take i ++ x :: (r.drop (i + 1)).take (k - i - 1) := by
    obtain ⟨hi, e⟩ := List.getElem?_eq_some_iff.1 hx
    have h1 : r.take k = (r.take k).take i ++ (r.take k).drop i := (List.take_append_drop _ _).symm
    rw [List.take_take, Nat.min_eq_left (by omega), List.drop_take, List.drop_eq_getElem_cons hi, e, show k - i = (k - i - 1) + 1 by omega, List.take_succ_cons] at h1
    exact h1
  rw [e, accC_app, h, Option.bind_some, accC, hc]; rfl
theorem accC_take_some {r : List UInt8} {c0 c d : Int} {i : Nat} {x : UInt8} (h : accC c0 (r.take i) = some c) (hx : r[i]? = some x) (hc : contF c x = some d) : accC c0 (r.take (i + 1)) = some d := by
  rw [List.take_add_one, hx, Option.toList_some, accC_snoc, h, Option.bind_some, hc]
theorem acc_bound {b : UInt8} {r : List UInt8} {i : Nat} {c : Int} (h0 : sizeF b ≠ 0) (h1 : sizeF b ≠ 1) (hi : i ≤ 3) (h : accC (leadF b) (r.take i) = some c) : 0 ≤ c ∧ c < 8388608 := by
  have hl := (lead_bounds b)
  have h2 := accC_top _ _ 32 _ hl.1 (hl.2 h1 h0) h
  have h3 : (r.take i).length ≤ 3 := by rw [List.length_take]; omega
  refine ⟨h2.1, Int.lt_of_lt_of_le h2.2 ?_⟩
  rcases (show (r.take i).length = 0 ∨ (r.take i).length = 1 ∨ (r.take i).length = 2 ∨ (r.take i).length = 3 by omega) with e | e | e | e <;> rw [e] <;> decide

set_option maxRecDepth 100000 in
set_option maxHeartbeats 4000000 in
theorem implSignAt_any (s : ByteArray) (b : UInt8) (r : List UInt8) (w : World) (hs : toB s = b :: r) (hz : s.size ≤ 1000000000) :
    Calls Tryd.prog 97 #[.string s] w fun e w' => e = .returned (.tuple #[.int .i64 (oneT b r).1, .int .i64 ((oneT b r).2 : Nat)]) ∧ Fr w w' := by
  obtain ⟨p, hp⟩ : ∃ p, p = oneT b r := ⟨_, rfl⟩
  have HP := Lib.hid hp
  rw [← hp]
  clear hp
  have HS := Lib.hid hs
  have hsz : s.size = r.length + 1 := by rw [← toB_len, hs]; rfl
  have hks : 0 < s.size := by omega
  have e1 : s[0] = b := toB_get (by rw [hs]; rfl) hks
  have hb0 : ((s[0]).toNat : Int) ≤ 255 := by have := (s[0]).toNat_lt; omega
  have hb1 : (0 : Int) ≤ ((s[0]).toNat : Int) := by omega
  have hlt2 : (0 : Int) < (s.size : Int) := by omega
  have HB := Lib.hid (show (s[0]).toNat = b.toNat by rw [e1])
  have HSIZE := Lib.hid hsz
  clear hs e1 hsz
  go_enter Tryd.func97, Tryd.ntmps97
  rcases sizeF_cases b with ⟨hb, hbb⟩ | ⟨hb, hbb⟩ | ⟨hb, hbb⟩ | ⟨hb, hbb⟩ | ⟨hb, hbb⟩
  · have hd : decide (((s[0]).toNat : Int) < 128) = true := by rw [HB.out]; simp; omega
    have HE := Lib.hid (HP.out.trans (oneT_small hbb))
    go_wp2_with fail
    go_ret2
    rw [HE.out, HB.out]
    exact ⟨rfl, Below.refl _ _⟩
  · have hd : decide (((s[0]).toNat : Int) < 128) = false := by rw [HB.out]; simp; omega
    have HE := Lib.hid (HP.out.trans (oneT_none (.inl hb)))
    go_wp2_with fail
    refine (within_any _ _ _ _).mono ?_
    rintro e w ⟨rfl, rfl⟩
    have h1 : inB ((s[0]).toNat : Int) 192 223 = false := by rw [HB.out]; simp [inB]; omega
    rw [h1]
    go_wp2_with fail
    refine (within_any _ _ _ _).mono ?_
    rintro e w ⟨rfl, rfl⟩
    have h2 : inB ((s[0]).toNat : Int) 224 239 = false := by rw [HB.out]; simp [inB]; omega
    rw [h2]
    go_wp2_with fail
    refine (within_any _ _ _ _).mono ?_
    rintro e w ⟨rfl, rfl⟩
    have h3 : inB ((s[0]).toNat : Int) 240 247 = false := by rw [HB.out]; simp [inB]; omega
    rw [h3]
    go_wp2_with fail
    go_ret2
    rw [HE.out]
    exact ⟨rfl, Below.refl _ _⟩
  · have hd : decide (((s[0]).toNat : Int) < 128) = false := by rw [HB.out]; simp; omega
    go_wp2_with fail
    refine (within_any _ _ _ _).mono ?_
    rintro e w ⟨rfl, rfl⟩
    have h1 : inB ((s[0]).toNat : Int) 192 223 = true := by rw [HB.out]; simp [inB]; omega
    rw [h1]
    obtain ⟨c0, hc0⟩ : ∃ q, q = leadF b := ⟨_, rfl⟩
    have ha : bits .and .i64 ((s[0]).toNat : Int) 31 = c0 := by
      rw [and_31 (by omega) (by omega), HB.out, hc0, leadF, if_neg (by omega), if_pos (by omega)]
    have HC0 := Lib.hid hc0
    clear hc0
    have HSZ := Lib.hid hb
    have hl := lead_bounds b
    by_cases hlen : s.size < 2
    · have HE := Lib.hid (HP.out.trans (oneT_none (.inr (by rw [HSZ.out, ← HSIZE.out]; omega))))
      have hd : decide ((s.size : Int) < 2) = true := by simp; omega
      go_wp2_with fail
      go_ret2
      rw [HE.out]
      exact ⟨rfl, Below.refl _ _⟩
    · have hd : decide ((s.size : Int) < 2) = false := by simp; omega
      go_wp2_with fail
      go_loopw [6, 7] (fun cv iv wr => ∃ (i : Nat) (c : Int), iv = .int .i64 ((i + 1 : Nat) : Int) ∧ cv = .int .i64 c ∧ i + 1 ≤ 2 ∧ accC (leadF b) (r.take i) = some c ∧ wr = w) (fun _ iv _ => 2 - (intOf iv).toNat)
      case atStart => exact ⟨0, c0, rfl, rfl, by omega, by rw [HC0.out]; rfl, rfl⟩
      case round =>
        obtain ⟨i, c, rfl, rfl, hi, hacc, rfl⟩ := hrel
        have hcb := acc_bound (by rw [HSZ.out]; omega) (by rw [HSZ.out]; omega) (by omega) hacc
        have HA := Lib.hid hacc
        clear hacc
        by_cases hlt : i + 1 < 2
        · obtain ⟨x, hx⟩ := some_at (l := toB s) (toB_len s) (show i + 1 < s.size by omega)
          have hks : i + 1 < s.size := by omega
          have e1 : s[i + 1] = x := toB_get hx hks
          have hx' : r[i]? = some x := by rw [HS.out] at hx; simpa using hx
          have HX := Lib.hid hx'
          have HCB := Lib.hid (cont_byte x)
          obtain ⟨v, hv⟩ : ∃ v : Int, v = ((s[i + 1]).toNat : Int) := ⟨_, rfl⟩
          have hv2 : ((s[i + 1]).toNat : Int) = (x.toNat : Int) := by rw [e1]
          have hxb := x.toNat_lt
          rw [← hv2] at HCB
          have hi1 : ((i + 1 : Nat) : Int) < (s.size : Int) := by omega
          have hi2 : (0 : Int) ≤ ((i + 1 : Nat) : Int) := by omega
          have hi3 : ((i + 1 : Nat) : Int) < 2 := by omega
          by_cases hc : 128 ≤ x.toNat ∧ x.toNat ≤ 191
          · have hcf : contF c x = some (c * 64 + (x.toNat : Int) % 64) := by rw [contF, if_pos hc]
            have hd1 : (bits .and .u8 ((s[i + 1]).toNat : Int) 192 == 128) = true := by
              rw [HCB.out]; simp; omega
            have hsh : IntKind.i64.wrap (c * 64) = c * 64 := IntWalk.i64_in _ (by omega)
            obtain ⟨y, hyy⟩ : ∃ y : Int, y = (x.toNat : Int) % 64 := ⟨_, rfl⟩
            have hy1 : bits .and .u8 ((s[i + 1]).toNat : Int) 63 = y := by rw [hv2, hyy]; exact and8_63 (by omega) (by omega)
            have hy0 : 0 ≤ y ∧ y < 64 := by omega
            have hw : IntKind.i64.wrap y = y := IntWalk.i64_in _ (by omega)
            obtain ⟨d, hdd⟩ : ∃ d : Int, d = c * 64 + y := ⟨_, rfl⟩
            have hor : bits .or .i64 (c * 64) y = d := by rw [hdd]; exact or_join 6 (by omega) (by omega) (by omega) (by omega) (by omega) (by omega)
            have HCF := Lib.hid (hcf.trans (by rw [← hyy, ← hdd]))
            clear hv hv2 e1 hx hx' hcf hyy hdd
            go_wp2_with fail
            go_roundw
            case rel => exact ⟨i + 1, d, by go_num, rfl, by omega, accC_take_some HA.out HX.out HCF.out, by first | rfl | trivial⟩
            case measure => simp [intOf]; omega
          · have hcf : contF c x = none := by rw [contF, if_neg hc]
            have HE := Lib.hid (HP.out.trans (oneT_broken (by rw [HSZ.out]; exact accC_take_none HA.out HX.out hcf (by omega))))
            have hd1 : (bits .and .u8 ((s[i + 1]).toNat : Int) 192 == 128) = false := by
              rw [HCB.out]; simp; omega
            clear hv hv2 e1 hx hx'
            go_wp2_with fail
            go_ret2
            rw [HE.out]
            exact ⟨rfl, Below.refl _ _⟩
        · have hge : ¬ (((i + 1 : Nat) : Int) < 2) := by omega
          have hi2 : i = 2 - 1 := by omega
          subst hi2
          have HE := Lib.hid (HP.out.trans (oneT_some (by rw [HSZ.out]; omega) (by rw [HSZ.out, ← HSIZE.out]; omega) (by rw [HSZ.out]; exact HA.out)))
          go_wp2_with fail
          refine (implLeast_any 2 _ (by decide)).mono ?_
          rintro e w1 ⟨rfl, f1⟩
          by_cases hle : c < leastC 2
          · have hd1 : decide (c < leastC 2) = true := by simpa using hle
            go_wp2_with fail
            go_ret2
            rw [HE.out, HSZ.out, if_pos (.inl hle)]
            exact ⟨rfl, f1⟩
          · have hd1 : decide (c < leastC 2) = false := by simpa using hle
            go_wp2_with fail
            refine (implSign_any _ _).mono ?_
            rintro e w2 ⟨rfl, hw2⟩
            rw [← hw2] at f1
            clear hw2
            rcases (show sgnB c = true ∨ sgnB c = false by cases sgnB c <;> simp) with hsg | hsg
            · rw [hsg]
              go_wp2_with fail
              go_ret2
              rw [HE.out, HSZ.out, if_neg (by rw [hsg]; simp; omega)]
              exact ⟨rfl, f1⟩
            · rw [hsg]
              go_wp2_with fail
              go_ret2
              rw [HE.out, HSZ.out, if_pos (.inr hsg)]
              exact ⟨rfl, f1⟩
  · have hd : decide (((s[0]).toNat : Int) < 128) = false := by rw [HB.out]; simp; omega
    go_wp2_with fail
    refine (within_any _ _ _ _).mono ?_
    rintro e w ⟨rfl, rfl⟩
    have h1 : inB ((s[0]).toNat : Int) 192 223 = false := by rw [HB.out]; simp [inB]; omega
    rw [h1]
    go_wp2_with fail
    refine (within_any _ _ _ _).mono ?_
    rintro e w ⟨rfl, rfl⟩
    have h2 : inB ((s[0]).toNat : Int) 224 239 = true := by rw [HB.out]; simp [inB]; omega
    rw [h2]
    obtain ⟨c0, hc0⟩ : ∃ q, q = leadF b := ⟨_, rfl⟩
    have ha : bits .and .i64 ((s[0]).toNat : Int) 15 = c0 := by
      rw [and_15 (by omega) (by omega), HB.out, hc0, leadF, if_neg (by omega), if_neg (by omega), if_pos (by omega)]
    have HC0 := Lib.hid hc0
    clear hc0
    have HSZ := Lib.hid hb
    have hl := lead_bounds b
    by_cases hlen : s.size < 3
    · have HE := Lib.hid (HP.out.trans (oneT_none (.inr (by rw [HSZ.out, ← HSIZE.out]; omega))))
      have hd : decide ((s.size : Int) < 3) = true := by simp; omega
      go_wp2_with fail
      go_ret2
      rw [HE.out]
      exact ⟨rfl, Below.refl _ _⟩
    · have hd : decide ((s.size : Int) < 3) = false := by simp; omega
      go_wp2_with fail
      go_loopw [6, 7] (fun cv iv wr => ∃ (i : Nat) (c : Int), iv = .int .i64 ((i + 1 : Nat) : Int) ∧ cv = .int .i64 c ∧ i + 1 ≤ 3 ∧ accC (leadF b) (r.take i) = some c ∧ wr = w) (fun _ iv _ => 3 - (intOf iv).toNat)
      case atStart => exact ⟨0, c0, rfl, rfl, by omega, by rw [HC0.out]; rfl, rfl⟩
      case round =>
        obtain ⟨i, c, rfl, rfl, hi, hacc, rfl⟩ := hrel
        have hcb := acc_bound (by rw [HSZ.out]; omega) (by rw [HSZ.out]; omega) (by omega) hacc
        have HA := Lib.hid hacc
        clear hacc
        by_cases hlt : i + 1 < 3
        · obtain ⟨x, hx⟩ := some_at (l := toB s) (toB_len s) (show i + 1 < s.size by omega)
          have hks : i + 1 < s.size := by omega
          have e1 : s[i + 1] = x := toB_get hx hks
          have hx' : r[i]? = some x := by rw [HS.out] at hx; simpa using hx
          have HX := Lib.hid hx'
          have HCB := Lib.hid (cont_byte x)
          obtain ⟨v, hv⟩ : ∃ v : Int, v = ((s[i + 1]).toNat : Int) := ⟨_, rfl⟩
          have hv2 : ((s[i + 1]).toNat : Int) = (x.toNat : Int) := by rw [e1]
          have hxb := x.toNat_lt
          rw [← hv2] at HCB
          have hi1 : ((i + 1 : Nat) : Int) < (s.size : Int) := by omega
          have hi2 : (0 : Int) ≤ ((i + 1 : Nat) : Int) := by omega
          have hi3 : ((i + 1 : Nat) : Int) < 3 := by omega
          by_cases hc : 128 ≤ x.toNat ∧ x.toNat ≤ 191
          · have hcf : contF c x = some (c * 64 + (x.toNat : Int) % 64) := by rw [contF, if_pos hc]
            have hd1 : (bits .and .u8 ((s[i + 1]).toNat : Int) 192 == 128) = true := by
              rw [HCB.out]; simp; omega
            have hsh : IntKind.i64.wrap (c * 64) = c * 64 := IntWalk.i64_in _ (by omega)
            obtain ⟨y, hyy⟩ : ∃ y : Int, y = (x.toNat : Int) % 64 := ⟨_, rfl⟩
            have hy1 : bits .and .u8 ((s[i + 1]).toNat : Int) 63 = y := by rw [hv2, hyy]; exact and8_63 (by omega) (by omega)
            have hy0 : 0 ≤ y ∧ y < 64 := by omega
            have hw : IntKind.i64.wrap y = y := IntWalk.i64_in _ (by omega)
            obtain ⟨d, hdd⟩ : ∃ d : Int, d = c * 64 + y := ⟨_, rfl⟩
            have hor : bits .or .i64 (c * 64) y = d := by rw [hdd]; exact or_join 6 (by omega) (by omega) (by omega) (by omega) (by omega) (by omega)
            have HCF := Lib.hid (hcf.trans (by rw [← hyy, ← hdd]))
            clear hv hv2 e1 hx hx' hcf hyy hdd
            go_wp2_with fail
            go_roundw
            case rel => exact ⟨i + 1, d, by go_num, rfl, by omega, accC_take_some HA.out HX.out HCF.out, by first | rfl | trivial⟩
            case measure => simp [intOf]; omega
          · have hcf : contF c x = none := by rw [contF, if_neg hc]
            have HE := Lib.hid (HP.out.trans (oneT_broken (by rw [HSZ.out]; exact accC_take_none HA.out HX.out hcf (by omega))))
            have hd1 : (bits .and .u8 ((s[i + 1]).toNat : Int) 192 == 128) = false := by
              rw [HCB.out]; simp; omega
            clear hv hv2 e1 hx hx'
            go_wp2_with fail
            go_ret2
            rw [HE.out]
            exact ⟨rfl, Below.refl _ _⟩
        · have hge : ¬ (((i + 1 : Nat) : Int) < 3) := by omega
          have hi2 : i = 3 - 1 := by omega
          subst hi2
          have HE := Lib.hid (HP.out.trans (oneT_some (by rw [HSZ.out]; omega) (by rw [HSZ.out, ← HSIZE.out]; omega) (by rw [HSZ.out]; exact HA.out)))
          go_wp2_with fail
          refine (implLeast_any 3 _ (by decide)).mono ?_
          rintro e w1 ⟨rfl, f1⟩
          by_cases hle : c < leastC 3
          · have hd1 : decide (c < leastC 3) = true := by simpa using hle
            go_wp2_with fail
            go_ret2
            rw [HE.out, HSZ.out, if_pos (.inl hle)]
            exact ⟨rfl, f1⟩
          · have hd1 : decide (c < leastC 3) = false := by simpa using hle
            go_wp2_with fail
            refine (implSign_any _ _).mono ?_
            rintro e w2 ⟨rfl, hw2⟩
            rw [← hw2] at f1
            clear hw2
            rcases (show sgnB c = true ∨ sgnB c = false by cases sgnB c <;> simp) with hsg | hsg
            · rw [hsg]
              go_wp2_with fail
              go_ret2
              rw [HE.out, HSZ.out, if_neg (by rw [hsg]; simp; omega)]
              exact ⟨rfl, f1⟩
            · rw [hsg]
              go_wp2_with fail
              go_ret2
              rw [HE.out, HSZ.out, if_pos (.inr hsg)]
              exact ⟨rfl, f1⟩
  · have hd : decide (((s[0]).toNat : Int) < 128) = false := by rw [HB.out]; simp; omega
    go_wp2_with fail
    refine (within_any _ _ _ _).mono ?_
    rintro e w ⟨rfl, rfl⟩
    have h1 : inB ((s[0]).toNat : Int) 192 223 = false := by rw [HB.out]; simp [inB]; omega
    rw [h1]
    go_wp2_with fail
    refine (within_any _ _ _ _).mono ?_
    rintro e w ⟨rfl, rfl⟩
    have h2 : inB ((s[0]).toNat : Int) 224 239 = false := by rw [HB.out]; simp [inB]; omega
    rw [h2]
    go_wp2_with fail
    refine (within_any _ _ _ _).mono ?_
    rintro e w ⟨rfl, rfl⟩
    have h3 : inB ((s[0]).toNat : Int) 240 247 = true := by rw [HB.out]; simp [inB]; omega
    rw [h3]
    obtain ⟨c0, hc0⟩ : ∃ q, q = leadF b := ⟨_, rfl⟩
    have ha : bits .and .i64 ((s[0]).toNat : Int) 7 = c0 := by
      rw [and_7 (by omega) (by omega), HB.out, hc0, leadF, if_neg (by omega), if_neg (by omega), if_neg (by omega)]
    have HC0 := Lib.hid hc0
    clear hc0
    have HSZ := Lib.hid hb
    have hl := lead_bounds b
    by_cases hlen : s.size < 4
    · have HE := Lib.hid (HP.out.trans (oneT_none (.inr (by rw [HSZ.out, ← HSIZE.out]; omega))))
      have hd : decide ((s.size : Int) < 4) = true := by simp; omega
      go_wp2_with fail
      go_ret2
      rw [HE.out]
      exact ⟨rfl, Below.refl _ _⟩
    · have hd : decide ((s.size : Int) < 4) = false := by simp; omega
      go_wp2_with fail
      go_loopw [6, 7] (fun cv iv wr => ∃ (i : Nat) (c : Int), iv = .int .i64 ((i + 1 : Nat) : Int) ∧ cv = .int .i64 c ∧ i + 1 ≤ 4 ∧ accC (leadF b) (r.take i) = some c ∧ wr = w) (fun _ iv _ => 4 - (intOf iv).toNat)
      case atStart => exact ⟨0, c0, rfl, rfl, by omega, by rw [HC0.out]; rfl, rfl⟩
      case round =>
        obtain ⟨i, c, rfl, rfl, hi, hacc, rfl⟩ := hrel
        have hcb := acc_bound (by rw [HSZ.out]; omega) (by rw [HSZ.out]; omega) (by omega) hacc
        have HA := Lib.hid hacc
        clear hacc
        by_cases hlt : i + 1 < 4
        · obtain ⟨x, hx⟩ := some_at (l := toB s) (toB_len s) (show i + 1 < s.size by omega)
          have hks : i + 1 < s.size := by omega
          have e1 : s[i + 1] = x := toB_get hx hks
          have hx' : r[i]? = some x := by rw [HS.out] at hx; simpa using hx
          have HX := Lib.hid hx'
          have HCB := Lib.hid (cont_byte x)
          obtain ⟨v, hv⟩ : ∃ v : Int, v = ((s[i + 1]).toNat : Int) := ⟨_, rfl⟩
          have hv2 : ((s[i + 1]).toNat : Int) = (x.toNat : Int) := by rw [e1]
          have hxb := x.toNat_lt
          rw [← hv2] at HCB
          have hi1 : ((i + 1 : Nat) : Int) < (s.size : Int) := by omega
          have hi2 : (0 : Int) ≤ ((i + 1 : Nat) : Int) := by omega
          have hi3 : ((i + 1 : Nat) : Int) < 4 := by omega
          by_cases hc : 128 ≤ x.toNat ∧ x.toNat ≤ 191
          · have hcf : contF c x = some (c * 64 + (x.toNat : Int) % 64) := by rw [contF, if_pos hc]
            have hd1 : (bits .and .u8 ((s[i + 1]).toNat : Int) 192 == 128) = true := by
              rw [HCB.out]; simp; omega
            have hsh : IntKind.i64.wrap (c * 64) = c * 64 := IntWalk.i64_in _ (by omega)
            obtain ⟨y, hyy⟩ : ∃ y : Int, y = (x.toNat : Int) % 64 := ⟨_, rfl⟩
            have hy1 : bits .and .u8 ((s[i + 1]).toNat : Int) 63 = y := by rw [hv2, hyy]; exact and8_63 (by omega) (by omega)
            have hy0 : 0 ≤ y ∧ y < 64 := by omega
            have hw : IntKind.i64.wrap y = y := IntWalk.i64_in _ (by omega)
            obtain ⟨d, hdd⟩ : ∃ d : Int, d = c * 64 + y := ⟨_, rfl⟩
            have hor : bits .or .i64 (c * 64) y = d := by rw [hdd]; exact or_join 6 (by omega) (by omega) (by omega) (by omega) (by omega) (by omega)
            have HCF := Lib.hid (hcf.trans (by rw [← hyy, ← hdd]))
            clear hv hv2 e1 hx hx' hcf hyy hdd
            go_wp2_with fail
            go_roundw
            case rel => exact ⟨i + 1, d, by go_num, rfl, by omega, accC_take_some HA.out HX.out HCF.out, by first | rfl | trivial⟩
            case measure => simp [intOf]; omega
          · have hcf : contF c x = none := by rw [contF, if_neg hc]
            have HE := Lib.hid (HP.out.trans (oneT_broken (by rw [HSZ.out]; exact accC_take_none HA.out HX.out hcf (by omega))))
            have hd1 : (bits .and .u8 ((s[i + 1]).toNat : Int) 192 == 128) = false := by
              rw [HCB.out]; simp; omega
            clear hv hv2 e1 hx hx'
            go_wp2_with fail
            go_ret2
            rw [HE.out]
            exact ⟨rfl, Below.refl _ _⟩
        · have hge : ¬ (((i + 1 : Nat) : Int) < 4) := by omega
          have hi2 : i = 4 - 1 := by omega
          subst hi2
          have HE := Lib.hid (HP.out.trans (oneT_some (by rw [HSZ.out]; omega) (by rw [HSZ.out, ← HSIZE.out]; omega) (by rw [HSZ.out]; exact HA.out)))
          go_wp2_with fail
          refine (implLeast_any 4 _ (by decide)).mono ?_
          rintro e w1 ⟨rfl, f1⟩
          by_cases hle : c < leastC 4
          · have hd1 : decide (c < leastC 4) = true := by simpa using hle
            go_wp2_with fail
            go_ret2
            rw [HE.out, HSZ.out, if_pos (.inl hle)]
            exact ⟨rfl, f1⟩
          · have hd1 : decide (c < leastC 4) = false := by simpa using hle
            go_wp2_with fail
            refine (implSign_any _ _).mono ?_
            rintro e w2 ⟨rfl, hw2⟩
            rw [← hw2] at f1
            clear hw2
            rcases (show sgnB c = true ∨ sgnB c = false by cases sgnB c <;> simp) with hsg | hsg
            · rw [hsg]
              go_wp2_with fail
              go_ret2
              rw [HE.out, HSZ.out, if_neg (by rw [hsg]; simp; omega)]
              exact ⟨rfl, f1⟩
            · rw [hsg]
              go_wp2_with fail
              go_ret2
              rw [HE.out, HSZ.out, if_pos (.inr hsg)]
              exact ⟨rfl, f1⟩
end Go.Proofs.YtfmifaneggenoaaDoor
