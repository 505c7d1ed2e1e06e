/-
  Decode, the program's and the reference's.
-/
import Derived.Test.YtaogikhpglcmjaaGreatDoorGe
namespace Go.Proofs.YtaogikhpglcmjaaGreatDoor
open Go.RowKit

set_option linter.unusedVariables false
set_option linter.unusedSimpArgs false
/-- What Decode hands back. -/
def DecM (s : List UInt8) (w : World) (e : Ending) (w' : World) : Prop :=
  ∃ (A : Option Addr) (n c : Nat), e = .returned (.tuple #[.slice A n c, .bool (decR s).2]) ∧ n = (decR s).1.length ∧ w'.ownsRow w.heap.size 3 1 (.slice A n c) n ((decR s).1.map (Value.int .i64)) ∧ Fr w w'
theorem drop_cons {s : List UInt8} {a : Nat} {b : UInt8} (h : s[a]? = some b) : s.drop a = b :: s.drop (a + 1) := by
  obtain ⟨hi, e⟩ := List.getElem?_eq_some_iff.1 h
  rw [List.drop_eq_getElem_cons hi, e]
set_option maxRecDepth 100000 in
set_option maxHeartbeats 4000000 in
theorem implDecode_any (s : ByteArray) (w : World) (hz : s.size ≤ 16777216) :
    Calls Tryz.prog 134 #[.string s] w (DecM (toB s) w) := by
  have H0 := (Hp.start w).lit0 3 1
  obtain ⟨N, hN⟩ : ∃ N, N = s.size := ⟨_, rfl⟩
  have HN := Lib.hid hN
  have HTL := Lib.hid (show (toB s).length = N by rw [toB_len, hN])
  have hNb : N ≤ 16777216 := by omega
  rw [← hN] at hz
  go_enter Tryz.func134, Tryz.ntmps134
  go_wp2_with fail
  go_loopw [4, 5] (fun v av wr => ∃ (a : Nat) (o : List Int), av = .int .i64 a ∧ DSt (toB s) a o ∧ Hp [] w wr [.row 3 1 v o.length (o.map (Value.int .i64))]) (fun _ av _ => N - (intOf av).toNat)
  case atStart => exact ⟨0, [], rfl, DSt.start _, H0⟩
  case round =>
    clear H0
    obtain ⟨a, o, rfl, hst, H⟩ := hrel
    obtain ⟨B, d, rfl⟩ := H.shape 0 rfl
    have HST := Lib.hid hst
    have hal := hst.le
    have hol := hst.len
    rw [HTL.out] at hal
    clear hst
    have hsN : s.size = N := hN.symm
    by_cases hlt : a < N
    · obtain ⟨b, hb⟩ := some_at HTL.out hlt
      have HD := Lib.hid (drop_cons hb)
      have hlt2 : (a : Int) < (N : Int) := by omega
      have ha0 : (0 : Int) ≤ (a : Int) := by omega
      have hle2 : (a : Int) ≤ (N : Int) := by omega
      clear hb hN
      go_wp2_with fail
      refine (implSignAt_any _ b ((toB s).drop (a + 1)) _ (by rw [toB_extract, HD.out]; exact List.take_of_length_le (by rw [← HD.out, List.length_drop, HTL.out]; omega)) (by rw [← toB_len, toB_extract, List.length_take, List.length_drop, HTL.out]; omega)).mono ?_
      rintro e w1 ⟨rfl, f1⟩
      replace H := H.go f1
      have HO := Lib.hid (show oneF ((toB s).drop a) = oneT b ((toB s).drop (a + 1)) by rw [HD.out]; rfl)
      generalize oneT b ((toB s).drop (a + 1)) = p at HO ⊢
      obtain ⟨c0, k⟩ := p
      clear f1
      by_cases hk : k = 0
      · subst hk
        have HE := Lib.hid (HST.out.stop (by rw [HTL.out]; exact hlt) HO.out)
        go_wp2_with fail
        go_ret2
        refine ⟨none, 0, 0, by rw [HE.out]; rfl, by rw [HE.out]; rfl, by rw [HE.out]; exact own_nil _ _ _ _, H.fr⟩
      · have hk' : ((k : Int) == 0) = false := by simp; omega
        have HNX := Lib.hid (HST.out.next (by rw [HTL.out]; exact hlt) HO.out hk)
        have hnl := HNX.out.le
        rw [HTL.out] at hnl
        go_wp2_with (at_builtin; refine wp_appM (f := Value.int .i64) (H) rfl _ _ _ rfl Tryz.underlying82 infoInt rfl 0 _ _ rfl rfl _ _ (c0) rfl (by simp) rfl (by first | (simp only [maxLen]; omega) | (simp [maxLen]; done) | (simp [maxLen]; omega)) (by first | omega | (simp; done) | (simp; omega)) ?_)
        intro v' w' H'
        have H2 := Lib.hid (show Hp [] w w' [.row 3 1 v' (o ++ [c0]).length ((o ++ [c0]).map (Value.int .i64))] by
          rw [List.map_append, List.length_append]; exact H')
        clear H' H
        go_wp2_with fail
        go_roundw
        case rel => exact ⟨a + k, o ++ [c0], by go_num, HNX.out, H2.out⟩
        case measure => simp [intOf]; omega
    · have hge : ¬ ((a : Int) < (N : Int)) := by omega
      have HE := Lib.hid (HST.out.done (by rw [HTL.out]; omega))
      clear hN
      go_wp2_with fail
      go_ret2
      exact ⟨B, o.length, d, by rw [HE.out]; rfl, by rw [HE.out], by rw [HE.out]; exact H.out 0 rfl, H.fr⟩

set_option maxRecDepth 100000 in
set_option maxHeartbeats 8000000 in
theorem l3One_any (s : ByteArray) (a : Nat) (b : UInt8) (r : List UInt8) (w : World) (hb : (toB s)[a]? = some b) (hr : r = (toB s).drop (a + 1)) (hz : s.size ≤ 16777216) :
    Calls Tryz.prog 142 #[.string s, .int .i64 a] w fun e w' => e = .returned (.tuple #[.int .i64 (oneT b r).1, .int .i64 ((oneT b r).2 : Nat)]) ∧ Fr w w' := by
  obtain ⟨p, hp⟩ : ∃ p, p = oneT b r := ⟨_, rfl⟩
  have HP := Lib.hid hp
  rw [← hp]
  clear hp
  obtain ⟨N, hN⟩ : ∃ N, N = s.size := ⟨_, rfl⟩
  have HN := Lib.hid hN
  have HTL := Lib.hid (show (toB s).length = N by rw [toB_len, hN])
  have hNb : N ≤ 16777216 := by omega
  have haN : a < N := by rw [← HTL.out]; exact (List.getElem?_eq_some_iff.1 hb).1
  have hrl : r.length + (a + 1) = N := by rw [hr, List.length_drop, HTL.out]; omega
  have hks : a < s.size := by rw [← hN]; exact haN
  have e1 : s[a] = b := toB_get hb hks
  have hb0 : ((s[a]).toNat : Int) ≤ 255 := by have := (s[a]).toNat_lt; omega
  have hb1 : (0 : Int) ≤ ((s[a]).toNat : Int) := by omega
  have hlt2 : (a : Int) < (N : Int) := by omega
  have ha0 : (0 : Int) ≤ (a : Int) := by omega
  have HB := Lib.hid (show (s[a]).toNat = b.toNat by rw [e1])
  have LB := Lib.hid (show 0 ≤ leadF b ∧ leadF b < 256 by have := (lead_bounds b).1; have h2 := b.toNat_lt; refine ⟨this, ?_⟩; unfold leadF; repeat' split; all_goals omega)
  have hsN : s.size = N := hN.symm
  clear hb e1 hz hN
  go_enter Tryz.func142, Tryz.ntmps142
  rcases sizeF_cases b with ⟨hb, hbb⟩ | ⟨hb, hbb⟩ | ⟨hb, hbb⟩ | ⟨hb, hbb⟩ | ⟨hb, hbb⟩
  · have hd0 : decide (((s[a]).toNat : Int) < 128) = true := by rw [HB.out]; simp; omega
    obtain ⟨c0, hc0⟩ : ∃ q, q = leadF b := ⟨_, rfl⟩
    have ha : ((s[a]).toNat : Int) = c0 := by rw [HB.out, hc0, leadF, if_pos hbb]
    have HC0 := Lib.hid hc0
    rw [ha] at hb0 hb1 hd0
    clear hc0
    have HSZ := Lib.hid hb
    by_cases hlen : N < a + 1
    · have HE := Lib.hid (HP.out.trans (oneT_none (.inr (by rw [HSZ.out]; omega))))
      have hw : IntKind.i64.wrap ((a : Int) + 1) = (a : Int) + 1 := IntWalk.i64_in _ (by omega)
      have hd : decide ((N : Int) < (a : Int) + 1) = true := by simp; omega
      go_wp2_with fail
      go_ret2
      rw [HE.out]
      exact ⟨rfl, Below.refl _ _⟩
    · have hw : IntKind.i64.wrap ((a : Int) + 1) = (a : Int) + 1 := IntWalk.i64_in _ (by omega)
      have hd : decide ((N : Int) < (a : Int) + 1) = false := by simp; omega
      go_wp2_with fail
      go_loopw [8, 9] (fun cv iv wr => ∃ (i : Nat) (c : Int), iv = .int .i64 ((i + 1 : Nat) : Int) ∧ cv = .int .i64 c ∧ i + 1 ≤ 1 ∧ accC (leadF b) (r.take i) = some c ∧ 0 ≤ c ∧ c < 8388608 ∧ wr = w) (fun _ iv _ => 1 - (intOf iv).toNat)
      case atStart => exact ⟨0, c0, rfl, rfl, by omega, by rw [HC0.out]; rfl, by rw [HC0.out]; exact LB.out.1, by have := LB.out.2; rw [HC0.out]; omega, rfl⟩
      case round =>
        obtain ⟨i, c, rfl, rfl, hi, hacc, hc0, hc1, rfl⟩ := hrel
        have HA := Lib.hid hacc
        clear hacc hw hd
        by_cases hlt : i + 1 < 1
        · obtain ⟨q, hq⟩ : ∃ q, q = a + (i + 1) := ⟨_, rfl⟩
          have hqN : q < N := by omega
          obtain ⟨x, hx⟩ := some_at (l := toB s) HTL.out hqN
          have hkq : q < s.size := by rw [← HN.out]; omega
          have e1 : s[q] = x := toB_get hx hkq
          have hx' : r[i]? = some x := by rw [hr, List.getElem?_drop]; rw [show a + 1 + i = q by omega]; exact hx
          have HX := Lib.hid hx'
          have hv2 : ((s[q]).toNat : Int) = (x.toNat : Int) := by rw [e1]
          have HV2 := Lib.hid hv2
          have hxb := x.toNat_lt
          have hwq : IntKind.i64.wrap ((a : Int) + ((i : Int) + 1)) = (q : Int) := by rw [IntWalk.i64_in _ (by omega)]; omega
          have hi2 : (0 : Int) ≤ (q : Int) := by omega
          have hi3 : ((i : Int) + 1) < 1 := by omega
          have hi4 : (q : Int) < (N : Int) := by omega
          have hv0 : (0 : Int) ≤ ((s[q]).toNat : Int) := by omega
          have hv3 : ((s[q]).toNat : Int) ≤ 255 := by omega
          clear hx hx' e1 hv2 hq
          by_cases hc : 128 ≤ x.toNat ∧ x.toNat ≤ 191
          · have hcf : contF c x = some (c * 64 + (x.toNat : Int) % 64) := by rw [contF, if_pos hc]
            have hd1 : decide (((s[q]).toNat : Int) < 128) = false := by rw [HV2.out]; simp; omega
            have hd2 : decide (191 < ((s[q]).toNat : Int)) = false := by rw [HV2.out]; simp; omega
            have hsh : IntKind.i64.wrap (c * 64) = c * 64 := IntWalk.i64_in _ (by omega)
            obtain ⟨y, hyy⟩ : ∃ y : Int, y = (x.toNat : Int) % 64 := ⟨_, rfl⟩
            have hy1 : bits .and .i64 ((s[q]).toNat : Int) 63 = y := by rw [HV2.out, hyy]; exact and_63 (by omega) (by omega)
            obtain ⟨d, hdd⟩ : ∃ d : Int, d = c * 64 + y := ⟨_, rfl⟩
            have hor : IntKind.i64.wrap (c * 64 + y) = d := by rw [hdd]; exact IntWalk.i64_in _ (by omega)
            have HCF := Lib.hid (accC_take_some HA.out HX.out (hcf.trans (by rw [← hyy, ← hdd])))
            have hdb := acc_bound (by rw [HSZ.out]; omega) (by rw [HSZ.out]; omega) (by omega) HCF.out
            clear hcf hyy hdd
            go_wp2_with fail
            go_roundw
            case rel => exact ⟨i + 1, d, by go_num, rfl, by omega, HCF.out, hdb.1, hdb.2, by first | rfl | trivial⟩
            case measure => simp [intOf]; omega
          · have hcf : contF c x = none := by rw [contF, if_neg hc]
            have HE := Lib.hid (HP.out.trans (oneT_broken (by rw [HSZ.out]; exact accC_take_none HA.out HX.out hcf (by omega))))
            clear hcf
            by_cases hlo : x.toNat < 128
            · have hd1 : decide (((s[q]).toNat : Int) < 128) = true := by rw [HV2.out]; simp; omega
              go_wp2_with fail
              go_ret2
              rw [HE.out]
              exact ⟨rfl, Below.refl _ _⟩
            · have hd1 : decide (((s[q]).toNat : Int) < 128) = false := by rw [HV2.out]; simp; omega
              have hd2 : decide (191 < ((s[q]).toNat : Int)) = true := by rw [HV2.out]; simp; omega
              go_wp2_with fail
              go_ret2
              rw [HE.out]
              exact ⟨rfl, Below.refl _ _⟩
        · have hge : ¬ (((i : Int) + 1) < 1) := by omega
          have hi2 : i = 1 - 1 := by omega
          subst hi2
          have HE := Lib.hid (HP.out.trans (oneT_some (by rw [HSZ.out]; omega) (by rw [HSZ.out]; omega) (by rw [HSZ.out]; exact HA.out)))
          have HSL := Lib.hid (fun (hs : sgnB c = true) => size_least (by rw [HSZ.out]; omega) (by rw [HSZ.out]; omega) (show accC (leadF b) (r.take (sizeF b - 1)) = some c by rw [HSZ.out]; exact HA.out) hs)
          go_wp2_with fail
          refine (specSign_any _ _).mono ?_
          rintro e w1 ⟨rfl, rfl⟩
          rcases (show sgnB c = true ∨ sgnB c = false by cases sgnB c <;> simp) with hsg | hsg
          · have hiff := HSL.out hsg
            rw [HSZ.out] at hiff
            have HIF := Lib.hid hiff
            clear hiff
            have HEN := Lib.hid (show encL [c] = enc1 c by rw [encL_good (by simpa using hsg)]; simp)
            rw [hsg]
            have K := (Hp.start w1).lit 3 1 1 ([c].map (Value.int .i64)) rfl (by simp [maxLen])
            go_wp2_with fail
            refine (specEncode_any _ 1 1 [c] _ (K.rd 0 rfl) (by decide)).mono ?_
            rintro e w2 ⟨rfl, f2⟩
            have F2 := Lib.hid (K.go f2).fr
            rw [HEN.out]
            obtain ⟨tx, htx⟩ : ∃ q, q = ofB (enc1 c) := ⟨_, rfl⟩
            have HT := Lib.hid (show tx.size = szC c by rw [htx, ofB_size, enc1_len])
            rw [← htx]
            clear htx K f2
            by_cases hszc : szC c = 1
            · have hd1 : ((tx.size : Int) == 1) = true := by rw [HT.out]; simp; omega
              go_wp2_with fail
              go_ret2
              rw [HE.out, HSZ.out, if_neg (by
                rintro (h | h)
                · exact (HIF.out.1 h) hszc
                · rw [hsg] at h; cases h)]
              exact ⟨rfl, F2.out⟩
            · have hd1 : ((tx.size : Int) == 1) = false := by rw [HT.out]; simp; omega
              go_wp2_with fail
              go_ret2
              rw [HE.out, HSZ.out, if_pos (.inl (HIF.out.2 hszc))]
              exact ⟨rfl, F2.out⟩
          · rw [hsg]
            go_wp2_with fail
            go_ret2
            rw [HE.out, HSZ.out, if_pos (.inr hsg)]
            exact ⟨rfl, Below.refl _ _⟩
  · have hd0 : decide (((s[a]).toNat : Int) < 128) = false := by rw [HB.out]; simp; omega
    have HE := Lib.hid (HP.out.trans (oneT_none (.inl hb)))
    by_cases hlo : b.toNat < 192
    · have d1 : decide (192 ≤ ((s[a]).toNat : Int)) = false := by rw [HB.out]; simp; omega
      have d2 : decide (224 ≤ ((s[a]).toNat : Int)) = false := by rw [HB.out]; simp; omega
      have d3 : decide (240 ≤ ((s[a]).toNat : Int)) = false := by rw [HB.out]; simp; omega
      go_wp2_with fail
      go_ret2
      rw [HE.out]
      exact ⟨rfl, Below.refl _ _⟩
    · have d1 : decide (192 ≤ ((s[a]).toNat : Int)) = true := by rw [HB.out]; simp; omega
      have d2 : decide (224 ≤ ((s[a]).toNat : Int)) = true := by rw [HB.out]; simp; omega
      have d3 : decide (240 ≤ ((s[a]).toNat : Int)) = true := by rw [HB.out]; simp; omega
      have d4 : decide (((s[a]).toNat : Int) < 224) = false := by rw [HB.out]; simp; omega
      have d5 : decide (((s[a]).toNat : Int) < 240) = false := by rw [HB.out]; simp; omega
      have d6 : decide (((s[a]).toNat : Int) < 248) = false := by rw [HB.out]; simp; omega
      go_wp2_with fail
      go_ret2
      rw [HE.out]
      exact ⟨rfl, Below.refl _ _⟩
  · have hd0 : decide (((s[a]).toNat : Int) < 128) = false := by rw [HB.out]; simp; omega
    have d1 : decide (192 ≤ ((s[a]).toNat : Int)) = true := by rw [HB.out]; simp; omega
    have d2 : decide (((s[a]).toNat : Int) < 224) = true := by rw [HB.out]; simp; omega
    obtain ⟨c0, hc0⟩ : ∃ q, q = leadF b := ⟨_, rfl⟩
    have ha : bits .and .i64 ((s[a]).toNat : Int) 31 = c0 := by
      rw [and_31 (by omega) (by omega), HB.out, hc0, leadF, if_neg (by omega), if_pos (by omega)]
    have HC0 := Lib.hid hc0
    clear hc0
    have HSZ := Lib.hid hb
    by_cases hlen : N < a + 2
    · have HE := Lib.hid (HP.out.trans (oneT_none (.inr (by rw [HSZ.out]; omega))))
      have hw : IntKind.i64.wrap ((a : Int) + 2) = (a : Int) + 2 := IntWalk.i64_in _ (by omega)
      have hd : decide ((N : Int) < (a : Int) + 2) = true := by simp; omega
      go_wp2_with fail
      go_ret2
      rw [HE.out]
      exact ⟨rfl, Below.refl _ _⟩
    · have hw : IntKind.i64.wrap ((a : Int) + 2) = (a : Int) + 2 := IntWalk.i64_in _ (by omega)
      have hd : decide ((N : Int) < (a : Int) + 2) = false := by simp; omega
      go_wp2_with fail
      go_loopw [8, 9] (fun cv iv wr => ∃ (i : Nat) (c : Int), iv = .int .i64 ((i + 1 : Nat) : Int) ∧ cv = .int .i64 c ∧ i + 1 ≤ 2 ∧ accC (leadF b) (r.take i) = some c ∧ 0 ≤ c ∧ c < 8388608 ∧ wr = w) (fun _ iv _ => 2 - (intOf iv).toNat)
      case atStart => exact ⟨0, c0, rfl, rfl, by omega, by rw [HC0.out]; rfl, by rw [HC0.out]; exact LB.out.1, by have := LB.out.2; rw [HC0.out]; omega, rfl⟩
      case round =>
        obtain ⟨i, c, rfl, rfl, hi, hacc, hc0, hc1, rfl⟩ := hrel
        have HA := Lib.hid hacc
        clear hacc hw hd
        by_cases hlt : i + 1 < 2
        · obtain ⟨q, hq⟩ : ∃ q, q = a + (i + 1) := ⟨_, rfl⟩
          have hqN : q < N := by omega
          obtain ⟨x, hx⟩ := some_at (l := toB s) HTL.out hqN
          have hkq : q < s.size := by rw [← HN.out]; omega
          have e1 : s[q] = x := toB_get hx hkq
          have hx' : r[i]? = some x := by rw [hr, List.getElem?_drop]; rw [show a + 1 + i = q by omega]; exact hx
          have HX := Lib.hid hx'
          have hv2 : ((s[q]).toNat : Int) = (x.toNat : Int) := by rw [e1]
          have HV2 := Lib.hid hv2
          have hxb := x.toNat_lt
          have hwq : IntKind.i64.wrap ((a : Int) + ((i : Int) + 1)) = (q : Int) := by rw [IntWalk.i64_in _ (by omega)]; omega
          have hi2 : (0 : Int) ≤ (q : Int) := by omega
          have hi3 : ((i : Int) + 1) < 2 := by omega
          have hi4 : (q : Int) < (N : Int) := by omega
          have hv0 : (0 : Int) ≤ ((s[q]).toNat : Int) := by omega
          have hv3 : ((s[q]).toNat : Int) ≤ 255 := by omega
          clear hx hx' e1 hv2 hq
          by_cases hc : 128 ≤ x.toNat ∧ x.toNat ≤ 191
          · have hcf : contF c x = some (c * 64 + (x.toNat : Int) % 64) := by rw [contF, if_pos hc]
            have hd1 : decide (((s[q]).toNat : Int) < 128) = false := by rw [HV2.out]; simp; omega
            have hd2 : decide (191 < ((s[q]).toNat : Int)) = false := by rw [HV2.out]; simp; omega
            have hsh : IntKind.i64.wrap (c * 64) = c * 64 := IntWalk.i64_in _ (by omega)
            obtain ⟨y, hyy⟩ : ∃ y : Int, y = (x.toNat : Int) % 64 := ⟨_, rfl⟩
            have hy1 : bits .and .i64 ((s[q]).toNat : Int) 63 = y := by rw [HV2.out, hyy]; exact and_63 (by omega) (by omega)
            obtain ⟨d, hdd⟩ : ∃ d : Int, d = c * 64 + y := ⟨_, rfl⟩
            have hor : IntKind.i64.wrap (c * 64 + y) = d := by rw [hdd]; exact IntWalk.i64_in _ (by omega)
            have HCF := Lib.hid (accC_take_some HA.out HX.out (hcf.trans (by rw [← hyy, ← hdd])))
            have hdb := acc_bound (by rw [HSZ.out]; omega) (by rw [HSZ.out]; omega) (by omega) HCF.out
            clear hcf hyy hdd
            go_wp2_with fail
            go_roundw
            case rel => exact ⟨i + 1, d, by go_num, rfl, by omega, HCF.out, hdb.1, hdb.2, by first | rfl | trivial⟩
            case measure => simp [intOf]; omega
          · have hcf : contF c x = none := by rw [contF, if_neg hc]
            have HE := Lib.hid (HP.out.trans (oneT_broken (by rw [HSZ.out]; exact accC_take_none HA.out HX.out hcf (by omega))))
            clear hcf
            by_cases hlo : x.toNat < 128
            · have hd1 : decide (((s[q]).toNat : Int) < 128) = true := by rw [HV2.out]; simp; omega
              go_wp2_with fail
              go_ret2
              rw [HE.out]
              exact ⟨rfl, Below.refl _ _⟩
            · have hd1 : decide (((s[q]).toNat : Int) < 128) = false := by rw [HV2.out]; simp; omega
              have hd2 : decide (191 < ((s[q]).toNat : Int)) = true := by rw [HV2.out]; simp; omega
              go_wp2_with fail
              go_ret2
              rw [HE.out]
              exact ⟨rfl, Below.refl _ _⟩
        · have hge : ¬ (((i : Int) + 1) < 2) := by omega
          have hi2 : i = 2 - 1 := by omega
          subst hi2
          have HE := Lib.hid (HP.out.trans (oneT_some (by rw [HSZ.out]; omega) (by rw [HSZ.out]; omega) (by rw [HSZ.out]; exact HA.out)))
          have HSL := Lib.hid (fun (hs : sgnB c = true) => size_least (by rw [HSZ.out]; omega) (by rw [HSZ.out]; omega) (show accC (leadF b) (r.take (sizeF b - 1)) = some c by rw [HSZ.out]; exact HA.out) hs)
          go_wp2_with fail
          refine (specSign_any _ _).mono ?_
          rintro e w1 ⟨rfl, rfl⟩
          rcases (show sgnB c = true ∨ sgnB c = false by cases sgnB c <;> simp) with hsg | hsg
          · have hiff := HSL.out hsg
            rw [HSZ.out] at hiff
            have HIF := Lib.hid hiff
            clear hiff
            have HEN := Lib.hid (show encL [c] = enc1 c by rw [encL_good (by simpa using hsg)]; simp)
            rw [hsg]
            have K := (Hp.start w1).lit 3 1 1 ([c].map (Value.int .i64)) rfl (by simp [maxLen])
            go_wp2_with fail
            refine (specEncode_any _ 1 1 [c] _ (K.rd 0 rfl) (by decide)).mono ?_
            rintro e w2 ⟨rfl, f2⟩
            have F2 := Lib.hid (K.go f2).fr
            rw [HEN.out]
            obtain ⟨tx, htx⟩ : ∃ q, q = ofB (enc1 c) := ⟨_, rfl⟩
            have HT := Lib.hid (show tx.size = szC c by rw [htx, ofB_size, enc1_len])
            rw [← htx]
            clear htx K f2
            by_cases hszc : szC c = 2
            · have hd1 : ((tx.size : Int) == 2) = true := by rw [HT.out]; simp; omega
              go_wp2_with fail
              go_ret2
              rw [HE.out, HSZ.out, if_neg (by
                rintro (h | h)
                · exact (HIF.out.1 h) hszc
                · rw [hsg] at h; cases h)]
              exact ⟨rfl, F2.out⟩
            · have hd1 : ((tx.size : Int) == 2) = false := by rw [HT.out]; simp; omega
              go_wp2_with fail
              go_ret2
              rw [HE.out, HSZ.out, if_pos (.inl (HIF.out.2 hszc))]
              exact ⟨rfl, F2.out⟩
          · rw [hsg]
            go_wp2_with fail
            go_ret2
            rw [HE.out, HSZ.out, if_pos (.inr hsg)]
            exact ⟨rfl, Below.refl _ _⟩
  · have hd0 : decide (((s[a]).toNat : Int) < 128) = false := by rw [HB.out]; simp; omega
    have d1 : decide (192 ≤ ((s[a]).toNat : Int)) = true := by rw [HB.out]; simp; omega
    have d2 : decide (((s[a]).toNat : Int) < 224) = false := by rw [HB.out]; simp; omega
    have d3 : decide (224 ≤ ((s[a]).toNat : Int)) = true := by rw [HB.out]; simp; omega
    have d4 : decide (((s[a]).toNat : Int) < 240) = true := by rw [HB.out]; simp; omega
    obtain ⟨c0, hc0⟩ : ∃ q, q = leadF b := ⟨_, rfl⟩
    have ha : bits .and .i64 ((s[a]).toNat : Int) 15 = c0 := by
      rw [and_15 (by omega) (by omega), HB.out, hc0, leadF, if_neg (by omega), if_neg (by omega), if_pos (by omega)]
    have HC0 := Lib.hid hc0
    clear hc0
    have HSZ := Lib.hid hb
    by_cases hlen : N < a + 3
    · have HE := Lib.hid (HP.out.trans (oneT_none (.inr (by rw [HSZ.out]; omega))))
      have hw : IntKind.i64.wrap ((a : Int) + 3) = (a : Int) + 3 := IntWalk.i64_in _ (by omega)
      have hd : decide ((N : Int) < (a : Int) + 3) = true := by simp; omega
      go_wp2_with fail
      go_ret2
      rw [HE.out]
      exact ⟨rfl, Below.refl _ _⟩
    · have hw : IntKind.i64.wrap ((a : Int) + 3) = (a : Int) + 3 := IntWalk.i64_in _ (by omega)
      have hd : decide ((N : Int) < (a : Int) + 3) = false := by simp; omega
      go_wp2_with fail
      go_loopw [8, 9] (fun cv iv wr => ∃ (i : Nat) (c : Int), iv = .int .i64 ((i + 1 : Nat) : Int) ∧ cv = .int .i64 c ∧ i + 1 ≤ 3 ∧ accC (leadF b) (r.take i) = some c ∧ 0 ≤ c ∧ c < 8388608 ∧ wr = w) (fun _ iv _ => 3 - (intOf iv).toNat)
      case atStart => exact ⟨0, c0, rfl, rfl, by omega, by rw [HC0.out]; rfl, by rw [HC0.out]; exact LB.out.1, by have := LB.out.2; rw [HC0.out]; omega, rfl⟩
      case round =>
        obtain ⟨i, c, rfl, rfl, hi, hacc, hc0, hc1, rfl⟩ := hrel
        have HA := Lib.hid hacc
        clear hacc hw hd
        by_cases hlt : i + 1 < 3
        · obtain ⟨q, hq⟩ : ∃ q, q = a + (i + 1) := ⟨_, rfl⟩
          have hqN : q < N := by omega
          obtain ⟨x, hx⟩ := some_at (l := toB s) HTL.out hqN
          have hkq : q < s.size := by rw [← HN.out]; omega
          have e1 : s[q] = x := toB_get hx hkq
          have hx' : r[i]? = some x := by rw [hr, List.getElem?_drop]; rw [show a + 1 + i = q by omega]; exact hx
          have HX := Lib.hid hx'
          have hv2 : ((s[q]).toNat : Int) = (x.toNat : Int) := by rw [e1]
          have HV2 := Lib.hid hv2
          have hxb := x.toNat_lt
          have hwq : IntKind.i64.wrap ((a : Int) + ((i : Int) + 1)) = (q : Int) := by rw [IntWalk.i64_in _ (by omega)]; omega
          have hi2 : (0 : Int) ≤ (q : Int) := by omega
          have hi3 : ((i : Int) + 1) < 3 := by omega
          have hi4 : (q : Int) < (N : Int) := by omega
          have hv0 : (0 : Int) ≤ ((s[q]).toNat : Int) := by omega
          have hv3 : ((s[q]).toNat : Int) ≤ 255 := by omega
          clear hx hx' e1 hv2 hq
          by_cases hc : 128 ≤ x.toNat ∧ x.toNat ≤ 191
          · have hcf : contF c x = some (c * 64 + (x.toNat : Int) % 64) := by rw [contF, if_pos hc]
            have hd1 : decide (((s[q]).toNat : Int) < 128) = false := by rw [HV2.out]; simp; omega
            have hd2 : decide (191 < ((s[q]).toNat : Int)) = false := by rw [HV2.out]; simp; omega
            have hsh : IntKind.i64.wrap (c * 64) = c * 64 := IntWalk.i64_in _ (by omega)
            obtain ⟨y, hyy⟩ : ∃ y : Int, y = (x.toNat : Int) % 64 := ⟨_, rfl⟩
            have hy1 : bits .and .i64 ((s[q]).toNat : Int) 63 = y := by rw [HV2.out, hyy]; exact and_63 (by omega) (by omega)
            obtain ⟨d, hdd⟩ : ∃ d : Int, d = c * 64 + y := ⟨_, rfl⟩
            have hor : IntKind.i64.wrap (c * 64 + y) = d := by rw [hdd]; exact IntWalk.i64_in _ (by omega)
            have HCF := Lib.hid (accC_take_some HA.out HX.out (hcf.trans (by rw [← hyy, ← hdd])))
            have hdb := acc_bound (by rw [HSZ.out]; omega) (by rw [HSZ.out]; omega) (by omega) HCF.out
            clear hcf hyy hdd
            go_wp2_with fail
            go_roundw
            case rel => exact ⟨i + 1, d, by go_num, rfl, by omega, HCF.out, hdb.1, hdb.2, by first | rfl | trivial⟩
            case measure => simp [intOf]; omega
          · have hcf : contF c x = none := by rw [contF, if_neg hc]
            have HE := Lib.hid (HP.out.trans (oneT_broken (by rw [HSZ.out]; exact accC_take_none HA.out HX.out hcf (by omega))))
            clear hcf
            by_cases hlo : x.toNat < 128
            · have hd1 : decide (((s[q]).toNat : Int) < 128) = true := by rw [HV2.out]; simp; omega
              go_wp2_with fail
              go_ret2
              rw [HE.out]
              exact ⟨rfl, Below.refl _ _⟩
            · have hd1 : decide (((s[q]).toNat : Int) < 128) = false := by rw [HV2.out]; simp; omega
              have hd2 : decide (191 < ((s[q]).toNat : Int)) = true := by rw [HV2.out]; simp; omega
              go_wp2_with fail
              go_ret2
              rw [HE.out]
              exact ⟨rfl, Below.refl _ _⟩
        · have hge : ¬ (((i : Int) + 1) < 3) := by omega
          have hi2 : i = 3 - 1 := by omega
          subst hi2
          have HE := Lib.hid (HP.out.trans (oneT_some (by rw [HSZ.out]; omega) (by rw [HSZ.out]; omega) (by rw [HSZ.out]; exact HA.out)))
          have HSL := Lib.hid (fun (hs : sgnB c = true) => size_least (by rw [HSZ.out]; omega) (by rw [HSZ.out]; omega) (show accC (leadF b) (r.take (sizeF b - 1)) = some c by rw [HSZ.out]; exact HA.out) hs)
          go_wp2_with fail
          refine (specSign_any _ _).mono ?_
          rintro e w1 ⟨rfl, rfl⟩
          rcases (show sgnB c = true ∨ sgnB c = false by cases sgnB c <;> simp) with hsg | hsg
          · have hiff := HSL.out hsg
            rw [HSZ.out] at hiff
            have HIF := Lib.hid hiff
            clear hiff
            have HEN := Lib.hid (show encL [c] = enc1 c by rw [encL_good (by simpa using hsg)]; simp)
            rw [hsg]
            have K := (Hp.start w1).lit 3 1 1 ([c].map (Value.int .i64)) rfl (by simp [maxLen])
            go_wp2_with fail
            refine (specEncode_any _ 1 1 [c] _ (K.rd 0 rfl) (by decide)).mono ?_
            rintro e w2 ⟨rfl, f2⟩
            have F2 := Lib.hid (K.go f2).fr
            rw [HEN.out]
            obtain ⟨tx, htx⟩ : ∃ q, q = ofB (enc1 c) := ⟨_, rfl⟩
            have HT := Lib.hid (show tx.size = szC c by rw [htx, ofB_size, enc1_len])
            rw [← htx]
            clear htx K f2
            by_cases hszc : szC c = 3
            · have hd1 : ((tx.size : Int) == 3) = true := by rw [HT.out]; simp; omega
              go_wp2_with fail
              go_ret2
              rw [HE.out, HSZ.out, if_neg (by
                rintro (h | h)
                · exact (HIF.out.1 h) hszc
                · rw [hsg] at h; cases h)]
              exact ⟨rfl, F2.out⟩
            · have hd1 : ((tx.size : Int) == 3) = false := by rw [HT.out]; simp; omega
              go_wp2_with fail
              go_ret2
              rw [HE.out, HSZ.out, if_pos (.inl (HIF.out.2 hszc))]
              exact ⟨rfl, F2.out⟩
          · rw [hsg]
            go_wp2_with fail
            go_ret2
            rw [HE.out, HSZ.out, if_pos (.inr hsg)]
            exact ⟨rfl, Below.refl _ _⟩
  · have hd0 : decide (((s[a]).toNat : Int) < 128) = false := by rw [HB.out]; simp; omega
    have d1 : decide (192 ≤ ((s[a]).toNat : Int)) = true := by rw [HB.out]; simp; omega
    have d2 : decide (((s[a]).toNat : Int) < 224) = false := by rw [HB.out]; simp; omega
    have d3 : decide (224 ≤ ((s[a]).toNat : Int)) = true := by rw [HB.out]; simp; omega
    have d4 : decide (((s[a]).toNat : Int) < 240) = false := by rw [HB.out]; simp; omega
    have d5 : decide (240 ≤ ((s[a]).toNat : Int)) = true := by rw [HB.out]; simp; omega
    have d6 : decide (((s[a]).toNat : Int) < 248) = true := by rw [HB.out]; simp; omega
    obtain ⟨c0, hc0⟩ : ∃ q, q = leadF b := ⟨_, rfl⟩
    have ha : bits .and .i64 ((s[a]).toNat : Int) 7 = c0 := by
      rw [and_7 (by omega) (by omega), HB.out, hc0, leadF, if_neg (by omega), if_neg (by omega), if_neg (by omega)]
    have HC0 := Lib.hid hc0
    clear hc0
    have HSZ := Lib.hid hb
    by_cases hlen : N < a + 4
    · have HE := Lib.hid (HP.out.trans (oneT_none (.inr (by rw [HSZ.out]; omega))))
      have hw : IntKind.i64.wrap ((a : Int) + 4) = (a : Int) + 4 := IntWalk.i64_in _ (by omega)
      have hd : decide ((N : Int) < (a : Int) + 4) = true := by simp; omega
      go_wp2_with fail
      go_ret2
      rw [HE.out]
      exact ⟨rfl, Below.refl _ _⟩
    · have hw : IntKind.i64.wrap ((a : Int) + 4) = (a : Int) + 4 := IntWalk.i64_in _ (by omega)
      have hd : decide ((N : Int) < (a : Int) + 4) = false := by simp; omega
      go_wp2_with fail
      go_loopw [8, 9] (fun cv iv wr => ∃ (i : Nat) (c : Int), iv = .int .i64 ((i + 1 : Nat) : Int) ∧ cv = .int .i64 c ∧ i + 1 ≤ 4 ∧ accC (leadF b) (r.take i) = some c ∧ 0 ≤ c ∧ c < 8388608 ∧ wr = w) (fun _ iv _ => 4 - (intOf iv).toNat)
      case atStart => exact ⟨0, c0, rfl, rfl, by omega, by rw [HC0.out]; rfl, by rw [HC0.out]; exact LB.out.1, by have := LB.out.2; rw [HC0.out]; omega, rfl⟩
      case round =>
        obtain ⟨i, c, rfl, rfl, hi, hacc, hc0, hc1, rfl⟩ := hrel
        have HA := Lib.hid hacc
        clear hacc hw hd
        by_cases hlt : i + 1 < 4
        · obtain ⟨q, hq⟩ : ∃ q, q = a + (i + 1) := ⟨_, rfl⟩
          have hqN : q < N := by omega
          obtain ⟨x, hx⟩ := some_at (l := toB s) HTL.out hqN
          have hkq : q < s.size := by rw [← HN.out]; omega
          have e1 : s[q] = x := toB_get hx hkq
          have hx' : r[i]? = some x := by rw [hr, List.getElem?_drop]; rw [show a + 1 + i = q by omega]; exact hx
          have HX := Lib.hid hx'
          have hv2 : ((s[q]).toNat : Int) = (x.toNat : Int) := by rw [e1]
          have HV2 := Lib.hid hv2
          have hxb := x.toNat_lt
          have hwq : IntKind.i64.wrap ((a : Int) + ((i : Int) + 1)) = (q : Int) := by rw [IntWalk.i64_in _ (by omega)]; omega
          have hi2 : (0 : Int) ≤ (q : Int) := by omega
          have hi3 : ((i : Int) + 1) < 4 := by omega
          have hi4 : (q : Int) < (N : Int) := by omega
          have hv0 : (0 : Int) ≤ ((s[q]).toNat : Int) := by omega
          have hv3 : ((s[q]).toNat : Int) ≤ 255 := by omega
          clear hx hx' e1 hv2 hq
          by_cases hc : 128 ≤ x.toNat ∧ x.toNat ≤ 191
          · have hcf : contF c x = some (c * 64 + (x.toNat : Int) % 64) := by rw [contF, if_pos hc]
            have hd1 : decide (((s[q]).toNat : Int) < 128) = false := by rw [HV2.out]; simp; omega
            have hd2 : decide (191 < ((s[q]).toNat : Int)) = false := by rw [HV2.out]; simp; omega
            have hsh : IntKind.i64.wrap (c * 64) = c * 64 := IntWalk.i64_in _ (by omega)
            obtain ⟨y, hyy⟩ : ∃ y : Int, y = (x.toNat : Int) % 64 := ⟨_, rfl⟩
            have hy1 : bits .and .i64 ((s[q]).toNat : Int) 63 = y := by rw [HV2.out, hyy]; exact and_63 (by omega) (by omega)
            obtain ⟨d, hdd⟩ : ∃ d : Int, d = c * 64 + y := ⟨_, rfl⟩
            have hor : IntKind.i64.wrap (c * 64 + y) = d := by rw [hdd]; exact IntWalk.i64_in _ (by omega)
            have HCF := Lib.hid (accC_take_some HA.out HX.out (hcf.trans (by rw [← hyy, ← hdd])))
            have hdb := acc_bound (by rw [HSZ.out]; omega) (by rw [HSZ.out]; omega) (by omega) HCF.out
            clear hcf hyy hdd
            go_wp2_with fail
            go_roundw
            case rel => exact ⟨i + 1, d, by go_num, rfl, by omega, HCF.out, hdb.1, hdb.2, by first | rfl | trivial⟩
            case measure => simp [intOf]; omega
          · have hcf : contF c x = none := by rw [contF, if_neg hc]
            have HE := Lib.hid (HP.out.trans (oneT_broken (by rw [HSZ.out]; exact accC_take_none HA.out HX.out hcf (by omega))))
            clear hcf
            by_cases hlo : x.toNat < 128
            · have hd1 : decide (((s[q]).toNat : Int) < 128) = true := by rw [HV2.out]; simp; omega
              go_wp2_with fail
              go_ret2
              rw [HE.out]
              exact ⟨rfl, Below.refl _ _⟩
            · have hd1 : decide (((s[q]).toNat : Int) < 128) = false := by rw [HV2.out]; simp; omega
              have hd2 : decide (191 < ((s[q]).toNat : Int)) = true := by rw [HV2.out]; simp; omega
              go_wp2_with fail
              go_ret2
              rw [HE.out]
              exact ⟨rfl, Below.refl _ _⟩
        · have hge : ¬ (((i : Int) + 1) < 4) := by omega
          have hi2 : i = 4 - 1 := by omega
          subst hi2
          have HE := Lib.hid (HP.out.trans (oneT_some (by rw [HSZ.out]; omega) (by rw [HSZ.out]; omega) (by rw [HSZ.out]; exact HA.out)))
          have HSL := Lib.hid (fun (hs : sgnB c = true) => size_least (by rw [HSZ.out]; omega) (by rw [HSZ.out]; omega) (show accC (leadF b) (r.take (sizeF b - 1)) = some c by rw [HSZ.out]; exact HA.out) hs)
          go_wp2_with fail
          refine (specSign_any _ _).mono ?_
          rintro e w1 ⟨rfl, rfl⟩
          rcases (show sgnB c = true ∨ sgnB c = false by cases sgnB c <;> simp) with hsg | hsg
          · have hiff := HSL.out hsg
            rw [HSZ.out] at hiff
            have HIF := Lib.hid hiff
            clear hiff
            have HEN := Lib.hid (show encL [c] = enc1 c by rw [encL_good (by simpa using hsg)]; simp)
            rw [hsg]
            have K := (Hp.start w1).lit 3 1 1 ([c].map (Value.int .i64)) rfl (by simp [maxLen])
            go_wp2_with fail
            refine (specEncode_any _ 1 1 [c] _ (K.rd 0 rfl) (by decide)).mono ?_
            rintro e w2 ⟨rfl, f2⟩
            have F2 := Lib.hid (K.go f2).fr
            rw [HEN.out]
            obtain ⟨tx, htx⟩ : ∃ q, q = ofB (enc1 c) := ⟨_, rfl⟩
            have HT := Lib.hid (show tx.size = szC c by rw [htx, ofB_size, enc1_len])
            rw [← htx]
            clear htx K f2
            by_cases hszc : szC c = 4
            · have hd1 : ((tx.size : Int) == 4) = true := by rw [HT.out]; simp; omega
              go_wp2_with fail
              go_ret2
              rw [HE.out, HSZ.out, if_neg (by
                rintro (h | h)
                · exact (HIF.out.1 h) hszc
                · rw [hsg] at h; cases h)]
              exact ⟨rfl, F2.out⟩
            · have hd1 : ((tx.size : Int) == 4) = false := by rw [HT.out]; simp; omega
              go_wp2_with fail
              go_ret2
              rw [HE.out, HSZ.out, if_pos (.inl (HIF.out.2 hszc))]
              exact ⟨rfl, F2.out⟩
          · rw [hsg]
            go_wp2_with fail
            go_ret2
            rw [HE.out, HSZ.out, if_pos (.inr hsg)]
            exact ⟨rfl, Below.refl _ _⟩

set_option maxRecDepth 100000 in
set_option maxHeartbeats 4000000 in
theorem specDecode_any (s : ByteArray) (w : World) (hz : s.size ≤ 16777216) :
    Calls Tryz.prog 129 #[.string s] w (DecM (toB s) w) := by
  have H0 := (Hp.start w).lit0 3 1
  obtain ⟨N, hN⟩ : ∃ N, N = s.size := ⟨_, rfl⟩
  have HN := Lib.hid hN
  have HTL := Lib.hid (show (toB s).length = N by rw [toB_len, hN])
  have HZ := Lib.hid hz
  have hNb : N ≤ 16777216 := by omega
  go_enter Tryz.func129, Tryz.ntmps129
  go_wp2_with fail
  go_loopw [4, 5] (fun v av wr => ∃ (a : Nat) (o : List Int), av = .int .i64 a ∧ DSt (toB s) a o ∧ Hp [] w wr [.row 3 1 v o.length (o.map (Value.int .i64))]) (fun _ av _ => N - (intOf av).toNat)
  case atStart => exact ⟨0, [], rfl, DSt.start _, H0⟩
  case round =>
    clear H0
    obtain ⟨a, o, rfl, hst, H⟩ := hrel
    obtain ⟨B, d, rfl⟩ := H.shape 0 rfl
    have HST := Lib.hid hst
    have hal := hst.le
    have hol := hst.len
    rw [HTL.out] at hal
    clear hst
    have hsN : s.size = N := hN.symm
    by_cases hlt : a < N
    · obtain ⟨b, hb⟩ := some_at HTL.out hlt
      have HD := Lib.hid (drop_cons hb)
      have HB := Lib.hid hb
      have hlt2 : (a : Int) < (N : Int) := by omega
      have ha0 : (0 : Int) ≤ (a : Int) := by omega
      clear hb hN
      go_wp2_with fail
      refine (l3One_any _ a b ((toB s).drop (a + 1)) _ HB.out rfl HZ.out).mono ?_
      rintro e w1 ⟨rfl, f1⟩
      replace H := H.go f1
      have HO := Lib.hid (show oneF ((toB s).drop a) = oneT b ((toB s).drop (a + 1)) by rw [HD.out]; rfl)
      generalize oneT b ((toB s).drop (a + 1)) = p at HO ⊢
      obtain ⟨c0, k⟩ := p
      clear f1
      by_cases hk : k = 0
      · subst hk
        have HE := Lib.hid (HST.out.stop (by rw [HTL.out]; exact hlt) HO.out)
        have K := H.lit0 3 1
        go_wp2_with fail
        go_ret2
        exact ⟨_, 0, 0, by rw [HE.out]; rfl, by rw [HE.out]; rfl, by rw [HE.out]; exact K.out 0 rfl, K.fr⟩
      · have hk' : ((k : Int) == 0) = false := by simp; omega
        have HNX := Lib.hid (HST.out.next (by rw [HTL.out]; exact hlt) HO.out hk)
        have hnl := HNX.out.le
        rw [HTL.out] at hnl
        go_wp2_with (at_builtin; refine wp_appM (f := Value.int .i64) (H) rfl _ _ _ rfl Tryz.underlying82 infoInt rfl 0 _ _ rfl rfl _ _ (c0) rfl (by simp) rfl (by first | (simp only [maxLen]; omega) | (simp [maxLen]; done) | (simp [maxLen]; omega)) (by first | omega | (simp; done) | (simp; omega)) ?_)
        intro v' w' H'
        have H2 := Lib.hid (show Hp [] w w' [.row 3 1 v' (o ++ [c0]).length ((o ++ [c0]).map (Value.int .i64))] by
          rw [List.map_append, List.length_append]; exact H')
        clear H' H
        go_wp2_with fail
        go_roundw
        case rel => exact ⟨a + k, o ++ [c0], by go_num, HNX.out, H2.out⟩
        case measure => simp [intOf]; omega
    · have hge : ¬ ((a : Int) < (N : Int)) := by omega
      have HE := Lib.hid (HST.out.done (by rw [HTL.out]; omega))
      clear hN
      go_wp2_with fail
      go_ret2
      exact ⟨B, o.length, d, by rw [HE.out]; rfl, by rw [HE.out], by rw [HE.out]; exact H.out 0 rfl, H.fr⟩
end Go.Proofs.YtaogikhpglcmjaaGreatDoor
