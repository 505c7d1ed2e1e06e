/-
  FilOk of the program: what it says of a store and a file.
-/
import Derived.Test.YtbmoolmgfpcnkaaGb
import Derived.Test.YtbmoolmgfpcnkaaFlat
import Derived.Test.YtbmoolmgfpcnkaaExtsOk
import Derived.Test.YtbmoolmgfpcnkaaExtsOkI
import Derived.Deep.RegionHeld3
namespace Go.Proofs.Ytbmoolmgfpcnkaa
open Go.RowKit

theorem ends_any (z : Int) (h0 : 0 ≤ z) (h1 : z ≤ 1000) (w : World) :
    Calls Try.prog 57 #[.int .i64 z] w fun e w' => e = .returned (.int .i64 (endsI z)) ∧ w' = w := by
  have hw1 : IntKind.i64.wrap (z + 4) = z + 4 := IntWalk.i64_in _ (by omega)
  have hw2 : IntKind.i64.wrap (z + 4 - 1) = z + 3 := (IntWalk.i64_in _ (by omega)).trans (by omega)
  have hq : IntKind.i64.wrap ((z + 3).tdiv 4) = endsI z := by
    rw [Int.tdiv_eq_ediv_of_nonneg (by omega)]
    exact IntWalk.i64_in _ (by omega)
  go_enter Try.func57, Try.ntmps57
  go_wp2
  go_ret
  exact ⟨rfl, rfl⟩
theorem end_any (z : Int) (h0 : 0 ≤ z) (h1 : z ≤ 1000) (w : World) :
    Calls Try.prog 47 #[.int .i64 z] w fun e w' => e = .returned (.int .i64 (endsI z)) ∧ w' = w := by
  have hw1 : IntKind.i64.wrap (z + 4) = z + 4 := IntWalk.i64_in _ (by omega)
  have hw2 : IntKind.i64.wrap (z + 4 - 1) = z + 3 := (IntWalk.i64_in _ (by omega)).trans (by omega)
  have hq : IntKind.i64.wrap ((z + 3).tdiv 4) = endsI z := by
    rw [Int.tdiv_eq_ediv_of_nonneg (by omega)]
    exact IntWalk.i64_in _ (by omega)
  go_enter Try.func47, Try.ntmps47
  go_wp2
  go_ret
  exact ⟨rfl, rfl⟩

set_option maxRecDepth 100000 in
set_option maxHeartbeats 4000000 in
theorem implFilOk_any (A : Option Addr) (n c : Nat) (bits : List Bool) (B : Option Addr) (m d : Nat) (data : List ByteArray) (z : Int) (E : Option Addr) (q r : Nat) (l : List (Int × Int × Int)) (w : World)
    (h0 : Rd w A n 1 (bits.map Value.bool)) (h1 : Rd w B m 1 (data.map Value.string)) (h2 : Rd w E q 3 (l.flatMap cExt)) (hm : m ≤ 1048576) (hz : ∀ s ∈ data, s.size ≤ 1048576) (hq : q ≤ 1048576) :
    Calls Try.prog 55 #[.agg #[.slice A n c, .slice B m d], .agg #[.int .i64 z, .slice E q r]] w fun e w' => e = .returned (.bool (filOk bits data z l)) ∧ Fr w w' := by
  have H1 := ((Hp.start w).lay_ 31 [.slice A n c, .slice B m d] rfl).lay_ 34 [.int .i64 z, .slice E q r] (g := w.heap.size + 1) (by simp)
  by_cases hst : stOk bits data = true
  · by_cases hin : inB z 0 48 = true
    · by_cases hok : eOk l = true
      · have HR := Lib.hid (show filOk bits data z l = filRest bits data z (flatL l) by simp [filOk, hst, hin, hok])
        have hin2 := inB_iff.1 hin
        have OK := eOk_ranges hok
        have HB := Lib.hid (flatL_ok OK)
        have HM := Lib.hid (flatL_len l)
        have ST := Lib.hid (stOk_iff.1 hst)
        have G0 := Lib.hid h0
        have G1 := Lib.hid h1
        go_enter Try.func55, Try.ntmps55
        go_wp2_with fail
        refine (implStoreOk_any A n c bits B m d data _ (H1.old h0) (H1.old h1) hm hz).mono ?_
        rintro e w1 ⟨rfl, f1⟩
        have H2 := H1.go f1
        have s0 := H2.bat 1 rfl (j := 0) rfl
        have s1 := H2.bat 1 rfl (j := 1) rfl
        have t0 := H2.bat 0 rfl (j := 0) rfl
        have t1 := H2.bat 0 rfl (j := 1) rfl
        rw [hst]
        go_wp2_with fail
        refine (within_any _ _ _ _).mono ?_
        rintro e w2 ⟨rfl, rfl⟩
        rw [hin]
        go_wp2_with fail
        refine (implExtsOk_any E q r l _ (H2.old h2) hq).mono ?_
        rintro e w3 ⟨rfl, f3⟩
        have H3 := H2.go f3
        replace t1 := H3.bat 0 rfl (j := 1) rfl
        rw [hok]
        go_wp2_with fail
        refine (implFlat_any E q r l _ (H3.old h2) OK hq).mono ?_
        rintro e w4 ⟨A4, c4, rfl, o4, f4⟩
        have H4 := H3.made o4 f4
        clear s0 s1 t0 t1 H1 H2 H3 f1 f3 f4 o4 h0 h1 h2 hst hin hok OK hz hm hq
        obtain ⟨g, c5, e, hg⟩ := H4.form 0 rfl (by omega)
        injection e with e1 _ e2
        subst e1 e2
        obtain ⟨mm, hmm⟩ : ∃ u, u = flatL l := ⟨_, rfl⟩
        rw [← hmm] at H4 HB HR HM
        clear hmm hg
        go_wp2_with fail
        go_loopw [27] (fun j wr => ∃ k : Nat, k ≤ 12 ∧ j = .int .i64 k ∧ (∀ i, i < k → blkOkAt bits data z i (mm.getD i (-1)) = true) ∧ Hp [] w wr [.row 3 1 (.slice (some ⟨g, 0, none⟩) 12 c4) 12 (mm.map (Value.int .i64)), .blk (w.heap.size + 1) 34 [.int .i64 z, .slice E q r], .blk w.heap.size 31 [.slice A n c, .slice B m d]]) (fun j _ => 12 - (intOf j).toNat)
        case atStart => exact ⟨0, by omega, rfl, fun i hi => by omega, H4⟩
        case round =>
          clear H4
          obtain ⟨k, hk, rfl, hall, H⟩ := hrel
          have HA := Lib.hid hall
          clear hall
          by_cases hlt : k < 12
          · obtain ⟨x, hx⟩ := at_some HM.out hlt
            have cx := H.atM 0 rfl hx
            have hxb := HB.out x hx.mem
            have hgd : mm.getD k (-1) = x := by simp [List.getD_eq_getElem?_getD, show mm[k]? = some x from hx]
            have HG := Lib.hid hgd
            clear hgd
            have t0 := H.bat 1 rfl (j := 0) rfl
            have s0 := H.bat 2 rfl (j := 0) rfl
            have s1 := H.bat 2 rfl (j := 1) rfl
            by_cases hneg : x < 0
            · have HE := Lib.hid (show blkOkAt bits data z k x = true by simp [blkOkAt, hneg])
              go_wp2_with fail
              go_roundw
              case rel => exact ⟨k + 1, by omega, by go_num, by
                intro i hi
                rcases Nat.lt_or_ge i k with h1 | h1
                · exact HA.out i h1
                · obtain rfl : i = k := by omega
                  rw [HG.out]; exact HE.out, H⟩
              case measure => simp [intOf]; omega
            · obtain ⟨x, rfl⟩ : ∃ u : Nat, x = u := ⟨x.toNat, by omega⟩
              by_cases hen : (k : Int) < endsI z
              · obtain ⟨b, hb⟩ := at_some ST.out.1 (show x < 24 by omega)
                obtain ⟨b0, o0, rfl, cb⟩ := (H.old G0.out).get1 hb
                have hn24 : n = 24 := by have := G0.out.len1; rw [ST.out.1] at this; exact this.symm
                subst hn24
                have hen' : decide (endsI z ≤ (k : Int)) = false := by simpa using hen
                cases b with
                | false =>
                  have HE := Lib.hid (show blkOkAt bits data z k x = false by simp [blkOkAt, List.getD_eq_getElem?_getD, show bits[x]? = some false from hb])
                  go_wp2_with fail
                  refine (ends_any z (by omega) (by omega) _).mono ?_
                  rintro e w5 ⟨rfl, rfl⟩
                  go_wp2_with fail
                  go_ret
                  exact ⟨ret_bool (by rw [HR.out]; exact (filRest_no hlt hx HE.out).symm), H.fr⟩
                | true =>
                  obtain ⟨s, hs⟩ := at_some ST.out.2.1 (show x < 24 by omega)
                  obtain ⟨b1, o1, rfl, cs⟩ := (H.old G1.out).get1 hs
                  have hs4 : s.size = 4 := ST.out.2.2 s hs.mem
                  have HS4 := Lib.hid hs4
                  have hs4' : (4 : Int) ≤ (s.size : Int) := by omega
                  have hs4'' : (s.size : Int) ≤ 4 := by omega
                  have hm24 : m = 24 := by have := G1.out.len1; rw [ST.out.2.1] at this; exact this.symm
                  subst hm24
                  have HD := Lib.hid (show data.getD x default = s by simp [List.getD_eq_getElem?_getD, show data[x]? = some s from hs])
                  clear hs4
                  have hx0 : (0 : Int) ≤ (x : Int) := by omega
                  have hx1 : (x : Int) < 24 := by omega
                  have hwk : IntKind.i64.wrap ((k : Int) * 4) = (k : Int) * 4 := IntWalk.i64_in _ (by omega)
                  by_cases h4 : 4 ≤ z - (k : Int) * 4
                  · have h4' : decide (4 ≤ z - (k : Int) * 4) = true := by simpa using h4
                    have HE := Lib.hid (show blkOkAt bits data z k x = true by
                      simp only [blkOkAt, Int.toNat_natCast, HD.out, zeroFrom_four HS4.out (show 4 ≤ (min 4 (z - 4 * (k : Int))).toNat from by omega)]
                      simp [hen, List.getD_eq_getElem?_getD, show bits[x]? = some true from hb])
                    have hcmp := zeroFrom_cmp HS4.out 4
                    rw [zeroFrom_four HS4.out (Nat.le_refl _)] at hcmp
                    simp only [Nat.sub_self] at hcmp
                    have hk01 : (0 : Int) ≤ 1000 := by decide
                    have hwz : IntKind.i64.wrap (z - (k : Int) * 4) = z - (k : Int) * 4 := IntWalk.i64_in _ (by omega)
                    go_wp2_with fail
                    refine (ends_any z (by omega) (by omega) _).mono ?_
                    rintro e w5 ⟨rfl, rfl⟩
                    go_wp2_with fail
                    go_region_held3 (fun w' => w'.cell? ⟨w.heap.size, 1, none⟩ = some (.slice (some ⟨b1, o1, none⟩) 24 d) ∧ w'.cell? ⟨b1, o1 + x, none⟩ = some (.string s))
                      (first
                        | exact ⟨s1, cs⟩
                        | exact ⟨s1_8, cs_8⟩)
                      ((first
                        | (go_at_call 59
                           refine (implZeros_any 0 (Int.le_refl 0) hk01 _).mono ?_
                           rintro e w8 ⟨rfl, g8⟩
                           have f8 := Fr.then (Fr.drew_ _) g8
                           have s1_8 := cell_later f8 s1
                           have cs_8 := cell_later f8 cs
                           have H8 := H.go f8)))
                    go_wp2_with fail
                    go_roundw
                    case rel => exact ⟨k + 1, by omega, by go_num, by
                      intro i hi
                      rcases Nat.lt_or_ge i k with h1 | h1
                      · exact HA.out i h1
                      · obtain rfl : i = k := by omega
                        rw [HG.out]; exact HE.out, H8⟩
                    case measure => simp [intOf]; omega
                  · obtain ⟨kp, hkp⟩ : ∃ u : Nat, u = (z - (k : Int) * 4).toNat := ⟨_, rfl⟩
                    have hkp1 : (kp : Int) = z - (k : Int) * 4 := by unfold endsI at hen; omega
                    have HKP := Lib.hid hkp
                    have hk4 : kp < 4 := by omega
                    have hwz : IntKind.i64.wrap (z - (k : Int) * 4) = (kp : Int) := (IntWalk.i64_in _ (by omega)).trans hkp1.symm
                    have HK1 := Lib.hid hkp1
                    have hkp0 : (0 : Int) ≤ (kp : Int) := by omega
                    have hkp4 : (kp : Int) ≤ (s.size : Int) := by omega
                    have hkp5 : (0 : Int) ≤ 4 - (kp : Int) := by omega
                    have hkp6 : 4 - (kp : Int) ≤ 1000 := by omega
                    have hwq : IntKind.i64.wrap (4 - (kp : Int)) = 4 - (kp : Int) := IntWalk.i64_in _ (by omega)
                    clear hkp hkp1 h4
                    have HB2 := Lib.hid (show blkOkAt bits data z k x = zeroFrom s kp by
                      simp only [blkOkAt, Int.toNat_natCast, HD.out, show (min 4 (z - 4 * (k : Int))).toNat = kp from by have := HK1.out; omega]
                      simp [hen, List.getD_eq_getElem?_getD, show bits[x]? = some true from hb]
                      omega)
                    have hcmp := zeroFrom_cmp HS4.out kp
                    cases hzf : zeroFrom s kp with
                    | true =>
                      rw [hzf] at hcmp HB2
                      have HE := HB2
                      clear hzf
                      go_wp2_with fail
                      refine (ends_any z (by omega) (by omega) _).mono ?_
                      rintro e w5 ⟨rfl, rfl⟩
                      go_wp2_with fail
                      go_region_held3 (fun w' => w'.cell? ⟨w.heap.size, 1, none⟩ = some (.slice (some ⟨b1, o1, none⟩) 24 d) ∧ w'.cell? ⟨b1, o1 + x, none⟩ = some (.string s))
                        (first
                          | exact ⟨s1, cs⟩
                          | exact ⟨s1_8, cs_8⟩)
                        ((first
                          | (go_at_call 59
                             refine (implZeros_any (4 - (kp : Int)) hkp5 hkp6 _).mono ?_
                             rintro e w8 ⟨rfl, g8⟩
                             have f8 := Fr.then (Fr.drew_ _) g8
                             have s1_8 := cell_later f8 s1
                             have cs_8 := cell_later f8 cs
                             have H8 := H.go f8)))
                      go_wp2_with fail
                      go_roundw
                      case rel => exact ⟨k + 1, by omega, by go_num, by
                        intro i hi
                        rcases Nat.lt_or_ge i k with h1 | h1
                        · exact HA.out i h1
                        · obtain rfl : i = k := by omega
                          rw [HG.out]; exact HE.out, H8⟩
                      case measure => simp [intOf]; omega
                    | false =>
                      rw [hzf] at hcmp HB2
                      have HE := HB2
                      clear hzf
                      go_wp2_with fail
                      refine (ends_any z (by omega) (by omega) _).mono ?_
                      rintro e w5 ⟨rfl, rfl⟩
                      go_wp2_with fail
                      go_region_held3 (fun w' => w'.cell? ⟨w.heap.size, 1, none⟩ = some (.slice (some ⟨b1, o1, none⟩) 24 d) ∧ w'.cell? ⟨b1, o1 + x, none⟩ = some (.string s))
                        (first
                          | exact ⟨s1, cs⟩
                          | exact ⟨s1_8, cs_8⟩)
                        ((first
                          | (go_at_call 59
                             refine (implZeros_any (4 - (kp : Int)) hkp5 hkp6 _).mono ?_
                             rintro e w8 ⟨rfl, g8⟩
                             have f8 := Fr.then (Fr.drew_ _) g8
                             have s1_8 := cell_later f8 s1
                             have cs_8 := cell_later f8 cs
                             have H8 := H.go f8)))
                      go_wp2_with fail
                      go_ret
                      exact ⟨ret_bool (by rw [HR.out]; exact (filRest_no hlt hx HE.out).symm), H8.fr⟩
              · have HE := Lib.hid (show blkOkAt bits data z k x = false by simp [blkOkAt, hen])
                have hen' : decide (endsI z ≤ (k : Int)) = true := by simpa using hen
                go_wp2_with fail
                refine (ends_any z (by omega) (by omega) _).mono ?_
                rintro e w5 ⟨rfl, rfl⟩
                go_wp2_with fail
                go_ret
                exact ⟨ret_bool (by rw [HR.out]; exact (filRest_no hlt hx HE.out).symm), H.fr⟩
          · have HE := Lib.hid (filRest_yes (k := k) (by omega) HA.out)
            go_wp2_with fail
            go_ret
            exact ⟨ret_bool (by rw [HR.out, HE.out]), H.fr⟩
      · have hok' : eOk l = false := by simpa using hok
        have HX := Lib.hid (show filOk bits data z l = false by simp [filOk, hok'])
        go_enter Try.func55, Try.ntmps55
        go_wp2_with fail
        refine (implStoreOk_any A n c bits B m d data _ (H1.old h0) (H1.old h1) hm hz).mono ?_
        rintro e w1 ⟨rfl, f1⟩
        have H2 := H1.go f1
        have t0 := H2.bat 0 rfl (j := 0) rfl
        have t1 := H2.bat 0 rfl (j := 1) rfl
        rw [hst]
        go_wp2_with fail
        refine (within_any _ _ _ _).mono ?_
        rintro e w2 ⟨rfl, rfl⟩
        rw [hin]
        go_wp2_with fail
        refine (implExtsOk_any E q r l _ (H2.old h2) hq).mono ?_
        rintro e w3 ⟨rfl, f3⟩
        have H3 := H2.go f3
        rw [hok']
        go_wp2_with fail
        go_ret
        exact ⟨ret_bool HX.out.symm, H3.fr⟩
    · have hin' : inB z 0 48 = false := by simpa using hin
      have HX := Lib.hid (show filOk bits data z l = false by simp [filOk, hin'])
      go_enter Try.func55, Try.ntmps55
      go_wp2_with fail
      refine (implStoreOk_any A n c bits B m d data _ (H1.old h0) (H1.old h1) hm hz).mono ?_
      rintro e w1 ⟨rfl, f1⟩
      have H2 := H1.go f1
      have t0 := H2.bat 0 rfl (j := 0) rfl
      rw [hst]
      go_wp2_with fail
      refine (within_any _ _ _ _).mono ?_
      rintro e w2 ⟨rfl, rfl⟩
      rw [hin']
      go_wp2_with fail
      go_ret
      exact ⟨ret_bool HX.out.symm, H2.fr⟩
  · have hst' : stOk bits data = false := by simpa using hst
    have HX := Lib.hid (show filOk bits data z l = false by simp [filOk, hst'])
    go_enter Try.func55, Try.ntmps55
    go_wp2_with fail
    refine (implStoreOk_any A n c bits B m d data _ (H1.old h0) (H1.old h1) hm hz).mono ?_
    rintro e w1 ⟨rfl, f1⟩
    have H2 := H1.go f1
    rw [hst']
    go_wp2_with fail
    go_ret
    exact ⟨ret_bool HX.out.symm, H2.fr⟩
end Go.Proofs.Ytbmoolmgfpcnkaa
