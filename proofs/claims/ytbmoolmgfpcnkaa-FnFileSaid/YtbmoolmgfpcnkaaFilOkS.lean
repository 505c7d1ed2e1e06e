/-
  FilOk of the reference: it says the same of a store and a file.
-/
import Derived.Test.YtbmoolmgfpcnkaaFilOk
namespace Go.Proofs.Ytbmoolmgfpcnkaa
open Go.RowKit

theorem zeroFrom_yes {s : ByteArray} (h : s.size = 4) {k : Nat} (hk : ∀ i, k ≤ i → i < 4 → (toB s)[i]? = some 0) : zeroFrom s k = true := by
  rw [zeroFrom, decide_eq_true_eq]
  apply List.ext_getElem?
  intro i
  rw [List.getElem?_drop]
  by_cases hi : k + i < 4
  · rw [hk _ (by omega) hi]
    simp [zB, show i < 4 - k from by omega]
  · rw [List.getElem?_eq_none (by rw [toB_len]; omega)]
    simp [zB, show ¬ i < 4 - k from by omega]
theorem zeroFrom_no {s : ByteArray} {k i : Nat} {b : UInt8} (hk : k ≤ i) (hb : (toB s)[i]? = some b) (h0 : b ≠ 0) : zeroFrom s k = false := by
  rw [zeroFrom, decide_eq_false_iff_not]
  intro e
  have h1 : ((toB s).drop k)[i - k]? = some b := by rw [List.getElem?_drop, show k + (i - k) = i from by omega, hb]
  rw [e] at h1
  simp only [zB, List.getElem?_replicate] at h1
  split at h1
  · injection h1 with h1; exact h0 h1.symm
  · cases h1

theorem toB_at {s : ByteArray} {j : Nat} {b : UInt8} (h : (toB s)[j]? = some b) (hj : j < s.size) : s[j] = b := by
  have h1 : (toB s)[j]? = some (s.data[j]'hj) := by
    rw [toB, Array.getElem?_toList]; exact Array.getElem?_eq_getElem hj
  rw [h] at h1
  injection h1 with h1
  exact h1.symm
theorem byte_ne {s : ByteArray} {j : Nat} {b : UInt8} (h : (toB s)[j]? = some b) {hj : j < s.size} (hc : (((s[j]'hj).toNat : Int) != 0) = true) : b ≠ 0 := by
  rw [toB_at h hj] at hc
  rintro rfl
  simp at hc
theorem byte_eq {s : ByteArray} {j : Nat} {b : UInt8} (h : (toB s)[j]? = some b) {hj : j < s.size} (hc : (((s[j]'hj).toNat : Int) != 0) = false) : b = 0 := by
  rw [toB_at h hj] at hc
  simp at hc
  exact UInt8.toNat_inj.1 (by simpa using hc)

set_option maxRecDepth 100000 in
set_option maxHeartbeats 4000000 in
theorem specFilOk_any (A : Option Addr) (n c : Nat) (bits : List Bool) (B : Option Addr) (m d : Nat) (data : List ByteArray) (z : Int) (E : Option Addr) (q r : Nat) (l : List (Int × Int × Int)) (w : World)
    (h0 : Rd w A n 1 (bits.map Value.bool)) (h1 : Rd w B m 1 (data.map Value.string)) (h2 : Rd w E q 3 (l.flatMap cExt)) (hm : m ≤ 1048576) (hz : ∀ s ∈ data, s.size ≤ 1048576) (hq : q ≤ 1048576) :
    Calls Try.prog 35 #[.agg #[.slice A n c, .slice B m d], .agg #[.int .i64 z, .slice E q r]] w fun e w' => e = .returned (.bool (filOk bits data z l)) ∧ Fr w w' := by
  have H1 := ((Hp.start w).lay_ 31 [.slice A n c, .slice B m d] rfl).lay_ 34 [.int .i64 z, .slice E q r] (g := w.heap.size + 1) (by simp)
  by_cases hst : stOk bits data = true
  · by_cases hin : inB z 0 48 = true
    · by_cases hok : eOk l = true
      · have HR := Lib.hid (show filOk bits data z l = filRest bits data z (flatL l) by simp [filOk, hst, hin, hok])
        have hin2 := inB_iff.1 hin
        have OK := eOk_ranges hok
        have HB := Lib.hid (flatL_ok OK)
        have HM := Lib.hid (flatL_len l)
        have ST := Lib.hid (stOk_iff.1 hst)
        have G0 := Lib.hid h0
        have G1 := Lib.hid h1
        go_enter Try.func35, Try.ntmps35
        go_wp2_with fail
        refine (specStoreOk_any A n c bits B m d data _ (H1.old h0) (H1.old h1) hm hz).mono ?_
        rintro e w1 ⟨rfl, f1⟩
        have H2 := H1.go f1
        have s0 := H2.bat 1 rfl (j := 0) rfl
        have s1 := H2.bat 1 rfl (j := 1) rfl
        have t0 := H2.bat 0 rfl (j := 0) rfl
        have t1 := H2.bat 0 rfl (j := 1) rfl
        rw [hst]
        go_wp2_with fail
        refine (l1In_any _ _ _ _).mono ?_
        rintro e w2 ⟨rfl, rfl⟩
        rw [hin]
        go_wp2_with fail
        refine (specExtsOk_any E q r l _ (H2.old h2) hq).mono ?_
        rintro e w3 ⟨rfl, f3⟩
        have H3 := H2.go f3
        replace t1 := H3.bat 0 rfl (j := 1) rfl
        rw [hok]
        go_wp2_with fail
        refine (specMap_any E q r l _ (H3.old h2) OK hq).mono ?_
        rintro e w4 ⟨A4, c4, rfl, o4, f4⟩
        have H4 := H3.made o4 f4
        clear s0 s1 t0 t1 H1 H2 H3 f1 f3 f4 o4 h0 h1 h2 hst hin hok OK hz hm hq
        obtain ⟨g, c5, e, hg⟩ := H4.form 0 rfl (by omega)
        injection e with e1 _ e2
        subst e1 e2
        obtain ⟨mm, hmm⟩ : ∃ u, u = flatL l := ⟨_, rfl⟩
        rw [← hmm] at H4 HB HR HM
        clear hmm hg
        have hn24 : n = 24 := by have := G0.out.len1; rw [ST.out.1] at this; exact this.symm
        subst hn24
        have hm24 : m = 24 := by have := G1.out.len1; rw [ST.out.2.1] at this; exact this.symm
        subst hm24
        go_wp2_with fail
        go_loopw [6] (fun j wr => ∃ k : Nat, k ≤ 12 ∧ j = .int .i64 k ∧ (∀ i, i < k → mm.getD i (-1) < 0 ∨ ((i : Int) < endsI z ∧ bits.getD (mm.getD i (-1)).toNat false = true)) ∧ Hp [] w wr [.row 3 1 (.slice (some ⟨g, 0, none⟩) 12 c4) 12 (mm.map (Value.int .i64)), .blk (w.heap.size + 1) 34 [.int .i64 z, .slice E q r], .blk w.heap.size 31 [.slice A 24 c, .slice B 24 d]]) (fun j _ => 12 - (intOf j).toNat)
        case atStart => exact ⟨0, by omega, rfl, fun i hi => by omega, H4⟩
        case round =>
          clear H4
          obtain ⟨k, hk, rfl, hall, H⟩ := hrel
          have HA := Lib.hid hall
          clear hall
          by_cases hlt : k < 12
          · obtain ⟨x, hx⟩ := at_some HM.out hlt
            have cx := H.atM 0 rfl hx
            have hxb := HB.out x hx.mem
            have hgd : mm.getD k (-1) = x := by simp [List.getD_eq_getElem?_getD, show mm[k]? = some x from hx]
            have HG := Lib.hid hgd
            clear hgd
            have t0 := H.bat 1 rfl (j := 0) rfl
            have s0 := H.bat 2 rfl (j := 0) rfl
            have s1 := H.bat 2 rfl (j := 1) rfl
            have hk0 : (0 : Int) ≤ (k : Int) := by omega
            have hk1 : (k : Int) < 12 := by omega
            have hz0 : 0 ≤ z := hin2.1
            have hz1 : z ≤ 1000 := by omega
            by_cases hneg : x < 0
            · have hd : decide (0 ≤ x) = false := by simp; omega
              go_wp2_with fail
              refine wp_region_quiet_lit (by kernel_rfl) (by kernel_rfl) ?_
              repeat (any_goals (first | go_big_quiet_step ((go_at_call 47; exact Calls.quiet_of_same (end_any z hz0 hz1 _))) | quiet_step ((go_at_call 47; exact Calls.quiet_of_same (end_any z hz0 hz1 _))) | (refine wpQuiet_step (fun K hK => ?_); go_simp; split <;> (refine hK _ ?_; clear hK K))))
              all_goals (refine wpQuiet_nil ?_; intro _ hw_; obtain ⟨nq, hw__⟩ := hw_; subst hw__)
              go_wp2_with fail
              go_roundw
              case rel => exact ⟨k + 1, by omega, by go_num, by
                intro i hi
                rcases Nat.lt_or_ge i k with h1 | h1
                · exact HA.out i h1
                · obtain rfl : i = k := by omega
                  rw [HG.out]; exact .inl hneg, H.on nq⟩
              case measure => simp [intOf]; omega
            · obtain ⟨x, rfl⟩ : ∃ u : Nat, x = u := ⟨x.toNat, by omega⟩
              have hd : decide ((0 : Int) ≤ (x : Int)) = true := by simp
              have hx0 : (0 : Int) ≤ (x : Int) := by omega
              have hx1 : (x : Int) < 24 := by omega
              by_cases hen : (k : Int) < endsI z
              · obtain ⟨b, hb⟩ := at_some ST.out.1 (show x < 24 by omega)
                obtain ⟨b0, o0, rfl, cb⟩ := (H.old G0.out).get1 hb
                have hen' : decide (endsI z ≤ (k : Int)) = false := by simpa using hen
                cases b with
                | false =>
                  have HE := Lib.hid (show blkOkAt bits data z k x = false by simp [blkOkAt, List.getD_eq_getElem?_getD, show bits[x]? = some false from hb])
                  go_wp2_with fail
                  refine wp_region_quiet_lit (by kernel_rfl) (by kernel_rfl) ?_
                  repeat (any_goals (first | go_big_quiet_step ((go_at_call 47; exact Calls.quiet_of_same (end_any z hz0 hz1 _))) | quiet_step ((go_at_call 47; exact Calls.quiet_of_same (end_any z hz0 hz1 _))) | (refine wpQuiet_step (fun K hK => ?_); go_simp; split <;> (refine hK _ ?_; clear hK K))))
                  all_goals (refine wpQuiet_nil ?_; intro _ hw_; obtain ⟨nq, hw__⟩ := hw_; subst hw__)
                  go_wp2_with fail
                  go_ret
                  exact ⟨ret_bool (by rw [HR.out]; exact (filRest_no hlt hx HE.out).symm), (H.on nq).fr⟩
                | true =>
                  have HE := Lib.hid (show bits.getD x false = true by simp [List.getD_eq_getElem?_getD, show bits[x]? = some true from hb])
                  go_wp2_with fail
                  refine wp_region_quiet_lit (by kernel_rfl) (by kernel_rfl) ?_
                  repeat (any_goals (first | go_big_quiet_step ((go_at_call 47; exact Calls.quiet_of_same (end_any z hz0 hz1 _))) | quiet_step ((go_at_call 47; exact Calls.quiet_of_same (end_any z hz0 hz1 _))) | (refine wpQuiet_step (fun K hK => ?_); go_simp; split <;> (refine hK _ ?_; clear hK K))))
                  all_goals (refine wpQuiet_nil ?_; intro _ hw_; obtain ⟨nq, hw__⟩ := hw_; subst hw__)
                  go_wp2_with fail
                  go_roundw
                  case rel => exact ⟨k + 1, by omega, by go_num, by
                    intro i hi
                    rcases Nat.lt_or_ge i k with h1 | h1
                    · exact HA.out i h1
                    · obtain rfl : i = k := by omega
                      rw [HG.out]; exact .inr ⟨hen, HE.out⟩, H.on nq⟩
                  case measure => simp [intOf]; omega
              · have HE := Lib.hid (show blkOkAt bits data z k x = false by simp [blkOkAt, hen])
                have hen' : decide (endsI z ≤ (k : Int)) = true := by simpa using hen
                go_wp2_with fail
                refine wp_region_quiet_lit (by kernel_rfl) (by kernel_rfl) ?_
                repeat (any_goals (first | go_big_quiet_step ((go_at_call 47; exact Calls.quiet_of_same (end_any z hz0 hz1 _))) | quiet_step ((go_at_call 47; exact Calls.quiet_of_same (end_any z hz0 hz1 _))) | (refine wpQuiet_step (fun K hK => ?_); go_simp; split <;> (refine hK _ ?_; clear hK K))))
                all_goals (refine wpQuiet_nil ?_; intro _ hw_; obtain ⟨nq, hw__⟩ := hw_; subst hw__)
                go_wp2_with fail
                go_ret
                exact ⟨ret_bool (by rw [HR.out]; exact (filRest_no hlt hx HE.out).symm), (H.on nq).fr⟩
          · have HS := Lib.hid (filRest_spec ST.out.2.2 ST.out.2.1 hin2.1 HB.out HM.out fun i hi => HA.out i (by omega))
            clear HA
            have t0 := H.bat 1 rfl (j := 0) rfl
            have s1 := H.bat 2 rfl (j := 1) rfl
            have hz0 : 0 ≤ z := hin2.1
            have hz1 : z ≤ 1000 := by omega
            have hwr : IntKind.i64.wrap (z.tmod 4) = z % 4 := by
              rw [Int.tmod_eq_emod_of_nonneg hz0]
              exact IntWalk.i64_in _ (by omega)
            by_cases h4 : z % 4 = 0
            · have HE := Lib.hid (show filRest bits data z mm = true by rw [HS.out]; simp [h4])
              have h4' : (z % 4 == 0) = true := by simp [h4]
              clear h4
              go_wp2_with fail
              go_ret
              exact ⟨ret_bool (by rw [HR.out, HE.out]), H.fr⟩
            · have h4' : (z % 4 == 0) = false := by simp [h4]
              obtain ⟨e, he⟩ : ∃ e : Nat, (e : Int) = endsI z - 1 := ⟨(endsI z - 1).toNat, by unfold endsI; omega⟩
              have he12 : e < 12 := by unfold endsI at he; omega
              have hwe : IntKind.i64.wrap (endsI z - 1) = (e : Int) := (IntWalk.i64_in _ (by omega)).trans he.symm
              have he0 : (0 : Int) ≤ (e : Int) := by omega
              have he1 : (e : Int) < 12 := by omega
              obtain ⟨x, hx⟩ := at_some HM.out he12
              have cx := H.atM 0 rfl hx
              have hxb := HB.out x hx.mem
              have HS2 := Lib.hid (show filRest bits data z mm = (decide (x < 0) || zeroFrom (data.getD x.toNat default) (z % 4).toNat) by
                rw [HS.out, show (endsI z - 1).toNat = e from by omega]
                simp [h4, List.getD_eq_getElem?_getD, show mm[e]? = some x from hx])
              have hr0 : 0 < z % 4 ∧ z % 4 < 4 := by omega
              clear h4 he HS
              by_cases hneg : x < 0
              · have HE := Lib.hid (show filRest bits data z mm = true by rw [HS2.out]; simp [hneg])
                go_wp2_with fail
                refine (end_any z hz0 hz1 _).mono ?_
                rintro e9 w5 ⟨rfl, rfl⟩
                go_wp2_with fail
                go_ret
                exact ⟨ret_bool (by rw [HR.out, HE.out]), H.fr⟩
              · obtain ⟨x, rfl⟩ : ∃ u : Nat, x = u := ⟨x.toNat, by omega⟩
                have hx0 : (0 : Int) ≤ (x : Int) := by omega
                have hx1 : (x : Int) < 24 := by omega
                obtain ⟨s, hs⟩ := at_some ST.out.2.1 (show x < 24 by omega)
                obtain ⟨b1, o1, rfl, cs⟩ := (H.old G1.out).get1 hs
                have HS4 := Lib.hid (ST.out.2.2 s hs.mem)
                have HS3 := Lib.hid (show filRest bits data z mm = zeroFrom s (z % 4).toNat by
                  rw [HS2.out, show decide ((x : Int) < 0) = false by simp]
                  simp [List.getD_eq_getElem?_getD, show data[x]? = some s from hs])
                clear HS2
                obtain ⟨nn, hnn⟩ : ∃ u : Nat, (u : Int) = z % 4 := ⟨(z % 4).toNat, by omega⟩
                rw [← hnn, Int.toNat_natCast] at HS3
                rw [← hnn] at hr0 h4'
                have hnn' : z % 4 = (nn : Int) := hnn.symm
                clear hnn
                go_wp2_with fail
                refine (end_any z hz0 hz1 _).mono ?_
                rintro e9 w5 ⟨rfl, rfl⟩
                go_wp2_with fail
                refine wp_region_quiet_lit (by kernel_rfl) (by kernel_rfl) ?_
                repeat (any_goals (first | go_big_quiet_step ((go_at_call 47; exact Calls.quiet_of_same (end_any z hz0 hz1 _))) | quiet_step ((go_at_call 47; exact Calls.quiet_of_same (end_any z hz0 hz1 _))) | (refine wpQuiet_step (fun K hK => ?_); go_simp; split <;> (refine hK _ ?_; clear hK K))))
                all_goals (refine wpQuiet_nil ?_; intro _ hw_; obtain ⟨nq, hw__⟩ := hw_; subst hw__)
                have H := H.on nq
                go_wp2_with fail
                go_loopw [9] (fun v wr => ∃ j : Nat, nn ≤ j ∧ j ≤ 4 ∧ v = .int .i64 j ∧ (∀ i, nn ≤ i → i < j → (toB s)[i]? = some 0) ∧ Fr w wr) (fun v _ => 4 - (intOf v).toNat)
                case atStart => exact ⟨nn, by omega, by omega, rfl, fun i h1 h2 => by omega, H.fr⟩
                case round =>
                  clear H cs cx s1 t0
                  obtain ⟨j, hj1, hj2, rfl, hall, F⟩ := hrel
                  have HA := Lib.hid hall
                  clear hall
                  by_cases hjl : j < 4
                  · obtain ⟨b, hb⟩ := at_some (toB_len s) (show j < s.size by have := HS4.out; omega)
                    have hj0 : (0 : Int) ≤ (j : Int) := by omega
                    have hj3 : (j : Int) < (s.size : Int) := by have := HS4.out; omega
                    go_wp2_with fail
                    · rename_i hc
                      have HE := Lib.hid (zeroFrom_no hj1 hb (byte_ne hb hc))
                      go_ret
                      exact ⟨ret_bool (by rw [HR.out, HS3.out, HE.out]), F⟩
                    · rename_i hc
                      have HE := Lib.hid (byte_eq hb hc)
                      go_roundw
                      case rel => exact ⟨j + 1, by omega, by omega, by go_num, by
                        intro i h1 h2
                        rcases Nat.lt_or_ge i j with h3 | h3
                        · exact HA.out i h1 h3
                        · obtain rfl : i = j := by omega
                          rw [← HE.out]; exact hb, F⟩
                      case measure => simp [intOf]; omega
                  · have HE := Lib.hid (zeroFrom_yes HS4.out fun i h1 h2 => HA.out i h1 (by omega))
                    go_wp2_with fail
                    go_ret
                    exact ⟨ret_bool (by rw [HR.out, HS3.out, HE.out]), F⟩
      · have hok' : eOk l = false := by simpa using hok
        have HX := Lib.hid (show filOk bits data z l = false by simp [filOk, hok'])
        go_enter Try.func35, Try.ntmps35
        go_wp2_with fail
        refine (specStoreOk_any A n c bits B m d data _ (H1.old h0) (H1.old h1) hm hz).mono ?_
        rintro e w1 ⟨rfl, f1⟩
        have H2 := H1.go f1
        have t0 := H2.bat 0 rfl (j := 0) rfl
        have t1 := H2.bat 0 rfl (j := 1) rfl
        rw [hst]
        go_wp2_with fail
        refine (l1In_any _ _ _ _).mono ?_
        rintro e w2 ⟨rfl, rfl⟩
        rw [hin]
        go_wp2_with fail
        refine (specExtsOk_any E q r l _ (H2.old h2) hq).mono ?_
        rintro e w3 ⟨rfl, f3⟩
        have H3 := H2.go f3
        rw [hok']
        go_wp2_with fail
        go_ret
        exact ⟨ret_bool HX.out.symm, H3.fr⟩
    · have hin' : inB z 0 48 = false := by simpa using hin
      have HX := Lib.hid (show filOk bits data z l = false by simp [filOk, hin'])
      go_enter Try.func35, Try.ntmps35
      go_wp2_with fail
      refine (specStoreOk_any A n c bits B m d data _ (H1.old h0) (H1.old h1) hm hz).mono ?_
      rintro e w1 ⟨rfl, f1⟩
      have H2 := H1.go f1
      have t0 := H2.bat 0 rfl (j := 0) rfl
      rw [hst]
      go_wp2_with fail
      refine (l1In_any _ _ _ _).mono ?_
      rintro e w2 ⟨rfl, rfl⟩
      rw [hin']
      go_wp2_with fail
      go_ret
      exact ⟨ret_bool HX.out.symm, H2.fr⟩
  · have hst' : stOk bits data = false := by simpa using hst
    have HX := Lib.hid (show filOk bits data z l = false by simp [filOk, hst'])
    go_enter Try.func35, Try.ntmps35
    go_wp2_with fail
    refine (specStoreOk_any A n c bits B m d data _ (H1.old h0) (H1.old h1) hm hz).mono ?_
    rintro e w1 ⟨rfl, f1⟩
    have H2 := H1.go f1
    rw [hst']
    go_wp2_with fail
    go_ret
    exact ⟨ret_bool HX.out.symm, H2.fr⟩
end Go.Proofs.Ytbmoolmgfpcnkaa
