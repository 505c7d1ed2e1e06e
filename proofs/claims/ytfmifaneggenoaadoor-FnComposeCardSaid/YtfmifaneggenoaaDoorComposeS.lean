/-
  The reference's Compose.
-/
import Derived.Test.YtfmifaneggenoaaDoorCompose
import Derived.Test.YtfmifaneggenoaaDoorApartS
namespace Go.Proofs.YtfmifaneggenoaaDoor
open Go.RowKit

set_option linter.unusedVariables false
set_option linter.unusedSimpArgs false
set_option maxRecDepth 100000 in
set_option maxHeartbeats 8000000 in
theorem specCompose_any (A : Option Addr) (n c : Nat) (l : List Int) (w : World) (h : Rd w A n 1 (l.map (Value.int .i64))) (hn : n ≤ 2097152) (hok : ∀ x ∈ l, InI x) :
    Calls Tryd.prog 26 #[.slice A n c] w (Made w 3 1 (compL l).length ((compL l).map (Value.int .i64))) := by
  have HL := Lib.hid h.len1
  have H0 := Hp.start w
  have hal := apart_len l
  rw [HL.out] at hal
  have HCM := Lib.hid (show compL l = ((apartL l).foldl cStep ([], -1)).1 from rfl)
  generalize compL l = out at HCM ⊢
  go_enter Tryd.func26, Tryd.ntmps26
  go_wp2_with fail
  refine (specApart_any A n c l _ h hn hok).mono ?_
  rintro e w1 ⟨X, dX, rfl, ox, fx⟩
  have H1 := (H0.made ox fx).lit0 3 1
  clear H0 ox fx h
  generalize apartL l = xs at H1 HCM hal ⊢
  obtain ⟨m, hm⟩ : ∃ m, m = xs.length := ⟨_, rfl⟩
  have HM := Lib.hid hm
  rw [← hm] at H1 hal ⊢
  clear hm
  go_wp2_with fail
  go_loopw [4, 5, 6] (fun v tv iv wr => ∃ (i : Nat) (t : Int) (o : List Int), iv = .int .i64 i ∧ tv = .int .i64 t ∧ i ≤ m ∧ CSt xs i o t ∧ Hp [] w wr [.row 3 1 v o.length (o.map (Value.int .i64)), .row 3 1 (.slice X m dX) m (xs.map (Value.int .i64))]) (fun _ _ iv _ => m - (intOf iv).toNat)
  case atStart => exact ⟨0, -1, [], rfl, rfl, by omega, CSt.start xs, H1⟩
  case round =>
    clear H1
    obtain ⟨i, t, o, rfl, rfl, hi, hst, H⟩ := hrel
    obtain ⟨B, d, rfl⟩ := H.shape 0 rfl
    have HC := Lib.hid hst
    by_cases hlt : i < m
    · obtain ⟨cc, hx⟩ := at_some HM.out.symm hlt
      have HX := Lib.hid (show xs[i]? = some cc from hx)
      obtain ⟨gX, cX, e, _⟩ := H.form 1 rfl (by omega)
      injection e with e1 _ e2
      subst e1 e2
      have cx := H.atM 1 rfl hx
      have hi0 : (0 : Int) ≤ (i : Int) := by omega
      have hi1 : (i : Int) < (m : Int) := by omega
      have hol : o.length ≤ 56623104 := by have := hst.len; omega
      have htl := hst.lo
      have hth := hst.hi
      clear hst
      go_wp2_with fail
      refine (specClass_any _ _).mono ?_
      rintro e w2 ⟨rfl, f2⟩
      replace H := H.go f2
      clear f2 cx
      have cx := H.atM 1 rfl hx
      by_cases ht : t < 0
      · have ht1 : ¬ 0 ≤ t := by omega
        have HS := Lib.hid (cStep_neg (o := o) (c := cc) ht)
        clear cx
        have cx := H.atM 1 rfl hx
        go_wp2_with (at_builtin; refine wp_appM (f := Value.int .i64) (H) rfl _ _ _ rfl Tryd.underlying29 infoInt rfl 0 _ _ rfl rfl _ _ (cc) rfl (by simp) rfl (by first | (simp only [maxLen]; omega) | (simp [maxLen]; done) | (simp [maxLen]; omega)) (by first | omega | (simp; done) | (simp; omega)) ?_)
        intro v' w' H'
        have H2 : Hp [] w w' [.row 3 1 v' (o.length + 1) ((o ++ [cc]).map (Value.int .i64)), .row 3 1 (.slice (some ⟨gX, 0, none⟩) m dX) m (xs.map (Value.int .i64))] := by
          rw [List.map_append]
          exact H'
        clear H' cx
        obtain ⟨B2, d2, rfl⟩ := H2.shape 0 rfl
        by_cases hz : cls cc = 0
        · have hz' : (cls cc == 0) = true := by simpa using hz
          have HE := Lib.hid (HS.out.trans (by rw [if_pos hz]))
          go_wp2_with fail
          go_roundw
          case rel => exact ⟨i + 1, (o.length : Int), o ++ [cc], by go_num, by go_num, by omega, HC.out.next HX.out HE.out (by omega) (by rw [List.length_append, List.length_singleton]; omega) (by have := HC.out.len; rw [List.length_append, List.length_singleton]; omega), by rw [List.length_append, List.length_singleton]; exact H2⟩
          case measure => simp [intOf]; omega
        · have hz' : (cls cc == 0) = false := by simpa using hz
          have HE := Lib.hid (HS.out.trans (by rw [if_neg hz]))
          go_wp2_with fail
          go_roundw
          case rel => exact ⟨i + 1, _, o ++ [cc], by go_num, by first | rfl | trivial, by omega, HC.out.next HX.out HE.out HC.out.lo (by have := HC.out.hi; rw [List.length_append, List.length_singleton]; omega) (by have := HC.out.len; rw [List.length_append, List.length_singleton]; omega), by rw [List.length_append, List.length_singleton]; exact H2⟩
          case measure => simp [intOf]; omega
      · obtain ⟨k, rfl⟩ : ∃ k : Nat, t = (k : Int) := ⟨t.toNat, by omega⟩
        have hko : k < o.length := by omega
        obtain ⟨y, hy⟩ := at_some (l := o) rfl hko
        obtain ⟨gO, cO, e, _⟩ := H.form 0 rfl (by omega)
        injection e with e1 _ e2
        subst e1 e2
        have cy := H.atM 0 rfl hy
        have hk0 : (0 : Int) ≤ (k : Int) := by omega
        have hk1 : (k : Int) < (o.length : Int) := by omega
        have HY := Lib.hid (show o[k]? = some y from hy)
        obtain ⟨q, hq⟩ : ∃ q, q + 1 = o.length := ⟨o.length - 1, by omega⟩
        obtain ⟨z, hz⟩ := at_some (l := o) rfl (show q < o.length by omega)
        have HQ := Lib.hid (show o.length - 1 = q by omega)
        have hw1 : IntKind.i64.wrap ((o.length : Int) - 1) = (q : Int) := by rw [IntWalk.i64_in _ (by omega)]; omega
        have HZ := Lib.hid (show o[o.length - 1]? = some z by rw [HQ.out]; exact hz)
        have cz := H.atM 0 rfl hz
        have hq0 : (0 : Int) ≤ (q : Int) := by omega
        have hq1 : (q : Int) < (o.length : Int) := by omega
        have HQ2 := Lib.hid (show (o.length : Int) - 1 = (q : Int) by omega)
        clear hq
        by_cases he : (q : Int) = (k : Int)
        · have he' : ((k : Int) == (q : Int)) = true := by simpa using he.symm
          have HF := Lib.hid (freeC_last (c := cc) (HQ2.out.trans he))
          clear he cz
          go_wp2_with fail
          clear cx cy
          have cx := H.atM 1 rfl hx
          have cy := H.atM 0 rfl hy
          obtain ⟨pp, hp⟩ : ∃ p, p = pairF y cc := ⟨_, rfl⟩
          have HP := Lib.hid hp
          clear hp
          obtain ⟨p1, p2⟩ := pp
          go_wp2_with fail
          go_region_held3 (fun w' => w'.cell? ⟨gO, k, none⟩ = some (.int .i64 y) ∧ w'.cell? ⟨gX, i, none⟩ = some (.int .i64 cc))
            (first
              | exact ⟨cya, cxa⟩
              | exact ⟨cy, cx⟩)
            ((first
              | (go_at_call 31
                 refine (specPair_any _ _ _).mono ?_
                 rintro e w5 ⟨rfl, f5⟩
                 rw [← HP.out]
                 have HA := H.drew.go f5
                 have cya := HA.atM 0 rfl hy
                 have cxa := HA.atM 1 rfl hx)))
          have fy := HA.free 0 rfl k
          clear cx cy
          cases p2 with
          | true =>
            have HS := Lib.hid (cStep_put rfl HY.out HF.out HP.out.symm)
            go_wp2_with fail
            go_roundw
            case rel => exact ⟨i + 1, (k : Int), o.set k p1, by go_num, by first | rfl | trivial, by omega, HC.out.next HX.out HS.out (by omega) (by rw [List.length_set]; omega) (by have := HC.out.len; rw [List.length_set]; omega), by rw [List.length_set]; exact HA.putM 0 rfl k p1⟩
            case measure => simp [intOf]; omega
          | false =>
            have HS := Lib.hid (cStep_nopair rfl HY.out HP.out.symm)
            have cx := cxa
            clear cxa
            clear cx
            have cx := HA.atM 1 rfl hx
            go_wp2_with (at_builtin; refine wp_appM (f := Value.int .i64) (HA) rfl _ _ _ rfl Tryd.underlying29 infoInt rfl 0 _ _ rfl rfl _ _ (cc) rfl (by simp) rfl (by first | (simp only [maxLen]; omega) | (simp [maxLen]; done) | (simp [maxLen]; omega)) (by first | omega | (simp; done) | (simp; omega)) ?_)
            intro v' w' H'
            have H2 : Hp [] w w' [.row 3 1 v' (o.length + 1) ((o ++ [cc]).map (Value.int .i64)), .row 3 1 (.slice (some ⟨gX, 0, none⟩) m dX) m (xs.map (Value.int .i64))] := by
              rw [List.map_append]
              exact H'
            clear H' cx
            obtain ⟨B2, d2, rfl⟩ := H2.shape 0 rfl
            by_cases hz : cls cc = 0
            · have hz' : (cls cc == 0) = true := by simpa using hz
              have HE := Lib.hid (HS.out.trans (by rw [if_pos hz]))
              go_wp2_with fail
              go_roundw
              case rel => exact ⟨i + 1, (o.length : Int), o ++ [cc], by go_num, by go_num, by omega, HC.out.next HX.out HE.out (by omega) (by rw [List.length_append, List.length_singleton]; omega) (by have := HC.out.len; rw [List.length_append, List.length_singleton]; omega), by rw [List.length_append, List.length_singleton]; exact H2⟩
              case measure => simp [intOf]; omega
            · have hz' : (cls cc == 0) = false := by simpa using hz
              have HE := Lib.hid (HS.out.trans (by rw [if_neg hz]))
              go_wp2_with fail
              go_roundw
              case rel => exact ⟨i + 1, _, o ++ [cc], by go_num, by first | rfl | trivial, by omega, HC.out.next HX.out HE.out HC.out.lo (by have := HC.out.hi; rw [List.length_append, List.length_singleton]; omega) (by have := HC.out.len; rw [List.length_append, List.length_singleton]; omega), by rw [List.length_append, List.length_singleton]; exact H2⟩
              case measure => simp [intOf]; omega
        · have he' : ((k : Int) == (q : Int)) = false := by simpa using fun h => he h.symm
          have HFF := Lib.hid (freeC_mark (c := cc) HZ.out (fun h => he (HQ2.out.symm.trans h)))
          clear he
          go_wp2_with fail
          refine (specClass_any _ _).mono ?_
          rintro e w3 ⟨rfl, f3⟩
          replace H := H.go f3
          clear f3 cx cy cz
          by_cases hx0 : 0 < cls z
          · have hd1 : decide (0 < cls z) = true := by simpa using hx0
            have cz := H.atM 0 rfl hz
            go_wp2_with fail
            refine (specClass_any _ _).mono ?_
            rintro e w4 ⟨rfl, f4⟩
            replace H := H.go f4
            clear f4 cz
            have cx := H.atM 1 rfl hx
            have cy := H.atM 0 rfl hy
            by_cases hxy : cls z < cls cc
            · have hd2 : decide (cls z < cls cc) = true := by simpa using hxy
              have HF := Lib.hid (show freeC o k cc = true from HFF.out.trans (by rw [hd1, hd2]; rfl))
              go_wp2_with fail
              clear cx cy
              have cx := H.atM 1 rfl hx
              have cy := H.atM 0 rfl hy
              obtain ⟨pp, hp⟩ : ∃ p, p = pairF y cc := ⟨_, rfl⟩
              have HP := Lib.hid hp
              clear hp
              obtain ⟨p1, p2⟩ := pp
              go_wp2_with fail
              go_region_held3 (fun w' => w'.cell? ⟨gO, k, none⟩ = some (.int .i64 y) ∧ w'.cell? ⟨gX, i, none⟩ = some (.int .i64 cc))
                (first
                  | exact ⟨cya, cxa⟩
                  | exact ⟨cy, cx⟩)
                ((first
                  | (go_at_call 31
                     refine (specPair_any _ _ _).mono ?_
                     rintro e w5 ⟨rfl, f5⟩
                     rw [← HP.out]
                     have HA := H.drew.go f5
                     have cya := HA.atM 0 rfl hy
                     have cxa := HA.atM 1 rfl hx)))
              have fy := HA.free 0 rfl k
              clear cx cy
              cases p2 with
              | true =>
                have HS := Lib.hid (cStep_put rfl HY.out HF.out HP.out.symm)
                go_wp2_with fail
                go_roundw
                case rel => exact ⟨i + 1, (k : Int), o.set k p1, by go_num, by first | rfl | trivial, by omega, HC.out.next HX.out HS.out (by omega) (by rw [List.length_set]; omega) (by have := HC.out.len; rw [List.length_set]; omega), by rw [List.length_set]; exact HA.putM 0 rfl k p1⟩
                case measure => simp [intOf]; omega
              | false =>
                have HS := Lib.hid (cStep_nopair rfl HY.out HP.out.symm)
                have cx := cxa
                clear cxa
                clear cx
                have cx := HA.atM 1 rfl hx
                go_wp2_with (at_builtin; refine wp_appM (f := Value.int .i64) (HA) rfl _ _ _ rfl Tryd.underlying29 infoInt rfl 0 _ _ rfl rfl _ _ (cc) rfl (by simp) rfl (by first | (simp only [maxLen]; omega) | (simp [maxLen]; done) | (simp [maxLen]; omega)) (by first | omega | (simp; done) | (simp; omega)) ?_)
                intro v' w' H'
                have H2 : Hp [] w w' [.row 3 1 v' (o.length + 1) ((o ++ [cc]).map (Value.int .i64)), .row 3 1 (.slice (some ⟨gX, 0, none⟩) m dX) m (xs.map (Value.int .i64))] := by
                  rw [List.map_append]
                  exact H'
                clear H' cx
                obtain ⟨B2, d2, rfl⟩ := H2.shape 0 rfl
                by_cases hz : cls cc = 0
                · have hz' : (cls cc == 0) = true := by simpa using hz
                  have HE := Lib.hid (HS.out.trans (by rw [if_pos hz]))
                  go_wp2_with fail
                  go_roundw
                  case rel => exact ⟨i + 1, (o.length : Int), o ++ [cc], by go_num, by go_num, by omega, HC.out.next HX.out HE.out (by omega) (by rw [List.length_append, List.length_singleton]; omega) (by have := HC.out.len; rw [List.length_append, List.length_singleton]; omega), by rw [List.length_append, List.length_singleton]; exact H2⟩
                  case measure => simp [intOf]; omega
                · have hz' : (cls cc == 0) = false := by simpa using hz
                  have HE := Lib.hid (HS.out.trans (by rw [if_neg hz]))
                  go_wp2_with fail
                  go_roundw
                  case rel => exact ⟨i + 1, _, o ++ [cc], by go_num, by first | rfl | trivial, by omega, HC.out.next HX.out HE.out HC.out.lo (by have := HC.out.hi; rw [List.length_append, List.length_singleton]; omega) (by have := HC.out.len; rw [List.length_append, List.length_singleton]; omega), by rw [List.length_append, List.length_singleton]; exact H2⟩
                  case measure => simp [intOf]; omega
            · have hd2 : decide (cls z < cls cc) = false := by simpa using hxy
              have HF := Lib.hid (show freeC o k cc = false from HFF.out.trans (by rw [hd1, hd2]; rfl))
              have HS := Lib.hid (cStep_nofree HF.out)
              clear cx
              have cx := H.atM 1 rfl hx
              go_wp2_with (at_builtin; refine wp_appM (f := Value.int .i64) (H) rfl _ _ _ rfl Tryd.underlying29 infoInt rfl 0 _ _ rfl rfl _ _ (cc) rfl (by simp) rfl (by first | (simp only [maxLen]; omega) | (simp [maxLen]; done) | (simp [maxLen]; omega)) (by first | omega | (simp; done) | (simp; omega)) ?_)
              intro v' w' H'
              have H2 : Hp [] w w' [.row 3 1 v' (o.length + 1) ((o ++ [cc]).map (Value.int .i64)), .row 3 1 (.slice (some ⟨gX, 0, none⟩) m dX) m (xs.map (Value.int .i64))] := by
                rw [List.map_append]
                exact H'
              clear H' cx
              obtain ⟨B2, d2, rfl⟩ := H2.shape 0 rfl
              by_cases hz : cls cc = 0
              · have hz' : (cls cc == 0) = true := by simpa using hz
                have HE := Lib.hid (HS.out.trans (by rw [if_pos hz]))
                go_wp2_with fail
                go_roundw
                case rel => exact ⟨i + 1, (o.length : Int), o ++ [cc], by go_num, by go_num, by omega, HC.out.next HX.out HE.out (by omega) (by rw [List.length_append, List.length_singleton]; omega) (by have := HC.out.len; rw [List.length_append, List.length_singleton]; omega), by rw [List.length_append, List.length_singleton]; exact H2⟩
                case measure => simp [intOf]; omega
              · have hz' : (cls cc == 0) = false := by simpa using hz
                have HE := Lib.hid (HS.out.trans (by rw [if_neg hz]))
                go_wp2_with fail
                go_roundw
                case rel => exact ⟨i + 1, _, o ++ [cc], by go_num, by first | rfl | trivial, by omega, HC.out.next HX.out HE.out HC.out.lo (by have := HC.out.hi; rw [List.length_append, List.length_singleton]; omega) (by have := HC.out.len; rw [List.length_append, List.length_singleton]; omega), by rw [List.length_append, List.length_singleton]; exact H2⟩
                case measure => simp [intOf]; omega
          · have hd1 : decide (0 < cls z) = false := by simpa using hx0
            have HF := Lib.hid (show freeC o k cc = false from HFF.out.trans (by rw [hd1]; rfl))
            have HS := Lib.hid (cStep_nofree HF.out)
            have cx := H.atM 1 rfl hx
            clear cx
            have cx := H.atM 1 rfl hx
            go_wp2_with (at_builtin; refine wp_appM (f := Value.int .i64) (H) rfl _ _ _ rfl Tryd.underlying29 infoInt rfl 0 _ _ rfl rfl _ _ (cc) rfl (by simp) rfl (by first | (simp only [maxLen]; omega) | (simp [maxLen]; done) | (simp [maxLen]; omega)) (by first | omega | (simp; done) | (simp; omega)) ?_)
            intro v' w' H'
            have H2 : Hp [] w w' [.row 3 1 v' (o.length + 1) ((o ++ [cc]).map (Value.int .i64)), .row 3 1 (.slice (some ⟨gX, 0, none⟩) m dX) m (xs.map (Value.int .i64))] := by
              rw [List.map_append]
              exact H'
            clear H' cx
            obtain ⟨B2, d2, rfl⟩ := H2.shape 0 rfl
            by_cases hz : cls cc = 0
            · have hz' : (cls cc == 0) = true := by simpa using hz
              have HE := Lib.hid (HS.out.trans (by rw [if_pos hz]))
              go_wp2_with fail
              go_roundw
              case rel => exact ⟨i + 1, (o.length : Int), o ++ [cc], by go_num, by go_num, by omega, HC.out.next HX.out HE.out (by omega) (by rw [List.length_append, List.length_singleton]; omega) (by have := HC.out.len; rw [List.length_append, List.length_singleton]; omega), by rw [List.length_append, List.length_singleton]; exact H2⟩
              case measure => simp [intOf]; omega
            · have hz' : (cls cc == 0) = false := by simpa using hz
              have HE := Lib.hid (HS.out.trans (by rw [if_neg hz]))
              go_wp2_with fail
              go_roundw
              case rel => exact ⟨i + 1, _, o ++ [cc], by go_num, by first | rfl | trivial, by omega, HC.out.next HX.out HE.out HC.out.lo (by have := HC.out.hi; rw [List.length_append, List.length_singleton]; omega) (by have := HC.out.len; rw [List.length_append, List.length_singleton]; omega), by rw [List.length_append, List.length_singleton]; exact H2⟩
              case measure => simp [intOf]; omega
    · have hge : ¬ ((i : Int) < (m : Int)) := by omega
      have HD := Lib.hid (HCM.out.trans (hst.done (by rw [← HM.out]; omega)))
      go_wp2_with fail
      go_ret
      rw [HD.out]
      exact H.toMade 0 rfl
end Go.Proofs.YtfmifaneggenoaaDoor
