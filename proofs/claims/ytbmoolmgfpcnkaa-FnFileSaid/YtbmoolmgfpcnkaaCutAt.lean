/-
  CutAt: the program and the reference hand back the same two lists, in memory of their own.
-/
import Derived.Test.YtbmoolmgfpcnkaaExtents
import Derived.Test.YtbmoolmgfpcnkaaExtsOk
import Derived.Test.YtbmoolmgfpcnkaaExtsOkI
namespace Go.Proofs.Ytbmoolmgfpcnkaa
open Go.RowKit

set_option maxRecDepth 100000 in
set_option maxHeartbeats 4000000 in
theorem implCutAt_hp (A : Option Addr) (n c : Nat) (l : List (Int × Int × Int)) (i : Int) (w : World) (h : Rd w A n 3 (l.flatMap cExt)) (hn : n ≤ 1048576) :
    Calls Try.prog 29 #[.slice A n c, .int .i64 i] w (Gives2 w 92 3 (cutExts l i).length ((cutExts l i).flatMap cExt) 3 1 (cutGone l i).length ((cutGone l i).map (Value.int .i64))) := by
  by_cases hok : eOk l = true
  · have OK := eOk_ranges hok
    have HB := Lib.hid (flatL_ok OK)
    have HR1 := Lib.hid (show cutExts l i = extsL (cutTo (flatL l) i 12).1 by simp [cutExts, hok])
    have HR2 := Lib.hid (show cutGone l i = (cutTo (flatL l) i 12).2 by simp [cutGone, hok])
    have HM := Lib.hid (flatL_len l)
    go_enter Try.func29, Try.ntmps29
    go_wp2_with fail
    refine (implExtsOk_any A n c l _ h hn).mono ?_
    rintro e w1 ⟨rfl, f1⟩
    rw [hok]
    go_wp2_with fail
    refine (implFlat_any A n c l _ (h.fr f1) OK hn).mono ?_
    rintro e w3 ⟨A3, c3, rfl, o3, f3⟩
    have H2 := Hp.made ((Hp.start w).go f1) o3 f3
    obtain ⟨g, c4, e, hg⟩ := H2.form 0 rfl (by omega)
    injection e with e1 _ e2
    subst e1 e2
    obtain ⟨m, hm⟩ : ∃ q, q = flatL l := ⟨_, rfl⟩
    rw [← hm] at H2 HB HR1 HR2 HM
    clear hm o3 f3 h OK hok hg
    go_wp2_with fail
    go_loopw [7, 18] (fun v j wr => ∃ k : Nat, k ≤ 12 ∧ j = .int .i64 k ∧ Hp [] w wr [.row 3 1 v (cutTo m i k).2.length ((cutTo m i k).2.map (Value.int .i64)), .row 3 1 (.slice (some ⟨g, 0, none⟩) 12 c3) 12 ((cutTo m i k).1.map (Value.int .i64))]) (fun _ j _ => 12 - (intOf j).toNat)
    case atStart => exact ⟨0, by omega, rfl, H2.lit0 3 1⟩
    case round =>
      clear H2
      obtain ⟨k, hk, rfl, H⟩ := hrel
      by_cases hlt : k < 12
      · obtain ⟨x, hx⟩ := at_some HM.out hlt
        have hcl := cutTo_len m i k
        have hxk : (cutTo m i k).1[k]? = some x := (cutTo_at m i k k (Nat.le_refl _)).trans hx
        have cx := H.atM 1 rfl hxk
        have hxb := HB.out x hx.mem
        by_cases hnk : i ≤ (k : Int)
        · by_cases hx0 : 0 ≤ x
          · have HE := Lib.hid (show cutTo m i (k + 1) = ((cutTo m i k).1.set k (-1), (cutTo m i k).2 ++ [x]) by simp [cutTo, hnk, hx0, show m[k]? = some x from hx])
            clear hx hxk
            go_wp2_with (at_builtin; refine wp_appM (f := Value.int .i64) (H) rfl _ _ _ rfl Try.underlying52 infoInt rfl 0 _ _ rfl rfl _ _ (x) rfl (by simp) rfl (by first | (simp only [maxLen]; omega) | (simp [maxLen]; done) | (simp [maxLen]; omega)) (by first | omega | (simp; done) | (simp; omega)) ?_)
            intro v' w' H'
            obtain ⟨y, hy⟩ : ∃ y, w'.cell? ⟨g, k, none⟩ = some y := ⟨_, H'.at_ 1 rfl (j := k) (List.getElem?_eq_getElem (by rw [List.length_map, hcl.1, HM.out]; exact hlt))⟩
            have hz := H'.free 1 rfl k
            have H3 := Lib.hid (H'.putM 1 rfl k (-1))
            clear H' H hcl
            go_wp2
            go_roundw
            case rel => exact ⟨k + 1, by omega, by go_num, by rw [HE.out]; simpa using H3.out⟩
            case measure => simp [intOf]; omega
          · have hx0' : decide (0 ≤ x) = false := by simpa using hx0
            have HE := Lib.hid (show cutTo m i (k + 1) = cutTo m i k by simp [cutTo, hx0, show m[k]? = some x from hx])
            clear hx hxk
            go_wp2_with fail
            go_roundw
            case rel => exact ⟨k + 1, by omega, by go_num, by rw [HE.out]; exact H⟩
            case measure => simp [intOf]; omega
        · have HE := Lib.hid (show cutTo m i (k + 1) = cutTo m i k by simp [cutTo, hnk])
          clear hx hxk
          go_wp2_with fail
          go_roundw
          case rel => exact ⟨k + 1, by omega, by go_num, by rw [HE.out]; exact H⟩
          case measure => simp [intOf]; omega
      · have hk12 : k = 12 := by omega
        rw [hk12, ← HR2.out] at H
        clear hk12
        obtain ⟨A5, c5, rfl⟩ := H.shape 0 rfl
        go_wp2_with fail
        refine (implExtents_any _ _ _ _ (H.rd 1 rfl) (cutTo_ok HB.out i 12)).mono ?_
        rintro e w6 ⟨A6, c6, rfl, o6, f6⟩
        have H6 := (H.made o6 f6).sub (.cons_cons _ (.cons_cons _ (.cons _ .slnil)))
        rw [← HR1.out] at H6 ⊢
        go_wp2_with fail
        go_ret2
        exact ⟨A6, c6, A5, c5, rfl, H6⟩
  · have hok' : eOk l = false := by simpa using hok
    have HR1 := Lib.hid (show cutExts l i = [] by simp [cutExts, hok'])
    have HR2 := Lib.hid (show cutGone l i = [] by simp [cutGone, hok'])
    rw [HR1.out, HR2.out]
    go_enter Try.func29, Try.ntmps29
    go_wp2_with fail
    refine (implExtsOk_any A n c l _ h hn).mono ?_
    rintro e w1 ⟨rfl, f1⟩
    rw [hok']
    go_wp2_with fail
    go_ret2
    exact ⟨_, _, _, _, rfl, (((Hp.start w).go f1).nil_ 3 1).nil_ 92 3⟩
theorem implCutAt_any (A : Option Addr) (n c : Nat) (l : List (Int × Int × Int)) (i : Int) (w : World) (h : Rd w A n 3 (l.flatMap cExt)) (hn : n ≤ 1048576) :
    Calls Try.prog 29 #[.slice A n c, .int .i64 i] w (Made2 w 92 3 (cutExts l i).length ((cutExts l i).flatMap cExt) 3 1 (cutGone l i).length ((cutGone l i).map (Value.int .i64))) :=
  (implCutAt_hp A n c l i w h hn).mono fun _ _ h => h.made

set_option maxRecDepth 100000 in
set_option maxHeartbeats 4000000 in
theorem specCutAt_hp (A : Option Addr) (n c : Nat) (l : List (Int × Int × Int)) (i : Int) (w : World) (h : Rd w A n 3 (l.flatMap cExt)) (hn : n ≤ 1048576) :
    Calls Try.prog 46 #[.slice A n c, .int .i64 i] w (Gives2 w 92 3 (cutExts l i).length ((cutExts l i).flatMap cExt) 3 1 (cutGone l i).length ((cutGone l i).map (Value.int .i64))) := by
  by_cases hok : eOk l = true
  · have OK := eOk_ranges hok
    have HB := Lib.hid (flatL_ok OK)
    have HR1 := Lib.hid (show cutExts l i = extsL (cutTo (flatL l) i 12).1 by simp [cutExts, hok])
    have HR2 := Lib.hid (show cutGone l i = (cutTo (flatL l) i 12).2 by simp [cutGone, hok])
    have HM := Lib.hid (flatL_len l)
    go_enter Try.func46, Try.ntmps46
    have L0 := (Hp.start w).lit0 3 1
    go_wp2_with fail
    refine (specExtsOk_any A n c l _ (h.alloc _) hn).mono ?_
    rintro e w1 ⟨rfl, f1⟩
    rw [hok]
    go_wp2_with fail
    refine (specMap_any A n c l _ ((h.alloc _).fr f1) OK hn).mono ?_
    rintro e w3 ⟨A3, c3, rfl, o3, f3⟩
    have H2 := Hp.made (L0.go f1) o3 f3
    obtain ⟨g, c4, e, hg⟩ := H2.form 0 rfl (by omega)
    injection e with e1 _ e2
    subst e1 e2
    obtain ⟨m, hm⟩ : ∃ q, q = flatL l := ⟨_, rfl⟩
    rw [← hm] at H2 HB HR1 HR2 HM
    clear hm o3 f3 h OK hok hg
    go_wp2_with fail
    go_loopw [6, 8] (fun v j wr => ∃ k : Nat, k ≤ 12 ∧ j = .int .i64 k ∧ Hp [] w wr [.row 3 1 v (cutTo m i k).2.length ((cutTo m i k).2.map (Value.int .i64)), .row 3 1 (.slice (some ⟨g, 0, none⟩) 12 c3) 12 ((cutTo m i k).1.map (Value.int .i64))]) (fun _ j _ => 12 - (intOf j).toNat)
    case atStart => exact ⟨0, by omega, rfl, H2.swap⟩
    case round =>
      clear H2
      obtain ⟨k, hk, rfl, H⟩ := hrel
      by_cases hlt : k < 12
      · obtain ⟨x, hx⟩ := at_some HM.out hlt
        have hcl := cutTo_len m i k
        have hxk : (cutTo m i k).1[k]? = some x := (cutTo_at m i k k (Nat.le_refl _)).trans hx
        have cx := H.atM 1 rfl hxk
        have hxb := HB.out x hx.mem
        by_cases hnk : i ≤ (k : Int)
        · by_cases hx0 : 0 ≤ x
          · have HE := Lib.hid (show cutTo m i (k + 1) = ((cutTo m i k).1.set k (-1), (cutTo m i k).2 ++ [x]) by simp [cutTo, hnk, hx0, show m[k]? = some x from hx])
            clear hx hxk
            go_wp2_with (at_builtin; refine wp_appM (f := Value.int .i64) (H) rfl _ _ _ rfl Try.underlying52 infoInt rfl 0 _ _ rfl rfl _ _ (x) rfl (by simp) rfl (by first | (simp only [maxLen]; omega) | (simp [maxLen]; done) | (simp [maxLen]; omega)) (by first | omega | (simp; done) | (simp; omega)) ?_)
            intro v' w' H'
            obtain ⟨y, hy⟩ : ∃ y, w'.cell? ⟨g, k, none⟩ = some y := ⟨_, H'.at_ 1 rfl (j := k) (List.getElem?_eq_getElem (by rw [List.length_map, hcl.1, HM.out]; exact hlt))⟩
            have hz := H'.free 1 rfl k
            have H3 := Lib.hid (H'.putM 1 rfl k (-1))
            clear H' H hcl
            go_wp2
            go_roundw
            case rel => exact ⟨k + 1, by omega, by go_num, by rw [HE.out]; simpa using H3.out⟩
            case measure => simp [intOf]; omega
          · have hx0' : decide (0 ≤ x) = false := by simpa using hx0
            have HE := Lib.hid (show cutTo m i (k + 1) = cutTo m i k by simp [cutTo, hx0, show m[k]? = some x from hx])
            clear hx hxk
            go_wp2_with fail
            go_roundw
            case rel => exact ⟨k + 1, by omega, by go_num, by rw [HE.out]; exact H⟩
            case measure => simp [intOf]; omega
        · have HE := Lib.hid (show cutTo m i (k + 1) = cutTo m i k by simp [cutTo, hnk])
          clear hx hxk
          go_wp2_with fail
          go_roundw
          case rel => exact ⟨k + 1, by omega, by go_num, by rw [HE.out]; exact H⟩
          case measure => simp [intOf]; omega
      · have hk12 : k = 12 := by omega
        rw [hk12, ← HR2.out] at H
        clear hk12
        obtain ⟨A5, c5, rfl⟩ := H.shape 0 rfl
        go_wp2_with fail
        refine (specExts_any _ _ _ _ (H.rd 1 rfl) (cutTo_ok HB.out i 12)).mono ?_
        rintro e w6 ⟨A6, c6, rfl, o6, f6⟩
        have H6 := (H.made o6 f6).sub (.cons_cons _ (.cons_cons _ (.cons _ .slnil)))
        rw [← HR1.out] at H6 ⊢
        go_wp2_with fail
        go_ret2
        exact ⟨A6, c6, A5, c5, rfl, H6⟩
  · have hok' : eOk l = false := by simpa using hok
    have HR1 := Lib.hid (show cutExts l i = [] by simp [cutExts, hok'])
    have HR2 := Lib.hid (show cutGone l i = [] by simp [cutGone, hok'])
    rw [HR1.out, HR2.out]
    have L0 := (Hp.start w).lit0 3 1
    go_enter Try.func46, Try.ntmps46
    go_wp2_with fail
    refine (specExtsOk_any A n c l _ (h.alloc _) hn).mono ?_
    rintro e w1 ⟨rfl, f1⟩
    rw [hok']
    go_wp2_with fail
    go_ret2
    exact ⟨_, _, _, _, rfl, (L0.go f1).lit0 92 3⟩
theorem specCutAt_any (A : Option Addr) (n c : Nat) (l : List (Int × Int × Int)) (i : Int) (w : World) (h : Rd w A n 3 (l.flatMap cExt)) (hn : n ≤ 1048576) :
    Calls Try.prog 46 #[.slice A n c, .int .i64 i] w (Made2 w 92 3 (cutExts l i).length ((cutExts l i).flatMap cExt) 3 1 (cutGone l i).length ((cutGone l i).map (Value.int .i64))) :=
  (specCutAt_hp A n c l i w h hn).mono fun _ _ h => h.made

end Go.Proofs.Ytbmoolmgfpcnkaa
