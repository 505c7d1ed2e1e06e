/-
  FoldOf and Fold, the program's and the reference's.
-/
import Derived.Test.YtfmifaneggenoaaDoorMNames
import Derived.Test.YtfmifaneggenoaaDoorClass
import Derived.Test.YtfmifaneggenoaaDoorApartS
namespace Go.Proofs.YtfmifaneggenoaaDoor
open Go.RowKit

set_option linter.unusedVariables false
set_option linter.unusedSimpArgs false
set_option maxRecDepth 100000 in
set_option maxHeartbeats 4000000 in
theorem implFoldOf_any (c : Int) (w : World) :
    Calls Tryd.prog 100 #[.int .i64 c] w (Made w 3 1 (foldF c).length ((foldF c).map (Value.int .i64))) := by
  have H0 := Hp.start w
  go_enter Tryd.func100, Tryd.ntmps100
  go_wp2_with fail
  refine (within_any _ _ _ _).mono ?_
  rintro e w ⟨rfl, rfl⟩
  rcases (show inB c 65 90 = true ∨ inB c 65 90 = false by cases inB c 65 90 <;> simp) with h1 | h1
  · rw [h1]
    have hy : (inB c 65 90 || inB c 913 929 || inB c 931 937 || inB c 1040 1071 || (c == 198 || c == 208 || c == 216 || c == 222)) = true := by simp [h1]
    clear h1
    have hct := foldF_top hy
    have HY := Lib.hid (foldF_yes hy)
    have hw : IntKind.i64.wrap (c + 32) = c + 32 := IntWalk.i64_in _ (by omega)
    have K := H0.lit 3 1 1 [.int .i64 (c + 32)] rfl (by simp [maxLen])
    clear hy
    go_wp2_with fail
    go_ret
    rw [HY.out]
    exact K.toMade 0 rfl
  rw [h1]
  go_wp2_with fail
  refine (within_any _ _ _ _).mono ?_
  rintro e w ⟨rfl, rfl⟩
  rcases (show inB c 913 929 = true ∨ inB c 913 929 = false by cases inB c 913 929 <;> simp) with h2 | h2
  · rw [h2]
    have hy : (inB c 65 90 || inB c 913 929 || inB c 931 937 || inB c 1040 1071 || (c == 198 || c == 208 || c == 216 || c == 222)) = true := by simp [h2]
    clear h1 h2
    have hct := foldF_top hy
    have HY := Lib.hid (foldF_yes hy)
    have hw : IntKind.i64.wrap (c + 32) = c + 32 := IntWalk.i64_in _ (by omega)
    have K := H0.lit 3 1 1 [.int .i64 (c + 32)] rfl (by simp [maxLen])
    clear hy
    go_wp2_with fail
    go_ret
    rw [HY.out]
    exact K.toMade 0 rfl
  rw [h2]
  go_wp2_with fail
  refine (within_any _ _ _ _).mono ?_
  rintro e w ⟨rfl, rfl⟩
  rcases (show inB c 931 937 = true ∨ inB c 931 937 = false by cases inB c 931 937 <;> simp) with h3 | h3
  · rw [h3]
    have hy : (inB c 65 90 || inB c 913 929 || inB c 931 937 || inB c 1040 1071 || (c == 198 || c == 208 || c == 216 || c == 222)) = true := by simp [h3]
    clear h1 h2 h3
    have hct := foldF_top hy
    have HY := Lib.hid (foldF_yes hy)
    have hw : IntKind.i64.wrap (c + 32) = c + 32 := IntWalk.i64_in _ (by omega)
    have K := H0.lit 3 1 1 [.int .i64 (c + 32)] rfl (by simp [maxLen])
    clear hy
    go_wp2_with fail
    go_ret
    rw [HY.out]
    exact K.toMade 0 rfl
  rw [h3]
  go_wp2_with fail
  refine (within_any _ _ _ _).mono ?_
  rintro e w ⟨rfl, rfl⟩
  rcases (show inB c 1040 1071 = true ∨ inB c 1040 1071 = false by cases inB c 1040 1071 <;> simp) with h4 | h4
  · rw [h4]
    have hy : (inB c 65 90 || inB c 913 929 || inB c 931 937 || inB c 1040 1071 || (c == 198 || c == 208 || c == 216 || c == 222)) = true := by simp [h4]
    clear h1 h2 h3 h4
    have hct := foldF_top hy
    have HY := Lib.hid (foldF_yes hy)
    have hw : IntKind.i64.wrap (c + 32) = c + 32 := IntWalk.i64_in _ (by omega)
    have K := H0.lit 3 1 1 [.int .i64 (c + 32)] rfl (by simp [maxLen])
    clear hy
    go_wp2_with fail
    go_ret
    rw [HY.out]
    exact K.toMade 0 rfl
  rw [h4]
  rcases (show (c == 198) = true ∨ (c == 198) = false by cases (c == 198) <;> simp) with j1 | j1
  · have hy : (inB c 65 90 || inB c 913 929 || inB c 931 937 || inB c 1040 1071 || (c == 198 || c == 208 || c == 216 || c == 222)) = true := by
      rw [j1]; simp
    clear h1 h2 h3 h4
    have hct := foldF_top hy
    have HY := Lib.hid (foldF_yes hy)
    have hw : IntKind.i64.wrap (c + 32) = c + 32 := IntWalk.i64_in _ (by omega)
    have K := H0.lit 3 1 1 [.int .i64 (c + 32)] rfl (by simp [maxLen])
    clear hy
    go_wp2_with fail
    go_ret
    rw [HY.out]
    exact K.toMade 0 rfl
  rcases (show (c == 208) = true ∨ (c == 208) = false by cases (c == 208) <;> simp) with j2 | j2
  · have hy : (inB c 65 90 || inB c 913 929 || inB c 931 937 || inB c 1040 1071 || (c == 198 || c == 208 || c == 216 || c == 222)) = true := by
      rw [j2]; simp
    clear h1 h2 h3 h4
    have hct := foldF_top hy
    have HY := Lib.hid (foldF_yes hy)
    have hw : IntKind.i64.wrap (c + 32) = c + 32 := IntWalk.i64_in _ (by omega)
    have K := H0.lit 3 1 1 [.int .i64 (c + 32)] rfl (by simp [maxLen])
    clear hy
    go_wp2_with fail
    go_ret
    rw [HY.out]
    exact K.toMade 0 rfl
  rcases (show (c == 216) = true ∨ (c == 216) = false by cases (c == 216) <;> simp) with j3 | j3
  · have hy : (inB c 65 90 || inB c 913 929 || inB c 931 937 || inB c 1040 1071 || (c == 198 || c == 208 || c == 216 || c == 222)) = true := by
      rw [j3]; simp
    clear h1 h2 h3 h4
    have hct := foldF_top hy
    have HY := Lib.hid (foldF_yes hy)
    have hw : IntKind.i64.wrap (c + 32) = c + 32 := IntWalk.i64_in _ (by omega)
    have K := H0.lit 3 1 1 [.int .i64 (c + 32)] rfl (by simp [maxLen])
    clear hy
    go_wp2_with fail
    go_ret
    rw [HY.out]
    exact K.toMade 0 rfl
  rcases (show (c == 222) = true ∨ (c == 222) = false by cases (c == 222) <;> simp) with j4 | j4
  · have hy : (inB c 65 90 || inB c 913 929 || inB c 931 937 || inB c 1040 1071 || (c == 198 || c == 208 || c == 216 || c == 222)) = true := by
      rw [j4]; simp
    clear h1 h2 h3 h4
    have hct := foldF_top hy
    have HY := Lib.hid (foldF_yes hy)
    have hw : IntKind.i64.wrap (c + 32) = c + 32 := IntWalk.i64_in _ (by omega)
    have K := H0.lit 3 1 1 [.int .i64 (c + 32)] rfl (by simp [maxLen])
    clear hy
    go_wp2_with fail
    go_ret
    rw [HY.out]
    exact K.toMade 0 rfl
  have hn : (inB c 65 90 || inB c 913 929 || inB c 931 937 || inB c 1040 1071 || (c == 198 || c == 208 || c == 216 || c == 222)) = false := by
    rw [h1, h2, h3, h4, j1, j2, j3, j4]; rfl
  clear h1 h2 h3 h4
  have HN := Lib.hid (foldF_no hn)
  clear hn
  by_cases g1 : c = 223
  · subst g1
    have K := H0.lit 3 1 2 [.int .i64 115, .int .i64 115] rfl (by simp [maxLen])
    have HE := Lib.hid (HN.out.trans (if_pos rfl))
    go_wp2_with fail
    go_ret
    rw [HE.out]
    exact K.toMade 0 rfl
  · have g1' : (c == 223) = false := by simpa using g1
    by_cases g2 : c = 962
    · subst g2
      have K := H0.lit 3 1 1 [.int .i64 963] rfl (by simp [maxLen])
      have HE := Lib.hid (HN.out.trans ((if_neg g1).trans (if_pos rfl)))
      clear g1
      go_wp2_with fail
      go_ret
      rw [HE.out]
      exact K.toMade 0 rfl
    · have g2' : (c == 962) = false := by simpa using g2
      have K := H0.lit 3 1 1 [.int .i64 c] rfl (by simp [maxLen])
      have HE := Lib.hid (HN.out.trans ((if_neg g1).trans (if_neg g2)))
      clear g1 g2
      go_wp2_with fail
      go_ret
      rw [HE.out]
      exact K.toMade 0 rfl

set_option maxRecDepth 100000 in
set_option maxHeartbeats 4000000 in
theorem specFoldOf_any (c : Int) (w : World) :
    Calls Tryd.prog 98 #[.int .i64 c] w (Made w 3 1 (foldF c).length ((foldF c).map (Value.int .i64))) := by
  have H0 := Hp.start w
  go_enter Tryd.func98, Tryd.ntmps98
  go_wp2_with fail
  refine (l1In_any _ _ _ _).mono ?_
  rintro e w ⟨rfl, rfl⟩
  rcases (show inB c 65 90 = true ∨ inB c 65 90 = false by cases inB c 65 90 <;> simp) with h1 | h1
  · rw [h1]
    have hy : (inB c 65 90 || inB c 913 929 || inB c 931 937 || inB c 1040 1071 || (c == 198 || c == 208 || c == 216 || c == 222)) = true := by simp [h1]
    clear h1
    have hct := foldF_top hy
    have HY := Lib.hid (foldF_yes hy)
    have hw : IntKind.i64.wrap (c + 32) = c + 32 := IntWalk.i64_in _ (by omega)
    have K := H0.lit 3 1 1 [.int .i64 (c + 32)] rfl (by simp [maxLen])
    clear hy
    go_wp2_with fail
    go_ret
    rw [HY.out]
    exact K.toMade 0 rfl
  rw [h1]
  go_wp2_with fail
  refine (l1In_any _ _ _ _).mono ?_
  rintro e w ⟨rfl, rfl⟩
  rcases (show inB c 913 929 = true ∨ inB c 913 929 = false by cases inB c 913 929 <;> simp) with h2 | h2
  · rw [h2]
    have hy : (inB c 65 90 || inB c 913 929 || inB c 931 937 || inB c 1040 1071 || (c == 198 || c == 208 || c == 216 || c == 222)) = true := by simp [h2]
    clear h1 h2
    have hct := foldF_top hy
    have HY := Lib.hid (foldF_yes hy)
    have hw : IntKind.i64.wrap (c + 32) = c + 32 := IntWalk.i64_in _ (by omega)
    have K := H0.lit 3 1 1 [.int .i64 (c + 32)] rfl (by simp [maxLen])
    clear hy
    go_wp2_with fail
    go_ret
    rw [HY.out]
    exact K.toMade 0 rfl
  rw [h2]
  go_wp2_with fail
  refine (l1In_any _ _ _ _).mono ?_
  rintro e w ⟨rfl, rfl⟩
  rcases (show inB c 931 937 = true ∨ inB c 931 937 = false by cases inB c 931 937 <;> simp) with h3 | h3
  · rw [h3]
    have hy : (inB c 65 90 || inB c 913 929 || inB c 931 937 || inB c 1040 1071 || (c == 198 || c == 208 || c == 216 || c == 222)) = true := by simp [h3]
    clear h1 h2 h3
    have hct := foldF_top hy
    have HY := Lib.hid (foldF_yes hy)
    have hw : IntKind.i64.wrap (c + 32) = c + 32 := IntWalk.i64_in _ (by omega)
    have K := H0.lit 3 1 1 [.int .i64 (c + 32)] rfl (by simp [maxLen])
    clear hy
    go_wp2_with fail
    go_ret
    rw [HY.out]
    exact K.toMade 0 rfl
  rw [h3]
  go_wp2_with fail
  refine (l1In_any _ _ _ _).mono ?_
  rintro e w ⟨rfl, rfl⟩
  rcases (show inB c 1040 1071 = true ∨ inB c 1040 1071 = false by cases inB c 1040 1071 <;> simp) with h4 | h4
  · rw [h4]
    have hy : (inB c 65 90 || inB c 913 929 || inB c 931 937 || inB c 1040 1071 || (c == 198 || c == 208 || c == 216 || c == 222)) = true := by simp [h4]
    clear h1 h2 h3 h4
    have hct := foldF_top hy
    have HY := Lib.hid (foldF_yes hy)
    have hw : IntKind.i64.wrap (c + 32) = c + 32 := IntWalk.i64_in _ (by omega)
    have K := H0.lit 3 1 1 [.int .i64 (c + 32)] rfl (by simp [maxLen])
    clear hy
    go_wp2_with fail
    go_ret
    rw [HY.out]
    exact K.toMade 0 rfl
  rw [h4]
  have H1 := H0.lit 3 1 4 (([198, 208, 216, 222] : List Int).map (Value.int .i64)) rfl (by simp [maxLen])
  go_wp2_with fail
  refine (l3Among_any c _ 4 4 [198, 208, 216, 222] _ (H1.rd 0 rfl) (by decide)).mono ?_
  rintro e w1 ⟨rfl, hw1⟩
  rw [← hw1] at H1
  clear hw1
  have hcon : ([198, 208, 216, 222] : List Int).contains c = (c == 198 || c == 208 || c == 216 || c == 222) := by
    rw [Bool.eq_iff_iff, List.contains_iff_mem]; simp [or_assoc]
  rw [hcon]
  clear hcon H0
  rcases (show (c == 198 || c == 208 || c == 216 || c == 222) = true ∨ (c == 198 || c == 208 || c == 216 || c == 222) = false by cases (c == 198 || c == 208 || c == 216 || c == 222) <;> simp) with h5 | h5
  · rw [h5]
    have hy : (inB c 65 90 || inB c 913 929 || inB c 931 937 || inB c 1040 1071 || (c == 198 || c == 208 || c == 216 || c == 222)) = true := by
      rw [h5]; simp
    clear h1 h2 h3 h4 h5
    have hct := foldF_top hy
    have HY := Lib.hid (foldF_yes hy)
    have hw : IntKind.i64.wrap (c + 32) = c + 32 := IntWalk.i64_in _ (by omega)
    have K := H1.lit 3 1 1 [.int .i64 (c + 32)] rfl (by simp [maxLen])
    clear hy
    go_wp2_with fail
    go_ret
    rw [HY.out]
    exact K.toMade 0 rfl
  · rw [h5]
    have hn : (inB c 65 90 || inB c 913 929 || inB c 931 937 || inB c 1040 1071 || (c == 198 || c == 208 || c == 216 || c == 222)) = false := by
      rw [h1, h2, h3, h4, h5]; rfl
    clear h1 h2 h3 h4 h5
    have HN := Lib.hid (foldF_no hn)
    clear hn
    by_cases g1 : c = 223
    · subst g1
      have K := H1.lit 3 1 2 [.int .i64 115, .int .i64 115] rfl (by simp [maxLen])
      have HE := Lib.hid (HN.out.trans (if_pos rfl))
      go_wp2_with fail
      go_ret
      rw [HE.out]
      exact K.toMade 0 rfl
    · have g1' : (c == 223) = false := by simpa using g1
      by_cases g2 : c = 962
      · subst g2
        have K := H1.lit 3 1 1 [.int .i64 963] rfl (by simp [maxLen])
        have HE := Lib.hid (HN.out.trans ((if_neg g1).trans (if_pos rfl)))
        clear g1
        go_wp2_with fail
        go_ret
        rw [HE.out]
        exact K.toMade 0 rfl
      · have g2' : (c == 962) = false := by simpa using g2
        have K := H1.lit 3 1 1 [.int .i64 c] rfl (by simp [maxLen])
        have HE := Lib.hid (HN.out.trans ((if_neg g1).trans (if_neg g2)))
        clear g1 g2
        go_wp2_with fail
        go_ret
        rw [HE.out]
        exact K.toMade 0 rfl
set_option maxRecDepth 100000 in
set_option maxHeartbeats 4000000 in
theorem implFold_any (A : Option Addr) (n c : Nat) (l : List Int) (w : World) (h : Rd w A n 1 (l.map (Value.int .i64))) (hn : n ≤ 16777216) :
    Calls Tryd.prog 95 #[.slice A n c] w (Made w 3 1 (foldL l).length ((foldL l).map (Value.int .i64))) := by
  have HL := Lib.hid h.len1
  have G := Lib.hid h
  have H0 := (Hp.start w).lit0 3 1
  have HAP := Lib.hid (fun (i : Nat) (hi : l.length ≤ i) => show foldL (l.take i) = foldL l by rw [List.take_of_length_le hi])
  generalize foldL l = out at HAP ⊢
  clear h
  go_enter Tryd.func95, Tryd.ntmps95
  go_wp2_with fail
  go_loopw [3, 9] (fun v iv wr => ∃ i : Nat, iv = .int .i64 i ∧ i ≤ n ∧ Hp [] w wr [.row 3 1 v (foldL (l.take i)).length ((foldL (l.take i)).map (Value.int .i64))]) (fun _ iv _ => n - (intOf iv).toNat)
  case atStart => exact ⟨0, rfl, by omega, H0⟩
  case round =>
    clear H0
    obtain ⟨i, rfl, hi, H⟩ := hrel
    obtain ⟨B, d, rfl⟩ := H.shape 0 rfl
    by_cases hlt : i < n
    · obtain ⟨cc, hx⟩ := at_some HL.out hlt
      obtain ⟨bk, of, rfl, hc⟩ := (H.old G.out).get1 hx
      have hi0 : (0 : Int) ≤ (i : Int) := by omega
      have hi1 : (i : Int) < (n : Int) := by omega
      have HT := Lib.hid (show foldL (l.take (i + 1)) = foldL (l.take i) ++ foldF cc by rw [hx.take, foldL, List.flatMap_append, List.flatMap_singleton]; rfl)
      have hol : (foldL (l.take i)).length ≤ 100000000 := by
        have := foldL_len (l.take i)
        have h2 : (l.take i).length ≤ n := by rw [List.length_take]; omega
        omega
      have htl := foldF_len cc
      clear hx
      generalize foldL (l.take i) = o at H HT hol ⊢
      go_wp2_with fail
      refine (implFoldOf_any cc _).mono ?_
      rintro e w1 ⟨T, dt, rfl, ot, ft⟩
      have H1 := H.made ot ft
      clear H ot ft hc
      generalize foldF cc = ts at H1 HT htl ⊢
      go_wp2_with (at_builtin; refine wp_appS (f := Value.int .i64) H1 rfl _ _ _ rfl Tryd.underlying29 infoInt rfl 1 _ o rfl rfl T dt ts rfl (own_cap' (H1.row 0 rfl)) (H1.rd 0 rfl) (by simp [Value.oneCell']) (by simp only [maxLen]; omega) (by omega) ?_)
      intro v' w' H'
      have H2 : Hp [] w w' [.row 3 1 v' (foldL (l.take (i + 1))).length ((foldL (l.take (i + 1))).map (Value.int .i64))] := by
        rw [HT.out, List.map_append, List.length_append]
        exact H'.tail
      have H3 := Lib.hid H2
      clear H' H2 H1
      go_wp2_with fail
      go_roundw
      case rel => exact ⟨i + 1, by go_num, by omega, H3.out⟩
      case measure => simp [intOf]; omega
    · have hge : ¬ ((i : Int) < (n : Int)) := by omega
      rw [HAP.out i (by rw [HL.out]; omega)] at H ⊢
      go_wp2_with fail
      go_ret
      exact H.toMade 0 rfl
set_option maxRecDepth 100000 in
set_option maxHeartbeats 4000000 in
theorem specFold_any (A : Option Addr) (n c : Nat) (l : List Int) (w : World) (h : Rd w A n 1 (l.map (Value.int .i64))) (hn : n ≤ 16777216) :
    Calls Tryd.prog 87 #[.slice A n c] w (Made w 3 1 (foldL l).length ((foldL l).map (Value.int .i64))) := by
  have HL := Lib.hid h.len1
  have G := Lib.hid h
  have H0 := (Hp.start w).lit0 3 1
  have HAP := Lib.hid (fun (i : Nat) (hi : l.length ≤ i) => show foldL (l.take i) = foldL l by rw [List.take_of_length_le hi])
  generalize foldL l = out at HAP ⊢
  clear h
  go_enter Tryd.func87, Tryd.ntmps87
  go_wp2_with fail
  go_loopw [3, 4] (fun v iv wr => ∃ i : Nat, iv = .int .i64 i ∧ i ≤ n ∧ Hp [] w wr [.row 3 1 v (foldL (l.take i)).length ((foldL (l.take i)).map (Value.int .i64))]) (fun _ iv _ => n - (intOf iv).toNat)
  case atStart => exact ⟨0, rfl, by omega, H0⟩
  case round =>
    clear H0
    obtain ⟨i, rfl, hi, H⟩ := hrel
    obtain ⟨B, d, rfl⟩ := H.shape 0 rfl
    by_cases hlt : i < n
    · obtain ⟨cc, hx⟩ := at_some HL.out hlt
      obtain ⟨bk, of, rfl, hc⟩ := (H.old G.out).get1 hx
      have hi0 : (0 : Int) ≤ (i : Int) := by omega
      have hi1 : (i : Int) < (n : Int) := by omega
      have HT := Lib.hid (show foldL (l.take (i + 1)) = foldL (l.take i) ++ foldF cc by rw [hx.take, foldL, List.flatMap_append, List.flatMap_singleton]; rfl)
      have hol : (foldL (l.take i)).length ≤ 100000000 := by
        have := foldL_len (l.take i)
        have h2 : (l.take i).length ≤ n := by rw [List.length_take]; omega
        omega
      have htl := foldF_len cc
      clear hx
      generalize foldL (l.take i) = o at H HT hol ⊢
      go_wp2_with fail
      refine (specFoldOf_any cc _).mono ?_
      rintro e w1 ⟨T, dt, rfl, ot, ft⟩
      have H1 := H.made ot ft
      clear H ot ft hc
      generalize foldF cc = ts at H1 HT htl ⊢
      go_wp2_with (at_builtin; refine wp_appS (f := Value.int .i64) H1 rfl _ _ _ rfl Tryd.underlying29 infoInt rfl 1 _ o rfl rfl T dt ts rfl (own_cap' (H1.row 0 rfl)) (H1.rd 0 rfl) (by simp [Value.oneCell']) (by simp only [maxLen]; omega) (by omega) ?_)
      intro v' w' H'
      have H2 : Hp [] w w' [.row 3 1 v' (foldL (l.take (i + 1))).length ((foldL (l.take (i + 1))).map (Value.int .i64))] := by
        rw [HT.out, List.map_append, List.length_append]
        exact H'.tail
      have H3 := Lib.hid H2
      clear H' H2 H1
      go_wp2_with fail
      go_roundw
      case rel => exact ⟨i + 1, by go_num, by omega, H3.out⟩
      case measure => simp [intOf]; omega
    · have hge : ¬ ((i : Int) < (n : Int)) := by omega
      rw [HAP.out i (by rw [HL.out]; omega)] at H ⊢
      go_wp2_with fail
      go_ret
      exact H.toMade 0 rfl
end Go.Proofs.YtfmifaneggenoaaDoor
