/-
  Many texts in one: Fold, Name, TextN.
-/
import Derived.Test.YtaogikhpglcmjaaGreatDoorGh
import Derived.Test.YtaogikhpglcmjaaGreatDoorGj
import Derived.Test.YtaogikhpglcmjaaGreatDoorDecode
import Derived.Test.YtaogikhpglcmjaaGreatDoorGg
import Derived.Test.YtaogikhpglcmjaaGreatDoorGc
namespace Go.Proofs.YtaogikhpglcmjaaGreatDoor
open Go.RowKit

set_option linter.unusedVariables false
set_option linter.unusedSimpArgs false
set_option maxRecDepth 100000 in
set_option maxHeartbeats 4000000 in
theorem implFoldOf_any (c : Int) (w : World) :
    Calls Tryz.prog 152 #[.int .i64 c] w (Made w 3 1 (foldF c).length ((foldF c).map (Value.int .i64))) := by
  have H0 := Hp.start w
  go_enter Tryz.func152, Tryz.ntmps152
  go_wp2_with fail
  refine (within_any _ _ _ _).mono ?_
  rintro e w ⟨rfl, rfl⟩
  rcases (show inB c 65 90 = true ∨ inB c 65 90 = false by cases inB c 65 90 <;> simp) with h1 | h1
  · rw [h1]
    have hy : (inB c 65 90 || inB c 913 929 || inB c 931 937 || inB c 1040 1071 || (c == 198 || c == 208 || c == 216 || c == 222)) = true := by simp [h1]
    clear h1
    have hct := foldF_top hy
    have HY := Lib.hid (foldF_yes hy)
    have hw : IntKind.i64.wrap (c + 32) = c + 32 := IntWalk.i64_in _ (by omega)
    have K := H0.lit 3 1 1 [.int .i64 (c + 32)] rfl (by simp [maxLen])
    clear hy
    go_wp2_with fail
    go_ret
    rw [HY.out]
    exact K.toMade 0 rfl
  rw [h1]
  go_wp2_with fail
  refine (within_any _ _ _ _).mono ?_
  rintro e w ⟨rfl, rfl⟩
  rcases (show inB c 913 929 = true ∨ inB c 913 929 = false by cases inB c 913 929 <;> simp) with h2 | h2
  · rw [h2]
    have hy : (inB c 65 90 || inB c 913 929 || inB c 931 937 || inB c 1040 1071 || (c == 198 || c == 208 || c == 216 || c == 222)) = true := by simp [h2]
    clear h1 h2
    have hct := foldF_top hy
    have HY := Lib.hid (foldF_yes hy)
    have hw : IntKind.i64.wrap (c + 32) = c + 32 := IntWalk.i64_in _ (by omega)
    have K := H0.lit 3 1 1 [.int .i64 (c + 32)] rfl (by simp [maxLen])
    clear hy
    go_wp2_with fail
    go_ret
    rw [HY.out]
    exact K.toMade 0 rfl
  rw [h2]
  go_wp2_with fail
  refine (within_any _ _ _ _).mono ?_
  rintro e w ⟨rfl, rfl⟩
  rcases (show inB c 931 937 = true ∨ inB c 931 937 = false by cases inB c 931 937 <;> simp) with h3 | h3
  · rw [h3]
    have hy : (inB c 65 90 || inB c 913 929 || inB c 931 937 || inB c 1040 1071 || (c == 198 || c == 208 || c == 216 || c == 222)) = true := by simp [h3]
    clear h1 h2 h3
    have hct := foldF_top hy
    have HY := Lib.hid (foldF_yes hy)
    have hw : IntKind.i64.wrap (c + 32) = c + 32 := IntWalk.i64_in _ (by omega)
    have K := H0.lit 3 1 1 [.int .i64 (c + 32)] rfl (by simp [maxLen])
    clear hy
    go_wp2_with fail
    go_ret
    rw [HY.out]
    exact K.toMade 0 rfl
  rw [h3]
  go_wp2_with fail
  refine (within_any _ _ _ _).mono ?_
  rintro e w ⟨rfl, rfl⟩
  rcases (show inB c 1040 1071 = true ∨ inB c 1040 1071 = false by cases inB c 1040 1071 <;> simp) with h4 | h4
  · rw [h4]
    have hy : (inB c 65 90 || inB c 913 929 || inB c 931 937 || inB c 1040 1071 || (c == 198 || c == 208 || c == 216 || c == 222)) = true := by simp [h4]
    clear h1 h2 h3 h4
    have hct := foldF_top hy
    have HY := Lib.hid (foldF_yes hy)
    have hw : IntKind.i64.wrap (c + 32) = c + 32 := IntWalk.i64_in _ (by omega)
    have K := H0.lit 3 1 1 [.int .i64 (c + 32)] rfl (by simp [maxLen])
    clear hy
    go_wp2_with fail
    go_ret
    rw [HY.out]
    exact K.toMade 0 rfl
  rw [h4]
  rcases (show (c == 198) = true ∨ (c == 198) = false by cases (c == 198) <;> simp) with j1 | j1
  · have hy : (inB c 65 90 || inB c 913 929 || inB c 931 937 || inB c 1040 1071 || (c == 198 || c == 208 || c == 216 || c == 222)) = true := by
      rw [j1]; simp
    clear h1 h2 h3 h4
    have hct := foldF_top hy
    have HY := Lib.hid (foldF_yes hy)
    have hw : IntKind.i64.wrap (c + 32) = c + 32 := IntWalk.i64_in _ (by omega)
    have K := H0.lit 3 1 1 [.int .i64 (c + 32)] rfl (by simp [maxLen])
    clear hy
    go_wp2_with fail
    go_ret
    rw [HY.out]
    exact K.toMade 0 rfl
  rcases (show (c == 208) = true ∨ (c == 208) = false by cases (c == 208) <;> simp) with j2 | j2
  · have hy : (inB c 65 90 || inB c 913 929 || inB c 931 937 || inB c 1040 1071 || (c == 198 || c == 208 || c == 216 || c == 222)) = true := by
      rw [j2]; simp
    clear h1 h2 h3 h4
    have hct := foldF_top hy
    have HY := Lib.hid (foldF_yes hy)
    have hw : IntKind.i64.wrap (c + 32) = c + 32 := IntWalk.i64_in _ (by omega)
    have K := H0.lit 3 1 1 [.int .i64 (c + 32)] rfl (by simp [maxLen])
    clear hy
    go_wp2_with fail
    go_ret
    rw [HY.out]
    exact K.toMade 0 rfl
  rcases (show (c == 216) = true ∨ (c == 216) = false by cases (c == 216) <;> simp) with j3 | j3
  · have hy : (inB c 65 90 || inB c 913 929 || inB c 931 937 || inB c 1040 1071 || (c == 198 || c == 208 || c == 216 || c == 222)) = true := by
      rw [j3]; simp
    clear h1 h2 h3 h4
    have hct := foldF_top hy
    have HY := Lib.hid (foldF_yes hy)
    have hw : IntKind.i64.wrap (c + 32) = c + 32 := IntWalk.i64_in _ (by omega)
    have K := H0.lit 3 1 1 [.int .i64 (c + 32)] rfl (by simp [maxLen])
    clear hy
    go_wp2_with fail
    go_ret
    rw [HY.out]
    exact K.toMade 0 rfl
  rcases (show (c == 222) = true ∨ (c == 222) = false by cases (c == 222) <;> simp) with j4 | j4
  · have hy : (inB c 65 90 || inB c 913 929 || inB c 931 937 || inB c 1040 1071 || (c == 198 || c == 208 || c == 216 || c == 222)) = true := by
      rw [j4]; simp
    clear h1 h2 h3 h4
    have hct := foldF_top hy
    have HY := Lib.hid (foldF_yes hy)
    have hw : IntKind.i64.wrap (c + 32) = c + 32 := IntWalk.i64_in _ (by omega)
    have K := H0.lit 3 1 1 [.int .i64 (c + 32)] rfl (by simp [maxLen])
    clear hy
    go_wp2_with fail
    go_ret
    rw [HY.out]
    exact K.toMade 0 rfl
  have hn : (inB c 65 90 || inB c 913 929 || inB c 931 937 || inB c 1040 1071 || (c == 198 || c == 208 || c == 216 || c == 222)) = false := by
    rw [h1, h2, h3, h4, j1, j2, j3, j4]; rfl
  clear h1 h2 h3 h4
  have HN := Lib.hid (foldF_no hn)
  clear hn
  by_cases g1 : c = 223
  · subst g1
    have K := H0.lit 3 1 2 [.int .i64 115, .int .i64 115] rfl (by simp [maxLen])
    have HE := Lib.hid (HN.out.trans (if_pos rfl))
    go_wp2_with fail
    go_ret
    rw [HE.out]
    exact K.toMade 0 rfl
  · have g1' : (c == 223) = false := by simpa using g1
    by_cases g2 : c = 962
    · subst g2
      have K := H0.lit 3 1 1 [.int .i64 963] rfl (by simp [maxLen])
      have HE := Lib.hid (HN.out.trans ((if_neg g1).trans (if_pos rfl)))
      clear g1
      go_wp2_with fail
      go_ret
      rw [HE.out]
      exact K.toMade 0 rfl
    · have g2' : (c == 962) = false := by simpa using g2
      have K := H0.lit 3 1 1 [.int .i64 c] rfl (by simp [maxLen])
      have HE := Lib.hid (HN.out.trans ((if_neg g1).trans (if_neg g2)))
      clear g1 g2
      go_wp2_with fail
      go_ret
      rw [HE.out]
      exact K.toMade 0 rfl

set_option maxRecDepth 100000 in
set_option maxHeartbeats 4000000 in
theorem specFoldOf_any (c : Int) (w : World) :
    Calls Tryz.prog 146 #[.int .i64 c] w (Made w 3 1 (foldF c).length ((foldF c).map (Value.int .i64))) := by
  have H0 := Hp.start w
  go_enter Tryz.func146, Tryz.ntmps146
  go_wp2_with fail
  refine (l1In_any _ _ _ _).mono ?_
  rintro e w ⟨rfl, rfl⟩
  rcases (show inB c 65 90 = true ∨ inB c 65 90 = false by cases inB c 65 90 <;> simp) with h1 | h1
  · rw [h1]
    have hy : (inB c 65 90 || inB c 913 929 || inB c 931 937 || inB c 1040 1071 || (c == 198 || c == 208 || c == 216 || c == 222)) = true := by simp [h1]
    clear h1
    have hct := foldF_top hy
    have HY := Lib.hid (foldF_yes hy)
    have hw : IntKind.i64.wrap (c + 32) = c + 32 := IntWalk.i64_in _ (by omega)
    have K := H0.lit 3 1 1 [.int .i64 (c + 32)] rfl (by simp [maxLen])
    clear hy
    go_wp2_with fail
    go_ret
    rw [HY.out]
    exact K.toMade 0 rfl
  rw [h1]
  go_wp2_with fail
  refine (l1In_any _ _ _ _).mono ?_
  rintro e w ⟨rfl, rfl⟩
  rcases (show inB c 913 929 = true ∨ inB c 913 929 = false by cases inB c 913 929 <;> simp) with h2 | h2
  · rw [h2]
    have hy : (inB c 65 90 || inB c 913 929 || inB c 931 937 || inB c 1040 1071 || (c == 198 || c == 208 || c == 216 || c == 222)) = true := by simp [h2]
    clear h1 h2
    have hct := foldF_top hy
    have HY := Lib.hid (foldF_yes hy)
    have hw : IntKind.i64.wrap (c + 32) = c + 32 := IntWalk.i64_in _ (by omega)
    have K := H0.lit 3 1 1 [.int .i64 (c + 32)] rfl (by simp [maxLen])
    clear hy
    go_wp2_with fail
    go_ret
    rw [HY.out]
    exact K.toMade 0 rfl
  rw [h2]
  go_wp2_with fail
  refine (l1In_any _ _ _ _).mono ?_
  rintro e w ⟨rfl, rfl⟩
  rcases (show inB c 931 937 = true ∨ inB c 931 937 = false by cases inB c 931 937 <;> simp) with h3 | h3
  · rw [h3]
    have hy : (inB c 65 90 || inB c 913 929 || inB c 931 937 || inB c 1040 1071 || (c == 198 || c == 208 || c == 216 || c == 222)) = true := by simp [h3]
    clear h1 h2 h3
    have hct := foldF_top hy
    have HY := Lib.hid (foldF_yes hy)
    have hw : IntKind.i64.wrap (c + 32) = c + 32 := IntWalk.i64_in _ (by omega)
    have K := H0.lit 3 1 1 [.int .i64 (c + 32)] rfl (by simp [maxLen])
    clear hy
    go_wp2_with fail
    go_ret
    rw [HY.out]
    exact K.toMade 0 rfl
  rw [h3]
  go_wp2_with fail
  refine (l1In_any _ _ _ _).mono ?_
  rintro e w ⟨rfl, rfl⟩
  rcases (show inB c 1040 1071 = true ∨ inB c 1040 1071 = false by cases inB c 1040 1071 <;> simp) with h4 | h4
  · rw [h4]
    have hy : (inB c 65 90 || inB c 913 929 || inB c 931 937 || inB c 1040 1071 || (c == 198 || c == 208 || c == 216 || c == 222)) = true := by simp [h4]
    clear h1 h2 h3 h4
    have hct := foldF_top hy
    have HY := Lib.hid (foldF_yes hy)
    have hw : IntKind.i64.wrap (c + 32) = c + 32 := IntWalk.i64_in _ (by omega)
    have K := H0.lit 3 1 1 [.int .i64 (c + 32)] rfl (by simp [maxLen])
    clear hy
    go_wp2_with fail
    go_ret
    rw [HY.out]
    exact K.toMade 0 rfl
  rw [h4]
  have H1 := H0.lit 3 1 4 (([198, 208, 216, 222] : List Int).map (Value.int .i64)) rfl (by simp [maxLen])
  go_wp2_with fail
  refine (l3Among_any c _ 4 4 [198, 208, 216, 222] _ (H1.rd 0 rfl) (by decide)).mono ?_
  rintro e w1 ⟨rfl, hw1⟩
  rw [← hw1] at H1
  clear hw1
  have hcon : ([198, 208, 216, 222] : List Int).contains c = (c == 198 || c == 208 || c == 216 || c == 222) := by
    rw [Bool.eq_iff_iff, List.contains_iff_mem]; simp [or_assoc]
  rw [hcon]
  clear hcon H0
  rcases (show (c == 198 || c == 208 || c == 216 || c == 222) = true ∨ (c == 198 || c == 208 || c == 216 || c == 222) = false by cases (c == 198 || c == 208 || c == 216 || c == 222) <;> simp) with h5 | h5
  · rw [h5]
    have hy : (inB c 65 90 || inB c 913 929 || inB c 931 937 || inB c 1040 1071 || (c == 198 || c == 208 || c == 216 || c == 222)) = true := by
      rw [h5]; simp
    clear h1 h2 h3 h4 h5
    have hct := foldF_top hy
    have HY := Lib.hid (foldF_yes hy)
    have hw : IntKind.i64.wrap (c + 32) = c + 32 := IntWalk.i64_in _ (by omega)
    have K := H1.lit 3 1 1 [.int .i64 (c + 32)] rfl (by simp [maxLen])
    clear hy
    go_wp2_with fail
    go_ret
    rw [HY.out]
    exact K.toMade 0 rfl
  · rw [h5]
    have hn : (inB c 65 90 || inB c 913 929 || inB c 931 937 || inB c 1040 1071 || (c == 198 || c == 208 || c == 216 || c == 222)) = false := by
      rw [h1, h2, h3, h4, h5]; rfl
    clear h1 h2 h3 h4 h5
    have HN := Lib.hid (foldF_no hn)
    clear hn
    by_cases g1 : c = 223
    · subst g1
      have K := H1.lit 3 1 2 [.int .i64 115, .int .i64 115] rfl (by simp [maxLen])
      have HE := Lib.hid (HN.out.trans (if_pos rfl))
      go_wp2_with fail
      go_ret
      rw [HE.out]
      exact K.toMade 0 rfl
    · have g1' : (c == 223) = false := by simpa using g1
      by_cases g2 : c = 962
      · subst g2
        have K := H1.lit 3 1 1 [.int .i64 963] rfl (by simp [maxLen])
        have HE := Lib.hid (HN.out.trans ((if_neg g1).trans (if_pos rfl)))
        clear g1
        go_wp2_with fail
        go_ret
        rw [HE.out]
        exact K.toMade 0 rfl
      · have g2' : (c == 962) = false := by simpa using g2
        have K := H1.lit 3 1 1 [.int .i64 c] rfl (by simp [maxLen])
        have HE := Lib.hid (HN.out.trans ((if_neg g1).trans (if_neg g2)))
        clear g1 g2
        go_wp2_with fail
        go_ret
        rw [HE.out]
        exact K.toMade 0 rfl
set_option maxRecDepth 100000 in
set_option maxHeartbeats 4000000 in
theorem implFold_any (A : Option Addr) (n c : Nat) (l : List Int) (w : World) (h : Rd w A n 1 (l.map (Value.int .i64))) (hn : n ≤ 16777216) :
    Calls Tryz.prog 137 #[.slice A n c] w (Made w 3 1 (foldL l).length ((foldL l).map (Value.int .i64))) := by
  have HL := Lib.hid h.len1
  have G := Lib.hid h
  have H0 := (Hp.start w).lit0 3 1
  have HAP := Lib.hid (fun (i : Nat) (hi : l.length ≤ i) => show foldL (l.take i) = foldL l by rw [List.take_of_length_le hi])
  generalize foldL l = out at HAP ⊢
  clear h
  go_enter Tryz.func137, Tryz.ntmps137
  go_wp2_with fail
  go_loopw [3, 9] (fun v iv wr => ∃ i : Nat, iv = .int .i64 i ∧ i ≤ n ∧ Hp [] w wr [.row 3 1 v (foldL (l.take i)).length ((foldL (l.take i)).map (Value.int .i64))]) (fun _ iv _ => n - (intOf iv).toNat)
  case atStart => exact ⟨0, rfl, by omega, H0⟩
  case round =>
    clear H0
    obtain ⟨i, rfl, hi, H⟩ := hrel
    obtain ⟨B, d, rfl⟩ := H.shape 0 rfl
    by_cases hlt : i < n
    · obtain ⟨cc, hx⟩ := at_some HL.out hlt
      obtain ⟨bk, of, rfl, hc⟩ := (H.old G.out).get1 hx
      have hi0 : (0 : Int) ≤ (i : Int) := by omega
      have hi1 : (i : Int) < (n : Int) := by omega
      have HT := Lib.hid (show foldL (l.take (i + 1)) = foldL (l.take i) ++ foldF cc by rw [hx.take, foldL, List.flatMap_append, List.flatMap_singleton]; rfl)
      have hol : (foldL (l.take i)).length ≤ 100000000 := by
        have := foldL_len (l.take i)
        have h2 : (l.take i).length ≤ n := by rw [List.length_take]; omega
        omega
      have htl := foldF_len cc
      clear hx
      generalize foldL (l.take i) = o at H HT hol ⊢
      go_wp2_with fail
      refine (implFoldOf_any cc _).mono ?_
      rintro e w1 ⟨T, dt, rfl, ot, ft⟩
      have H1 := H.made ot ft
      clear H ot ft hc
      generalize foldF cc = ts at H1 HT htl ⊢
      go_wp2_with (at_builtin; refine wp_appS (f := Value.int .i64) H1 rfl _ _ _ rfl Tryz.underlying82 infoInt rfl 1 _ o rfl rfl T dt ts rfl (own_cap' (H1.row 0 rfl)) (H1.rd 0 rfl) (by simp [Value.oneCell']) (by simp only [maxLen]; omega) (by omega) ?_)
      intro v' w' H'
      have H2 : Hp [] w w' [.row 3 1 v' (foldL (l.take (i + 1))).length ((foldL (l.take (i + 1))).map (Value.int .i64))] := by
        rw [HT.out, List.map_append, List.length_append]
        exact H'.tail
      have H3 := Lib.hid H2
      clear H' H2 H1
      go_wp2_with fail
      go_roundw
      case rel => exact ⟨i + 1, by go_num, by omega, H3.out⟩
      case measure => simp [intOf]; omega
    · have hge : ¬ ((i : Int) < (n : Int)) := by omega
      rw [HAP.out i (by rw [HL.out]; omega)] at H ⊢
      go_wp2_with fail
      go_ret
      exact H.toMade 0 rfl
set_option maxRecDepth 100000 in
set_option maxHeartbeats 4000000 in
theorem specFold_any (A : Option Addr) (n c : Nat) (l : List Int) (w : World) (h : Rd w A n 1 (l.map (Value.int .i64))) (hn : n ≤ 16777216) :
    Calls Tryz.prog 132 #[.slice A n c] w (Made w 3 1 (foldL l).length ((foldL l).map (Value.int .i64))) := by
  have HL := Lib.hid h.len1
  have G := Lib.hid h
  have H0 := (Hp.start w).lit0 3 1
  have HAP := Lib.hid (fun (i : Nat) (hi : l.length ≤ i) => show foldL (l.take i) = foldL l by rw [List.take_of_length_le hi])
  generalize foldL l = out at HAP ⊢
  clear h
  go_enter Tryz.func132, Tryz.ntmps132
  go_wp2_with fail
  go_loopw [3, 4] (fun v iv wr => ∃ i : Nat, iv = .int .i64 i ∧ i ≤ n ∧ Hp [] w wr [.row 3 1 v (foldL (l.take i)).length ((foldL (l.take i)).map (Value.int .i64))]) (fun _ iv _ => n - (intOf iv).toNat)
  case atStart => exact ⟨0, rfl, by omega, H0⟩
  case round =>
    clear H0
    obtain ⟨i, rfl, hi, H⟩ := hrel
    obtain ⟨B, d, rfl⟩ := H.shape 0 rfl
    by_cases hlt : i < n
    · obtain ⟨cc, hx⟩ := at_some HL.out hlt
      obtain ⟨bk, of, rfl, hc⟩ := (H.old G.out).get1 hx
      have hi0 : (0 : Int) ≤ (i : Int) := by omega
      have hi1 : (i : Int) < (n : Int) := by omega
      have HT := Lib.hid (show foldL (l.take (i + 1)) = foldL (l.take i) ++ foldF cc by rw [hx.take, foldL, List.flatMap_append, List.flatMap_singleton]; rfl)
      have hol : (foldL (l.take i)).length ≤ 100000000 := by
        have := foldL_len (l.take i)
        have h2 : (l.take i).length ≤ n := by rw [List.length_take]; omega
        omega
      have htl := foldF_len cc
      clear hx
      generalize foldL (l.take i) = o at H HT hol ⊢
      go_wp2_with fail
      refine (specFoldOf_any cc _).mono ?_
      rintro e w1 ⟨T, dt, rfl, ot, ft⟩
      have H1 := H.made ot ft
      clear H ot ft hc
      generalize foldF cc = ts at H1 HT htl ⊢
      go_wp2_with (at_builtin; refine wp_appS (f := Value.int .i64) H1 rfl _ _ _ rfl Tryz.underlying82 infoInt rfl 1 _ o rfl rfl T dt ts rfl (own_cap' (H1.row 0 rfl)) (H1.rd 0 rfl) (by simp [Value.oneCell']) (by simp only [maxLen]; omega) (by omega) ?_)
      intro v' w' H'
      have H2 : Hp [] w w' [.row 3 1 v' (foldL (l.take (i + 1))).length ((foldL (l.take (i + 1))).map (Value.int .i64))] := by
        rw [HT.out, List.map_append, List.length_append]
        exact H'.tail
      have H3 := Lib.hid H2
      clear H' H2 H1
      go_wp2_with fail
      go_roundw
      case rel => exact ⟨i + 1, by go_num, by omega, H3.out⟩
      case measure => simp [intOf]; omega
    · have hge : ¬ ((i : Int) < (n : Int)) := by omega
      rw [HAP.out i (by rw [HL.out]; omega)] at H ⊢
      go_wp2_with fail
      go_ret
      exact H.toMade 0 rfl
end Go.Proofs.YtaogikhpglcmjaaGreatDoor

namespace Go.Proofs.YtaogikhpglcmjaaGreatDoor
open Go.RowKit

set_option linter.unusedVariables false
set_option linter.unusedSimpArgs false
theorem bool_or (b : Bool) : b = true ∨ b = false := by cases b <;> simp
set_option maxRecDepth 100000 in
set_option maxHeartbeats 4000000 in
theorem implNameOk_any (s : ByteArray) (w : World) (hs : s.size ≤ 16777216) (hk : KT w) :
    Calls Tryz.prog 133 #[.string s] w fun e w' => e = .returned (.bool (nameB (toB s))) ∧ Fr w w' := by
  obtain ⟨q, hq⟩ : ∃ q, q = nameB (toB s) := ⟨_, rfl⟩
  obtain ⟨D, hD⟩ : ∃ D, D = decR (toB s) := ⟨_, rfl⟩
  have HQ := Lib.hid (show q = ((((inB (s.size : Int) 1 24 && !decide (toB s = [46])) && !decide (toB s = [46, 46])) && D.2) && D.1.all knownS) by rw [hq, nameB, toB_len, ← hD])
  have HD := Lib.hid hD
  have HDL := Lib.hid (show D.1.length ≤ s.size by rw [hD, ← toB_len]; exact (decR_good _).1)
  rw [← hq]
  obtain ⟨dl, dk⟩ := D
  obtain ⟨b1, hb1⟩ : ∃ b, b = decide (toB s = [46]) := ⟨_, rfl⟩
  obtain ⟨b2, hb2⟩ : ∃ b, b = decide (toB s = [46, 46]) := ⟨_, rfl⟩
  have he1 : (s.toList == (ByteArray.mk #[46]).toList) = b1 := by rw [cmpB, hb1]; rfl
  have he2 : (s.toList == (ByteArray.mk #[46, 46]).toList) = b2 := by rw [cmpB, hb2]; rfl
  have he3 : (s.toList == [46]) = b1 := by rw [toList_B, hb1, Bool.eq_iff_iff]; simp
  have he4 : (s.toList == [46, 46]) = b2 := by rw [toList_B, hb2, Bool.eq_iff_iff]; simp
  rw [← hb1, ← hb2] at HQ
  have HS := Lib.hid hs
  clear hb1 hb2 hq hD hs
  have H0 := Hp.start w
  have HK := Lib.hid hk
  clear hk
  go_enter Tryz.func133, Tryz.ntmps133
  go_wp2_with fail
  refine (implDecode_any s _ HS.out).mono ?_
  rintro e w1 ⟨A, n, c, rfl, hn, o1, f1⟩
  rw [← HD.out] at hn o1 ⊢
  have H1 := H0.made o1 f1
  have HN := Lib.hid hn
  clear H0 o1 f1 hn
  simp only at HN H1 HQ HDL
  cases dk with
  | false =>
    have HE := Lib.hid (HQ.out.trans (show _ = false by simp))
    go_wp2_with fail
    go_ret
    rw [HE.out]
    exact ⟨rfl, H1.fr⟩
  | true =>
    go_wp2_with fail
    refine (within_any _ _ _ _).mono ?_
    rintro e wq ⟨rfl, hwq⟩
    rw [← hwq] at H1
    clear hwq
    rcases bool_or (inB (s.size : Int) 1 24) with h1 | h1
    · rw [h1]
      cases b1 with
      | true =>
        have HE := Lib.hid (HQ.out.trans (show _ = false by simp))
        go_wp2_with fail
        go_ret
        rw [HE.out]
        exact ⟨rfl, H1.fr⟩
      | false =>
        cases b2 with
        | true =>
          have HE := Lib.hid (HQ.out.trans (show _ = false by simp))
          go_wp2_with fail
          go_ret
          rw [HE.out]
          exact ⟨rfl, H1.fr⟩
        | false =>
          have HE := Lib.hid (HQ.out.trans (show _ = dl.all knownS by rw [h1]; simp))
          have hnb : n ≤ 16777216 := by have := HN.out; have := HDL.out; have := HS.out; omega
          clear h1
          go_wp2_with fail
          go_loopw [30] (fun iv wr => ∃ i : Nat, iv = .int .i64 i ∧ i ≤ n ∧ (dl.take i).all knownS = true ∧ Hp [] w wr [.row 3 1 (.slice A n c) n (dl.map (Value.int .i64))]) (fun iv _ => n - (intOf iv).toNat)
          case atStart => exact ⟨0, rfl, by omega, rfl, H1⟩
          case round =>
            clear H1
            obtain ⟨i, rfl, hi, hall, H⟩ := hrel
            have HA := Lib.hid hall
            clear hall
            by_cases hlt : i < n
            · obtain ⟨x, hx⟩ := at_some HN.out.symm hlt
              obtain ⟨g, cg, e, _⟩ := H.form 0 rfl (by omega)
              injection e with e1 _ e2
              subst e1 e2
              have cx := H.atM 0 rfl hx
              have HX := Lib.hid hx
              have hi0 : (0 : Int) ≤ (i : Int) := by omega
              have hi1 : (i : Int) < (n : Int) := by omega
              clear hx
              go_wp2_with fail
              refine (implKnown_any x _ (HK.out.fr H.fr)).mono ?_
              rintro e w2 ⟨rfl, f2⟩
              replace H := H.go f2
              clear f2 cx
              rcases bool_or (knownS x) with hx1 | hx1
              · rw [hx1]
                go_wp2_with fail
                go_roundw
                case rel => exact ⟨i + 1, by go_num, by omega, by rw [HX.out.take, List.all_append, HA.out]; simpa using hx1, H⟩
                case measure => simp [intOf]; omega
              · have HE2 := Lib.hid (HE.out.trans (List.all_eq_false.2 ⟨x, HX.out.mem, by rw [hx1]; simp⟩))
                rw [hx1]
                go_wp2_with fail
                go_ret
                rw [HE2.out]
                exact ⟨rfl, H.fr⟩
            · have hge : ¬ ((i : Int) < (n : Int)) := by omega
              have HE2 := Lib.hid (HE.out.trans (show dl.all knownS = true by have := HA.out; rwa [List.take_of_length_le (by have := HN.out; omega)] at this))
              go_wp2_with fail
              go_ret
              rw [HE2.out]
              exact ⟨rfl, H.fr⟩
    · have HE := Lib.hid (HQ.out.trans (show _ = false by rw [h1]; simp))
      rw [h1]
      clear h1
      go_wp2_with fail
      go_ret
      rw [HE.out]
      exact ⟨rfl, H1.fr⟩

set_option maxRecDepth 100000 in
set_option maxHeartbeats 4000000 in
theorem specNameOk_any (s : ByteArray) (w : World) (hs : s.size ≤ 16777216) :
    Calls Tryz.prog 120 #[.string s] w fun e w' => e = .returned (.bool (nameB (toB s))) ∧ Fr w w' := by
  obtain ⟨q, hq⟩ : ∃ q, q = nameB (toB s) := ⟨_, rfl⟩
  obtain ⟨D, hD⟩ : ∃ D, D = decR (toB s) := ⟨_, rfl⟩
  have HQ := Lib.hid (show q = ((((inB (s.size : Int) 1 24 && !decide (toB s = [46])) && !decide (toB s = [46, 46])) && D.2) && D.1.all knownS) by rw [hq, nameB, toB_len, ← hD])
  have HD := Lib.hid hD
  have HDL := Lib.hid (show D.1.length ≤ s.size by rw [hD, ← toB_len]; exact (decR_good _).1)
  rw [← hq]
  obtain ⟨dl, dk⟩ := D
  obtain ⟨b1, hb1⟩ : ∃ b, b = decide (toB s = [46]) := ⟨_, rfl⟩
  obtain ⟨b2, hb2⟩ : ∃ b, b = decide (toB s = [46, 46]) := ⟨_, rfl⟩
  have he1 : (s.toList == (ByteArray.mk #[46]).toList) = b1 := by rw [cmpB, hb1]; rfl
  have he2 : (s.toList == (ByteArray.mk #[46, 46]).toList) = b2 := by rw [cmpB, hb2]; rfl
  have he3 : (s.toList == [46]) = b1 := by rw [toList_B, hb1, Bool.eq_iff_iff]; simp
  have he4 : (s.toList == [46, 46]) = b2 := by rw [toList_B, hb2, Bool.eq_iff_iff]; simp
  rw [← hb1, ← hb2] at HQ
  have HS := Lib.hid hs
  clear hb1 hb2 hq hD hs
  go_enter Tryz.func120, Tryz.ntmps120
  go_wp2_with fail
  refine (l1In_any _ _ _ _).mono ?_
  rintro e w ⟨rfl, rfl⟩
  have H0 := Hp.start w
  rcases bool_or (inB (s.size : Int) 1 24) with h1 | h1
  · rw [h1]
    cases b1 with
    | true =>
      have HE := Lib.hid (HQ.out.trans (show _ = false by simp))
      go_wp2_with fail
      go_ret
      rw [HE.out]
      exact ⟨rfl, H0.fr⟩
    | false =>
      cases b2 with
      | true =>
        have HE := Lib.hid (HQ.out.trans (show _ = false by simp))
        go_wp2_with fail
        go_ret
        rw [HE.out]
        exact ⟨rfl, H0.fr⟩
      | false =>
        have HE := Lib.hid (HQ.out.trans (show _ = (dk && dl.all knownS) by rw [h1]; simp))
        clear h1
        go_wp2_with fail
        refine (specDecode_any s _ HS.out).mono ?_
        rintro e w1 ⟨A, n, c, rfl, hn, o1, f1⟩
        rw [← HD.out] at hn o1 ⊢
        have H1 := H0.made o1 f1
        have HN := Lib.hid hn
        clear H0 o1 f1 hn
        simp only at HN H1 HDL ⊢
        have hnb : n ≤ 16777216 := by have := HN.out; have := HDL.out; have := HS.out; omega
        go_wp2_with fail
        go_loopw [4, 5] (fun bv iv wr => ∃ i : Nat, iv = .int .i64 i ∧ bv = .bool (dk && (dl.take i).all knownS) ∧ i ≤ n ∧ Hp [] w wr [.row 3 1 (.slice A n c) n (dl.map (Value.int .i64))]) (fun _ iv _ => n - (intOf iv).toNat)
        case atStart => exact ⟨0, rfl, by simp, by omega, H1⟩
        case round =>
          clear H1
          obtain ⟨i, rfl, rfl, hi, H⟩ := hrel
          by_cases hlt : i < n
          · obtain ⟨x, hx⟩ := at_some HN.out.symm hlt
            obtain ⟨g, cg, e, _⟩ := H.form 0 rfl (by omega)
            injection e with e1 _ e2
            subst e1 e2
            have cx := H.atM 0 rfl hx
            have HX := Lib.hid (show (dk && (dl.take (i + 1)).all knownS) = ((dk && (dl.take i).all knownS) && knownS x) by rw [hx.take, List.all_append]; simp [Bool.and_assoc])
            have hi0 : (0 : Int) ≤ (i : Int) := by omega
            have hi1 : (i : Int) < (n : Int) := by omega
            clear hx
            generalize (dk && (dl.take i).all knownS) = bb at HX ⊢
            cases bb with
            | false =>
              go_wp2_with fail
              go_roundw
              case rel => exact ⟨i + 1, by go_num, by rw [HX.out]; rfl, by omega, H⟩
              case measure => simp [intOf]; omega
            | true =>
              go_wp2_with fail
              refine (specKnown_any x _).mono ?_
              rintro e w2 ⟨rfl, f2⟩
              replace H := H.go f2
              clear f2 cx
              go_wp2_with fail
              go_roundw
              case rel => exact ⟨i + 1, by go_num, by rw [HX.out]; simp, by omega, H⟩
              case measure => simp [intOf]; omega
          · have hge : ¬ ((i : Int) < (n : Int)) := by omega
            have ht : dl.take i = dl := List.take_of_length_le (by have := HN.out; omega)
            rw [ht]
            generalize (dk && dl.all knownS) = bb at HE ⊢
            clear ht
            go_wp2_with fail
            go_ret
            rw [HE.out]
            exact ⟨rfl, H.fr⟩
  · have HE := Lib.hid (HQ.out.trans (show _ = false by rw [h1]; simp))
    rw [h1]
    clear h1
    go_wp2_with fail
    go_ret
    rw [HE.out]
    exact ⟨rfl, H0.fr⟩

theorem keysL_in {l : List Int} (h : ∀ x ∈ l, InZ x) : ∀ x ∈ keysL l, InZ x := apart_in (fold_in (apart_in h))
set_option maxRecDepth 100000 in
set_option maxHeartbeats 4000000 in
theorem implKeyOf_any (s : ByteArray) (w : World) (hs : s.size ≤ 16777216) (hk : KT w) :
    Calls Tryz.prog 117 #[.string s] w fun e w' => e = .returned (.tuple #[.string (ofB (keyR (toB s)).1), .bool (keyR (toB s)).2]) ∧ Fr w w' := by
  obtain ⟨K, hK⟩ : ∃ K, K = keyR (toB s) := ⟨_, rfl⟩
  have HK := Lib.hid hK
  have HS := Lib.hid hs
  rw [← hK]
  clear hK hs
  obtain ⟨b, hb⟩ : ∃ b, b = nameB (toB s) := ⟨_, rfl⟩
  have HB := Lib.hid hb
  have hlen : nameB (toB s) = true → s.size ≤ 24 := fun h => by have := (nameB_len h).2; rwa [toB_len] at this
  have HLN := Lib.hid hlen
  clear hb hlen
  go_enter Tryz.func117, Tryz.ntmps117
  go_wp2_with fail
  refine (implNameOk_any s _ HS.out hk).mono ?_
  rintro e w1 ⟨rfl, f1⟩
  rw [← HB.out]
  cases b with
  | false =>
    have HE := Lib.hid (HK.out.trans (keyR_no HB.out.symm))
    go_wp2_with fail
    go_ret2
    rw [HE.out]
    exact ⟨rfl, f1⟩
  | true =>
    have HE := Lib.hid (HK.out.trans (keyR_yes HB.out.symm))
    have H1 := (Hp.start w).go f1
    clear f1
    have hs24 := HLN.out HB.out.symm
    go_wp2_with fail
    refine (implDecode_any s _ HS.out).mono ?_
    rintro e w2 ⟨A, n, c, rfl, hn, o2, f2⟩
    have hdl : (decR (toB s)).1.length ≤ 24 := by have := (decR_good (toB s)).1; rw [toB_len] at this; omega
    have hin := sgn_in (decR_good (toB s)).2
    generalize (decR (toB s)).2 = dk
    generalize (decR (toB s)).1 = dl at hn o2 hdl hin HE
    have H2 := H1.made o2 f2
    have hnb : n ≤ 24 := by omega
    clear H1 o2 f2 hn
    have hl3 := apart_len dl
    have hi3 := apart_in hin
    have HI := Lib.hid hin
    clear hin
    go_wp2_with fail
    refine (implApart_any A n c dl _ (H2.rd 0 rfl) (by omega) HI.out).mono ?_
    rintro e w3 ⟨A3, c3, rfl, o3, f3⟩
    have H3 := H2.made o3 f3
    simp only [keysL] at HE
    generalize apartL dl = l3 at H3 hl3 hi3 HE ⊢
    have hl4 := foldL_len l3
    have hi4 := fold_in hi3
    clear H2 o3 f3 hi3
    go_wp2_with fail
    refine (implFold_any A3 _ c3 l3 _ (H3.rd 0 rfl) (by omega)).mono ?_
    rintro e w4 ⟨A4, c4, rfl, o4, f4⟩
    have H4 := H3.made o4 f4
    generalize foldL l3 = l4 at H4 hl4 hi4 HE ⊢
    have hl5 := apart_len l4
    have HI4 := Lib.hid hi4
    clear H3 o4 f4 hi4
    go_wp2_with fail
    refine (implApart_any A4 _ c4 l4 _ (H4.rd 0 rfl) (by omega) HI4.out).mono ?_
    rintro e w5 ⟨A5, c5, rfl, o5, f5⟩
    have H5 := H4.made o5 f5
    generalize apartL l4 = l5 at H5 hl5 HE ⊢
    clear H4 o5 f5
    go_wp2_with fail
    refine (implEncode_any A5 _ c5 l5 _ (H5.rd 0 rfl) (by omega)).mono ?_
    rintro e w6 ⟨rfl, f6⟩
    have H6 := H5.go f6
    clear H5 f6
    go_wp2_with fail
    go_ret2
    rw [HE.out]
    exact ⟨rfl, H6.fr⟩
set_option maxRecDepth 100000 in
set_option maxHeartbeats 4000000 in
theorem specKeyOf_any (s : ByteArray) (w : World) (hs : s.size ≤ 16777216) :
    Calls Tryz.prog 115 #[.string s] w fun e w' => e = .returned (.tuple #[.string (ofB (keyR (toB s)).1), .bool (keyR (toB s)).2]) ∧ Fr w w' := by
  obtain ⟨K, hK⟩ : ∃ K, K = keyR (toB s) := ⟨_, rfl⟩
  have HK := Lib.hid hK
  have HS := Lib.hid hs
  rw [← hK]
  clear hK hs
  obtain ⟨b, hb⟩ : ∃ b, b = nameB (toB s) := ⟨_, rfl⟩
  have HB := Lib.hid hb
  have hlen : nameB (toB s) = true → s.size ≤ 24 := fun h => by have := (nameB_len h).2; rwa [toB_len] at this
  have HLN := Lib.hid hlen
  clear hb hlen
  go_enter Tryz.func115, Tryz.ntmps115
  go_wp2_with fail
  refine (specNameOk_any s _ HS.out).mono ?_
  rintro e w1 ⟨rfl, f1⟩
  rw [← HB.out]
  cases b with
  | false =>
    have HE := Lib.hid (HK.out.trans (keyR_no HB.out.symm))
    go_wp2_with fail
    go_ret2
    rw [HE.out]
    exact ⟨rfl, f1⟩
  | true =>
    have HE := Lib.hid (HK.out.trans (keyR_yes HB.out.symm))
    have H1 := (Hp.start w).go f1
    clear f1
    have hs24 := HLN.out HB.out.symm
    go_wp2_with fail
    refine (specDecode_any s _ HS.out).mono ?_
    rintro e w2 ⟨A, n, c, rfl, hn, o2, f2⟩
    have hdl : (decR (toB s)).1.length ≤ 24 := by have := (decR_good (toB s)).1; rw [toB_len] at this; omega
    have hin := sgn_in (decR_good (toB s)).2
    generalize (decR (toB s)).2 = dk
    generalize (decR (toB s)).1 = dl at hn o2 hdl hin HE
    have H2 := H1.made o2 f2
    have hnb : n ≤ 24 := by omega
    clear H1 o2 f2 hn
    have hl3 := apart_len dl
    have hi3 := apart_in hin
    have HI := Lib.hid hin
    clear hin
    go_wp2_with fail
    refine (specApart_any A n c dl _ (H2.rd 0 rfl) (by omega) HI.out).mono ?_
    rintro e w3 ⟨A3, c3, rfl, o3, f3⟩
    have H3 := H2.made o3 f3
    simp only [keysL] at HE
    generalize apartL dl = l3 at H3 hl3 hi3 HE ⊢
    have hl4 := foldL_len l3
    have hi4 := fold_in hi3
    clear H2 o3 f3 hi3
    go_wp2_with fail
    refine (specFold_any A3 _ c3 l3 _ (H3.rd 0 rfl) (by omega)).mono ?_
    rintro e w4 ⟨A4, c4, rfl, o4, f4⟩
    have H4 := H3.made o4 f4
    generalize foldL l3 = l4 at H4 hl4 hi4 HE ⊢
    have hl5 := apart_len l4
    have HI4 := Lib.hid hi4
    clear H3 o4 f4 hi4
    go_wp2_with fail
    refine (specApart_any A4 _ c4 l4 _ (H4.rd 0 rfl) (by omega) HI4.out).mono ?_
    rintro e w5 ⟨A5, c5, rfl, o5, f5⟩
    have H5 := H4.made o5 f5
    generalize apartL l4 = l5 at H5 hl5 HE ⊢
    clear H4 o5 f5
    go_wp2_with fail
    refine (specEncode_any A5 _ c5 l5 _ (H5.rd 0 rfl) (by omega)).mono ?_
    rintro e w6 ⟨rfl, f6⟩
    have H6 := H5.go f6
    clear H5 f6
    go_wp2_with fail
    go_ret2
    rw [HE.out]
    exact ⟨rfl, H6.fr⟩
end Go.Proofs.YtaogikhpglcmjaaGreatDoor

namespace Go.Proofs.YtaogikhpglcmjaaGreatDoor
open Go.RowKit

set_option linter.unusedVariables false
set_option linter.unusedSimpArgs false
def pieceB (s : ByteArray) : List UInt8 := varB (s.size : Int) ++ toB s
def entB (e : Int × Int × ByteArray × Int) : List UInt8 := varB e.2.1 ++ (pieceB e.2.2.1 ++ varB e.2.2.2)
def nodeB (x : Nod) : List UInt8 := (105 :: (varB x.1 ++ (varB x.2.1 ++ (varB x.2.2.1 ++ (pieceB x.2.2.2.1 ++ varB (x.2.2.2.2.length : Int)))))) ++ x.2.2.2.2.flatMap entB
def headB (next : Int) (n : Nat) : List UInt8 := 117 :: (varB next ++ varB (n : Int))
/-- The seventeen blocks. -/
def blocksB (next : Int) (l : List Nod) : List ByteArray := ofB (headB next l.length) :: (List.range 16).map fun i => match l[i]? with
  | some x => ofB (nodeB x)
  | none => ⟨#[]⟩
theorem pieceB_ofB (s : ByteArray) : varS (s.size : Int) ++ s = ofB (pieceB s) := by
  rw [varS, pieceB, ← ofB_append, ofB_toB]
theorem implPiece_any (s : ByteArray) (w : World) (hs : s.size ≤ 4398046511104) :
    Calls Tryz.prog 95 #[.string s] w fun e w' => e = .returned (.string (ofB (pieceB s))) ∧ Fr w w' := by
  have HE := Lib.hid (pieceB_ofB s)
  have hv := varS_size (s.size : Int)
  go_enter Tryz.func95, Tryz.ntmps95
  go_wp2_with fail
  refine (implVar_any _ _).mono ?_
  rintro e w1 ⟨rfl, f1⟩
  go_wp2_with fail
  go_ret
  rw [HE.out]
  exact ⟨rfl, f1⟩
theorem specPiece_any (s : ByteArray) (w : World) (hs : s.size ≤ 4398046511104) :
    Calls Tryz.prog 87 #[.string s] w fun e w' => e = .returned (.string (ofB (pieceB s))) ∧ Fr w w' := by
  have HE := Lib.hid (pieceB_ofB s)
  have hv := varS_size (s.size : Int)
  go_enter Tryz.func87, Tryz.ntmps87
  go_wp2_with fail
  refine (specVar_any _ _).mono ?_
  rintro e w1 ⟨rfl, f1⟩
  go_wp2_with fail
  go_ret
  rw [HE.out]
  exact ⟨rfl, f1⟩
end Go.Proofs.YtaogikhpglcmjaaGreatDoor
