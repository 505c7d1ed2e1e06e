/-
  Many texts in one: Fold, Name, Order, MDir, MDir2, MDir3, MDir4, MVol, Hash.
-/
import Derived.Test.YtmpldngnkacnmaaGreatDoorGd
import Derived.Test.YtmpldngnkacnmaaGreatDoorGc
import Derived.Test.YtmpldngnkacnmaaGreatDoorGb
import Derived.Test.YtmpldngnkacnmaaGreatDoorGg
set_option linter.unusedVariables false
set_option linter.unusedSimpArgs false
namespace Go.Proofs.YtmpldngnkacnmaaGreatDoor
open Go.RowKit
set_option maxRecDepth 100000 in
set_option maxHeartbeats 4000000 in
theorem implFoldOf_any (c : Int) (w : World) :
 Calls Tryz.prog 131 #[.int .i64 c] w (Made w 3 1 (foldF c).length ((foldF c).map (Value.int .i64))) := by
 have H0 := Hp.start w;go_enter Tryz.func131, Tryz.ntmps131;go_wp2_with fail;refine (within_any _ _ _ _).mono ?_;rintro e w ⟨rfl, rfl⟩
 rcases (show inB c 65 90 = true ∨ inB c 65 90 = false by cases inB c 65 90 <;> simp) with h1 | h1
 ·rw [h1]
  have hy : (inB c 65 90 || inB c 913 929 || inB c 931 937 || inB c 1040 1071 || (c == 198 || c == 208 || c == 216 || c == 222)) = true := by simp [h1]
  clear h1;have hct := foldF_top hy;have HY := Lib.hid (foldF_yes hy);have hw : IntKind.i64.wrap (c + 32) = c + 32 := IntWalk.i64_in _ (by omega);have K := H0.lit 3 1 1 [.int .i64 (c + 32)] rfl (by simp [maxLen]);clear hy;go_wp2_with fail;go_ret;rw [HY.out];exact K.toMade 0 rfl
 rw [h1];go_wp2_with fail;refine (within_any _ _ _ _).mono ?_;rintro e w ⟨rfl, rfl⟩
 rcases (show inB c 913 929 = true ∨ inB c 913 929 = false by cases inB c 913 929 <;> simp) with h2 | h2
 ·rw [h2]
  have hy : (inB c 65 90 || inB c 913 929 || inB c 931 937 || inB c 1040 1071 || (c == 198 || c == 208 || c == 216 || c == 222)) = true := by simp [h2]
  clear h1 h2;have hct := foldF_top hy;have HY := Lib.hid (foldF_yes hy);have hw : IntKind.i64.wrap (c + 32) = c + 32 := IntWalk.i64_in _ (by omega);have K := H0.lit 3 1 1 [.int .i64 (c + 32)] rfl (by simp [maxLen]);clear hy;go_wp2_with fail;go_ret;rw [HY.out];exact K.toMade 0 rfl
 rw [h2];go_wp2_with fail;refine (within_any _ _ _ _).mono ?_;rintro e w ⟨rfl, rfl⟩
 rcases (show inB c 931 937 = true ∨ inB c 931 937 = false by cases inB c 931 937 <;> simp) with h3 | h3
 ·rw [h3]
  have hy : (inB c 65 90 || inB c 913 929 || inB c 931 937 || inB c 1040 1071 || (c == 198 || c == 208 || c == 216 || c == 222)) = true := by simp [h3]
  clear h1 h2 h3;have hct := foldF_top hy;have HY := Lib.hid (foldF_yes hy);have hw : IntKind.i64.wrap (c + 32) = c + 32 := IntWalk.i64_in _ (by omega);have K := H0.lit 3 1 1 [.int .i64 (c + 32)] rfl (by simp [maxLen]);clear hy;go_wp2_with fail;go_ret;rw [HY.out];exact K.toMade 0 rfl
 rw [h3];go_wp2_with fail;refine (within_any _ _ _ _).mono ?_;rintro e w ⟨rfl, rfl⟩
 rcases (show inB c 1040 1071 = true ∨ inB c 1040 1071 = false by cases inB c 1040 1071 <;> simp) with h4 | h4
 ·rw [h4]
  have hy : (inB c 65 90 || inB c 913 929 || inB c 931 937 || inB c 1040 1071 || (c == 198 || c == 208 || c == 216 || c == 222)) = true := by simp [h4]
  clear h1 h2 h3 h4;have hct := foldF_top hy;have HY := Lib.hid (foldF_yes hy);have hw : IntKind.i64.wrap (c + 32) = c + 32 := IntWalk.i64_in _ (by omega);have K := H0.lit 3 1 1 [.int .i64 (c + 32)] rfl (by simp [maxLen]);clear hy;go_wp2_with fail;go_ret;rw [HY.out];exact K.toMade 0 rfl
 rw [h4]
 rcases (show (c == 198) = true ∨ (c == 198) = false by cases (c == 198) <;> simp) with j1 | j1
 ·have hy : (inB c 65 90 || inB c 913 929 || inB c 931 937 || inB c 1040 1071 || (c == 198 || c == 208 || c == 216 || c == 222)) = true := by
   rw [j1]; simp
  clear h1 h2 h3 h4;have hct := foldF_top hy;have HY := Lib.hid (foldF_yes hy);have hw : IntKind.i64.wrap (c + 32) = c + 32 := IntWalk.i64_in _ (by omega);have K := H0.lit 3 1 1 [.int .i64 (c + 32)] rfl (by simp [maxLen]);clear hy;go_wp2_with fail;go_ret;rw [HY.out];exact K.toMade 0 rfl
 rcases (show (c == 208) = true ∨ (c == 208) = false by cases (c == 208) <;> simp) with j2 | j2
 ·have hy : (inB c 65 90 || inB c 913 929 || inB c 931 937 || inB c 1040 1071 || (c == 198 || c == 208 || c == 216 || c == 222)) = true := by
   rw [j2]; simp
  clear h1 h2 h3 h4;have hct := foldF_top hy;have HY := Lib.hid (foldF_yes hy);have hw : IntKind.i64.wrap (c + 32) = c + 32 := IntWalk.i64_in _ (by omega);have K := H0.lit 3 1 1 [.int .i64 (c + 32)] rfl (by simp [maxLen]);clear hy;go_wp2_with fail;go_ret;rw [HY.out];exact K.toMade 0 rfl
 rcases (show (c == 216) = true ∨ (c == 216) = false by cases (c == 216) <;> simp) with j3 | j3
 ·have hy : (inB c 65 90 || inB c 913 929 || inB c 931 937 || inB c 1040 1071 || (c == 198 || c == 208 || c == 216 || c == 222)) = true := by
   rw [j3]; simp
  clear h1 h2 h3 h4;have hct := foldF_top hy;have HY := Lib.hid (foldF_yes hy);have hw : IntKind.i64.wrap (c + 32) = c + 32 := IntWalk.i64_in _ (by omega);have K := H0.lit 3 1 1 [.int .i64 (c + 32)] rfl (by simp [maxLen]);clear hy;go_wp2_with fail;go_ret;rw [HY.out];exact K.toMade 0 rfl
 rcases (show (c == 222) = true ∨ (c == 222) = false by cases (c == 222) <;> simp) with j4 | j4
 ·have hy : (inB c 65 90 || inB c 913 929 || inB c 931 937 || inB c 1040 1071 || (c == 198 || c == 208 || c == 216 || c == 222)) = true := by
   rw [j4]; simp
  clear h1 h2 h3 h4;have hct := foldF_top hy;have HY := Lib.hid (foldF_yes hy);have hw : IntKind.i64.wrap (c + 32) = c + 32 := IntWalk.i64_in _ (by omega);have K := H0.lit 3 1 1 [.int .i64 (c + 32)] rfl (by simp [maxLen]);clear hy;go_wp2_with fail;go_ret;rw [HY.out];exact K.toMade 0 rfl
 have hn : (inB c 65 90 || inB c 913 929 || inB c 931 937 || inB c 1040 1071 || (c == 198 || c == 208 || c == 216 || c == 222)) = false := by
  rw [h1, h2, h3, h4, j1, j2, j3, j4]; rfl
 clear h1 h2 h3 h4;have HN := Lib.hid (foldF_no hn);clear hn
 by_cases g1 : c = 223
 ·subst g1
  have K := H0.lit 3 1 2 [.int .i64 115, .int .i64 115] rfl (by simp [maxLen]);have HE := Lib.hid (HN.out.trans (if_pos rfl));go_wp2_with fail;go_ret;rw [HE.out];exact K.toMade 0 rfl
 ·have g1' : (c == 223) = false := by simpa using g1
  by_cases g2 : c = 962
  ·subst g2
   have K := H0.lit 3 1 1 [.int .i64 963] rfl (by simp [maxLen]);have HE := Lib.hid (HN.out.trans ((if_neg g1).trans (if_pos rfl)));clear g1;go_wp2_with fail;go_ret;rw [HE.out];exact K.toMade 0 rfl
  ·have g2' : (c == 962) = false := by simpa using g2
   have K := H0.lit 3 1 1 [.int .i64 c] rfl (by simp [maxLen]);have HE := Lib.hid (HN.out.trans ((if_neg g1).trans (if_neg g2)));clear g1 g2;go_wp2_with fail;go_ret;rw [HE.out];exact K.toMade 0 rfl
set_option maxRecDepth 100000 in
set_option maxHeartbeats 4000000 in
theorem specFoldOf_any (c : Int) (w : World) :
 Calls Tryz.prog 135 #[.int .i64 c] w (Made w 3 1 (foldF c).length ((foldF c).map (Value.int .i64))) := by
 have H0 := Hp.start w;go_enter Tryz.func135, Tryz.ntmps135;go_wp2_with fail;refine (l1In_any _ _ _ _).mono ?_;rintro e w ⟨rfl, rfl⟩
 rcases (show inB c 65 90 = true ∨ inB c 65 90 = false by cases inB c 65 90 <;> simp) with h1 | h1
 ·rw [h1]
  have hy : (inB c 65 90 || inB c 913 929 || inB c 931 937 || inB c 1040 1071 || (c == 198 || c == 208 || c == 216 || c == 222)) = true := by simp [h1]
  clear h1;have hct := foldF_top hy;have HY := Lib.hid (foldF_yes hy);have hw : IntKind.i64.wrap (c + 32) = c + 32 := IntWalk.i64_in _ (by omega);have K := H0.lit 3 1 1 [.int .i64 (c + 32)] rfl (by simp [maxLen]);clear hy;go_wp2_with fail;go_ret;rw [HY.out];exact K.toMade 0 rfl
 rw [h1];go_wp2_with fail;refine (l1In_any _ _ _ _).mono ?_;rintro e w ⟨rfl, rfl⟩
 rcases (show inB c 913 929 = true ∨ inB c 913 929 = false by cases inB c 913 929 <;> simp) with h2 | h2
 ·rw [h2]
  have hy : (inB c 65 90 || inB c 913 929 || inB c 931 937 || inB c 1040 1071 || (c == 198 || c == 208 || c == 216 || c == 222)) = true := by simp [h2]
  clear h1 h2;have hct := foldF_top hy;have HY := Lib.hid (foldF_yes hy);have hw : IntKind.i64.wrap (c + 32) = c + 32 := IntWalk.i64_in _ (by omega);have K := H0.lit 3 1 1 [.int .i64 (c + 32)] rfl (by simp [maxLen]);clear hy;go_wp2_with fail;go_ret;rw [HY.out];exact K.toMade 0 rfl
 rw [h2];go_wp2_with fail;refine (l1In_any _ _ _ _).mono ?_;rintro e w ⟨rfl, rfl⟩
 rcases (show inB c 931 937 = true ∨ inB c 931 937 = false by cases inB c 931 937 <;> simp) with h3 | h3
 ·rw [h3]
  have hy : (inB c 65 90 || inB c 913 929 || inB c 931 937 || inB c 1040 1071 || (c == 198 || c == 208 || c == 216 || c == 222)) = true := by simp [h3]
  clear h1 h2 h3;have hct := foldF_top hy;have HY := Lib.hid (foldF_yes hy);have hw : IntKind.i64.wrap (c + 32) = c + 32 := IntWalk.i64_in _ (by omega);have K := H0.lit 3 1 1 [.int .i64 (c + 32)] rfl (by simp [maxLen]);clear hy;go_wp2_with fail;go_ret;rw [HY.out];exact K.toMade 0 rfl
 rw [h3];go_wp2_with fail;refine (l1In_any _ _ _ _).mono ?_;rintro e w ⟨rfl, rfl⟩
 rcases (show inB c 1040 1071 = true ∨ inB c 1040 1071 = false by cases inB c 1040 1071 <;> simp) with h4 | h4
 ·rw [h4]
  have hy : (inB c 65 90 || inB c 913 929 || inB c 931 937 || inB c 1040 1071 || (c == 198 || c == 208 || c == 216 || c == 222)) = true := by simp [h4]
  clear h1 h2 h3 h4;have hct := foldF_top hy;have HY := Lib.hid (foldF_yes hy);have hw : IntKind.i64.wrap (c + 32) = c + 32 := IntWalk.i64_in _ (by omega);have K := H0.lit 3 1 1 [.int .i64 (c + 32)] rfl (by simp [maxLen]);clear hy;go_wp2_with fail;go_ret;rw [HY.out];exact K.toMade 0 rfl
 rw [h4];have H1 := H0.lit 3 1 4 (([198, 208, 216, 222] : List Int).map (Value.int .i64)) rfl (by simp [maxLen]);go_wp2_with fail;refine (l3Among_any c _ 4 4 [198, 208, 216, 222] _ (H1.rd 0 rfl) (by decide)).mono ?_;rintro e w1 ⟨rfl, hw1⟩;rw [← hw1] at H1;clear hw1;have hcon : ([198, 208, 216, 222] : List Int).contains c = (c == 198 || c == 208 || c == 216 || c == 222) := by
  rw [Bool.eq_iff_iff, List.contains_iff_mem]; simp [or_assoc]
 rw [hcon];clear hcon H0
 rcases (show (c == 198 || c == 208 || c == 216 || c == 222) = true ∨ (c == 198 || c == 208 || c == 216 || c == 222) = false by cases (c == 198 || c == 208 || c == 216 || c == 222) <;> simp) with h5 | h5
 ·rw [h5]
  have hy : (inB c 65 90 || inB c 913 929 || inB c 931 937 || inB c 1040 1071 || (c == 198 || c == 208 || c == 216 || c == 222)) = true := by
   rw [h5]; simp
  clear h1 h2 h3 h4 h5;have hct := foldF_top hy;have HY := Lib.hid (foldF_yes hy);have hw : IntKind.i64.wrap (c + 32) = c + 32 := IntWalk.i64_in _ (by omega);have K := H1.lit 3 1 1 [.int .i64 (c + 32)] rfl (by simp [maxLen]);clear hy;go_wp2_with fail;go_ret;rw [HY.out];exact K.toMade 0 rfl
 ·rw [h5]
  have hn : (inB c 65 90 || inB c 913 929 || inB c 931 937 || inB c 1040 1071 || (c == 198 || c == 208 || c == 216 || c == 222)) = false := by
   rw [h1, h2, h3, h4, h5]; rfl
  clear h1 h2 h3 h4 h5;have HN := Lib.hid (foldF_no hn);clear hn
  by_cases g1 : c = 223
  ·subst g1
   have K := H1.lit 3 1 2 [.int .i64 115, .int .i64 115] rfl (by simp [maxLen]);have HE := Lib.hid (HN.out.trans (if_pos rfl));go_wp2_with fail;go_ret;rw [HE.out];exact K.toMade 0 rfl
  ·have g1' : (c == 223) = false := by simpa using g1
   by_cases g2 : c = 962
   ·subst g2
    have K := H1.lit 3 1 1 [.int .i64 963] rfl (by simp [maxLen]);have HE := Lib.hid (HN.out.trans ((if_neg g1).trans (if_pos rfl)));clear g1;go_wp2_with fail;go_ret;rw [HE.out];exact K.toMade 0 rfl
   ·have g2' : (c == 962) = false := by simpa using g2
    have K := H1.lit 3 1 1 [.int .i64 c] rfl (by simp [maxLen]);have HE := Lib.hid (HN.out.trans ((if_neg g1).trans (if_neg g2)));clear g1 g2;go_wp2_with fail;go_ret;rw [HE.out];exact K.toMade 0 rfl
set_option maxRecDepth 100000 in
set_option maxHeartbeats 4000000 in
theorem implFold_any (A : Option Addr) (n c : Nat) (l : List Int) (w : World) (h : Rd w A n 1 (l.map (Value.int .i64))) (hn : n ≤ 16777216) :
 Calls Tryz.prog 118 #[.slice A n c] w (Made w 3 1 (foldL l).length ((foldL l).map (Value.int .i64))) := by
 have HL := Lib.hid h.len1;have G := Lib.hid h;have H0 := (Hp.start w).lit0 3 1;have HAP := Lib.hid (fun (i : Nat) (hi : l.length ≤ i) => show foldL (l.take i) = foldL l by rw [List.take_of_length_le hi])
 generalize foldL l = out at HAP ⊢
 clear h;go_enter Tryz.func118, Tryz.ntmps118;go_wp2_with fail
 go_loopw [3, 9] (fun v iv wr => ∃ i : Nat, iv = .int .i64 i ∧ i ≤ n ∧ Hp [] w wr [.row 3 1 v (foldL (l.take i)).length ((foldL (l.take i)).map (Value.int .i64))]) (fun _ iv _ => n - (intOf iv).toNat)
 case atStart => exact ⟨0, rfl, by omega, H0⟩
 case round =>
  clear H0;obtain ⟨i, rfl, hi, H⟩ := hrel;obtain ⟨B, d, rfl⟩ := H.shape 0 rfl
  by_cases hlt : i < n
  ·obtain ⟨cc, hx⟩ := at_some HL.out hlt
   obtain ⟨bk, of, rfl, hc⟩ := (H.old G.out).get1 hx;have hi0 : (0 : Int) ≤ (i : Int) := by omega
   have hi1 : (i : Int) < (n : Int) := by omega
   have HT := Lib.hid (show foldL (l.take (i + 1)) = foldL (l.take i) ++ foldF cc by rw [hx.take, foldL, List.flatMap_append, List.flatMap_singleton]; rfl);have hol : (foldL (l.take i)).length ≤ 100000000 := by
    have := foldL_len (l.take i);have h2 : (l.take i).length ≤ n := by rw [List.length_take]; omega
    omega
   have htl := foldF_len cc;clear hx
   generalize foldL (l.take i) = o at H HT hol ⊢
   go_wp2_with fail;refine (implFoldOf_any cc _).mono ?_;rintro e w1 ⟨T, dt, rfl, ot, ft⟩;have H1 := H.made ot ft;clear H ot ft hc
   generalize foldF cc = ts at H1 HT htl ⊢
   go_wp2_with (at_builtin; refine wp_appS (f := Value.int .i64) H1 rfl _ _ _ rfl Tryz.underlying83 infoInt rfl 1 _ o rfl rfl T dt ts rfl (own_cap' (H1.row 0 rfl)) (H1.rd 0 rfl) (by simp [Value.oneCell']) (by simp only [maxLen]; omega) (by omega) ?_);intro v' w' H';have H2 : Hp [] w w' [.row 3 1 v' (foldL (l.take (i + 1))).length ((foldL (l.take (i + 1))).map (Value.int .i64))] := by
    rw [HT.out, List.map_append, List.length_append];exact H'.tail
   have H3 := Lib.hid H2;clear H' H2 H1;go_wp2_with fail;go_roundw
   case rel => exact ⟨i + 1, by go_num, by omega, H3.out⟩
   case measure => simp [intOf]; omega
  ·have hge : ¬ ((i : Int) < (n : Int)) := by omega
   rw [HAP.out i (by rw [HL.out]; omega)] at H ⊢;go_wp2_with fail;go_ret;exact H.toMade 0 rfl
set_option maxRecDepth 100000 in
set_option maxHeartbeats 4000000 in
theorem specFold_any (A : Option Addr) (n c : Nat) (l : List Int) (w : World) (h : Rd w A n 1 (l.map (Value.int .i64))) (hn : n ≤ 16777216) :
 Calls Tryz.prog 125 #[.slice A n c] w (Made w 3 1 (foldL l).length ((foldL l).map (Value.int .i64))) := by
 have HL := Lib.hid h.len1;have G := Lib.hid h;have H0 := (Hp.start w).lit0 3 1;have HAP := Lib.hid (fun (i : Nat) (hi : l.length ≤ i) => show foldL (l.take i) = foldL l by rw [List.take_of_length_le hi])
 generalize foldL l = out at HAP ⊢
 clear h;go_enter Tryz.func125, Tryz.ntmps125;go_wp2_with fail
 go_loopw [3, 4] (fun v iv wr => ∃ i : Nat, iv = .int .i64 i ∧ i ≤ n ∧ Hp [] w wr [.row 3 1 v (foldL (l.take i)).length ((foldL (l.take i)).map (Value.int .i64))]) (fun _ iv _ => n - (intOf iv).toNat)
 case atStart => exact ⟨0, rfl, by omega, H0⟩
 case round =>
  clear H0;obtain ⟨i, rfl, hi, H⟩ := hrel;obtain ⟨B, d, rfl⟩ := H.shape 0 rfl
  by_cases hlt : i < n
  ·obtain ⟨cc, hx⟩ := at_some HL.out hlt
   obtain ⟨bk, of, rfl, hc⟩ := (H.old G.out).get1 hx;have hi0 : (0 : Int) ≤ (i : Int) := by omega
   have hi1 : (i : Int) < (n : Int) := by omega
   have HT := Lib.hid (show foldL (l.take (i + 1)) = foldL (l.take i) ++ foldF cc by rw [hx.take, foldL, List.flatMap_append, List.flatMap_singleton]; rfl);have hol : (foldL (l.take i)).length ≤ 100000000 := by
    have := foldL_len (l.take i);have h2 : (l.take i).length ≤ n := by rw [List.length_take]; omega
    omega
   have htl := foldF_len cc;clear hx
   generalize foldL (l.take i) = o at H HT hol ⊢
   go_wp2_with fail;refine (specFoldOf_any cc _).mono ?_;rintro e w1 ⟨T, dt, rfl, ot, ft⟩;have H1 := H.made ot ft;clear H ot ft hc
   generalize foldF cc = ts at H1 HT htl ⊢
   go_wp2_with (at_builtin; refine wp_appS (f := Value.int .i64) H1 rfl _ _ _ rfl Tryz.underlying83 infoInt rfl 1 _ o rfl rfl T dt ts rfl (own_cap' (H1.row 0 rfl)) (H1.rd 0 rfl) (by simp [Value.oneCell']) (by simp only [maxLen]; omega) (by omega) ?_);intro v' w' H';have H2 : Hp [] w w' [.row 3 1 v' (foldL (l.take (i + 1))).length ((foldL (l.take (i + 1))).map (Value.int .i64))] := by
    rw [HT.out, List.map_append, List.length_append];exact H'.tail
   have H3 := Lib.hid H2;clear H' H2 H1;go_wp2_with fail;go_roundw
   case rel => exact ⟨i + 1, by go_num, by omega, H3.out⟩
   case measure => simp [intOf]; omega
  ·have hge : ¬ ((i : Int) < (n : Int)) := by omega
   rw [HAP.out i (by rw [HL.out]; omega)] at H ⊢;go_wp2_with fail;go_ret;exact H.toMade 0 rfl
end Go.Proofs.YtmpldngnkacnmaaGreatDoor
namespace Go.Proofs.YtmpldngnkacnmaaGreatDoor
open Go.RowKit
theorem bool_or (b : Bool) : b = true ∨ b = false := by cases b <;> simp
set_option maxRecDepth 100000 in
set_option maxHeartbeats 4000000 in
theorem implNameOk_any (s : ByteArray) (w : World) (hs : s.size ≤ 16777216) (hk : KT w) :
 Calls Tryz.prog 114 #[.string s] w fun e w' => e = .returned (.bool (nameB (toB s))) ∧ Fr w w' := by
 obtain ⟨q, hq⟩ : ∃ q, q = nameB (toB s) := ⟨_, rfl⟩;obtain ⟨D, hD⟩ : ∃ D, D = decR (toB s) := ⟨_, rfl⟩;have HQ := Lib.hid (show q = ((((inB (s.size : Int) 1 24 && !decide (toB s = [46])) && !decide (toB s = [46, 46])) && D.2) && D.1.all knownS) by rw [hq, nameB, toB_len, ← hD]);have HD := Lib.hid hD;have HDL := Lib.hid (show D.1.length ≤ s.size by rw [hD, ← toB_len]; exact (decR_good _).1);rw [← hq];obtain ⟨dl, dk⟩ := D;obtain ⟨b1, hb1⟩ : ∃ b, b = decide (toB s = [46]) := ⟨_, rfl⟩;obtain ⟨b2, hb2⟩ : ∃ b, b = decide (toB s = [46, 46]) := ⟨_, rfl⟩;have he1 : (s.toList == (ByteArray.mk #[46]).toList) = b1 := by rw [cmpB, hb1]; rfl
 have he2 : (s.toList == (ByteArray.mk #[46, 46]).toList) = b2 := by rw [cmpB, hb2]; rfl
 have he3 : (s.toList == [46]) = b1 := by rw [toList_B, hb1, Bool.eq_iff_iff]; simp
 have he4 : (s.toList == [46, 46]) = b2 := by rw [toList_B, hb2, Bool.eq_iff_iff]; simp
 rw [← hb1, ← hb2] at HQ;have HS := Lib.hid hs;clear hb1 hb2 hq hD hs;have H0 := Hp.start w;have HK := Lib.hid hk;clear hk;go_enter Tryz.func114, Tryz.ntmps114;go_wp2_with fail;refine (implDecode_any s _ HS.out).mono ?_;rintro e w1 ⟨A, n, c, rfl, hn, o1, f1⟩;rw [← HD.out] at hn o1 ⊢;have H1 := H0.made o1 f1;have HN := Lib.hid hn;clear H0 o1 f1 hn;simp only at HN H1 HQ HDL
 cases dk with
 | false =>
   have HE := Lib.hid (HQ.out.trans (show _ = false by simp));go_wp2_with fail;go_ret;rw [HE.out];exact ⟨rfl, H1.fr⟩
 | true =>
   go_wp2_with fail;refine (within_any _ _ _ _).mono ?_;rintro e wq ⟨rfl, hwq⟩;rw [← hwq] at H1;clear hwq
   rcases bool_or (inB (s.size : Int) 1 24) with h1 | h1
   ·rw [h1]
    cases b1 with
    | true =>
      have HE := Lib.hid (HQ.out.trans (show _ = false by simp));go_wp2_with fail;go_ret;rw [HE.out];exact ⟨rfl, H1.fr⟩
    | false =>
      cases b2 with
      | true =>
        have HE := Lib.hid (HQ.out.trans (show _ = false by simp));go_wp2_with fail;go_ret;rw [HE.out];exact ⟨rfl, H1.fr⟩
      | false =>
        have HE := Lib.hid (HQ.out.trans (show _ = dl.all knownS by rw [h1]; simp));have hnb : n ≤ 16777216 := by have := HN.out; have := HDL.out; have := HS.out; omega
        clear h1;go_wp2_with fail
        go_loopw [30] (fun iv wr => ∃ i : Nat, iv = .int .i64 i ∧ i ≤ n ∧ (dl.take i).all knownS = true ∧ Hp [] w wr [.row 3 1 (.slice A n c) n (dl.map (Value.int .i64))]) (fun iv _ => n - (intOf iv).toNat)
        case atStart => exact ⟨0, rfl, by omega, rfl, H1⟩
        case round =>
         clear H1;obtain ⟨i, rfl, hi, hall, H⟩ := hrel;have HA := Lib.hid hall;clear hall
         by_cases hlt : i < n
         ·obtain ⟨x, hx⟩ := at_some HN.out.symm hlt
          obtain ⟨g, cg, e, _⟩ := H.form 0 rfl (by omega);injection e with e1 _ e2;subst e1 e2;have cx := H.atM 0 rfl hx;have HX := Lib.hid hx;have hi0 : (0 : Int) ≤ (i : Int) := by omega
          have hi1 : (i : Int) < (n : Int) := by omega
          clear hx;go_wp2_with fail;refine (implKnown_any x _ (HK.out.fr H.fr)).mono ?_;rintro e w2 ⟨rfl, f2⟩;replace H := H.go f2;clear f2 cx
          rcases bool_or (knownS x) with hx1 | hx1
          ·rw [hx1]
           go_wp2_with fail;go_roundw
           case rel => exact ⟨i + 1, by go_num, by omega, by rw [HX.out.take, List.all_append, HA.out]; simpa using hx1, H⟩
           case measure => simp [intOf]; omega
          ·have HE2 := Lib.hid (HE.out.trans (List.all_eq_false.2 ⟨x, HX.out.mem, by rw [hx1]; simp⟩))
           rw [hx1];go_wp2_with fail;go_ret;rw [HE2.out];exact ⟨rfl, H.fr⟩
         ·have hge : ¬ ((i : Int) < (n : Int)) := by omega
          have HE2 := Lib.hid (HE.out.trans (show dl.all knownS = true by have := HA.out; rwa [List.take_of_length_le (by have := HN.out; omega)] at this));go_wp2_with fail;go_ret;rw [HE2.out];exact ⟨rfl, H.fr⟩
   ·have HE := Lib.hid (HQ.out.trans (show _ = false by rw [h1]; simp))
    rw [h1];clear h1;go_wp2_with fail;go_ret;rw [HE.out];exact ⟨rfl, H1.fr⟩
set_option maxRecDepth 100000 in
set_option maxHeartbeats 4000000 in
theorem specNameOk_any (s : ByteArray) (w : World) (hs : s.size ≤ 16777216) :
 Calls Tryz.prog 58 #[.string s] w fun e w' => e = .returned (.bool (nameB (toB s))) ∧ Fr w w' := by
 obtain ⟨q, hq⟩ : ∃ q, q = nameB (toB s) := ⟨_, rfl⟩;obtain ⟨D, hD⟩ : ∃ D, D = decR (toB s) := ⟨_, rfl⟩;have HQ := Lib.hid (show q = ((((inB (s.size : Int) 1 24 && !decide (toB s = [46])) && !decide (toB s = [46, 46])) && D.2) && D.1.all knownS) by rw [hq, nameB, toB_len, ← hD]);have HD := Lib.hid hD;have HDL := Lib.hid (show D.1.length ≤ s.size by rw [hD, ← toB_len]; exact (decR_good _).1);rw [← hq];obtain ⟨dl, dk⟩ := D;obtain ⟨b1, hb1⟩ : ∃ b, b = decide (toB s = [46]) := ⟨_, rfl⟩;obtain ⟨b2, hb2⟩ : ∃ b, b = decide (toB s = [46, 46]) := ⟨_, rfl⟩;have he1 : (s.toList == (ByteArray.mk #[46]).toList) = b1 := by rw [cmpB, hb1]; rfl
 have he2 : (s.toList == (ByteArray.mk #[46, 46]).toList) = b2 := by rw [cmpB, hb2]; rfl
 have he3 : (s.toList == [46]) = b1 := by rw [toList_B, hb1, Bool.eq_iff_iff]; simp
 have he4 : (s.toList == [46, 46]) = b2 := by rw [toList_B, hb2, Bool.eq_iff_iff]; simp
 rw [← hb1, ← hb2] at HQ;have HS := Lib.hid hs;clear hb1 hb2 hq hD hs;go_enter Tryz.func58, Tryz.ntmps58;go_wp2_with fail;refine (l1In_any _ _ _ _).mono ?_;rintro e w ⟨rfl, rfl⟩;have H0 := Hp.start w
 rcases bool_or (inB (s.size : Int) 1 24) with h1 | h1
 ·rw [h1]
  cases b1 with
  | true =>
    have HE := Lib.hid (HQ.out.trans (show _ = false by simp));go_wp2_with fail;go_ret;rw [HE.out];exact ⟨rfl, H0.fr⟩
  | false =>
    cases b2 with
    | true =>
      have HE := Lib.hid (HQ.out.trans (show _ = false by simp));go_wp2_with fail;go_ret;rw [HE.out];exact ⟨rfl, H0.fr⟩
    | false =>
      have HE := Lib.hid (HQ.out.trans (show _ = (dk && dl.all knownS) by rw [h1]; simp));clear h1;go_wp2_with fail;refine (specDecode_any s _ HS.out).mono ?_;rintro e w1 ⟨A, n, c, rfl, hn, o1, f1⟩;rw [← HD.out] at hn o1 ⊢;have H1 := H0.made o1 f1;have HN := Lib.hid hn;clear H0 o1 f1 hn;simp only at HN H1 HDL ⊢;have hnb : n ≤ 16777216 := by have := HN.out; have := HDL.out; have := HS.out; omega
      go_wp2_with fail
      go_loopw [4, 5] (fun bv iv wr => ∃ i : Nat, iv = .int .i64 i ∧ bv = .bool (dk && (dl.take i).all knownS) ∧ i ≤ n ∧ Hp [] w wr [.row 3 1 (.slice A n c) n (dl.map (Value.int .i64))]) (fun _ iv _ => n - (intOf iv).toNat)
      case atStart => exact ⟨0, rfl, by simp, by omega, H1⟩
      case round =>
       clear H1;obtain ⟨i, rfl, rfl, hi, H⟩ := hrel
       by_cases hlt : i < n
       ·obtain ⟨x, hx⟩ := at_some HN.out.symm hlt
        obtain ⟨g, cg, e, _⟩ := H.form 0 rfl (by omega);injection e with e1 _ e2;subst e1 e2;have cx := H.atM 0 rfl hx;have HX := Lib.hid (show (dk && (dl.take (i + 1)).all knownS) = ((dk && (dl.take i).all knownS) && knownS x) by rw [hx.take, List.all_append]; simp [Bool.and_assoc]);have hi0 : (0 : Int) ≤ (i : Int) := by omega
        have hi1 : (i : Int) < (n : Int) := by omega
        clear hx
        generalize (dk && (dl.take i).all knownS) = bb at HX ⊢
        cases bb with
        | false =>
          go_wp2_with fail;go_roundw
          case rel => exact ⟨i + 1, by go_num, by rw [HX.out]; rfl, by omega, H⟩
          case measure => simp [intOf]; omega
        | true =>
          go_wp2_with fail;refine (specKnown_any x _).mono ?_;rintro e w2 ⟨rfl, f2⟩;replace H := H.go f2;clear f2 cx;go_wp2_with fail;go_roundw
          case rel => exact ⟨i + 1, by go_num, by rw [HX.out]; simp, by omega, H⟩
          case measure => simp [intOf]; omega
       ·have hge : ¬ ((i : Int) < (n : Int)) := by omega
        have ht : dl.take i = dl := List.take_of_length_le (by have := HN.out; omega);rw [ht]
        generalize (dk && dl.all knownS) = bb at HE ⊢
        clear ht;go_wp2_with fail;go_ret;rw [HE.out];exact ⟨rfl, H.fr⟩
 ·have HE := Lib.hid (HQ.out.trans (show _ = false by rw [h1]; simp))
  rw [h1];clear h1;go_wp2_with fail;go_ret;rw [HE.out];exact ⟨rfl, H0.fr⟩
set_option maxRecDepth 100000 in
set_option maxHeartbeats 4000000 in
theorem implKeyOf_any (s : ByteArray) (w : World) (hs : s.size ≤ 16777216) (hk : KT w) :
 Calls Tryz.prog 100 #[.string s] w fun e w' => e = .returned (.tuple #[.string (ofB (keyR (toB s)).1), .bool (keyR (toB s)).2]) ∧ Fr w w' := by
 obtain ⟨K, hK⟩ : ∃ K, K = keyR (toB s) := ⟨_, rfl⟩;have HK := Lib.hid hK;have HS := Lib.hid hs;rw [← hK];clear hK hs;obtain ⟨b, hb⟩ : ∃ b, b = nameB (toB s) := ⟨_, rfl⟩;have HB := Lib.hid hb;have hlen : nameB (toB s) = true → s.size ≤ 24 := fun h => by have := (nameB_len h).2; rwa [toB_len] at this
 have HLN := Lib.hid hlen;clear hb hlen;go_enter Tryz.func100, Tryz.ntmps100;go_wp2_with fail;refine (implNameOk_any s _ HS.out hk).mono ?_;rintro e w1 ⟨rfl, f1⟩;rw [← HB.out]
 cases b with
 | false =>
   have HE := Lib.hid (HK.out.trans (keyR_no HB.out.symm));go_wp2_with fail;go_ret2;rw [HE.out];exact ⟨rfl, f1⟩
 | true =>
   have HE := Lib.hid (HK.out.trans (keyR_yes HB.out.symm));have H1 := (Hp.start w).go f1;clear f1;have hs24 := HLN.out HB.out.symm;go_wp2_with fail;refine (implDecode_any s _ HS.out).mono ?_;rintro e w2 ⟨A, n, c, rfl, hn, o2, f2⟩;have hdl : (decR (toB s)).1.length ≤ 24 := by have := (decR_good (toB s)).1; rw [toB_len] at this; omega
   have hin := sgn_in (decR_good (toB s)).2
   generalize (decR (toB s)).2 = dk
   generalize (decR (toB s)).1 = dl at hn o2 hdl hin HE
   have H2 := H1.made o2 f2;have hnb : n ≤ 24 := by omega
   clear H1 o2 f2 hn;have hl3 := apart_len dl;have hi3 := apart_in hin;have HI := Lib.hid hin;clear hin;go_wp2_with fail;refine (implApart_any A n c dl _ (H2.rd 0 rfl) (by omega) HI.out).mono ?_;rintro e w3 ⟨A3, c3, rfl, o3, f3⟩;have H3 := H2.made o3 f3;simp only [keysL] at HE
   generalize apartL dl = l3 at H3 hl3 hi3 HE ⊢
   have hl4 := foldL_len l3;have hi4 := fold_in hi3;clear H2 o3 f3 hi3;go_wp2_with fail;refine (implFold_any A3 _ c3 l3 _ (H3.rd 0 rfl) (by omega)).mono ?_;rintro e w4 ⟨A4, c4, rfl, o4, f4⟩;have H4 := H3.made o4 f4
   generalize foldL l3 = l4 at H4 hl4 hi4 HE ⊢
   have hl5 := apart_len l4;have HI4 := Lib.hid hi4;clear H3 o4 f4 hi4;go_wp2_with fail;refine (implApart_any A4 _ c4 l4 _ (H4.rd 0 rfl) (by omega) HI4.out).mono ?_;rintro e w5 ⟨A5, c5, rfl, o5, f5⟩;have H5 := H4.made o5 f5
   generalize apartL l4 = l5 at H5 hl5 HE ⊢
   clear H4 o5 f5;go_wp2_with fail;refine (implEncode_any A5 _ c5 l5 _ (H5.rd 0 rfl) (by omega)).mono ?_;rintro e w6 ⟨rfl, f6⟩;have H6 := H5.go f6;clear H5 f6;go_wp2_with fail;go_ret2;rw [HE.out];exact ⟨rfl, H6.fr⟩
set_option maxRecDepth 100000 in
set_option maxHeartbeats 4000000 in
theorem specKeyOf_any (s : ByteArray) (w : World) (hs : s.size ≤ 16777216) :
 Calls Tryz.prog 108 #[.string s] w fun e w' => e = .returned (.tuple #[.string (ofB (keyR (toB s)).1), .bool (keyR (toB s)).2]) ∧ Fr w w' := by
 obtain ⟨K, hK⟩ : ∃ K, K = keyR (toB s) := ⟨_, rfl⟩;have HK := Lib.hid hK;have HS := Lib.hid hs;rw [← hK];clear hK hs;obtain ⟨b, hb⟩ : ∃ b, b = nameB (toB s) := ⟨_, rfl⟩;have HB := Lib.hid hb;have hlen : nameB (toB s) = true → s.size ≤ 24 := fun h => by have := (nameB_len h).2; rwa [toB_len] at this
 have HLN := Lib.hid hlen;clear hb hlen;go_enter Tryz.func108, Tryz.ntmps108;go_wp2_with fail;refine (specNameOk_any s _ HS.out).mono ?_;rintro e w1 ⟨rfl, f1⟩;rw [← HB.out]
 cases b with
 | false =>
   have HE := Lib.hid (HK.out.trans (keyR_no HB.out.symm));go_wp2_with fail;go_ret2;rw [HE.out];exact ⟨rfl, f1⟩
 | true =>
   have HE := Lib.hid (HK.out.trans (keyR_yes HB.out.symm));have H1 := (Hp.start w).go f1;clear f1;have hs24 := HLN.out HB.out.symm;go_wp2_with fail;refine (specDecode_any s _ HS.out).mono ?_;rintro e w2 ⟨A, n, c, rfl, hn, o2, f2⟩;have hdl : (decR (toB s)).1.length ≤ 24 := by have := (decR_good (toB s)).1; rw [toB_len] at this; omega
   have hin := sgn_in (decR_good (toB s)).2
   generalize (decR (toB s)).2 = dk
   generalize (decR (toB s)).1 = dl at hn o2 hdl hin HE
   have H2 := H1.made o2 f2;have hnb : n ≤ 24 := by omega
   clear H1 o2 f2 hn;have hl3 := apart_len dl;have hi3 := apart_in hin;have HI := Lib.hid hin;clear hin;go_wp2_with fail;refine (specApart_any A n c dl _ (H2.rd 0 rfl) (by omega) HI.out).mono ?_;rintro e w3 ⟨A3, c3, rfl, o3, f3⟩;have H3 := H2.made o3 f3;simp only [keysL] at HE
   generalize apartL dl = l3 at H3 hl3 hi3 HE ⊢
   have hl4 := foldL_len l3;have hi4 := fold_in hi3;clear H2 o3 f3 hi3;go_wp2_with fail;refine (specFold_any A3 _ c3 l3 _ (H3.rd 0 rfl) (by omega)).mono ?_;rintro e w4 ⟨A4, c4, rfl, o4, f4⟩;have H4 := H3.made o4 f4
   generalize foldL l3 = l4 at H4 hl4 hi4 HE ⊢
   have hl5 := apart_len l4;have HI4 := Lib.hid hi4;clear H3 o4 f4 hi4;go_wp2_with fail;refine (specApart_any A4 _ c4 l4 _ (H4.rd 0 rfl) (by omega) HI4.out).mono ?_;rintro e w5 ⟨A5, c5, rfl, o5, f5⟩;have H5 := H4.made o5 f5
   generalize apartL l4 = l5 at H5 hl5 HE ⊢
   clear H4 o5 f5;go_wp2_with fail;refine (specEncode_any A5 _ c5 l5 _ (H5.rd 0 rfl) (by omega)).mono ?_;rintro e w6 ⟨rfl, f6⟩;have H6 := H5.go f6;clear H5 f6;go_wp2_with fail;go_ret2;rw [HE.out];exact ⟨rfl, H6.fr⟩
end Go.Proofs.YtmpldngnkacnmaaGreatDoor
namespace Go.Proofs.YtmpldngnkacnmaaGreatDoor
open Go.RowKit
def aliB (a b : List UInt8) : Bool := (keyR a).2 && (keyR b).2 && decide ((keyR a).1 = (keyR b).1)
set_option maxRecDepth 100000 in
theorem specAlike_any (s t : ByteArray) (w : World) (hs : s.size ≤ 16777216) (ht : t.size ≤ 16777216) :
 Calls Tryz.prog 86 #[.string s, .string t] w fun e w' => e = .returned (.bool (aliB (toB s) (toB t))) ∧ Fr w w' := by
 obtain ⟨q, hq⟩ : ∃ q, q = aliB (toB s) (toB t) := ⟨_, rfl⟩;have HQ := Lib.hid hq;rw [← hq];clear hq;go_enter Tryz.func86, Tryz.ntmps86;go_wp2_with fail;refine (specKeyOf_any s _ hs).mono ?_;rintro e w1 ⟨rfl, f1⟩;go_wp2_with fail;refine (specKeyOf_any t _ ht).mono ?_;rintro e w2 ⟨rfl, f2⟩;have F := f1.then f2;clear f1 f2;simp only [aliB] at HQ
 generalize keyR (toB s) = K at HQ ⊢
 generalize keyR (toB t) = L at HQ ⊢
 obtain ⟨x, bx⟩ := K;obtain ⟨y, yb⟩ := L;have h2 : ((ofB x).toList == (ofB y).toList) = decide (x = y) := by rw [cmpB, toB_ofB, toB_ofB]
 generalize decide (x = y) = b2 at h2 HQ
 generalize ofB x = tx at h2 ⊢
 generalize ofB y = ty at h2 ⊢
 cases bx with
 | false =>
   go_wp2_with fail;go_ret;rw [HQ.out];exact ⟨rfl, F⟩
 | true =>
   cases yb with
   | false =>
     go_wp2_with fail;go_ret;rw [HQ.out];exact ⟨rfl, F⟩
   | true =>
     go_wp2_with fail;go_ret;rw [HQ.out];exact ⟨rfl, F⟩
end Go.Proofs.YtmpldngnkacnmaaGreatDoor
namespace Go.Proofs.YtmpldngnkacnmaaGreatDoor
open Go.RowKit
def hashN (s : List UInt8) : Int := if (keyR s).2 = true then crcZ (keyR s).1 % 16 else -1
abbrev EntT := Int × Int × ByteArray × Int
def behB (e : EntT) (h i : Int) : Bool := decide (h < e.1) || (e.1 == h && decide (i < e.2.1))
def lesB (e : EntT) (h i : Int) : Bool := decide (e.1 < h) || (e.1 == h && decide (e.2.1 < i))
theorem les_beh (a b : EntT) : lesB a b.1 b.2.1 = behB b a.1 a.2.1 := by
 simp only [lesB, behB];rw [Bool.eq_iff_iff];simp only [Bool.or_eq_true, Bool.and_eq_true, decide_eq_true_eq, beq_iff_eq];omega
def entB1 (e : EntT) : Bool := (keyR (toB e.2.2.1)).2 && (e.1 == hashN (toB e.2.2.1)) && inB e.2.1 0 12 && inB e.2.2.2 1 100000
def entB2 (d : List EntT) (e : EntT) : Bool := entB1 e && (match d.getLast? with
 | none => true
 | some p => lesB p e.1 e.2.1) && d.all fun p => !aliB (toB p.2.2.1) (toB e.2.2.1)
def dirTo (d : List EntT) : Nat → Bool
 | 0 => true
 | k + 1 => dirTo d k && (match d[k]? with
   | none => true
   | some e => entB2 (d.take k) e)
def dirB (d : List EntT) : Bool := decide (d.length ≤ 12) && dirTo d d.length
theorem dirTo_le {d : List EntT} {i k : Nat} (h : dirTo d k = true) (hi : i ≤ k) : dirTo d i = true := by
 induction k with
 | zero => obtain rfl : i = 0 := by omega
           exact h
 | succ k ih =>
   rcases Nat.lt_or_eq_of_le hi with h1 | h1
   ·rw [dirTo, Bool.and_eq_true] at h
    exact ih h.1 (by omega)
   ·rw [h1]; exact h
theorem dirTo_at {d : List EntT} {i : Nat} {e : EntT} (h : dirTo d d.length = true) (he : d[i]? = some e) : entB2 (d.take i) e = true := by
 have hi := (List.getElem?_eq_some_iff.1 he).1;have h1 := dirTo_le h (show i + 1 ≤ d.length by omega);rw [dirTo, he, Bool.and_eq_true] at h1;exact h1.2
def dirAt (d : List EntT) (s : List UInt8) : Option Nat := d.findIdx? fun e => aliB (toB e.2.2.1) s
end Go.Proofs.YtmpldngnkacnmaaGreatDoor
namespace Go.Proofs.YtmpldngnkacnmaaGreatDoor
open Go.RowKit
def placeLt (a b : EntT) : Prop := a.1 < b.1 ∨ a.1 = b.1 ∧ a.2.1 < b.2.1
theorem lesB_iff {a : EntT} {h i : Int} : lesB a h i = true ↔ a.1 < h ∨ a.1 = h ∧ a.2.1 < i := by
 simp only [lesB, Bool.or_eq_true, Bool.and_eq_true, decide_eq_true_eq, beq_iff_eq]
theorem placeLt_trans {a b c : EntT} (h1 : placeLt a b) (h2 : placeLt b c) : placeLt a c := by
 unfold placeLt at *; omega
structure DirR (d : List EntT) : Prop where
 len : d.length ≤ 12
 one : ∀ e ∈ d, entB1 e = true
 sorted : d.Pairwise placeLt
 once : d.Pairwise fun a b => aliB (toB a.2.2.1) (toB b.2.2.1) = false
theorem dirTo_R {d : List EntT} : ∀ k, k ≤ d.length → dirTo d k = true → (∀ e ∈ d.take k, entB1 e = true) ∧ (d.take k).Pairwise placeLt ∧ (d.take k).Pairwise fun a b => aliB (toB a.2.2.1) (toB b.2.2.1) = false
 | 0, _, _ => by simp
 | k + 1, hk, h => by
   obtain ⟨e, he⟩ : ∃ e, d[k]? = some e := ⟨_, List.getElem?_eq_getElem (by omega)⟩;rw [dirTo, he, Bool.and_eq_true] at h;obtain ⟨h1, h2, h3⟩ := dirTo_R k (by omega) h.1;have h4 := h.2;simp only [entB2, Bool.and_eq_true, List.all_eq_true, Bool.not_eq_true'] at h4;have ht : d.take (k + 1) = d.take k ++ [e] := by rw [List.take_add_one, he]; rfl
   rw [ht];refine ⟨fun x hx => ?_, ?_, ?_⟩
   ·rcases List.mem_append.1 hx with h5 | h5
    ·exact h1 x h5
    ·rw [List.mem_singleton.1 h5]; exact h4.1.1
   ·rw [List.pairwise_append]
    refine ⟨h2, List.pairwise_singleton _ _, fun a ha b hb => ?_⟩;rw [List.mem_singleton.1 hb]
    rcases List.eq_nil_or_concat (d.take k) with h5 | ⟨p, q, h5⟩
    ·rw [h5] at ha; simp at ha
    ·have h6 := h4.1.2
     rw [h5, List.concat_eq_append, List.getLast?_append] at h6;simp only [List.getLast?_singleton, Option.some_or] at h6;rw [h5, List.concat_eq_append] at ha h2;have hq : placeLt q e := lesB_iff.1 h6
     rcases List.mem_append.1 ha with h7 | h7
     ·exact placeLt_trans ((List.pairwise_append.1 h2).2.2 a h7 q (by simp)) hq
     ·rw [List.mem_singleton.1 h7]; exact hq
   ·rw [List.pairwise_append]
    refine ⟨h3, List.pairwise_singleton _ _, fun a ha b hb => ?_⟩;rw [List.mem_singleton.1 hb];exact h4.2 a ha
theorem dirB_R {d : List EntT} (h : dirB d = true) : DirR d := by
 rw [dirB, Bool.and_eq_true, decide_eq_true_eq] at h;obtain ⟨h1, h2, h3⟩ := dirTo_R d.length (Nat.le_refl _) h.2;rw [List.take_length] at h1 h2 h3;exact ⟨h.1, h1, h2, h3⟩
def idxStep (h : Int) (k : Nat) (e : EntT) : Nat := if e.1 = h ∧ e.2.1 = (k : Int) then k + 1 else k
def idxN (d : List EntT) (h : Int) : Nat := d.foldl (idxStep h) 0
theorem idxN_snoc (d : List EntT) (e : EntT) (h : Int) : idxN (d ++ [e]) h = idxStep h (idxN d h) e := by rw [idxN, List.foldl_append]; rfl
theorem idx_fold_le (h : Int) : ∀ (d : List EntT) (k : Nat), d.foldl (idxStep h) k ≤ k + d.length
 | [], k => by simp
 | e :: d, k => by
   have h1 := idx_fold_le h d (idxStep h k e);have h2 : idxStep h k e ≤ k + 1 := by unfold idxStep; split <;> omega
   rw [List.foldl_cons, List.length_cons]; omega
theorem idxN_le (d : List EntT) (h : Int) : idxN d h ≤ d.length := by
 have := idx_fold_le h d 0;rw [idxN]; omega
theorem idxN_ok (h : Int) : ∀ (n : Nat) (d : List EntT), d.length = n → d.Pairwise placeLt → (∀ e ∈ d, ¬ (e.1 = h ∧ e.2.1 = (idxN d h : Int))) ∧ ∀ j : Nat, j < idxN d h → ∃ e ∈ d, e.1 = h ∧ e.2.1 = (j : Int)
 | 0, d, hd, _ => by
   have e := List.eq_nil_of_length_eq_zero hd;subst e;simp [idxN]
 | n + 1, d, hd, hs => by
   rcases List.eq_nil_or_concat d with rfl | ⟨p, e, rfl⟩
   ·simp at hd
   rw [List.concat_eq_append] at hd hs ⊢;have hs2 := List.pairwise_append.1 hs;obtain ⟨h1, h2⟩ := idxN_ok h n p (by simpa using hd) hs2.1;rw [idxN_snoc, idxStep]
   split
   ·rename_i hc
    refine ⟨fun x hx => ?_, fun j hj => ?_⟩
    ·rcases List.mem_append.1 hx with h3 | h3
     ·have := hs2.2.2 x h3 e (by simp)
      unfold placeLt at this;omega
     ·rw [List.mem_singleton.1 h3]; omega
    ·rcases Nat.lt_or_eq_of_le (Nat.le_of_lt_succ hj) with h3 | h3
     ·obtain ⟨y, hy, h4⟩ := h2 j h3
      exact ⟨y, List.mem_append_left _ hy, h4⟩
     ·exact ⟨e, by simp, by rw [h3]; exact hc⟩
   ·rename_i hc
    refine ⟨fun x hx => ?_, fun j hj => ?_⟩
    ·rcases List.mem_append.1 hx with h3 | h3
     ·exact h1 x h3
     ·rw [List.mem_singleton.1 h3]; exact hc
    ·obtain ⟨y, hy, h4⟩ := h2 j hj
     exact ⟨y, List.mem_append_left _ hy, h4⟩
def insD (d : List EntT) (e : EntT) : List EntT := d.takeWhile (fun x => lesB x e.1 e.2.1) ++ e :: d.dropWhile (fun x => lesB x e.1 e.2.1)
theorem insD_perm (d : List EntT) (e : EntT) : (insD d e).Perm (e :: d) := by
 unfold insD;refine List.perm_middle.trans ?_;rw [List.takeWhile_append_dropWhile]
def addD (d : List EntT) (s : ByteArray) (id : Int) : List EntT × Bool :=
 if (nameB (toB s) && (dirAt d (toB s)).isNone && inB id 1 100000 && decide (d.length < 12)) = true then (insD d (hashN (toB s), (idxN d (hashN (toB s)) : Int), s, id), true) else (d, false)
def dropD (d : List EntT) (s : ByteArray) : List EntT × Bool :=
 match dirAt d (toB s) with
 | none => (d, false)
 | some k => (d.eraseIdx k, true)
def respD (d : List EntT) (s : ByteArray) (id : Int) : List EntT × Bool :=
 match dirAt d (toB s) with
 | none => (d, false)
 | some k => if inB id 1 100000 = true then ((match d[k]? with
   | none => d
   | some e => d.set k (e.1, e.2.1, s, id)), true) else (d, false)
def lookD (d : List EntT) (s : ByteArray) : Option EntT := (dirAt d (toB s)).bind fun k => d[k]?
end Go.Proofs.YtmpldngnkacnmaaGreatDoor
namespace Go.Proofs.YtmpldngnkacnmaaGreatDoor
open Go.RowKit
theorem aliB_symm (a b : List UInt8) : aliB a b = aliB b a := by
 unfold aliB;rw [Bool.and_comm (keyR a).2, show decide ((keyR a).1 = (keyR b).1) = decide ((keyR b).1 = (keyR a).1) from decide_eq_decide.2 eq_comm]
theorem aliB_trans {a b c : List UInt8} (h1 : aliB a b = true) (h2 : aliB b c = true) : aliB a c = true := by
 simp only [aliB, Bool.and_eq_true, decide_eq_true_eq] at *;exact ⟨⟨h1.1.1, h2.1.2⟩, h1.2.trans h2.2⟩
theorem aliB_hash {a b : List UInt8} (h : aliB a b = true) : hashN a = hashN b := by
 simp only [aliB, Bool.and_eq_true, decide_eq_true_eq] at h;rw [hashN, hashN, if_pos h.1.1, if_pos h.1.2, h.2]
theorem R_dirTo {d : List EntT} (h : DirR d) : ∀ k, k ≤ d.length → dirTo d k = true
 | 0, _ => rfl
 | k + 1, hk => by
   obtain ⟨e, he⟩ : ∃ e, d[k]? = some e := ⟨_, List.getElem?_eq_getElem (by omega)⟩;have hem := List.mem_of_getElem? he;have ht : d.take (k + 1) = d.take k ++ [e] := by rw [List.take_add_one, he]; rfl
   have hs : (d.take k ++ [e]).Pairwise placeLt := by rw [← ht]; exact h.sorted.sublist (List.take_sublist _ _)
   have ho : (d.take k ++ [e]).Pairwise fun a b => aliB (toB a.2.2.1) (toB b.2.2.1) = false := by rw [← ht]; exact h.once.sublist (List.take_sublist _ _)
   rw [dirTo, he, Bool.and_eq_true];refine ⟨R_dirTo h k (by omega), ?_⟩;simp only [entB2, Bool.and_eq_true, List.all_eq_true, Bool.not_eq_true'];refine ⟨⟨h.one e hem, ?_⟩, fun x hx => (List.pairwise_append.1 ho).2.2 x hx e (by simp)⟩
   rcases List.eq_nil_or_concat (d.take k) with h5 | ⟨p, q, h5⟩
   ·rw [h5]; rfl
   ·have h6 := (List.pairwise_append.1 hs).2.2 q (by rw [h5]; simp) e (by simp)
    rw [h5, List.concat_eq_append, List.getLast?_append];simp only [List.getLast?_singleton, Option.some_or];exact lesB_iff.2 h6
theorem R_dirB {d : List EntT} (h : DirR d) : dirB d = true := by
 rw [dirB, Bool.and_eq_true, decide_eq_true_eq];exact ⟨h.len, R_dirTo h _ (Nat.le_refl _)⟩
theorem dirR_nil : DirR [] := ⟨by simp, by simp, .nil, .nil⟩
theorem DirR.sub {d d' : List EntT} (h : DirR d) (hs : d'.Sublist d) : DirR d' :=
 ⟨Nat.le_trans hs.length_le h.len, fun e he => h.one e (hs.subset he), h.sorted.sublist hs, h.once.sublist hs⟩
theorem placeLt_of {a e : EntT} (h1 : lesB a e.1 e.2.1 = false) (h2 : ¬ (a.1 = e.1 ∧ a.2.1 = e.2.1)) : placeLt e a := by
 have h3 : ¬ (a.1 < e.1 ∨ a.1 = e.1 ∧ a.2.1 < e.2.1) := fun h => by rw [lesB_iff.2 h] at h1; cases h1
 unfold placeLt;omega
theorem takeWhile_all {α : Type} (p : α → Bool) : ∀ (l : List α) (x : α), x ∈ l.takeWhile p → p x = true
 | [], x, h => by simp at h
 | a :: l, x, h => by
   rw [List.takeWhile_cons] at h
   split at h
   ·rcases List.mem_cons.1 h with rfl | h1
    ·assumption
    ·exact takeWhile_all p l x h1
   ·simp at h
theorem dropWhile_head {α : Type} (p : α → Bool) : ∀ (l : List α) (a : α) (r : List α), l.dropWhile p = a :: r → p a = false
 | [], a, r, h => by simp at h
 | b :: l, a, r, h => by
   rw [List.dropWhile_cons] at h
   split at h
   ·exact dropWhile_head p l a r h
   ·rename_i hb
    injection h with h1 _;rw [← h1]; simpa using hb
theorem insD_sorted {d : List EntT} {e : EntT} (hs : d.Pairwise placeLt) (hf : ∀ x ∈ d, ¬ (x.1 = e.1 ∧ x.2.1 = e.2.1)) : (insD d e).Pairwise placeLt := by
 unfold insD;have hd : d = d.takeWhile (fun x => lesB x e.1 e.2.1) ++ d.dropWhile (fun x => lesB x e.1 e.2.1) := (List.takeWhile_append_dropWhile).symm;have hs2 := hs;rw [hd] at hs2;obtain ⟨k1, k2, k3⟩ := List.pairwise_append.1 hs2;have hlt : ∀ a ∈ d.takeWhile (fun x => lesB x e.1 e.2.1), placeLt a e := fun a ha => lesB_iff.1 (takeWhile_all _ d a ha);have hgt : ∀ b ∈ d.dropWhile (fun x => lesB x e.1 e.2.1), placeLt e b := by
  intro b hb
  cases hq : d.dropWhile (fun x => lesB x e.1 e.2.1) with
  | nil => rw [hq] at hb; simp at hb
  | cons a r =>
    have h1 := dropWhile_head _ d a r hq;have ham : a ∈ d := (List.dropWhile_sublist _).subset (by rw [hq]; simp);have h2 := placeLt_of h1 (hf a ham);rw [hq] at hb k2
    rcases List.mem_cons.1 hb with rfl | h3
    ·exact h2
    ·exact placeLt_trans h2 ((List.pairwise_cons.1 k2).1 b h3)
 refine List.pairwise_append.2 ⟨k1, List.pairwise_cons.2 ⟨hgt, k2⟩, fun a ha b hb => ?_⟩
 rcases List.mem_cons.1 hb with rfl | h3
 ·exact hlt a ha
 ·exact k3 a ha b h3
theorem insD_R {d : List EntT} {e : EntT} (h : DirR d) (h1 : entB1 e = true) (hf : ∀ x ∈ d, ¬ (x.1 = e.1 ∧ x.2.1 = e.2.1)) (ho : ∀ x ∈ d, aliB (toB e.2.2.1) (toB x.2.2.1) = false) (hl : d.length < 12) : DirR (insD d e) := by
 have hp := insD_perm d e;refine ⟨by rw [hp.length_eq, List.length_cons]; omega, fun x hx => ?_, insD_sorted h.sorted hf, ?_⟩
 ·rcases List.mem_cons.1 (hp.mem_iff.1 hx) with rfl | h2
  ·exact h1
  ·exact h.one x h2
 ·refine (hp.pairwise_iff (fun {a b} hab => ?_)).2 (List.pairwise_cons.2 ⟨ho, h.once⟩)
  rw [aliB_symm]; exact hab
end Go.Proofs.YtmpldngnkacnmaaGreatDoor
namespace Go.Proofs.YtmpldngnkacnmaaGreatDoor
open Go.RowKit
theorem dirAt_some {d : List EntT} {s : List UInt8} {k : Nat} (h : dirAt d s = some k) : ∃ e, d[k]? = some e ∧ aliB (toB e.2.2.1) s = true := by
 obtain ⟨hk, h1, _⟩ := List.findIdx?_eq_some_iff_getElem.1 h;exact ⟨d[k], List.getElem?_eq_getElem hk, h1⟩
theorem dirAt_none {d : List EntT} {s : List UInt8} (h : dirAt d s = none) : ∀ e ∈ d, aliB (toB e.2.2.1) s = false := by
 intro e he;have := List.findIdx?_eq_none_iff.1 h e he;simpa using this
theorem aliB_ok {a b : List UInt8} (h : aliB a b = true) : (keyR b).2 = true := by
 simp only [aliB, Bool.and_eq_true] at h;exact h.1.2
theorem addD_R {d : List EntT} (h : DirR d) (s : ByteArray) (id : Int) : DirR (addD d s id).1 := by
 rw [addD]
 split
 ·rename_i hc
  simp only [Bool.and_eq_true, Option.isNone_iff_eq_none, decide_eq_true_eq] at hc;obtain ⟨⟨⟨c1, c2⟩, c3⟩, c4⟩ := hc;have hi := idxN_le d (hashN (toB s));have hk := (idxN_ok (hashN (toB s)) d.length d rfl h.sorted).1;refine insD_R h ?_ (fun x hx => hk x hx) (fun x hx => ?_) c4
  ·simp only [entB1, Bool.and_eq_true, beq_self_eq_true, and_true]
   refine ⟨⟨by rw [keyR_yes c1], inB_iff.2 ⟨by omega, by omega⟩⟩, c3⟩
  ·rw [aliB_symm]; exact dirAt_none c2 x hx
 ·exact h
theorem dropD_R {d : List EntT} (h : DirR d) (s : ByteArray) : DirR (dropD d s).1 := by
 rw [dropD]
 split
 ·exact h
 ·exact h.sub (List.eraseIdx_sublist _ _)
theorem set_R {d : List EntT} (h : DirR d) {k : Nat} {e : EntT} (he : d[k]? = some e) {s : ByteArray} {id : Int} (ha : aliB (toB e.2.2.1) (toB s) = true) (hid : inB id 1 100000 = true) : DirR (d.set k (e.1, e.2.1, s, id)) := by
 have hem := List.mem_of_getElem? he;have hk := (List.getElem?_eq_some_iff.1 he).1;have h1 := h.one e hem;simp only [entB1, Bool.and_eq_true, beq_iff_eq] at h1;refine ⟨by rw [List.length_set]; exact h.len, fun x hx => ?_, ?_, ?_⟩
 ·rcases List.mem_or_eq_of_mem_set hx with h2 | rfl
  ·exact h.one x h2
  ·simp only [entB1, Bool.and_eq_true, beq_iff_eq]
   exact ⟨⟨⟨aliB_ok ha, by rw [h1.1.1.2]; exact aliB_hash ha⟩, h1.1.2⟩, hid⟩
 ·rw [List.pairwise_iff_getElem]
  intro i j hi hj hij;rw [List.length_set] at hi hj;have h3 := List.pairwise_iff_getElem.1 h.sorted i j hi hj hij;rw [List.getElem_set, List.getElem_set];obtain ⟨_, hke⟩ := List.getElem?_eq_some_iff.1 he
  split <;> split
  ·omega
  ·rename_i hki _
   subst hki;rw [hke] at h3; exact h3
  ·rename_i _ hkj
   subst hkj;rw [hke] at h3; exact h3
  ·exact h3
 ·rw [List.pairwise_iff_getElem]
  intro i j hi hj hij;rw [List.length_set] at hi hj;have h3 := List.pairwise_iff_getElem.1 h.once i j hi hj hij;rw [List.getElem_set, List.getElem_set];obtain ⟨_, hke⟩ := List.getElem?_eq_some_iff.1 he
  split <;> split
  ·omega
  ·rename_i hki _
   subst hki;rw [hke] at h3;rw [← Bool.not_eq_true] at h3 ⊢;exact fun h4 => h3 (aliB_trans ha h4)
  ·rename_i _ hkj
   subst hkj;rw [hke] at h3;rw [← Bool.not_eq_true] at h3 ⊢;exact fun h4 => h3 (aliB_trans h4 (by rw [aliB_symm]; exact ha))
  ·exact h3
theorem respD_eq {d : List EntT} {s : ByteArray} {id : Int} {k : Nat} {e : EntT} (h : dirAt d (toB s) = some k) (he : d[k]? = some e) (hid : inB id 1 100000 = true) : respD d s id = (d.set k (e.1, e.2.1, s, id), true) := by
 rw [respD, h];simp only [hid, if_true, he]
theorem respD_R {d : List EntT} (h : DirR d) (s : ByteArray) (id : Int) : DirR (respD d s id).1 := by
 cases hk : dirAt d (toB s) with
 | none => rw [respD, hk]; exact h
 | some k =>
   obtain ⟨e, he, ha⟩ := dirAt_some hk
   by_cases hid : inB id 1 100000 = true
   ·rw [respD_eq hk he hid]; exact set_R h he ha hid
   ·rw [respD, hk]; simp only [hid]; exact h
end Go.Proofs.YtmpldngnkacnmaaGreatDoor
namespace Go.Proofs.YtmpldngnkacnmaaGreatDoor
open Go.RowKit
def atN (l : List Nod) (id : Int) : Option Nat := l.findIdx? fun x => x.1 == id
def atZ (l : List Nod) (id : Int) : Int := match atN l id with
 | some k => (k : Int)
 | none => -1
theorem atN_some {l : List Nod} {id : Int} {k : Nat} (h : atN l id = some k) : ∃ x, l[k]? = some x ∧ x.1 = id := by
 obtain ⟨hk, h1, _⟩ := List.findIdx?_eq_some_iff_getElem.1 h;exact ⟨l[k], List.getElem?_eq_getElem hk, by simpa using h1⟩
theorem atN_lt {l : List Nod} {id : Int} {k : Nat} (h : atN l id = some k) : k < l.length := by
 obtain ⟨x, hx, _⟩ := atN_some h;exact (List.getElem?_eq_some_iff.1 hx).1
def entsN (es : List EntT) (id : Int) : Nat := es.countP fun e => e.2.2.2 == id
def namedN (l : List Nod) (id : Int) : Nat := l.foldl (fun n x => n + entsN x.2.2.2.2 id) 0
theorem entsN_take {es : List EntT} {k : Nat} {e : EntT} (h : es[k]? = some e) (id : Int) : entsN (es.take (k + 1)) id = entsN (es.take k) id + (if e.2.2.2 = id then 1 else 0) := by
 have ht : es.take (k + 1) = es.take k ++ [e] := by rw [List.take_add_one, h]; rfl
 rw [ht, entsN, entsN, List.countP_append, List.countP_singleton]
 congr 1
 by_cases h1 : e.2.2.2 = id <;> simp [h1]
theorem namedN_take {l : List Nod} {k : Nat} {x : Nod} (h : l[k]? = some x) (id : Int) : namedN (l.take (k + 1)) id = namedN (l.take k) id + entsN x.2.2.2.2 id := by
 have ht : l.take (k + 1) = l.take k ++ [x] := by rw [List.take_add_one, h]; rfl
 rw [ht, namedN, namedN, List.foldl_append]; rfl
def nodOk (l : List Nod) (x : Nod) : Bool :=
 if x.2.1 = 1 then decide (x.2.2.2.2.length = 0) && decide (x.2.2.2.1.size ≤ 20) && decide (x.2.2.1 = (namedN l x.1 : Int))
 else decide (x.2.1 = 2) && decide (x.2.2.2.1.size = 0) && decide (x.2.2.1 = 1) && dirB x.2.2.2.2 && (decide (x.1 = 1) || decide (namedN l x.1 = 1)) && x.2.2.2.2.all fun e => !decide (e.2.2.2 = 1) && (atN l e.2.2.2).isSome
def nodAt (next : Int) (l : List Nod) (k : Nat) (x : Nod) : Bool :=
 inB x.1 1 (next - 1) && (match k with
  | 0 => true
  | j + 1 => match l[j]? with
    | some p => decide (p.1 < x.1)
    | none => true) && nodOk l x
def nodsTo (next : Int) (l : List Nod) : Nat → Bool
 | 0 => true
 | k + 1 => nodsTo next l k && (match l[k]? with
   | none => true
   | some x => nodAt next l k x)
def kidsL (l : List Nod) (a : Int) : List Int := match atN l a with
 | none => []
 | some k => match l[k]? with
   | none => []
   | some x => x.2.2.2.2.map fun e => e.2.2.2
inductive Blw (l : List Nod) (a : Int) : Int → Prop
 | one {b : Int} : b ∈ kidsL l a → Blw l a b
 | more {b c : Int} : Blw l a b → c ∈ kidsL l b → Blw l a c
open Classical in
noncomputable def blwB (l : List Nod) (a b : Int) : Bool := decide (Blw l a b)
theorem blwB_iff {l : List Nod} {a b : Int} : blwB l a b = true ↔ Blw l a b := by
 classical
 exact decide_eq_true_iff
def headOk (next : Int) (l : List Nod) : Bool := inB next 2 100000 && inB (l.length : Int) 1 16 && (match l[0]? with
 | some x => decide (x.1 = 1) && decide (x.2.1 = 2)
 | none => false)
noncomputable def volB (next : Int) (l : List Nod) : Bool := headOk next l && nodsTo next l l.length && (l.drop 1).all fun x => blwB l 1 x.1
theorem nodsTo_le {next : Int} {l : List Nod} {i k : Nat} (h : nodsTo next l k = true) (hi : i ≤ k) : nodsTo next l i = true := by
 induction k with
 | zero => obtain rfl : i = 0 := by omega
           exact h
 | succ k ih =>
   rcases Nat.lt_or_eq_of_le hi with h1 | h1
   ·rw [nodsTo, Bool.and_eq_true] at h
    exact ih h.1 (by omega)
   ·rw [h1]; exact h
theorem nodsTo_at {next : Int} {l : List Nod} {i : Nat} {x : Nod} (h : nodsTo next l l.length = true) (he : l[i]? = some x) : nodAt next l i x = true := by
 have hi := (List.getElem?_eq_some_iff.1 he).1;have h1 := nodsTo_le h (show i + 1 ≤ l.length by omega);rw [nodsTo, he, Bool.and_eq_true] at h1;exact h1.2
theorem nodsTo_not {next : Int} {l : List Nod} {i : Nat} {x : Nod} (he : l[i]? = some x) (h : nodAt next l i x = false) : nodsTo next l l.length = false := by
 cases hh : nodsTo next l l.length with
 | false => rfl
 | true => rw [nodsTo_at hh he] at h; cases h
theorem nodsTo_sorted {next : Int} {l : List Nod} (h : nodsTo next l l.length = true) : l.Pairwise fun a b => a.1 < b.1 := by
 rw [List.pairwise_iff_getElem];have hstep : ∀ i (hi : i + 1 < l.length), (l[i]).1 < (l[i + 1]).1 := by
  intro i hi;have h1 := nodsTo_at h (List.getElem?_eq_getElem hi);simp only [nodAt, List.getElem?_eq_getElem (show i < l.length by omega), Bool.and_eq_true, decide_eq_true_eq] at h1;exact h1.1.2
 intro i j hi hj hij
 induction j with
 | zero => omega
 | succ j ih =>
   rcases Nat.lt_or_eq_of_le (Nat.le_of_lt_succ hij) with h1 | h1
   ·exact Int.lt_trans (ih (by omega) h1) (hstep j hj)
   ·subst h1; exact hstep i hj
theorem nodup_at {l : List Nod} (h : l.Pairwise fun a b => a.1 < b.1) {k : Nat} {x : Nod} (hx : l[k]? = some x) : atN l x.1 = some k := by
 obtain ⟨hk, he⟩ := List.getElem?_eq_some_iff.1 hx;refine List.findIdx?_eq_some_iff_getElem.2 ⟨hk, by rw [he]; simp, fun j hj => ?_⟩;have := List.pairwise_iff_getElem.1 h j k (by omega) hk hj;rw [he] at this;simp only [beq_iff_eq];omega
end Go.Proofs.YtmpldngnkacnmaaGreatDoor
namespace Go.Proofs.YtmpldngnkacnmaaGreatDoor
open Go.RowKit
set_option maxRecDepth 100000 in
set_option maxHeartbeats 2000000 in
theorem implHashOf_any (s : ByteArray) (w : World) (hs : s.size ≤ 16777216) (hk : KT w) :
 Calls Tryz.prog 77 #[.string s] w fun e w' => e = .returned (.int .i64 (hashN (toB s))) ∧ Fr w w' := by
 obtain ⟨q, hq⟩ : ∃ q, q = hashN (toB s) := ⟨_, rfl⟩;have HQ := Lib.hid hq;rw [← hq];clear hq;have HL := Lib.hid (keyR_len (toB s));obtain ⟨K, hK⟩ : ∃ K, K = keyR (toB s) := ⟨_, rfl⟩;have HK := Lib.hid hK;clear hK;obtain ⟨kk, kb⟩ := K;go_enter Tryz.func77, Tryz.ntmps77;go_wp2_with fail;refine (implKeyOf_any s _ hs hk).mono ?_;rintro e w1 ⟨rfl, f1⟩;rw [← HK.out]
 cases kb with
 | true =>
   have hl : (ofB kk).size ≤ 1099511627776 := by
    have := HL.out;rw [← HK.out] at this;rw [ofB_size];exact Nat.le_trans this (by decide)
   go_wp2_with fail;refine (implCrc_any (ofB kk) _ hl).mono ?_;rintro e w2 ⟨rfl, f2⟩;have F2 := Lib.hid f2;clear f2;rw [toB_ofB];obtain ⟨z, hz⟩ : ∃ z, z = crcZ kk := ⟨_, rfl⟩;have HZ := Lib.hid hz;have h0 : 0 ≤ z := by rw [hz]; exact (crcZ_in kk).1
   have h1 : z ≤ 4294967295 := by rw [hz]; exact (crcZ_in kk).2
   rw [← hz];clear hz;have HE := Lib.hid (show q = z.tmod 16 by rw [Int.tmod_eq_emod_of_nonneg h0, HZ.out, HQ.out, hashN, ← HK.out, if_pos rfl]);obtain ⟨y, hy⟩ : ∃ y, y = z.tmod 16 := ⟨_, rfl⟩;have HY := Lib.hid hy;have hy2 : z.tmod 16 = y := hy.symm;have hy0 : 0 ≤ y ∧ y < 16 := by rw [hy, Int.tmod_eq_emod_of_nonneg h0]; omega
   have hyw : IntKind.i64.wrap y = y := IntWalk.i64_in _ (by omega);clear hy;go_wp2_with fail;go_ret;rw [HE.out, HY.out, F2.out];exact ⟨rfl, f1⟩
 | false =>
   have HE := Lib.hid (show q = -1 by rw [HQ.out, hashN, ← HK.out, if_neg (by simp)]);go_wp2_with fail;go_ret;rw [HE.out];exact ⟨rfl, f1⟩
set_option maxRecDepth 100000 in
set_option maxHeartbeats 2000000 in
theorem specHashOf_any (s : ByteArray) (w : World) (hs : s.size ≤ 16777216) :
 Calls Tryz.prog 84 #[.string s] w fun e w' => e = .returned (.int .i64 (hashN (toB s))) ∧ Fr w w' := by
 obtain ⟨q, hq⟩ : ∃ q, q = hashN (toB s) := ⟨_, rfl⟩;have HQ := Lib.hid hq;rw [← hq];clear hq;have HL := Lib.hid (keyR_len (toB s));obtain ⟨K, hK⟩ : ∃ K, K = keyR (toB s) := ⟨_, rfl⟩;have HK := Lib.hid hK;clear hK;obtain ⟨kk, kb⟩ := K;go_enter Tryz.func84, Tryz.ntmps84;go_wp2_with fail;refine (specKeyOf_any s _ hs).mono ?_;rintro e w1 ⟨rfl, f1⟩;rw [← HK.out]
 cases kb with
 | true =>
   have hl : (ofB kk).size ≤ 1099511627776 := by
    have := HL.out;rw [← HK.out] at this;rw [ofB_size];exact Nat.le_trans this (by decide)
   go_wp2_with fail;refine (specCrc_any (ofB kk) _ hl).mono ?_;rintro e w2 ⟨rfl, f2⟩;have F2 := Lib.hid f2;clear f2;rw [toB_ofB];obtain ⟨z, hz⟩ : ∃ z, z = crcZ kk := ⟨_, rfl⟩;have HZ := Lib.hid hz;have h0 : 0 ≤ z := by rw [hz]; exact (crcZ_in kk).1
   have h1 : z ≤ 4294967295 := by rw [hz]; exact (crcZ_in kk).2
   rw [← hz];clear hz;have HE := Lib.hid (show q = z.tmod 16 by rw [Int.tmod_eq_emod_of_nonneg h0, HZ.out, HQ.out, hashN, ← HK.out, if_pos rfl]);obtain ⟨y, hy⟩ : ∃ y, y = z.tmod 16 := ⟨_, rfl⟩;have HY := Lib.hid hy;have hy2 : z.tmod 16 = y := hy.symm;have hy0 : 0 ≤ y ∧ y < 16 := by rw [hy, Int.tmod_eq_emod_of_nonneg h0]; omega
   have hyw : IntKind.i64.wrap y = y := IntWalk.i64_in _ (by omega);clear hy;go_wp2_with fail;go_ret;rw [HE.out, HY.out, F2.out];exact ⟨rfl, f1⟩
 | false =>
   have HE := Lib.hid (show q = -1 by rw [HQ.out, hashN, ← HK.out, if_neg (by simp)]);go_wp2_with fail;go_ret;rw [HE.out];exact ⟨rfl, f1⟩
end Go.Proofs.YtmpldngnkacnmaaGreatDoor