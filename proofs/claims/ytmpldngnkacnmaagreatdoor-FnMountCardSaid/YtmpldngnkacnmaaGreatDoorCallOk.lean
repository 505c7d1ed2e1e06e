/-
Is a call right: CallOk of both builds; hasTo.
-/
import Derived.Test.YtmpldngnkacnmaaGreatDoorGq
import Derived.Test.YtmpldngnkacnmaaGreatDoorGa
namespace Go.Proofs.YtmpldngnkacnmaaGreatDoor
open Go.RowKit
set_option linter.unusedVariables false
set_option linter.unusedSimpArgs false
theorem empty_all {s : ByteArray} (h : s.size = 0) : s = ⟨#[]⟩ := by
 obtain ⟨⟨l⟩⟩ := s;have : l = [] := List.eq_nil_of_length_eq_zero (by simpa [ByteArray.size] using h);rw [this]
theorem str_full {s : ByteArray} (h : ¬ s.size = 0) : (s.toList == []) = false ∧ (s.toList == (ByteArray.mk #[]).toList) = false := by
 have h1 : (s.toList == (ByteArray.mk #[]).toList) = false := str_ne fun e => h (by rw [e]; rfl);have hne : toB s ≠ [] := fun e => h (by rw [← toB_len, e]; rfl);exact ⟨by rw [toList_B, beq_eq_false_iff_ne]; exact hne, h1⟩
theorem emp_size : (ByteArray.mk #[]).size = 0 := rfl
set_option maxRecDepth 100000 in
set_option maxHeartbeats 4000000 in
theorem specCallOk_any (x0 x1 : Int) (x2 : ByteArray) (x3 : Int) (x4 x5 : ByteArray) (w : World) :
 Calls Tryz.prog 56 #[.agg #[.int .i64 x0, .int .i64 x1, .string x2, .int .i64 x3, .string x4, .string x5]] w fun e w' => e = .returned (.bool (callB (x0, x1, x2, x3, x4, x5))) ∧ Fr w w' := by
 obtain ⟨q0, hq0⟩ : ∃ q, q = callB (x0, x1, x2, x3, x4, x5) := ⟨_, rfl⟩;rw [← hq0];have HQ := Lib.hid hq0;clear hq0;have H := (Hp.start w).lay_ 68 [.int .i64 x0, .int .i64 x1, .string x2, .int .i64 x3, .string x4, .string x5] rfl;obtain ⟨b0, hb0⟩ : ∃ b, inB x0 1 8 = b := ⟨_, rfl⟩;obtain ⟨b1, hb1⟩ : ∃ b, inB x1 0 100000 = b := ⟨_, rfl⟩;obtain ⟨b2, hb2⟩ : ∃ b, inB x3 0 100000 = b := ⟨_, rfl⟩;have HB0 := Lib.hid hb0;have HB1 := Lib.hid hb1;have HB2 := Lib.hid hb2;clear hb0 hb1 hb2;have y0 := H.fa 0 0 rfl rfl;have y1 := H.fa 0 1 rfl rfl;have y2 := H.fa 0 2 rfl rfl;have y3 := H.fa 0 3 rfl rfl;have y4 := H.fa 0 4 rfl rfl;have y5 := H.fa 0 5 rfl rfl
 cases b0 with
 | false =>
   go_enter Tryz.func56, Tryz.ntmps56;go_wp2_with fail;refine (l1In_any _ _ _ _).mono ?_;rintro e _ ⟨rfl, rfl⟩;rw [HB0.out];go_wp2_with fail;go_ret;refine ⟨ret_bool ?_, H.fr⟩;rw [HQ.out, callB]; simp [emp_size, HB0.out]
 | true =>
   cases b1 with
   | false =>
     go_enter Tryz.func56, Tryz.ntmps56;go_wp2_with fail;refine (l1In_any _ _ _ _).mono ?_;rintro e _ ⟨rfl, rfl⟩;rw [HB0.out];go_wp2_with fail;refine (l1In_any _ _ _ _).mono ?_;rintro e _ ⟨rfl, rfl⟩;rw [HB1.out];go_wp2_with fail;go_ret;refine ⟨ret_bool ?_, H.fr⟩;rw [HQ.out, callB]; simp [emp_size, HB0.out, HB1.out]
   | true =>
     cases b2 with
     | false =>
       go_enter Tryz.func56, Tryz.ntmps56;go_wp2_with fail;refine (l1In_any _ _ _ _).mono ?_;rintro e _ ⟨rfl, rfl⟩;rw [HB0.out];go_wp2_with fail;refine (l1In_any _ _ _ _).mono ?_;rintro e _ ⟨rfl, rfl⟩;rw [HB1.out];go_wp2_with fail;refine (l1In_any _ _ _ _).mono ?_;rintro e _ ⟨rfl, rfl⟩;rw [HB2.out];go_wp2_with fail;go_ret;refine ⟨ret_bool ?_, H.fr⟩;rw [HQ.out, callB]; simp [emp_size, HB0.out, HB1.out, HB2.out]
     | true =>
       by_cases zx2 : x2.size ≤ 24
       rotate_left
       ·have zx21 : (24 : Int) < (x2.size : Int) := by omega
        go_enter Tryz.func56, Tryz.ntmps56;go_wp2_with fail;refine (l1In_any _ _ _ _).mono ?_;rintro e _ ⟨rfl, rfl⟩;rw [HB0.out];go_wp2_with fail;refine (l1In_any _ _ _ _).mono ?_;rintro e _ ⟨rfl, rfl⟩;rw [HB1.out];go_wp2_with fail;refine (l1In_any _ _ _ _).mono ?_;rintro e _ ⟨rfl, rfl⟩;rw [HB2.out];go_wp2_with fail;go_ret;refine ⟨ret_bool ?_, H.fr⟩;rw [HQ.out, callB]; simp [emp_size, HB0.out, HB1.out, HB2.out, zx2]
       have zx21 : ¬ (24 : Int) < (x2.size : Int) := by omega
       by_cases zx4 : x4.size ≤ 24
       rotate_left
       ·have zx41 : (24 : Int) < (x4.size : Int) := by omega
        go_enter Tryz.func56, Tryz.ntmps56;go_wp2_with fail;refine (l1In_any _ _ _ _).mono ?_;rintro e _ ⟨rfl, rfl⟩;rw [HB0.out];go_wp2_with fail;refine (l1In_any _ _ _ _).mono ?_;rintro e _ ⟨rfl, rfl⟩;rw [HB1.out];go_wp2_with fail;refine (l1In_any _ _ _ _).mono ?_;rintro e _ ⟨rfl, rfl⟩;rw [HB2.out];go_wp2_with fail;go_ret;refine ⟨ret_bool ?_, H.fr⟩;rw [HQ.out, callB]; simp [emp_size, HB0.out, HB1.out, HB2.out, zx4]
       have zx41 : ¬ (24 : Int) < (x4.size : Int) := by omega
       by_cases zx5 : x5.size ≤ 20
       rotate_left
       ·have zx51 : (20 : Int) < (x5.size : Int) := by omega
        go_enter Tryz.func56, Tryz.ntmps56;go_wp2_with fail;refine (l1In_any _ _ _ _).mono ?_;rintro e _ ⟨rfl, rfl⟩;rw [HB0.out];go_wp2_with fail;refine (l1In_any _ _ _ _).mono ?_;rintro e _ ⟨rfl, rfl⟩;rw [HB1.out];go_wp2_with fail;refine (l1In_any _ _ _ _).mono ?_;rintro e _ ⟨rfl, rfl⟩;rw [HB2.out];go_wp2_with fail;go_ret;refine ⟨ret_bool ?_, H.fr⟩;rw [HQ.out, callB]; simp [emp_size, HB0.out, HB1.out, HB2.out, zx5]
       have zx51 : ¬ (20 : Int) < (x5.size : Int) := by omega
       by_cases h5 : x0 = 5 ∨ x0 = 6
       ·
        have HT := Lib.hid (show twoB x0 = true by rcases h5 with h | h <;> simp [twoB, h])
        rcases h5 with rfl | rfl
        ·
         have h7b : ((5 : Int) == 7) = false := rfl
         by_cases hd : x5.size = 0
         ·have hde := empty_all hd
          subst hde;go_enter Tryz.func56, Tryz.ntmps56;go_wp2_with fail;refine (l1In_any _ _ _ _).mono ?_;rintro e _ ⟨rfl, rfl⟩;rw [HB0.out];go_wp2_with fail;refine (l1In_any _ _ _ _).mono ?_;rintro e _ ⟨rfl, rfl⟩;rw [HB1.out];go_wp2_with fail;refine (l1In_any _ _ _ _).mono ?_;rintro e _ ⟨rfl, rfl⟩;rw [HB2.out];go_wp2_with fail;go_ret;refine ⟨ret_bool ?_, H.fr⟩;rw [HQ.out, callB]; simp [emp_size, HB0.out, HB1.out, HB2.out, zx2, zx4, HT.out, h7b]
         ·obtain ⟨hd1, hd2⟩ := str_full hd
          go_enter Tryz.func56, Tryz.ntmps56;go_wp2_with fail;refine (l1In_any _ _ _ _).mono ?_;rintro e _ ⟨rfl, rfl⟩;rw [HB0.out];go_wp2_with fail;refine (l1In_any _ _ _ _).mono ?_;rintro e _ ⟨rfl, rfl⟩;rw [HB1.out];go_wp2_with fail;refine (l1In_any _ _ _ _).mono ?_;rintro e _ ⟨rfl, rfl⟩;rw [HB2.out];go_wp2_with fail;go_ret;refine ⟨ret_bool ?_, H.fr⟩;rw [HQ.out, callB]; simp [emp_size, HB0.out, HB1.out, HB2.out, zx2, zx4, zx5, HT.out, h7b, hd]
        ·
         have h7b : ((6 : Int) == 7) = false := rfl;have h5b : ((6 : Int) == 5) = false := rfl
         by_cases hd : x5.size = 0
         ·have hde := empty_all hd
          subst hde;go_enter Tryz.func56, Tryz.ntmps56;go_wp2_with fail;refine (l1In_any _ _ _ _).mono ?_;rintro e _ ⟨rfl, rfl⟩;rw [HB0.out];go_wp2_with fail;refine (l1In_any _ _ _ _).mono ?_;rintro e _ ⟨rfl, rfl⟩;rw [HB1.out];go_wp2_with fail;refine (l1In_any _ _ _ _).mono ?_;rintro e _ ⟨rfl, rfl⟩;rw [HB2.out];go_wp2_with fail;go_ret;refine ⟨ret_bool ?_, H.fr⟩;rw [HQ.out, callB]; simp [emp_size, HB0.out, HB1.out, HB2.out, zx2, zx4, HT.out, h7b]
         ·obtain ⟨hd1, hd2⟩ := str_full hd
          go_enter Tryz.func56, Tryz.ntmps56;go_wp2_with fail;refine (l1In_any _ _ _ _).mono ?_;rintro e _ ⟨rfl, rfl⟩;rw [HB0.out];go_wp2_with fail;refine (l1In_any _ _ _ _).mono ?_;rintro e _ ⟨rfl, rfl⟩;rw [HB1.out];go_wp2_with fail;refine (l1In_any _ _ _ _).mono ?_;rintro e _ ⟨rfl, rfl⟩;rw [HB2.out];go_wp2_with fail;go_ret;refine ⟨ret_bool ?_, H.fr⟩;rw [HQ.out, callB]; simp [emp_size, HB0.out, HB1.out, HB2.out, zx2, zx4, zx5, HT.out, h7b, hd]
       ·
        have HT := Lib.hid (show twoB x0 = false by simp [twoB]; omega);have h5b : (x0 == 5) = false := by simp; omega
        have h6b : (x0 == 6) = false := by simp; omega
        clear h5
        by_cases h3 : x3 = 0
        rotate_left
        ·have h3b : (x3 == 0) = false := by simpa using h3
         go_enter Tryz.func56, Tryz.ntmps56;go_wp2_with fail;refine (l1In_any _ _ _ _).mono ?_;rintro e _ ⟨rfl, rfl⟩;rw [HB0.out];go_wp2_with fail;refine (l1In_any _ _ _ _).mono ?_;rintro e _ ⟨rfl, rfl⟩;rw [HB1.out];go_wp2_with fail;refine (l1In_any _ _ _ _).mono ?_;rintro e _ ⟨rfl, rfl⟩;rw [HB2.out];go_wp2_with fail;go_ret;refine ⟨ret_bool ?_, H.fr⟩;rw [HQ.out, callB]; simp [emp_size, HB0.out, HB1.out, HB2.out, zx2, zx4, zx5, HT.out, h3b]
        have h3b : (x3 == 0) = true := by simpa using h3
        clear h3
        by_cases h4 : x4.size = 0
        rotate_left
        ·obtain ⟨h41, h42⟩ := str_full h4
         go_enter Tryz.func56, Tryz.ntmps56;go_wp2_with fail;refine (l1In_any _ _ _ _).mono ?_;rintro e _ ⟨rfl, rfl⟩;rw [HB0.out];go_wp2_with fail;refine (l1In_any _ _ _ _).mono ?_;rintro e _ ⟨rfl, rfl⟩;rw [HB1.out];go_wp2_with fail;refine (l1In_any _ _ _ _).mono ?_;rintro e _ ⟨rfl, rfl⟩;rw [HB2.out];go_wp2_with fail;go_ret;refine ⟨ret_bool ?_, H.fr⟩;rw [HQ.out, callB]; simp [emp_size, HB0.out, HB1.out, HB2.out, zx2, zx4, zx5, HT.out, h3b, h4]
        have h4e := empty_all h4;subst h4e
        by_cases h7 : x0 = 7
        ·have h7b : (x0 == 7) = true := by simpa using h7
         clear h7;go_enter Tryz.func56, Tryz.ntmps56;go_wp2_with fail;refine (l1In_any _ _ _ _).mono ?_;rintro e _ ⟨rfl, rfl⟩;rw [HB0.out];go_wp2_with fail;refine (l1In_any _ _ _ _).mono ?_;rintro e _ ⟨rfl, rfl⟩;rw [HB1.out];go_wp2_with fail;refine (l1In_any _ _ _ _).mono ?_;rintro e _ ⟨rfl, rfl⟩;rw [HB2.out];go_wp2_with fail;go_ret;refine ⟨ret_bool ?_, H.fr⟩;rw [HQ.out, callB]; simp [emp_size, HB0.out, HB1.out, HB2.out, zx2, zx4, zx5, HT.out, h3b, h7b]
        ·have h7b : (x0 == 7) = false := by simpa using h7
         by_cases hd : x5.size = 0
         ·have hde := empty_all hd
          subst hde;go_enter Tryz.func56, Tryz.ntmps56;go_wp2_with fail;refine (l1In_any _ _ _ _).mono ?_;rintro e _ ⟨rfl, rfl⟩;rw [HB0.out];go_wp2_with fail;refine (l1In_any _ _ _ _).mono ?_;rintro e _ ⟨rfl, rfl⟩;rw [HB1.out];go_wp2_with fail;refine (l1In_any _ _ _ _).mono ?_;rintro e _ ⟨rfl, rfl⟩;rw [HB2.out];go_wp2_with fail;go_ret;refine ⟨ret_bool ?_, H.fr⟩;rw [HQ.out, callB]; simp [emp_size, HB0.out, HB1.out, HB2.out, zx2, zx4, HT.out, h3b, h7b]
         ·obtain ⟨hd1, hd2⟩ := str_full hd
          go_enter Tryz.func56, Tryz.ntmps56;go_wp2_with fail;refine (l1In_any _ _ _ _).mono ?_;rintro e _ ⟨rfl, rfl⟩;rw [HB0.out];go_wp2_with fail;refine (l1In_any _ _ _ _).mono ?_;rintro e _ ⟨rfl, rfl⟩;rw [HB1.out];go_wp2_with fail;refine (l1In_any _ _ _ _).mono ?_;rintro e _ ⟨rfl, rfl⟩;rw [HB2.out];go_wp2_with fail;go_ret;refine ⟨ret_bool ?_, H.fr⟩;rw [HQ.out, callB]; simp [emp_size, HB0.out, HB1.out, HB2.out, zx2, zx4, zx5, HT.out, h3b, h7b, hd]
end Go.Proofs.YtmpldngnkacnmaaGreatDoor
