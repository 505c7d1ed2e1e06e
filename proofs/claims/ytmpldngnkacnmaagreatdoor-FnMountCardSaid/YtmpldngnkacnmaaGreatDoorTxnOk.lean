/-
Is a transaction right: txnOk of the program, l9Ok of the reference.
-/
import Derived.Test.YtmpldngnkacnmaaGreatDoorGg
import Derived.Test.YtmpldngnkacnmaaGreatDoorGj
import Derived.Test.YtmpldngnkacnmaaGreatDoorGe
import Derived.Test.YtmpldngnkacnmaaGreatDoorGf
namespace Go.Proofs.YtmpldngnkacnmaaGreatDoor
open Go.RowKit
set_option linter.unusedVariables false
set_option linter.unusedSimpArgs false
set_option maxRecDepth 100000 in
set_option maxHeartbeats 8000000 in
theorem implTxnOk_any (seq : Int) (A : Option Addr) (n c : Nat) (l : List WrT) (w : World) (h : Rd w A n 2 (l.flatMap cWrite)) (hn : n ≤ 1048576) :
 Calls Tryz.prog 73 #[.agg #[.int .i64 seq, .slice A n c]] w fun e w' => e = .returned (.bool (txnB seq l)) ∧ Fr w w' := by
 have HL := Lib.hid (show l.length = n from h.lenk cWrite_len (by omega));obtain ⟨q0, hq0⟩ : ∃ q, q = txnB seq l := ⟨_, rfl⟩;rw [← hq0];have HQ := Lib.hid hq0;clear hq0;have HR := Lib.hid h;have H := (Hp.start w).lay_ 44 [.int .i64 seq, .slice A n c] rfl;clear h;have y1 := H.fa 0 1 rfl rfl;go_enter Tryz.func73, Tryz.ntmps73;go_wp2_with fail
 go_loopw [8] (fun iv wr => ∃ i : Nat, iv = .int .i64 i ∧ i ≤ n ∧ outsTo l i = true ∧ Hp [] w wr [.blk w.heap.size 44 [.int .i64 seq, .slice A n c]]) (fun iv _ => n - (intOf iv).toNat)
 case atStart => exact ⟨0, rfl, by omega, rfl, H⟩
 case round =>
  clear H y1;obtain ⟨i, rfl, hi, hto, H⟩ := hrel;have HT := Lib.hid hto;clear hto;have hi0 : (0 : Int) ≤ (i : Int) := by omega
  by_cases hlt : i < n
  ·have hlt1 : (i : Int) < (n : Int) := by omega
   obtain ⟨bk, of, rfl⟩ : ∃ bk of, A = some ⟨bk, of, none⟩ := by
    obtain ⟨b, o, e, _⟩ := HR.out.2 (by omega);exact ⟨b, o, e⟩
   obtain ⟨⟨x0, x1⟩, hx⟩ := some_at HL.out hlt;obtain ⟨b', o', ea, hcell⟩ := (HR.out.fr H.fr).elem cWrite_len hx (by omega);injection ea with ea; injection ea with ea eb; subst ea eb;have ca0 := hcell 0 _ rfl; simp only [Nat.add_zero] at ca0;have ca1 := hcell 1 _ rfl;have HX := Lib.hid hx;have HCE := Lib.hid (show ∀ w', Fr w w' → w'.cell? ⟨bk, of + i * 2, none⟩ = some (.int .i64 x0) ∧ w'.cell? ⟨bk, of + i * 2 + 1, none⟩ = some (.string x1) from fun w' f => by
    obtain ⟨b', o', ea, hc⟩ := (HR.out.fr f).elem cWrite_len hx (by omega);injection ea with ea; injection ea with ea eb; subst ea eb;exact ⟨hc 0 _ rfl, hc 1 _ rfl⟩)
   clear hx hcell;go_wp2_with fail;have H2 := (H.lay_ 34 [.int .i64 x0, .string x1] rfl).drew;obtain ⟨gx, hgx⟩ : ∃ x, x = wr.heap.size := ⟨_, rfl⟩;rw [← hgx] at H2 ⊢;have HGX := Lib.hid hgx;clear hgx H ca0 ca1;have H := H2;clear H2;have y0 := H.fa 1 0 rfl rfl;have y1 := H.fa 1 1 rfl rfl;have x0y := H.fa 0 0 rfl rfl;have x1y := H.fa 0 1 rfl rfl
   rcases bool_or (inB x0 0 16) with h4 | h4
   ·have HI := Lib.hid h4
    clear h4
    by_cases hs : x1.size ≤ 400
    ·have hs1 : decide ((400 : Int) < (x1.size : Int)) = false := decide_eq_false (by omega)
     have hs2 : ¬ (400 : Int) < (x1.size : Int) := by omega
     by_cases hi1 : 0 < i
     ·have hi2 : (0 : Int) < (i : Int) := by omega
      have hi3 : decide ((0 : Int) < (i : Int)) = true := decide_eq_true hi2;obtain ⟨r, hr1, hr2⟩ : ∃ r : Nat, r + 1 ≤ i ∧ i ≤ r + 1 := ⟨i - 1, by omega, by omega⟩;have hr3 : (i : Int) - 1 = (r : Int) := by omega
      have hr4 : IntKind.i64.wrap ((i : Int) - 1) = (r : Int) := by rw [hr3]; exact IntWalk.i64_in _ (by omega)
      have hr5 : IntKind.i64.wrap (r : Int) = (r : Int) := IntWalk.i64_in _ (by omega);have hr6 : (0 : Int) ≤ (r : Int) := by omega
      have hr7 : (r : Int) < (n : Int) := by omega
      obtain ⟨⟨p0, p1⟩, hp⟩ := some_at HL.out (show r < n by omega);have HPX := Lib.hid hp;have HRI := Lib.hid (show i = r + 1 by omega);have HP := Lib.hid (show ∀ w', Fr w w' → w'.cell? ⟨bk, of + r * 2, none⟩ = some (.int .i64 p0) from fun w' f => by
       obtain ⟨b', o', ea, hc⟩ := (HR.out.fr f).elem cWrite_len hp (by omega);injection ea with ea; injection ea with ea eb; subst ea eb;exact hc 0 _ rfl)
      clear hp;have zz := HP.out _ H.fr
      by_cases hpx : x0 ≤ p0
      ·have hpx1 : decide (x0 ≤ p0) = true := decide_eq_true hpx
       have HE := Lib.hid (HQ.out.trans (txnB_no3 (outsTo_no HX.out (by rw [HRI.out]; exact outOk_no3 HPX.out hpx))));refine wp_region_held_drew (S := fun w' => w'.cell? ⟨w.heap.size, 0, none⟩ = some (.int .i64 seq) ∧ w'.cell? ⟨w.heap.size, 1, none⟩ = some (.slice (some ⟨bk, of, none⟩) n c) ∧ w'.cell? ⟨gx, 0, none⟩ = some (.int .i64 x0) ∧ w'.cell? ⟨gx, 1, none⟩ = some (.string x1) ∧ w'.cell? ⟨bk, of + r * 2, none⟩ = some (.int .i64 p0)) (by kernel_rfl) ?_ (fun hHeld => ?_)
       ·exact ⟨y0, y1, x0y, x1y, zz⟩
       obtain ⟨u0, hu0⟩ : ∃ uu : World, uu = (wr.alloc (.cells #[.int .i64 x0, .string x1] 34)).drew := ⟨_, rfl⟩;rw [← hu0] at H hHeld ⊢;clear hu0;refine wpT 0 ?_;refine wpT 1 ?_;refine wpC 2 fun K hK => ?_;go_simp;refine (within_any x0 0 16 _).mono ?_;rintro e u1 ⟨rfl, hw9⟩;replace H := H.go (show Fr u0 u1 by rw [hw9]; exact Below.refl _ _);clear hw9;rw [HI.out];go_wp2_with fail;refine hK.out _ _ ?_ fun hHeld => ?_
       ·exact ⟨H.fa 1 0 rfl rfl, H.fa 1 1 rfl rfl, H.fa 0 0 rfl rfl, H.fa 0 1 rfl rfl, HP.out _ H.fr⟩
       clear hK K;(try simp only [sX, Act.put]);refine wpT 3 ?_;refine wpT 4 ?_;refine wpT 5 ?_;refine wpT 6 ?_;refine wpT 7 ?_;refine wpT 8 ?_;refine wpT 9 ?_;refine wpT 10 ?_;refine wpT 11 ?_;refine wpT 12 ?_;refine wpT 13 ?_;refine wpT 14 ?_;refine wpT 15 ?_;refine wpT 16 ?_;refine wpT 17 ?_;refine wpT 18 ?_;refine wpT 19 ?_;refine wpT 20 ?_;refine wpT 21 ?_;refine wpT 22 ?_;refine wpT 23 ?_;refine wpT 24 ?_;refine wpT 25 ?_;refine wpAnyH_done (by kernel_rfl) ?_ _;go_wp2_with fail;go_ret;rw [HE.out];exact ⟨rfl, H.fr⟩
      ·have hpx1 : decide (x0 ≤ p0) = false := decide_eq_false hpx
       have HOK := Lib.hid (show outOk l i (x0, x1) = true by rw [HRI.out]; exact outOk_s HI.out hs HPX.out (by show p0 < x0; omega));refine wp_region_held_drew (S := fun w' => w'.cell? ⟨w.heap.size, 0, none⟩ = some (.int .i64 seq) ∧ w'.cell? ⟨w.heap.size, 1, none⟩ = some (.slice (some ⟨bk, of, none⟩) n c) ∧ w'.cell? ⟨gx, 0, none⟩ = some (.int .i64 x0) ∧ w'.cell? ⟨gx, 1, none⟩ = some (.string x1) ∧ w'.cell? ⟨bk, of + r * 2, none⟩ = some (.int .i64 p0)) (by kernel_rfl) ?_ (fun hHeld => ?_)
       ·exact ⟨y0, y1, x0y, x1y, zz⟩
       obtain ⟨u0, hu0⟩ : ∃ uu : World, uu = (wr.alloc (.cells #[.int .i64 x0, .string x1] 34)).drew := ⟨_, rfl⟩;rw [← hu0] at H hHeld ⊢;clear hu0;refine wpT 0 ?_;refine wpT 1 ?_;refine wpC 2 fun K hK => ?_;go_simp;refine (within_any x0 0 16 _).mono ?_;rintro e u1 ⟨rfl, hw9⟩;replace H := H.go (show Fr u0 u1 by rw [hw9]; exact Below.refl _ _);clear hw9;rw [HI.out];go_wp2_with fail;refine hK.out _ _ ?_ fun hHeld => ?_
       ·exact ⟨H.fa 1 0 rfl rfl, H.fa 1 1 rfl rfl, H.fa 0 0 rfl rfl, H.fa 0 1 rfl rfl, HP.out _ H.fr⟩
       clear hK K;(try simp only [sX, Act.put]);refine wpT 3 ?_;refine wpT 4 ?_;refine wpT 5 ?_;refine wpT 6 ?_;refine wpT 7 ?_;refine wpT 8 ?_;refine wpT 9 ?_;refine wpT 10 ?_;refine wpT 11 ?_;refine wpT 12 ?_;refine wpT 13 ?_;refine wpT 14 ?_;refine wpT 15 ?_;refine wpT 16 ?_;refine wpT 17 ?_;refine wpT 18 ?_;refine wpT 19 ?_;refine wpT 20 ?_;refine wpT 21 ?_;refine wpT 22 ?_;refine wpT 23 ?_;refine wpT 24 ?_;refine wpT 25 ?_;refine wpAnyH_done (by kernel_rfl) ?_ _;have HT2 := Lib.hid (outsTo_succ HX.out HT.out HOK.out);have H9 := Lib.hid H.tail;clear H y0 y1 x0y x1y zz;go_wp2_with fail;go_roundw
       case rel => exact ⟨i + 1, by go_num, by omega, HT2.out, H9.out⟩
       case measure => simp [intOf]; omega
     ·have hi2 : ¬ (0 : Int) < (i : Int) := by omega
      have hi3 : decide ((0 : Int) < (i : Int)) = false := decide_eq_false hi2;have HOK := Lib.hid (show outOk l i (x0, x1) = true by rw [show i = 0 by omega]; exact outOk_0 HI.out hs);refine wp_region_held_drew (S := fun w' => w'.cell? ⟨w.heap.size, 0, none⟩ = some (.int .i64 seq) ∧ w'.cell? ⟨w.heap.size, 1, none⟩ = some (.slice (some ⟨bk, of, none⟩) n c) ∧ w'.cell? ⟨gx, 0, none⟩ = some (.int .i64 x0) ∧ w'.cell? ⟨gx, 1, none⟩ = some (.string x1)) (by kernel_rfl) ?_ (fun hHeld => ?_)
      ·exact ⟨y0, y1, x0y, x1y⟩
      obtain ⟨u0, hu0⟩ : ∃ uu : World, uu = (wr.alloc (.cells #[.int .i64 x0, .string x1] 34)).drew := ⟨_, rfl⟩;rw [← hu0] at H hHeld ⊢;clear hu0;refine wpT 0 ?_;refine wpT 1 ?_;refine wpC 2 fun K hK => ?_;go_simp;refine (within_any x0 0 16 _).mono ?_;rintro e u1 ⟨rfl, hw9⟩;replace H := H.go (show Fr u0 u1 by rw [hw9]; exact Below.refl _ _);clear hw9;rw [HI.out];go_wp2_with fail;refine hK.out _ _ ?_ fun hHeld => ?_
      ·exact ⟨H.fa 1 0 rfl rfl, H.fa 1 1 rfl rfl, H.fa 0 0 rfl rfl, H.fa 0 1 rfl rfl⟩
      clear hK K;(try simp only [sX, Act.put]);refine wpT 3 ?_;refine wpT 4 ?_;refine wpT 5 ?_;refine wpT 6 ?_;refine wpT 7 ?_;refine wpT 8 ?_;refine wpT 9 ?_;refine wpT 10 ?_;refine wpT 11 ?_;refine wpT 12 ?_;refine wpT 13 ?_;refine wpS 14 ?_;refine wpS 15 ?_;refine wpS 16 ?_;refine wpS 17 ?_;refine wpS 18 ?_;refine wpS 19 ?_;refine wpS 20 ?_;refine wpS 21 ?_;refine wpS 22 ?_;refine wpS 23 ?_;refine wpT 24 ?_;refine wpT 25 ?_;refine wpAnyH_done (by kernel_rfl) ?_ _;have HT2 := Lib.hid (outsTo_succ HX.out HT.out HOK.out);have H9 := Lib.hid H.tail;clear H y0 y1 x0y x1y;go_wp2_with fail;go_roundw
      case rel => exact ⟨i + 1, by go_num, by omega, HT2.out, H9.out⟩
      case measure => simp [intOf]; omega
    ·have hs1 : decide ((400 : Int) < (x1.size : Int)) = true := decide_eq_true (by omega)
     have hs2 : (400 : Int) < (x1.size : Int) := by omega
     have HE := Lib.hid (HQ.out.trans (txnB_no3 (outsTo_no HX.out (outOk_no2 hs))));refine wp_region_held_drew (S := fun w' => w'.cell? ⟨w.heap.size, 0, none⟩ = some (.int .i64 seq) ∧ w'.cell? ⟨w.heap.size, 1, none⟩ = some (.slice (some ⟨bk, of, none⟩) n c) ∧ w'.cell? ⟨gx, 0, none⟩ = some (.int .i64 x0) ∧ w'.cell? ⟨gx, 1, none⟩ = some (.string x1)) (by kernel_rfl) ?_ (fun hHeld => ?_)
     ·exact ⟨y0, y1, x0y, x1y⟩
     obtain ⟨u0, hu0⟩ : ∃ uu : World, uu = (wr.alloc (.cells #[.int .i64 x0, .string x1] 34)).drew := ⟨_, rfl⟩;rw [← hu0] at H hHeld ⊢;clear hu0;refine wpT 0 ?_;refine wpT 1 ?_;refine wpC 2 fun K hK => ?_;go_simp;refine (within_any x0 0 16 _).mono ?_;rintro e u1 ⟨rfl, hw9⟩;replace H := H.go (show Fr u0 u1 by rw [hw9]; exact Below.refl _ _);clear hw9;rw [HI.out];go_wp2_with fail;refine hK.out _ _ ?_ fun hHeld => ?_
     ·exact ⟨H.fa 1 0 rfl rfl, H.fa 1 1 rfl rfl, H.fa 0 0 rfl rfl, H.fa 0 1 rfl rfl⟩
     clear hK K;(try simp only [sX, Act.put]);refine wpT 3 ?_;refine wpT 4 ?_;refine wpT 5 ?_;refine wpT 6 ?_;refine wpT 7 ?_;refine wpT 8 ?_;refine wpT 9 ?_;refine wpT 10 ?_;refine wpS 11 ?_;refine wpS 12 ?_;refine wpS 13 ?_;refine wpS 14 ?_;refine wpS 15 ?_;refine wpS 16 ?_;refine wpS 17 ?_;refine wpS 18 ?_;refine wpS 19 ?_;refine wpS 20 ?_;refine wpS 21 ?_;refine wpS 22 ?_;refine wpS 23 ?_;refine wpS 24 ?_;refine wpT 25 ?_;refine wpAnyH_done (by kernel_rfl) ?_ _;go_wp2_with fail;go_ret;rw [HE.out];exact ⟨rfl, H.fr⟩
   ·have HI := Lib.hid h4
    have HE := Lib.hid (HQ.out.trans (txnB_no3 (outsTo_no HX.out (outOk_no1 h4))));clear h4;refine wp_region_held_drew (S := fun w' => w'.cell? ⟨w.heap.size, 0, none⟩ = some (.int .i64 seq) ∧ w'.cell? ⟨w.heap.size, 1, none⟩ = some (.slice (some ⟨bk, of, none⟩) n c) ∧ w'.cell? ⟨gx, 0, none⟩ = some (.int .i64 x0) ∧ w'.cell? ⟨gx, 1, none⟩ = some (.string x1)) (by kernel_rfl) ?_ (fun hHeld => ?_)
    ·exact ⟨y0, y1, x0y, x1y⟩
    obtain ⟨u0, hu0⟩ : ∃ uu : World, uu = (wr.alloc (.cells #[.int .i64 x0, .string x1] 34)).drew := ⟨_, rfl⟩;rw [← hu0] at H hHeld ⊢;clear hu0;refine wpT 0 ?_;refine wpT 1 ?_;refine wpC 2 fun K hK => ?_;go_simp;refine (within_any x0 0 16 _).mono ?_;rintro e u1 ⟨rfl, hw9⟩;replace H := H.go (show Fr u0 u1 by rw [hw9]; exact Below.refl _ _);clear hw9;rw [HI.out];go_wp2_with fail;refine hK.out _ _ ?_ fun hHeld => ?_
    ·exact ⟨H.fa 1 0 rfl rfl, H.fa 1 1 rfl rfl, H.fa 0 0 rfl rfl, H.fa 0 1 rfl rfl⟩
    clear hK K;(try simp only [sX, Act.put]);refine wpT 3 ?_;refine wpT 4 ?_;refine wpS 5 ?_;refine wpS 6 ?_;refine wpS 7 ?_;refine wpS 8 ?_;refine wpT 9 ?_;refine wpT 10 ?_;refine wpS 11 ?_;refine wpS 12 ?_;refine wpS 13 ?_;refine wpS 14 ?_;refine wpS 15 ?_;refine wpS 16 ?_;refine wpS 17 ?_;refine wpS 18 ?_;refine wpS 19 ?_;refine wpS 20 ?_;refine wpS 21 ?_;refine wpS 22 ?_;refine wpS 23 ?_;refine wpS 24 ?_;refine wpT 25 ?_;refine wpAnyH_done (by kernel_rfl) ?_ _;go_wp2_with fail;go_ret;rw [HE.out];exact ⟨rfl, H.fr⟩
  ·have hlt1 : ¬ (i : Int) < (n : Int) := by omega
   have HTT := Lib.hid (show outsTo l l.length = true by
    have := HT.out
    rwa [show i = l.length by rw [HL.out]; omega] at this)
   have y0 := H.fa 0 0 rfl rfl;have y1 := H.fa 0 1 rfl rfl;go_wp2_with fail;refine (within_any seq 1 1000000 _).mono ?_;rintro e wz ⟨rfl, hw⟩;subst hw
   rcases bool_or (inB seq 1 1000000) with k1 | k1
   ·rw [k1]
    have HK1 := Lib.hid k1;clear k1;go_wp2_with fail;refine (within_any (n : Int) 1 17 _).mono ?_;rintro e wz ⟨rfl, hw⟩;subst hw
    rcases bool_or (inB (n : Int) 1 17) with k2 | k2
    ·rw [k2]
     have HE := Lib.hid (HQ.out.trans (txnB_yes HK1.out (by rw [HL.out]; exact k2) HTT.out));clear k2;go_wp2_with fail;go_ret;rw [HE.out];exact ⟨rfl, H.fr⟩
    ·rw [k2]
     have HE := Lib.hid (HQ.out.trans (txnB_no2 (by rw [HL.out]; exact k2)));clear k2;go_wp2_with fail;go_ret;rw [HE.out];exact ⟨rfl, H.fr⟩
   ·rw [k1]
    have HE := Lib.hid (HQ.out.trans (txnB_no1 k1));clear k1;go_wp2_with fail;go_ret;rw [HE.out];exact ⟨rfl, H.fr⟩
set_option maxRecDepth 100000 in
set_option maxHeartbeats 8000000 in
theorem specTxnOk_any (seq : Int) (A : Option Addr) (n c : Nat) (l : List WrT) (w : World) (h : Rd w A n 2 (l.flatMap cWrite)) (hn : n ≤ 1048576) :
 Calls Tryz.prog 67 #[.agg #[.int .i64 seq, .slice A n c]] w fun e w' => e = .returned (.bool (txnB seq l)) ∧ Fr w w' := by
 have HL := Lib.hid (show l.length = n from h.lenk cWrite_len (by omega));obtain ⟨q0, hq0⟩ : ∃ q, q = txnB seq l := ⟨_, rfl⟩;rw [← hq0];have HQ := Lib.hid hq0;clear hq0;have HR := Lib.hid h;have H := (Hp.start w).lay_ 44 [.int .i64 seq, .slice A n c] rfl;clear h;have y0 := H.fa 0 0 rfl rfl;have y1 := H.fa 0 1 rfl rfl;go_enter Tryz.func67, Tryz.ntmps67;go_wp2_with fail;refine (l1In_any seq 1 1000000 _).mono ?_;rintro e wz ⟨rfl, hw⟩;subst hw
 rcases bool_or (inB seq 1 1000000) with k1 | k1
 case inr =>
  rw [k1];have HE := Lib.hid (HQ.out.trans (txnB_no1 k1));clear k1;go_wp2_with fail;go_ret;rw [HE.out];exact ⟨rfl, H.fr⟩
 rw [k1];have HK1 := Lib.hid k1;clear k1;go_wp2_with fail;refine (l1In_any (n : Int) 1 17 _).mono ?_;rintro e wz ⟨rfl, hw⟩;subst hw
 rcases bool_or (inB (n : Int) 1 17) with k2 | k2
 case inr =>
  rw [k2];have HE := Lib.hid (HQ.out.trans (txnB_no2 (by rw [HL.out]; exact k2)));clear k2;go_wp2_with fail;go_ret;rw [HE.out];exact ⟨rfl, H.fr⟩
 rw [k2];have HK2 := Lib.hid k2;clear k2;go_wp2_with fail
 go_loopw [3] (fun iv wr => ∃ i : Nat, iv = .int .i64 i ∧ i ≤ n ∧ outsTo l i = true ∧ Hp [] w wr [.blk w.heap.size 44 [.int .i64 seq, .slice A n c]]) (fun iv _ => n - (intOf iv).toNat)
 case atStart => exact ⟨0, rfl, by omega, rfl, H⟩
 case round =>
  clear H y1;obtain ⟨i, rfl, hi, hto, H⟩ := hrel;have HT := Lib.hid hto;clear hto;have hi0 : (0 : Int) ≤ (i : Int) := by omega
  by_cases hlt : i < n
  ·have hlt1 : (i : Int) < (n : Int) := by omega
   obtain ⟨bk, of, rfl⟩ : ∃ bk of, A = some ⟨bk, of, none⟩ := by
    obtain ⟨b, o, e, _⟩ := HR.out.2 (by omega);exact ⟨b, o, e⟩
   obtain ⟨⟨x0, x1⟩, hx⟩ := some_at HL.out hlt;obtain ⟨b', o', ea, hcell⟩ := (HR.out.fr H.fr).elem cWrite_len hx (by omega);injection ea with ea; injection ea with ea eb; subst ea eb;have ca0 := hcell 0 _ rfl; simp only [Nat.add_zero] at ca0;have ca1 := hcell 1 _ rfl;have HX := Lib.hid hx;have HCE := Lib.hid (show ∀ w', Fr w w' → w'.cell? ⟨bk, of + i * 2, none⟩ = some (.int .i64 x0) ∧ w'.cell? ⟨bk, of + i * 2 + 1, none⟩ = some (.string x1) from fun w' f => by
    obtain ⟨b', o', ea, hc⟩ := (HR.out.fr f).elem cWrite_len hx (by omega);injection ea with ea; injection ea with ea eb; subst ea eb;exact ⟨hc 0 _ rfl, hc 1 _ rfl⟩)
   clear hx hcell;have y1 := H.fa 0 1 rfl rfl;clear ca0 ca1;go_wp2_with fail;clear y1;replace H := H.drew;have y0 := H.fa 0 0 rfl rfl;have y1 := H.fa 0 1 rfl rfl;have x0y := (HCE.out _ H.fr).1;have x1y := (HCE.out _ H.fr).2
   rcases bool_or (inB x0 0 16) with h4 | h4
   ·have HI := Lib.hid h4
    clear h4
    by_cases hi1 : 0 < i
    ·have hi2 : (0 : Int) < (i : Int) := by omega
     have hi3 : decide ((0 : Int) < (i : Int)) = true := decide_eq_true hi2;obtain ⟨r, hr1, hr2⟩ : ∃ r : Nat, r + 1 ≤ i ∧ i ≤ r + 1 := ⟨i - 1, by omega, by omega⟩;have hr3 : (i : Int) - 1 = (r : Int) := by omega
     have hr4 : IntKind.i64.wrap ((i : Int) - 1) = (r : Int) := by rw [hr3]; exact IntWalk.i64_in _ (by omega)
     have hr5 : IntKind.i64.wrap (r : Int) = (r : Int) := IntWalk.i64_in _ (by omega);have hr6 : (0 : Int) ≤ (r : Int) := by omega
     have hr7 : (r : Int) < (n : Int) := by omega
     obtain ⟨⟨p0, p1⟩, hp⟩ := some_at HL.out (show r < n by omega);have HPX := Lib.hid hp;have HRI := Lib.hid (show i = r + 1 by omega);have HP := Lib.hid (show ∀ w', Fr w w' → w'.cell? ⟨bk, of + r * 2, none⟩ = some (.int .i64 p0) from fun w' f => by
      obtain ⟨b', o', ea, hc⟩ := (HR.out.fr f).elem cWrite_len hp (by omega);injection ea with ea; injection ea with ea eb; subst ea eb;exact hc 0 _ rfl)
     clear hp;have zz := HP.out _ H.fr
     by_cases hpx : x0 ≤ p0
     ·have hpx1 : decide (x0 ≤ p0) = true := decide_eq_true hpx
      have HE := Lib.hid (HQ.out.trans (txnB_no3 (outsTo_no HX.out (by rw [HRI.out]; exact outOk_no3 HPX.out hpx))));refine wp_region_held_drew (S := fun w' => w'.cell? ⟨w.heap.size, 0, none⟩ = some (.int .i64 seq) ∧ w'.cell? ⟨w.heap.size, 1, none⟩ = some (.slice (some ⟨bk, of, none⟩) n c) ∧ w'.cell? ⟨bk, of + i * 2, none⟩ = some (.int .i64 x0) ∧ w'.cell? ⟨bk, of + i * 2 + 1, none⟩ = some (.string x1) ∧ w'.cell? ⟨bk, of + r * 2, none⟩ = some (.int .i64 p0)) (by kernel_rfl) ?_ (fun hHeld => ?_)
      ·exact ⟨y0, y1, x0y, x1y, zz⟩
      obtain ⟨u0, hu0⟩ : ∃ uu : World, uu = wr.drew := ⟨_, rfl⟩;rw [← hu0] at H hHeld ⊢;clear hu0;refine wpT 0 ?_;refine wpT 1 ?_;refine wpT 2 ?_;refine wpT 3 ?_;refine wpT 4 ?_;refine wpT 5 ?_;refine wpC 6 fun K hK => ?_;go_simp;refine (l1In_any x0 0 16 _).mono ?_;rintro e u1 ⟨rfl, hw9⟩;replace H := H.go (show Fr u0 u1 by rw [hw9]; exact Below.refl _ _);clear hw9;rw [HI.out];go_wp2_with fail;refine hK.out _ _ ?_ fun hHeld => ?_
      ·exact ⟨H.fa 0 0 rfl rfl, H.fa 0 1 rfl rfl, (HCE.out _ H.fr).1, (HCE.out _ H.fr).2, HP.out _ H.fr⟩
      clear hK K;(try simp only [sX, Act.put]);refine wpT 7 ?_;refine wpT 8 ?_;refine wpT 9 ?_;refine wpT 10 ?_;refine wpT 11 ?_;refine wpT 12 ?_;refine wpT 13 ?_;refine wpT 14 ?_;refine wpT 15 ?_;refine wpT 16 ?_;refine wpT 17 ?_;refine wpT 18 ?_;refine wpT 19 ?_;refine wpT 20 ?_;refine wpT 21 ?_;refine wpT 22 ?_;refine wpT 23 ?_;refine wpT 24 ?_;refine wpT 25 ?_;refine wpT 26 ?_;refine wpT 27 ?_;refine wpT 28 ?_;refine wpS 29 ?_;refine wpS 30 ?_;refine wpS 31 ?_;refine wpS 32 ?_;refine wpS 33 ?_;refine wpS 34 ?_;refine wpS 35 ?_;refine wpS 36 ?_;refine wpT 37 ?_;refine wpAnyH_done (by kernel_rfl) ?_ _;go_wp2_with fail;go_ret;rw [HE.out];exact ⟨rfl, H.fr⟩
     ·have hpx1 : decide (x0 ≤ p0) = false := decide_eq_false hpx
      by_cases hs : x1.size ≤ 400
      ·have hs1 : decide ((400 : Int) < (x1.size : Int)) = false := decide_eq_false (by omega)
       have hs2 : ¬ (400 : Int) < (x1.size : Int) := by omega
       have HOK := Lib.hid (show outOk l i (x0, x1) = true by rw [HRI.out]; exact outOk_s HI.out hs HPX.out (by show p0 < x0; omega));refine wp_region_held_drew (S := fun w' => w'.cell? ⟨w.heap.size, 0, none⟩ = some (.int .i64 seq) ∧ w'.cell? ⟨w.heap.size, 1, none⟩ = some (.slice (some ⟨bk, of, none⟩) n c) ∧ w'.cell? ⟨bk, of + i * 2, none⟩ = some (.int .i64 x0) ∧ w'.cell? ⟨bk, of + i * 2 + 1, none⟩ = some (.string x1) ∧ w'.cell? ⟨bk, of + r * 2, none⟩ = some (.int .i64 p0)) (by kernel_rfl) ?_ (fun hHeld => ?_)
       ·exact ⟨y0, y1, x0y, x1y, zz⟩
       obtain ⟨u0, hu0⟩ : ∃ uu : World, uu = wr.drew := ⟨_, rfl⟩;rw [← hu0] at H hHeld ⊢;clear hu0;refine wpT 0 ?_;refine wpT 1 ?_;refine wpT 2 ?_;refine wpT 3 ?_;refine wpT 4 ?_;refine wpT 5 ?_;refine wpC 6 fun K hK => ?_;go_simp;refine (l1In_any x0 0 16 _).mono ?_;rintro e u1 ⟨rfl, hw9⟩;replace H := H.go (show Fr u0 u1 by rw [hw9]; exact Below.refl _ _);clear hw9;rw [HI.out];go_wp2_with fail;refine hK.out _ _ ?_ fun hHeld => ?_
       ·exact ⟨H.fa 0 0 rfl rfl, H.fa 0 1 rfl rfl, (HCE.out _ H.fr).1, (HCE.out _ H.fr).2, HP.out _ H.fr⟩
       clear hK K;(try simp only [sX, Act.put]);refine wpT 7 ?_;refine wpT 8 ?_;refine wpT 9 ?_;refine wpT 10 ?_;refine wpT 11 ?_;refine wpT 12 ?_;refine wpT 13 ?_;refine wpT 14 ?_;refine wpT 15 ?_;refine wpT 16 ?_;refine wpT 17 ?_;refine wpT 18 ?_;refine wpT 19 ?_;refine wpT 20 ?_;refine wpT 21 ?_;refine wpT 22 ?_;refine wpT 23 ?_;refine wpT 24 ?_;refine wpT 25 ?_;refine wpT 26 ?_;refine wpT 27 ?_;refine wpT 28 ?_;refine wpT 29 ?_;refine wpT 30 ?_;refine wpT 31 ?_;refine wpT 32 ?_;refine wpT 33 ?_;refine wpT 34 ?_;refine wpT 35 ?_;refine wpT 36 ?_;refine wpT 37 ?_;refine wpAnyH_done (by kernel_rfl) ?_ _;have HT2 := Lib.hid (outsTo_succ HX.out HT.out HOK.out);have H9 := Lib.hid H;clear H y0 y1 x0y x1y zz;go_wp2_with fail;go_roundw
       case rel => exact ⟨i + 1, by go_num, by omega, HT2.out, H9.out⟩
       case measure => simp [intOf]; omega
      ·have hs1 : decide ((400 : Int) < (x1.size : Int)) = true := decide_eq_true (by omega)
       have hs2 : (400 : Int) < (x1.size : Int) := by omega
       have HE := Lib.hid (HQ.out.trans (txnB_no3 (outsTo_no HX.out (outOk_no2 hs))));refine wp_region_held_drew (S := fun w' => w'.cell? ⟨w.heap.size, 0, none⟩ = some (.int .i64 seq) ∧ w'.cell? ⟨w.heap.size, 1, none⟩ = some (.slice (some ⟨bk, of, none⟩) n c) ∧ w'.cell? ⟨bk, of + i * 2, none⟩ = some (.int .i64 x0) ∧ w'.cell? ⟨bk, of + i * 2 + 1, none⟩ = some (.string x1) ∧ w'.cell? ⟨bk, of + r * 2, none⟩ = some (.int .i64 p0)) (by kernel_rfl) ?_ (fun hHeld => ?_)
       ·exact ⟨y0, y1, x0y, x1y, zz⟩
       obtain ⟨u0, hu0⟩ : ∃ uu : World, uu = wr.drew := ⟨_, rfl⟩;rw [← hu0] at H hHeld ⊢;clear hu0;refine wpT 0 ?_;refine wpT 1 ?_;refine wpT 2 ?_;refine wpT 3 ?_;refine wpT 4 ?_;refine wpT 5 ?_;refine wpC 6 fun K hK => ?_;go_simp;refine (l1In_any x0 0 16 _).mono ?_;rintro e u1 ⟨rfl, hw9⟩;replace H := H.go (show Fr u0 u1 by rw [hw9]; exact Below.refl _ _);clear hw9;rw [HI.out];go_wp2_with fail;refine hK.out _ _ ?_ fun hHeld => ?_
       ·exact ⟨H.fa 0 0 rfl rfl, H.fa 0 1 rfl rfl, (HCE.out _ H.fr).1, (HCE.out _ H.fr).2, HP.out _ H.fr⟩
       clear hK K;(try simp only [sX, Act.put]);refine wpT 7 ?_;refine wpT 8 ?_;refine wpT 9 ?_;refine wpT 10 ?_;refine wpT 11 ?_;refine wpT 12 ?_;refine wpT 13 ?_;refine wpT 14 ?_;refine wpT 15 ?_;refine wpT 16 ?_;refine wpT 17 ?_;refine wpT 18 ?_;refine wpT 19 ?_;refine wpT 20 ?_;refine wpT 21 ?_;refine wpT 22 ?_;refine wpT 23 ?_;refine wpT 24 ?_;refine wpT 25 ?_;refine wpT 26 ?_;refine wpT 27 ?_;refine wpT 28 ?_;refine wpT 29 ?_;refine wpT 30 ?_;refine wpT 31 ?_;refine wpT 32 ?_;refine wpT 33 ?_;refine wpT 34 ?_;refine wpT 35 ?_;refine wpT 36 ?_;refine wpT 37 ?_;refine wpAnyH_done (by kernel_rfl) ?_ _;go_wp2_with fail;go_ret;rw [HE.out];exact ⟨rfl, H.fr⟩
    ·have hi2 : ¬ (0 : Int) < (i : Int) := by omega
     have hi3 : decide ((0 : Int) < (i : Int)) = false := decide_eq_false hi2
     by_cases hs : x1.size ≤ 400
     ·have hs1 : decide ((400 : Int) < (x1.size : Int)) = false := decide_eq_false (by omega)
      have hs2 : ¬ (400 : Int) < (x1.size : Int) := by omega
      have HOK := Lib.hid (show outOk l i (x0, x1) = true by rw [show i = 0 by omega]; exact outOk_0 HI.out hs);refine wp_region_held_drew (S := fun w' => w'.cell? ⟨w.heap.size, 0, none⟩ = some (.int .i64 seq) ∧ w'.cell? ⟨w.heap.size, 1, none⟩ = some (.slice (some ⟨bk, of, none⟩) n c) ∧ w'.cell? ⟨bk, of + i * 2, none⟩ = some (.int .i64 x0) ∧ w'.cell? ⟨bk, of + i * 2 + 1, none⟩ = some (.string x1)) (by kernel_rfl) ?_ (fun hHeld => ?_)
      ·exact ⟨y0, y1, x0y, x1y⟩
      obtain ⟨u0, hu0⟩ : ∃ uu : World, uu = wr.drew := ⟨_, rfl⟩;rw [← hu0] at H hHeld ⊢;clear hu0;refine wpT 0 ?_;refine wpT 1 ?_;refine wpT 2 ?_;refine wpT 3 ?_;refine wpT 4 ?_;refine wpT 5 ?_;refine wpC 6 fun K hK => ?_;go_simp;refine (l1In_any x0 0 16 _).mono ?_;rintro e u1 ⟨rfl, hw9⟩;replace H := H.go (show Fr u0 u1 by rw [hw9]; exact Below.refl _ _);clear hw9;rw [HI.out];go_wp2_with fail;refine hK.out _ _ ?_ fun hHeld => ?_
      ·exact ⟨H.fa 0 0 rfl rfl, H.fa 0 1 rfl rfl, (HCE.out _ H.fr).1, (HCE.out _ H.fr).2⟩
      clear hK K;(try simp only [sX, Act.put]);refine wpT 7 ?_;refine wpT 8 ?_;refine wpT 9 ?_;refine wpT 10 ?_;refine wpT 11 ?_;refine wpS 12 ?_;refine wpS 13 ?_;refine wpS 14 ?_;refine wpS 15 ?_;refine wpS 16 ?_;refine wpS 17 ?_;refine wpS 18 ?_;refine wpS 19 ?_;refine wpS 20 ?_;refine wpS 21 ?_;refine wpS 22 ?_;refine wpS 23 ?_;refine wpS 24 ?_;refine wpS 25 ?_;refine wpT 26 ?_;refine wpT 27 ?_;refine wpT 28 ?_;refine wpT 29 ?_;refine wpT 30 ?_;refine wpT 31 ?_;refine wpT 32 ?_;refine wpT 33 ?_;refine wpT 34 ?_;refine wpT 35 ?_;refine wpT 36 ?_;refine wpT 37 ?_;refine wpAnyH_done (by kernel_rfl) ?_ _;have HT2 := Lib.hid (outsTo_succ HX.out HT.out HOK.out);have H9 := Lib.hid H;clear H y0 y1 x0y x1y;go_wp2_with fail;go_roundw
      case rel => exact ⟨i + 1, by go_num, by omega, HT2.out, H9.out⟩
      case measure => simp [intOf]; omega
     ·have hs1 : decide ((400 : Int) < (x1.size : Int)) = true := decide_eq_true (by omega)
      have hs2 : (400 : Int) < (x1.size : Int) := by omega
      have HE := Lib.hid (HQ.out.trans (txnB_no3 (outsTo_no HX.out (outOk_no2 hs))));refine wp_region_held_drew (S := fun w' => w'.cell? ⟨w.heap.size, 0, none⟩ = some (.int .i64 seq) ∧ w'.cell? ⟨w.heap.size, 1, none⟩ = some (.slice (some ⟨bk, of, none⟩) n c) ∧ w'.cell? ⟨bk, of + i * 2, none⟩ = some (.int .i64 x0) ∧ w'.cell? ⟨bk, of + i * 2 + 1, none⟩ = some (.string x1)) (by kernel_rfl) ?_ (fun hHeld => ?_)
      ·exact ⟨y0, y1, x0y, x1y⟩
      obtain ⟨u0, hu0⟩ : ∃ uu : World, uu = wr.drew := ⟨_, rfl⟩;rw [← hu0] at H hHeld ⊢;clear hu0;refine wpT 0 ?_;refine wpT 1 ?_;refine wpT 2 ?_;refine wpT 3 ?_;refine wpT 4 ?_;refine wpT 5 ?_;refine wpC 6 fun K hK => ?_;go_simp;refine (l1In_any x0 0 16 _).mono ?_;rintro e u1 ⟨rfl, hw9⟩;replace H := H.go (show Fr u0 u1 by rw [hw9]; exact Below.refl _ _);clear hw9;rw [HI.out];go_wp2_with fail;refine hK.out _ _ ?_ fun hHeld => ?_
      ·exact ⟨H.fa 0 0 rfl rfl, H.fa 0 1 rfl rfl, (HCE.out _ H.fr).1, (HCE.out _ H.fr).2⟩
      clear hK K;(try simp only [sX, Act.put]);refine wpT 7 ?_;refine wpT 8 ?_;refine wpT 9 ?_;refine wpT 10 ?_;refine wpT 11 ?_;refine wpS 12 ?_;refine wpS 13 ?_;refine wpS 14 ?_;refine wpS 15 ?_;refine wpS 16 ?_;refine wpS 17 ?_;refine wpS 18 ?_;refine wpS 19 ?_;refine wpS 20 ?_;refine wpS 21 ?_;refine wpS 22 ?_;refine wpS 23 ?_;refine wpS 24 ?_;refine wpS 25 ?_;refine wpT 26 ?_;refine wpT 27 ?_;refine wpT 28 ?_;refine wpT 29 ?_;refine wpT 30 ?_;refine wpT 31 ?_;refine wpT 32 ?_;refine wpT 33 ?_;refine wpT 34 ?_;refine wpT 35 ?_;refine wpT 36 ?_;refine wpT 37 ?_;refine wpAnyH_done (by kernel_rfl) ?_ _;go_wp2_with fail;go_ret;rw [HE.out];exact ⟨rfl, H.fr⟩
   ·have HI := Lib.hid h4
    have HE := Lib.hid (HQ.out.trans (txnB_no3 (outsTo_no HX.out (outOk_no1 h4))));clear h4;refine wp_region_held_drew (S := fun w' => w'.cell? ⟨w.heap.size, 0, none⟩ = some (.int .i64 seq) ∧ w'.cell? ⟨w.heap.size, 1, none⟩ = some (.slice (some ⟨bk, of, none⟩) n c) ∧ w'.cell? ⟨bk, of + i * 2, none⟩ = some (.int .i64 x0) ∧ w'.cell? ⟨bk, of + i * 2 + 1, none⟩ = some (.string x1)) (by kernel_rfl) ?_ (fun hHeld => ?_)
    ·exact ⟨y0, y1, x0y, x1y⟩
    obtain ⟨u0, hu0⟩ : ∃ uu : World, uu = wr.drew := ⟨_, rfl⟩;rw [← hu0] at H hHeld ⊢;clear hu0;refine wpT 0 ?_;refine wpT 1 ?_;refine wpT 2 ?_;refine wpT 3 ?_;refine wpT 4 ?_;refine wpT 5 ?_;refine wpC 6 fun K hK => ?_;go_simp;refine (l1In_any x0 0 16 _).mono ?_;rintro e u1 ⟨rfl, hw9⟩;replace H := H.go (show Fr u0 u1 by rw [hw9]; exact Below.refl _ _);clear hw9;rw [HI.out];go_wp2_with fail;refine hK.out _ _ ?_ fun hHeld => ?_
    ·exact ⟨H.fa 0 0 rfl rfl, H.fa 0 1 rfl rfl, (HCE.out _ H.fr).1, (HCE.out _ H.fr).2⟩
    clear hK K;(try simp only [sX, Act.put]);refine wpT 7 ?_;refine wpT 8 ?_;refine wpS 9 ?_;refine wpS 10 ?_;refine wpS 11 ?_;refine wpS 12 ?_;refine wpS 13 ?_;refine wpS 14 ?_;refine wpS 15 ?_;refine wpS 16 ?_;refine wpS 17 ?_;refine wpS 18 ?_;refine wpS 19 ?_;refine wpS 20 ?_;refine wpS 21 ?_;refine wpS 22 ?_;refine wpS 23 ?_;refine wpS 24 ?_;refine wpS 25 ?_;refine wpS 26 ?_;refine wpT 27 ?_;refine wpT 28 ?_;refine wpS 29 ?_;refine wpS 30 ?_;refine wpS 31 ?_;refine wpS 32 ?_;refine wpS 33 ?_;refine wpS 34 ?_;refine wpS 35 ?_;refine wpS 36 ?_;refine wpT 37 ?_;refine wpAnyH_done (by kernel_rfl) ?_ _;go_wp2_with fail;go_ret;rw [HE.out];exact ⟨rfl, H.fr⟩
  ·have hlt1 : ¬ (i : Int) < (n : Int) := by omega
   have HE := Lib.hid (HQ.out.trans (txnB_yes HK1.out (by rw [HL.out]; exact HK2.out) (by
    have := HT.out
    rwa [show i = l.length by rw [HL.out]; omega] at this)))
   have y1 := H.fa 0 1 rfl rfl;go_wp2_with fail;go_ret;rw [HE.out];exact ⟨rfl, H.fr⟩
end Go.Proofs.YtmpldngnkacnmaaGreatDoor
