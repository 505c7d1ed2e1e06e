/-
Inodes as texts, of the program and of the reference: the walks.
-/
import Derived.Test.YtmpldngnkacnmaaGreatDoorGd
import Derived.Test.YtmpldngnkacnmaaGreatDoorGf
namespace Go.Proofs.YtmpldngnkacnmaaGreatDoor
open Go.RowKit
set_option linter.unusedVariables false
set_option linter.unusedSimpArgs false
def nodeHB (x0 x1 x2 : Int) (x3 : ByteArray) (n : Nat) : List UInt8 := 105 :: (varB x0 ++ (varB x1 ++ (varB x2 ++ (pieceB x3 ++ varB (n : Int)))))
theorem pieceB_len (s : ByteArray) : (pieceB s).length ≤ s.size + 7 := by
 have := varB_len (s.size : Int);rw [pieceB, List.length_append, toB_len]; omega
theorem nodeB_eq (x0 x1 x2 : Int) (x3 : ByteArray) (es : List (Int × Int × ByteArray × Int)) : nodeB (x0, x1, x2, x3, es) = nodeHB x0 x1 x2 x3 es.length ++ es.flatMap entB := rfl
theorem nodeHB_ofB (x0 x1 x2 : Int) (x3 : ByteArray) (n : Nat) : ((((ByteArray.mk #[105] ++ varS x0) ++ varS x1) ++ varS x2) ++ ofB (pieceB x3)) ++ varS (n : Int) = ofB (nodeHB x0 x1 x2 x3 n) := by
 have e : ByteArray.mk #[105] = ofB [105] := rfl;rw [e, varS, varS, varS, varS, ofB_append, ofB_append, ofB_append, ofB_append, ofB_append, nodeHB];simp [List.append_assoc]
theorem entB_ofB (s : List UInt8) (e : Int × Int × ByteArray × Int) : ((ofB s ++ varS e.2.1) ++ ofB (pieceB e.2.2.1)) ++ varS e.2.2.2 = ofB (s ++ entB e) := by
 rw [varS, varS, ofB_append, ofB_append, ofB_append, entB];simp [List.append_assoc]
theorem flat_at_le {es : List (Int × Int × ByteArray × Int)} {i : Nat} {e : Int × Int × ByteArray × Int} (h : es[i]? = some e) : (entB e).length ≤ (es.flatMap entB).length := by
 obtain ⟨hi, he⟩ := List.getElem?_eq_some_iff.1 h;have e1 : es = es.take i ++ e :: es.drop (i + 1) := by rw [← he, ← List.drop_eq_getElem_cons hi, List.take_append_drop]
 rw [e1, List.flatMap_append, List.flatMap_cons, List.length_append, List.length_append]; omega
theorem flat_take_le (es : List (Int × Int × ByteArray × Int)) (i : Nat) : ((es.take i).flatMap entB).length ≤ (es.flatMap entB).length := by
 have e1 : es.flatMap entB = (es.take i).flatMap entB ++ (es.drop i).flatMap entB := by rw [← List.flatMap_append, List.take_append_drop]
 rw [e1, List.length_append]; omega
set_option maxRecDepth 100000 in
set_option maxHeartbeats 8000000 in
theorem inodeText_any (x0 x1 x2 : Int) (x3 : ByteArray) (es : List (Int × Int × ByteArray × Int)) (B : Option Addr) (m d : Nat) (w : World) (hB : Rd w B m 4 (es.flatMap cEnt)) (hm : m ≤ 1048576) (h3 : x3.size ≤ 1099511627776) (hz : (nodeB (x0, x1, x2, x3, es)).length ≤ 2199023255552) :
 Calls Tryz.prog 50 #[.agg #[.int .i64 x0, .int .i64 x1, .int .i64 x2, .string x3, .slice B m d]] w fun e w' => e = .returned (.string (ofB (nodeB (x0, x1, x2, x3, es)))) ∧ Fr w w' := by
 have hz0 := varS_size x0;have hz1 := varS_size x1;have hz2 := varS_size x2;have hz4 := varS_size (m : Int);have hz3 : (ofB (pieceB x3)).size ≤ 1099511627783 := by rw [ofB_size]; have := pieceB_len x3; omega
 have HE := Lib.hid (nodeHB_ofB x0 x1 x2 x3 m);obtain ⟨t0, ht0⟩ : ∃ x, varS x0 = x := ⟨_, rfl⟩;obtain ⟨t1, ht1⟩ : ∃ x, varS x1 = x := ⟨_, rfl⟩;obtain ⟨t2, ht2⟩ : ∃ x, varS x2 = x := ⟨_, rfl⟩;obtain ⟨t3, ht3⟩ : ∃ x, ofB (pieceB x3) = x := ⟨_, rfl⟩;obtain ⟨t4, ht4⟩ : ∃ x, varS (m : Int) = x := ⟨_, rfl⟩;rw [ht0] at hz0;rw [ht1] at hz1;rw [ht2] at hz2;rw [ht3] at hz3;rw [ht4] at hz4;have HE := Lib.hid (show ((((ByteArray.mk #[105] ++ t0) ++ t1) ++ t2) ++ t3) ++ t4 = ofB (nodeHB x0 x1 x2 x3 m) by rw [← ht0, ← ht1, ← ht2, ← ht3, ← ht4]; exact HE.out);have HT0 := Lib.hid ht0;have HT1 := Lib.hid ht1;have HT2 := Lib.hid ht2;have HT3 := Lib.hid ht3;have HT4 := Lib.hid ht4;clear ht0 ht1 ht2 ht3 ht4;have H := ((Hp.start w).lay_ 53 [.int .i64 x0, .int .i64 x1, .int .i64 x2, .string x3, .slice B m d] rfl).drew;obtain ⟨g, hg⟩ : ∃ x, x = w.heap.size := ⟨_, rfl⟩;rw [← hg] at H;have HG := Lib.hid hg;clear hg;have cc0 : (9223372036854775807 < 1 + t0.size) = False := eq_false (by omega);have cc1 : (9223372036854775807 < 1 + t0.size + t1.size) = False := eq_false (by omega);have cc2 : (9223372036854775807 < 1 + t0.size + t1.size + t2.size) = False := eq_false (by omega);have cc3 : (9223372036854775807 < 1 + t0.size + t1.size + t2.size + t3.size) = False := eq_false (by omega);have cc4 : (9223372036854775807 < 1 + t0.size + t1.size + t2.size + t3.size + t4.size) = False := eq_false (by omega);have y0 := H.fa 0 0 rfl rfl;have y1 := H.fa 0 1 rfl rfl;have y2 := H.fa 0 2 rfl rfl;have y3 := H.fa 0 3 rfl rfl;have y4 := H.fa 0 4 rfl rfl;have HM := Lib.hid (show es.length = m from hB.lenk cEnt_len (by omega));obtain ⟨hd, hhd⟩ : ∃ x, x = nodeHB x0 x1 x2 x3 m := ⟨_, rfl⟩;have HN := Lib.hid (show nodeB (x0, x1, x2, x3, es) = hd ++ es.flatMap entB by rw [nodeB_eq, HM.out, hhd]);have HE := Lib.hid (HE.out.trans (congrArg ofB hhd.symm));rw [HN.out] at hz ⊢;clear HN hhd;go_enter Tryz.func50, Tryz.ntmps50;go_wp2_with fail;rw [← HG.out];refine wp_region_held_drew (S := fun w' => w'.cell? ⟨g, 0, none⟩ = some (.int .i64 x0) ∧ w'.cell? ⟨g, 1, none⟩ = some (.int .i64 x1) ∧ w'.cell? ⟨g, 2, none⟩ = some (.int .i64 x2) ∧ w'.cell? ⟨g, 3, none⟩ = some (.string x3) ∧ w'.cell? ⟨g, 4, none⟩ = some (.slice B m d)) (by kernel_rfl) ?_ (fun hHeld => ?_)
 ·exact ⟨y0, y1, y2, y3, y4⟩
 obtain ⟨u0, hu0⟩ : ∃ uu : World, uu = (w.alloc (.cells #[.int .i64 x0, .int .i64 x1, .int .i64 x2, .string x3, .slice B m d] 53)).drew := ⟨_, rfl⟩;rw [← hu0] at H hHeld ⊢;clear hu0;refine wpT 0 ?_;refine wpT 1 ?_;refine wpT 4 ?_;refine wpT 5 ?_;refine wpT 8 ?_;refine wpT 9 ?_;refine wpT 12 ?_;refine wpT 13 ?_;refine wpT 16 ?_;refine wpT 17 ?_;refine wpT 18 ?_;refine wpC 2 fun K hK => ?_;go_simp;refine (implVar_any x0 _).mono ?_;rintro e u1 ⟨rfl, f9⟩;replace H := H.go f9;clear f9;rw [HT0.out];go_wp2_with fail;refine hK.out _ _ ?_ fun hHeld => ?_
 ·exact ⟨H.fa 0 0 rfl rfl, H.fa 0 1 rfl rfl, H.fa 0 2 rfl rfl, H.fa 0 3 rfl rfl, H.fa 0 4 rfl rfl⟩
 clear hK K;(try simp only [sX, Act.put]);refine wpT 3 ?_;refine wpC 6 fun K hK => ?_;go_simp;refine (implVar_any x1 _).mono ?_;rintro e u2 ⟨rfl, f9⟩;replace H := H.go f9;clear f9;rw [HT1.out];go_wp2_with fail;refine hK.out _ _ ?_ fun hHeld => ?_
 ·exact ⟨H.fa 0 0 rfl rfl, H.fa 0 1 rfl rfl, H.fa 0 2 rfl rfl, H.fa 0 3 rfl rfl, H.fa 0 4 rfl rfl⟩
 clear hK K;(try simp only [sX, Act.put]);refine wpT 7 ?_;refine wpC 10 fun K hK => ?_;go_simp;refine (implVar_any x2 _).mono ?_;rintro e u3 ⟨rfl, f9⟩;replace H := H.go f9;clear f9;rw [HT2.out];go_wp2_with fail;refine hK.out _ _ ?_ fun hHeld => ?_
 ·exact ⟨H.fa 0 0 rfl rfl, H.fa 0 1 rfl rfl, H.fa 0 2 rfl rfl, H.fa 0 3 rfl rfl, H.fa 0 4 rfl rfl⟩
 clear hK K;(try simp only [sX, Act.put]);refine wpT 11 ?_;refine wpC 14 fun K hK => ?_;go_simp;refine (implPiece_any x3 _ (by omega)).mono ?_;rintro e u4 ⟨rfl, f9⟩;replace H := H.go f9;clear f9;rw [HT3.out];go_wp2_with fail;refine hK.out _ _ ?_ fun hHeld => ?_
 ·exact ⟨H.fa 0 0 rfl rfl, H.fa 0 1 rfl rfl, H.fa 0 2 rfl rfl, H.fa 0 3 rfl rfl, H.fa 0 4 rfl rfl⟩
 clear hK K;(try simp only [sX, Act.put]);refine wpT 15 ?_;refine wpC 19 fun K hK => ?_;go_simp;refine (implVar_any (m : Int) _).mono ?_;rintro e u5 ⟨rfl, f9⟩;replace H := H.go f9;clear f9;rw [HT4.out];go_wp2_with fail;refine hK.out _ _ ?_ fun hHeld => ?_
 ·exact ⟨H.fa 0 0 rfl rfl, H.fa 0 1 rfl rfl, H.fa 0 2 rfl rfl, H.fa 0 3 rfl rfl, H.fa 0 4 rfl rfl⟩
 clear hK K;(try simp only [sX, Act.put]);refine wpT 20 ?_;refine wpT 21 ?_;refine wpAnyH_done (by kernel_rfl) ?_ _;rw [HE.out];clear y0 y1 y2 y3 y4 hz0 hz1 hz2 hz3 hz4 HT0 HT1 HT2 HT3 HT4 HE HG cc0 cc1 cc2 cc3 cc4;have y4 := H.fa 0 4 rfl rfl;go_wp2_with fail
 go_loopw [3, 30] (fun sv iv wr => ∃ i : Nat, sv = .string (ofB (hd ++ (es.take i).flatMap entB)) ∧ iv = .int .i64 i ∧ i ≤ m ∧ Hp [] w wr [.blk g 53 [.int .i64 x0, .int .i64 x1, .int .i64 x2, .string x3, .slice B m d]]) (fun _ iv _ => m - (intOf iv).toNat)
 case atStart => exact ⟨0, by simp, rfl, by omega, H⟩
 case round =>
  clear H y4;obtain ⟨i, rfl, rfl, him, H⟩ := hrel;have y4 := H.fa 0 4 rfl rfl
  by_cases hlt : i < m
  ·have hlt1 : (i : Int) < (m : Int) := by omega
   have hi0 : (0 : Int) ≤ (i : Int) := by omega
   obtain ⟨⟨e0, e1, e2, e3⟩, hx⟩ := some_at HM.out hlt;obtain ⟨bk, of, rfl, hcell⟩ := (hB.fr H.fr).elem cEnt_len hx (by omega);have ca0 := hcell 0 _ rfl; simp only [Nat.add_zero] at ca0;have ca1 := hcell 1 _ rfl;have ca2 := hcell 2 _ rfl;have ca3 := hcell 3 _ rfl;have hle := flat_at_le hx;have HX := Lib.hid hx;obtain ⟨S, hS⟩ : ∃ x, x = ofB (hd ++ (es.take i).flatMap entB) := ⟨_, rfl⟩;have hSz : S.size ≤ 2199023255552 := by
    rw [hS, ofB_size];rw [List.length_append] at hz ⊢;have := flat_take_le es i;omega
   have hez : e2.size ≤ 2199023255552 := by
    rw [List.length_append] at hz;simp only [entB, pieceB, List.length_append, toB_len] at hle;omega
   have HE2 := Lib.hid (show ((S ++ varS e1) ++ ofB (pieceB e2)) ++ varS e3 = ofB (hd ++ (es.take (i + 1)).flatMap entB) by
    rw [hS, List.take_add_one, hx, Option.toList_some, List.flatMap_append, List.flatMap_singleton, ← List.append_assoc];exact entB_ofB _ (e0, e1, e2, e3))
   have hu1 := varS_size e1;have hu3 := varS_size e3;have hu2 : (ofB (pieceB e2)).size ≤ 2199023255559 := by rw [ofB_size]; have := pieceB_len e2; omega
   obtain ⟨u1, hq1⟩ : ∃ x, varS e1 = x := ⟨_, rfl⟩;obtain ⟨u2, hq2⟩ : ∃ x, ofB (pieceB e2) = x := ⟨_, rfl⟩;obtain ⟨u3, hq3⟩ : ∃ x, varS e3 = x := ⟨_, rfl⟩;rw [hq1] at hu1 HE2;rw [hq2] at hu2 HE2;rw [hq3] at hu3 HE2;have HQ1 := Lib.hid hq1;have HQ2 := Lib.hid hq2;have HQ3 := Lib.hid hq3;have HS := Lib.hid hS;have cc1 : (9223372036854775807 < S.size + u1.size) = False := eq_false (by omega);have cc2 : (9223372036854775807 < S.size + u1.size + u2.size) = False := eq_false (by omega);have cc3 : (9223372036854775807 < S.size + u1.size + u2.size + u3.size) = False := eq_false (by omega);rw [← hS];clear hS hq1 hq2 hq3 hle hx;go_wp2_with fail;have H2 := (H.lay_ 90 [.int .i64 e0, .int .i64 e1, .string e2, .int .i64 e3] rfl).drew;obtain ⟨g2, hg2⟩ : ∃ x, x = wr.heap.size := ⟨_, rfl⟩;rw [← hg2] at H2 ⊢;have HG2 := Lib.hid hg2;clear hg2 H ca0 ca1 ca2 ca3 y4 hcell;have H := H2;clear H2;have y1 := H.fa 0 1 rfl rfl;have y2 := H.fa 0 2 rfl rfl;have y3 := H.fa 0 3 rfl rfl;refine wp_region_held_drew (S := fun w' => w'.cell? ⟨g2, 1, none⟩ = some (.int .i64 e1) ∧ w'.cell? ⟨g2, 2, none⟩ = some (.string e2) ∧ w'.cell? ⟨g2, 3, none⟩ = some (.int .i64 e3)) (by kernel_rfl) ?_ (fun hHeld => ?_)
   ·exact ⟨y1, y2, y3⟩
   obtain ⟨u0, hu0⟩ : ∃ uu : World, uu = (wr.alloc (.cells #[.int .i64 e0, .int .i64 e1, .string e2, .int .i64 e3] 90)).drew := ⟨_, rfl⟩;rw [← hu0] at H hHeld ⊢;clear hu0;refine wpT 0 ?_;refine wpT 1 ?_;refine wpT 2 ?_;refine wpT 5 ?_;refine wpT 6 ?_;refine wpT 9 ?_;refine wpT 10 ?_;refine wpC 3 fun K hK => ?_;go_simp;refine (implVar_any e1 _).mono ?_;rintro e u1 ⟨rfl, f9⟩;replace H := H.go f9;clear f9;rw [HQ1.out];go_wp2_with fail;refine hK.out _ _ ?_ fun hHeld => ?_
   ·exact ⟨H.fa 0 1 rfl rfl, H.fa 0 2 rfl rfl, H.fa 0 3 rfl rfl⟩
   clear hK K;(try simp only [sX, Act.put]);refine wpT 4 ?_;refine wpC 7 fun K hK => ?_;go_simp;refine (implPiece_any e2 _ (by omega)).mono ?_;rintro e u2 ⟨rfl, f9⟩;replace H := H.go f9;clear f9;rw [HQ2.out];go_wp2_with fail;refine hK.out _ _ ?_ fun hHeld => ?_
   ·exact ⟨H.fa 0 1 rfl rfl, H.fa 0 2 rfl rfl, H.fa 0 3 rfl rfl⟩
   clear hK K;(try simp only [sX, Act.put]);refine wpT 8 ?_;refine wpC 11 fun K hK => ?_;go_simp;refine (implVar_any e3 _).mono ?_;rintro e u3 ⟨rfl, f9⟩;replace H := H.go f9;clear f9;rw [HQ3.out];go_wp2_with fail;refine hK.out _ _ ?_ fun hHeld => ?_
   ·exact ⟨H.fa 0 1 rfl rfl, H.fa 0 2 rfl rfl, H.fa 0 3 rfl rfl⟩
   clear hK K;(try simp only [sX, Act.put]);refine wpT 12 ?_;refine wpT 13 ?_;refine wpAnyH_done (by kernel_rfl) ?_ _;rw [HE2.out];have H9 := Lib.hid H.tail;clear y1 y2 y3 H cc1 cc2 cc3 hu1 hu2 hu3;go_wp2_with fail;go_roundw
   case rel => exact ⟨i + 1, rfl, by go_num, by omega, H9.out⟩
   case measure => simp [intOf]; omega
  ·have hlt1 : ¬ ((i : Int) < (m : Int)) := by omega
   have ht : es.take i = es := List.take_of_length_le (by rw [HM.out]; omega);rw [ht];go_wp2_with fail;go_ret;exact ⟨rfl, H.fr⟩
set_option maxRecDepth 100000 in
set_option maxHeartbeats 8000000 in
theorem l7Inode_any (x0 x1 x2 : Int) (x3 : ByteArray) (es : List (Int × Int × ByteArray × Int)) (B : Option Addr) (m d : Nat) (w : World) (hB : Rd w B m 4 (es.flatMap cEnt)) (hm : m ≤ 1048576) (h3 : x3.size ≤ 1099511627776) (hz : (nodeB (x0, x1, x2, x3, es)).length ≤ 2199023255552) :
 Calls Tryz.prog 66 #[.agg #[.int .i64 x0, .int .i64 x1, .int .i64 x2, .string x3, .slice B m d]] w fun e w' => e = .returned (.string (ofB (nodeB (x0, x1, x2, x3, es)))) ∧ Fr w w' := by
 have hz0 := varS_size x0;have hz1 := varS_size x1;have hz2 := varS_size x2;have hz4 := varS_size (m : Int);have hz3 : (ofB (pieceB x3)).size ≤ 1099511627783 := by rw [ofB_size]; have := pieceB_len x3; omega
 have HE := Lib.hid (nodeHB_ofB x0 x1 x2 x3 m);obtain ⟨t0, ht0⟩ : ∃ x, varS x0 = x := ⟨_, rfl⟩;obtain ⟨t1, ht1⟩ : ∃ x, varS x1 = x := ⟨_, rfl⟩;obtain ⟨t2, ht2⟩ : ∃ x, varS x2 = x := ⟨_, rfl⟩;obtain ⟨t3, ht3⟩ : ∃ x, ofB (pieceB x3) = x := ⟨_, rfl⟩;obtain ⟨t4, ht4⟩ : ∃ x, varS (m : Int) = x := ⟨_, rfl⟩;rw [ht0] at hz0;rw [ht1] at hz1;rw [ht2] at hz2;rw [ht3] at hz3;rw [ht4] at hz4;have HE := Lib.hid (show ((((ByteArray.mk #[105] ++ t0) ++ t1) ++ t2) ++ t3) ++ t4 = ofB (nodeHB x0 x1 x2 x3 m) by rw [← ht0, ← ht1, ← ht2, ← ht3, ← ht4]; exact HE.out);have HT0 := Lib.hid ht0;have HT1 := Lib.hid ht1;have HT2 := Lib.hid ht2;have HT3 := Lib.hid ht3;have HT4 := Lib.hid ht4;clear ht0 ht1 ht2 ht3 ht4;have H := ((Hp.start w).lay_ 53 [.int .i64 x0, .int .i64 x1, .int .i64 x2, .string x3, .slice B m d] rfl).drew;obtain ⟨g, hg⟩ : ∃ x, x = w.heap.size := ⟨_, rfl⟩;rw [← hg] at H;have HG := Lib.hid hg;clear hg;have cc0 : (9223372036854775807 < 1 + t0.size) = False := eq_false (by omega);have cc1 : (9223372036854775807 < 1 + t0.size + t1.size) = False := eq_false (by omega);have cc2 : (9223372036854775807 < 1 + t0.size + t1.size + t2.size) = False := eq_false (by omega);have cc3 : (9223372036854775807 < 1 + t0.size + t1.size + t2.size + t3.size) = False := eq_false (by omega);have cc4 : (9223372036854775807 < 1 + t0.size + t1.size + t2.size + t3.size + t4.size) = False := eq_false (by omega);have y0 := H.fa 0 0 rfl rfl;have y1 := H.fa 0 1 rfl rfl;have y2 := H.fa 0 2 rfl rfl;have y3 := H.fa 0 3 rfl rfl;have y4 := H.fa 0 4 rfl rfl;have HM := Lib.hid (show es.length = m from hB.lenk cEnt_len (by omega));obtain ⟨hd, hhd⟩ : ∃ x, x = nodeHB x0 x1 x2 x3 m := ⟨_, rfl⟩;have HN := Lib.hid (show nodeB (x0, x1, x2, x3, es) = hd ++ es.flatMap entB by rw [nodeB_eq, HM.out, hhd]);have HE := Lib.hid (HE.out.trans (congrArg ofB hhd.symm));rw [HN.out] at hz ⊢;clear HN hhd;go_enter Tryz.func66, Tryz.ntmps66;go_wp2_with fail;rw [← HG.out];refine wp_region_held_drew (S := fun w' => w'.cell? ⟨g, 0, none⟩ = some (.int .i64 x0) ∧ w'.cell? ⟨g, 1, none⟩ = some (.int .i64 x1) ∧ w'.cell? ⟨g, 2, none⟩ = some (.int .i64 x2) ∧ w'.cell? ⟨g, 3, none⟩ = some (.string x3) ∧ w'.cell? ⟨g, 4, none⟩ = some (.slice B m d)) (by kernel_rfl) ?_ (fun hHeld => ?_)
 ·exact ⟨y0, y1, y2, y3, y4⟩
 obtain ⟨u0, hu0⟩ : ∃ uu : World, uu = (w.alloc (.cells #[.int .i64 x0, .int .i64 x1, .int .i64 x2, .string x3, .slice B m d] 53)).drew := ⟨_, rfl⟩;rw [← hu0] at H hHeld ⊢;clear hu0;refine wpT 0 ?_;refine wpT 1 ?_;refine wpT 4 ?_;refine wpT 5 ?_;refine wpT 8 ?_;refine wpT 9 ?_;refine wpT 12 ?_;refine wpT 13 ?_;refine wpT 16 ?_;refine wpT 17 ?_;refine wpT 18 ?_;refine wpC 2 fun K hK => ?_;go_simp;refine (specVar_any x0 _).mono ?_;rintro e u1 ⟨rfl, f9⟩;replace H := H.go f9;clear f9;rw [HT0.out];go_wp2_with fail;refine hK.out _ _ ?_ fun hHeld => ?_
 ·exact ⟨H.fa 0 0 rfl rfl, H.fa 0 1 rfl rfl, H.fa 0 2 rfl rfl, H.fa 0 3 rfl rfl, H.fa 0 4 rfl rfl⟩
 clear hK K;(try simp only [sX, Act.put]);refine wpT 3 ?_;refine wpC 6 fun K hK => ?_;go_simp;refine (specVar_any x1 _).mono ?_;rintro e u2 ⟨rfl, f9⟩;replace H := H.go f9;clear f9;rw [HT1.out];go_wp2_with fail;refine hK.out _ _ ?_ fun hHeld => ?_
 ·exact ⟨H.fa 0 0 rfl rfl, H.fa 0 1 rfl rfl, H.fa 0 2 rfl rfl, H.fa 0 3 rfl rfl, H.fa 0 4 rfl rfl⟩
 clear hK K;(try simp only [sX, Act.put]);refine wpT 7 ?_;refine wpC 10 fun K hK => ?_;go_simp;refine (specVar_any x2 _).mono ?_;rintro e u3 ⟨rfl, f9⟩;replace H := H.go f9;clear f9;rw [HT2.out];go_wp2_with fail;refine hK.out _ _ ?_ fun hHeld => ?_
 ·exact ⟨H.fa 0 0 rfl rfl, H.fa 0 1 rfl rfl, H.fa 0 2 rfl rfl, H.fa 0 3 rfl rfl, H.fa 0 4 rfl rfl⟩
 clear hK K;(try simp only [sX, Act.put]);refine wpT 11 ?_;refine wpC 14 fun K hK => ?_;go_simp;refine (specPiece_any x3 _ (by omega)).mono ?_;rintro e u4 ⟨rfl, f9⟩;replace H := H.go f9;clear f9;rw [HT3.out];go_wp2_with fail;refine hK.out _ _ ?_ fun hHeld => ?_
 ·exact ⟨H.fa 0 0 rfl rfl, H.fa 0 1 rfl rfl, H.fa 0 2 rfl rfl, H.fa 0 3 rfl rfl, H.fa 0 4 rfl rfl⟩
 clear hK K;(try simp only [sX, Act.put]);refine wpT 15 ?_;refine wpC 19 fun K hK => ?_;go_simp;refine (specVar_any (m : Int) _).mono ?_;rintro e u5 ⟨rfl, f9⟩;replace H := H.go f9;clear f9;rw [HT4.out];go_wp2_with fail;refine hK.out _ _ ?_ fun hHeld => ?_
 ·exact ⟨H.fa 0 0 rfl rfl, H.fa 0 1 rfl rfl, H.fa 0 2 rfl rfl, H.fa 0 3 rfl rfl, H.fa 0 4 rfl rfl⟩
 clear hK K;(try simp only [sX, Act.put]);refine wpT 20 ?_;refine wpT 21 ?_;refine wpAnyH_done (by kernel_rfl) ?_ _;rw [HE.out];clear y0 y1 y2 y3 y4 hz0 hz1 hz2 hz3 hz4 HT0 HT1 HT2 HT3 HT4 HE HG cc0 cc1 cc2 cc3 cc4;have y4 := H.fa 0 4 rfl rfl;go_wp2_with fail
 go_loopw [3, 4] (fun sv iv wr => ∃ i : Nat, sv = .string (ofB (hd ++ (es.take i).flatMap entB)) ∧ iv = .int .i64 i ∧ i ≤ m ∧ Hp [] w wr [.blk g 53 [.int .i64 x0, .int .i64 x1, .int .i64 x2, .string x3, .slice B m d]]) (fun _ iv _ => m - (intOf iv).toNat)
 case atStart => exact ⟨0, by simp, rfl, by omega, H⟩
 case round =>
  clear H y4;obtain ⟨i, rfl, rfl, him, H⟩ := hrel;have y4 := H.fa 0 4 rfl rfl
  by_cases hlt : i < m
  ·have hlt1 : (i : Int) < (m : Int) := by omega
   have hi0 : (0 : Int) ≤ (i : Int) := by omega
   obtain ⟨⟨e0, e1, e2, e3⟩, hx⟩ := some_at HM.out hlt;obtain ⟨bk, of, rfl, hcell⟩ := (hB.fr H.fr).elem cEnt_len hx (by omega);have ca0 := hcell 0 _ rfl; simp only [Nat.add_zero] at ca0;have ca1 := hcell 1 _ rfl;have ca2 := hcell 2 _ rfl;have ca3 := hcell 3 _ rfl;have hle := flat_at_le hx;have HX := Lib.hid hx;obtain ⟨S, hS⟩ : ∃ x, x = ofB (hd ++ (es.take i).flatMap entB) := ⟨_, rfl⟩;have hSz : S.size ≤ 2199023255552 := by
    rw [hS, ofB_size];rw [List.length_append] at hz ⊢;have := flat_take_le es i;omega
   have hez : e2.size ≤ 2199023255552 := by
    rw [List.length_append] at hz;simp only [entB, pieceB, List.length_append, toB_len] at hle;omega
   have HE2 := Lib.hid (show ((S ++ varS e1) ++ ofB (pieceB e2)) ++ varS e3 = ofB (hd ++ (es.take (i + 1)).flatMap entB) by
    rw [hS, List.take_add_one, hx, Option.toList_some, List.flatMap_append, List.flatMap_singleton, ← List.append_assoc];exact entB_ofB _ (e0, e1, e2, e3))
   have hu1 := varS_size e1;have hu3 := varS_size e3;have hu2 : (ofB (pieceB e2)).size ≤ 2199023255559 := by rw [ofB_size]; have := pieceB_len e2; omega
   obtain ⟨u1, hq1⟩ : ∃ x, varS e1 = x := ⟨_, rfl⟩;obtain ⟨u2, hq2⟩ : ∃ x, ofB (pieceB e2) = x := ⟨_, rfl⟩;obtain ⟨u3, hq3⟩ : ∃ x, varS e3 = x := ⟨_, rfl⟩;rw [hq1] at hu1 HE2;rw [hq2] at hu2 HE2;rw [hq3] at hu3 HE2;have HQ1 := Lib.hid hq1;have HQ2 := Lib.hid hq2;have HQ3 := Lib.hid hq3;have HS := Lib.hid hS;have cc1 : (9223372036854775807 < S.size + u1.size) = False := eq_false (by omega);have cc2 : (9223372036854775807 < S.size + u1.size + u2.size) = False := eq_false (by omega);have cc3 : (9223372036854775807 < S.size + u1.size + u2.size + u3.size) = False := eq_false (by omega);rw [← hS];clear hS hq1 hq2 hq3 hle hx;go_wp2_with fail;have H2 := (H.lay_ 90 [.int .i64 e0, .int .i64 e1, .string e2, .int .i64 e3] rfl).drew;obtain ⟨g2, hg2⟩ : ∃ x, x = wr.heap.size := ⟨_, rfl⟩;rw [← hg2] at H2 ⊢;have HG2 := Lib.hid hg2;clear hg2 H ca0 ca1 ca2 ca3 y4 hcell;have H := H2;clear H2;have y1 := H.fa 0 1 rfl rfl;have y2 := H.fa 0 2 rfl rfl;have y3 := H.fa 0 3 rfl rfl;refine wp_region_held_drew (S := fun w' => w'.cell? ⟨g2, 1, none⟩ = some (.int .i64 e1) ∧ w'.cell? ⟨g2, 2, none⟩ = some (.string e2) ∧ w'.cell? ⟨g2, 3, none⟩ = some (.int .i64 e3)) (by kernel_rfl) ?_ (fun hHeld => ?_)
   ·exact ⟨y1, y2, y3⟩
   obtain ⟨u0, hu0⟩ : ∃ uu : World, uu = (wr.alloc (.cells #[.int .i64 e0, .int .i64 e1, .string e2, .int .i64 e3] 90)).drew := ⟨_, rfl⟩;rw [← hu0] at H hHeld ⊢;clear hu0;refine wpT 0 ?_;refine wpT 1 ?_;refine wpT 2 ?_;refine wpT 5 ?_;refine wpT 6 ?_;refine wpT 9 ?_;refine wpT 10 ?_;refine wpC 3 fun K hK => ?_;go_simp;refine (specVar_any e1 _).mono ?_;rintro e u1 ⟨rfl, f9⟩;replace H := H.go f9;clear f9;rw [HQ1.out];go_wp2_with fail;refine hK.out _ _ ?_ fun hHeld => ?_
   ·exact ⟨H.fa 0 1 rfl rfl, H.fa 0 2 rfl rfl, H.fa 0 3 rfl rfl⟩
   clear hK K;(try simp only [sX, Act.put]);refine wpT 4 ?_;refine wpC 7 fun K hK => ?_;go_simp;refine (specPiece_any e2 _ (by omega)).mono ?_;rintro e u2 ⟨rfl, f9⟩;replace H := H.go f9;clear f9;rw [HQ2.out];go_wp2_with fail;refine hK.out _ _ ?_ fun hHeld => ?_
   ·exact ⟨H.fa 0 1 rfl rfl, H.fa 0 2 rfl rfl, H.fa 0 3 rfl rfl⟩
   clear hK K;(try simp only [sX, Act.put]);refine wpT 8 ?_;refine wpC 11 fun K hK => ?_;go_simp;refine (specVar_any e3 _).mono ?_;rintro e u3 ⟨rfl, f9⟩;replace H := H.go f9;clear f9;rw [HQ3.out];go_wp2_with fail;refine hK.out _ _ ?_ fun hHeld => ?_
   ·exact ⟨H.fa 0 1 rfl rfl, H.fa 0 2 rfl rfl, H.fa 0 3 rfl rfl⟩
   clear hK K;(try simp only [sX, Act.put]);refine wpT 12 ?_;refine wpT 13 ?_;refine wpAnyH_done (by kernel_rfl) ?_ _;rw [HE2.out];have H9 := Lib.hid H.tail;clear y1 y2 y3 H cc1 cc2 cc3 hu1 hu2 hu3;go_wp2_with fail;go_roundw
   case rel => exact ⟨i + 1, rfl, by go_num, by omega, H9.out⟩
   case measure => simp [intOf]; omega
  ·have hlt1 : ¬ ((i : Int) < (m : Int)) := by omega
   have ht : es.take i = es := List.take_of_length_le (by rw [HM.out]; omega);rw [ht];go_wp2_with fail;go_ret;exact ⟨rfl, H.fr⟩
end Go.Proofs.YtmpldngnkacnmaaGreatDoor
