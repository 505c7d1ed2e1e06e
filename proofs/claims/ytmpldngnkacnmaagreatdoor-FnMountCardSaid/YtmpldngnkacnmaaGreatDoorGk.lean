/-
  Many texts in one: ShowTxn, Func, BelowI, MAgain, MVolDo.
-/
import Derived.Test.YtmpldngnkacnmaaGreatDoorTxnOk
import Derived.Test.YtmpldngnkacnmaaGreatDoorGj
import Derived.Test.YtmpldngnkacnmaaGreatDoorGd
import Derived.Test.YtmpldngnkacnmaaGreatDoorGf
import Derived.Test.YtmpldngnkacnmaaGreatDoorGh
import Derived.Test.YtmpldngnkacnmaaGreatDoorGe
import Derived.Test.YtmpldngnkacnmaaGreatDoorGa
set_option linter.unusedVariables false
set_option linter.unusedSimpArgs false
namespace Go.Proofs.YtmpldngnkacnmaaGreatDoor
open Go.RowKit
theorem outB_le {x : WrT} (h : x.2.size ≤ 400) : (outB x).length ≤ 414 := by
 rw [outB, List.length_append];have h1 := varB_len x.1;have h2 := pieceB_len x.2;omega
theorem flatO_le : ∀ (l : List WrT), (∀ x ∈ l, x.2.size ≤ 400) → (l.flatMap outB).length ≤ l.length * 414
 | [], _ => by simp
 | x :: l, h => by
   rw [List.flatMap_cons, List.length_append, List.length_cons, Nat.add_mul];have h1 := outB_le (h x List.mem_cons_self);have h2 := flatO_le l fun y hy => h y (List.mem_cons_of_mem _ hy);omega
set_option maxRecDepth 100000 in
set_option maxHeartbeats 8000000 in
theorem implShowTxn_any (seq : Int) (A : Option Addr) (n c : Nat) (l : List WrT) (w : World) (h : Rd w A n 2 (l.flatMap cWrite)) (hn : n ≤ 1048576) :
 Calls Tryz.prog 40 #[.agg #[.int .i64 seq, .slice A n c]] w fun e w' => e = .returned (.string (ofB (showT seq l))) ∧ Fr w w' := by
 have HL := Lib.hid (show l.length = n from h.lenk cWrite_len (by omega));have HR := Lib.hid h;obtain ⟨R, hR⟩ : ∃ R, R = ofB (showT seq l) := ⟨_, rfl⟩;rw [← hR];have HRR := Lib.hid hR;have H := (Hp.start w).lay_ 44 [.int .i64 seq, .slice A n c] rfl;clear h hR;have y0 := H.fa 0 0 rfl rfl;have y1 := H.fa 0 1 rfl rfl;obtain ⟨tb, htb⟩ : ∃ b, txnB seq l = b := ⟨_, rfl⟩;have HTB := Lib.hid htb;clear htb;go_enter Tryz.func40, Tryz.ntmps40;go_wp2_with fail;refine (implTxnOk_any seq A n c l _ (HR.out.fr H.fr) hn).mono ?_;rintro e w1 ⟨rfl, f1⟩;rw [HTB.out];replace H := H.go f1;clear f1 y0 y1
 cases tb with
 | false =>
   have HE := Lib.hid (show R = ByteArray.mk #[] by rw [HRR.out, showT, HTB.out]; rfl);go_wp2_with fail;go_ret;rw [HE.out];exact ⟨rfl, H.fr⟩
 | true =>
   have HX := txnB_R HTB.out;have hn17 : n ≤ 17 := by have := HX.len.2; rw [HL.out] at this; exact this
   have HOUT := Lib.hid HX.outs;clear HX;have hz0 := varS_size seq;have hz1 := varS_size (n : Int);obtain ⟨hd, hhd⟩ : ∃ x, x = 116 :: (varB seq ++ varB (n : Int)) := ⟨_, rfl⟩;have HB := Lib.hid (show bodyT seq l = hd ++ l.flatMap outB by rw [bodyT, HL.out, hhd]);have hhl : hd.length ≤ 15 := by
    rw [hhd, List.length_cons, List.length_append];have := varB_len seq;have := varB_len (n : Int);omega
   have HE := Lib.hid (show (ByteArray.mk #[116] ++ varS seq) ++ varS (n : Int) = ofB hd by
    have e : ByteArray.mk #[116] = ofB [116] := rfl;rw [e, varS, varS, ofB_append, ofB_append, hhd];simp [List.append_assoc])
   obtain ⟨t0, ht0⟩ : ∃ x, varS seq = x := ⟨_, rfl⟩;obtain ⟨t1, ht1⟩ : ∃ x, varS (n : Int) = x := ⟨_, rfl⟩;rw [ht0] at hz0;rw [ht1] at hz1;have HE := Lib.hid (show (ByteArray.mk #[116] ++ t0) ++ t1 = ofB hd by rw [← ht0, ← ht1]; exact HE.out);have HT0 := Lib.hid ht0;have HT1 := Lib.hid ht1;clear ht0 ht1 hhd;have cc0 : (9223372036854775807 < 1 + t0.size) = False := eq_false (by omega);have cc1 : (9223372036854775807 < 1 + t0.size + t1.size) = False := eq_false (by omega);go_wp2_with fail;replace H := H.drew;have y0 := H.fa 0 0 rfl rfl;have y1 := H.fa 0 1 rfl rfl;refine wp_region_held_drew (S := fun w' => w'.cell? ⟨w.heap.size, 0, none⟩ = some (.int .i64 seq) ∧ w'.cell? ⟨w.heap.size, 1, none⟩ = some (.slice A n c)) (by kernel_rfl) ?_ (fun hHeld => ?_)
   ·exact ⟨y0, y1⟩
   obtain ⟨u0, hu0⟩ : ∃ uu : World, uu = w1.drew := ⟨_, rfl⟩;rw [← hu0] at H hHeld ⊢;clear hu0;refine wpT 0 ?_;refine wpT 1 ?_;refine wpT 4 ?_;refine wpT 5 ?_;refine wpT 6 ?_;refine wpC 2 fun K hK => ?_;go_simp;refine (implVar_any seq _).mono ?_;rintro e u1 ⟨rfl, f9⟩;replace H := H.go f9;clear f9;rw [HT0.out];go_wp2_with fail;refine hK.out _ _ ?_ fun hHeld => ?_
   ·exact ⟨H.fa 0 0 rfl rfl, H.fa 0 1 rfl rfl⟩
   clear hK K;(try simp only [sX, Act.put]);refine wpT 3 ?_;refine wpC 7 fun K hK => ?_;go_simp;refine (implVar_any (n : Int) _).mono ?_;rintro e u2 ⟨rfl, f9⟩;replace H := H.go f9;clear f9;rw [HT1.out];go_wp2_with fail;refine hK.out _ _ ?_ fun hHeld => ?_
   ·exact ⟨H.fa 0 0 rfl rfl, H.fa 0 1 rfl rfl⟩
   clear hK K;(try simp only [sX, Act.put]);refine wpT 8 ?_;refine wpT 9 ?_;refine wpAnyH_done (by kernel_rfl) ?_ _;rw [HE.out];clear y0 y1 hz0 hz1 HT0 HT1 HE cc0 cc1;have y1 := H.fa 0 1 rfl rfl;go_wp2_with fail
   go_loopw [3, 21] (fun sv iv wr => ∃ i : Nat, sv = .string (ofB (hd ++ (l.take i).flatMap outB)) ∧ iv = .int .i64 i ∧ i ≤ n ∧ Hp [] w wr [.blk w.heap.size 44 [.int .i64 seq, .slice A n c]]) (fun _ iv _ => n - (intOf iv).toNat)
   case atStart => exact ⟨0, by simp, rfl, by omega, H⟩
   case round =>
    clear H y1;obtain ⟨i, rfl, rfl, hi, H⟩ := hrel;have hi0 : (0 : Int) ≤ (i : Int) := by omega
    have y1 := H.fa 0 1 rfl rfl;obtain ⟨S, hS⟩ : ∃ x, x = ofB (hd ++ (l.take i).flatMap outB) := ⟨_, rfl⟩;have hSz : S.size ≤ 8000 := by
     rw [hS, ofB_size, List.length_append];have h1 := flatO_le (l.take i) (fun x hx => (HOUT.out x (List.mem_of_mem_take hx)).2.2);have h2 : (l.take i).length ≤ 17 := by rw [List.length_take]; omega
     have h3 : (l.take i).length * 414 ≤ 17 * 414 := Nat.mul_le_mul_right _ h2;omega
    have HS := Lib.hid hS;rw [← hS];clear hS
    by_cases hlt : i < n
    ·have hlt1 : (i : Int) < (n : Int) := by omega
     obtain ⟨bk, of, rfl⟩ : ∃ bk of, A = some ⟨bk, of, none⟩ := by
      obtain ⟨b, o, e, _⟩ := HR.out.2 (by omega);exact ⟨b, o, e⟩
     obtain ⟨⟨x0, x1⟩, hx⟩ := some_at HL.out hlt;have hx400 : x1.size ≤ 400 := (HOUT.out _ (List.mem_of_getElem? hx)).2.2;obtain ⟨b', o', ea, hcell⟩ := (HR.out.fr H.fr).elem cWrite_len hx (by omega);injection ea with ea; injection ea with ea eb; subst ea eb;have ca0 := hcell 0 _ rfl; simp only [Nat.add_zero] at ca0;have ca1 := hcell 1 _ rfl;have HCE := Lib.hid (show ∀ w', Fr w w' → w'.cell? ⟨bk, of + i * 2, none⟩ = some (.int .i64 x0) ∧ w'.cell? ⟨bk, of + i * 2 + 1, none⟩ = some (.string x1) from fun w' f => by
      obtain ⟨b', o', ea, hc⟩ := (HR.out.fr f).elem cWrite_len hx (by omega);injection ea with ea; injection ea with ea eb; subst ea eb;exact ⟨hc 0 _ rfl, hc 1 _ rfl⟩)
     have HE2 := Lib.hid (show (S ++ varS x0) ++ ofB (pieceB x1) = ofB (hd ++ (l.take (i + 1)).flatMap outB) by
      rw [HS.out, List.take_add_one, hx, Option.toList_some, List.flatMap_append, List.flatMap_singleton, varS, ofB_append, ofB_append, outB];simp [List.append_assoc])
     have hu1 := varS_size x0;have hu2 : (ofB (pieceB x1)).size ≤ 407 := by rw [ofB_size]; have := pieceB_len x1; omega
     obtain ⟨u1, hq1⟩ : ∃ x, varS x0 = x := ⟨_, rfl⟩;obtain ⟨u2, hq2⟩ : ∃ x, ofB (pieceB x1) = x := ⟨_, rfl⟩;rw [hq1] at hu1 HE2;rw [hq2] at hu2 HE2;have HQ1 := Lib.hid hq1;have HQ2 := Lib.hid hq2;have cc1 : (9223372036854775807 < S.size + u1.size) = False := eq_false (by omega);have cc2 : (9223372036854775807 < S.size + u1.size + u2.size) = False := eq_false (by omega);clear hq1 hq2 hx hcell;go_wp2_with fail;have H2 := (H.lay_ 34 [.int .i64 x0, .string x1] rfl).drew;obtain ⟨gx, hgx⟩ : ∃ x, x = wr.heap.size := ⟨_, rfl⟩;rw [← hgx] at H2 ⊢;have HGX := Lib.hid hgx;clear hgx H ca0 ca1 y1;have H := H2;clear H2;have x0y := H.fa 0 0 rfl rfl;have x1y := H.fa 0 1 rfl rfl;refine wp_region_held_drew (S := fun w' => w'.cell? ⟨gx, 0, none⟩ = some (.int .i64 x0) ∧ w'.cell? ⟨gx, 1, none⟩ = some (.string x1)) (by kernel_rfl) ?_ (fun hHeld => ?_)
     ·exact ⟨x0y, x1y⟩
     obtain ⟨u0, hu0⟩ : ∃ uu : World, uu = (wr.alloc (.cells #[.int .i64 x0, .string x1] 34)).drew := ⟨_, rfl⟩;rw [← hu0] at H hHeld ⊢;clear hu0;refine wpT 0 ?_;refine wpT 1 ?_;refine wpT 2 ?_;refine wpT 5 ?_;refine wpT 6 ?_;refine wpC 3 fun K hK => ?_;go_simp;refine (implVar_any x0 _).mono ?_;rintro e u1 ⟨rfl, f9⟩;replace H := H.go f9;clear f9;rw [HQ1.out];go_wp2_with fail;refine hK.out _ _ ?_ fun hHeld => ?_
     ·exact ⟨H.fa 0 0 rfl rfl, H.fa 0 1 rfl rfl⟩
     clear hK K;(try simp only [sX, Act.put]);refine wpT 4 ?_;refine wpC 7 fun K hK => ?_;go_simp;refine (implPiece_any x1 _ (by omega)).mono ?_;rintro e u2 ⟨rfl, f9⟩;replace H := H.go f9;clear f9;rw [HQ2.out];go_wp2_with fail;refine hK.out _ _ ?_ fun hHeld => ?_
     ·exact ⟨H.fa 0 0 rfl rfl, H.fa 0 1 rfl rfl⟩
     clear hK K;(try simp only [sX, Act.put]);refine wpT 8 ?_;refine wpT 9 ?_;refine wpAnyH_done (by kernel_rfl) ?_ _;rw [HE2.out];have H9 := Lib.hid H.tail;clear x0y x1y H cc1 cc2 hu1 hu2;go_wp2_with fail;go_roundw
     case rel => exact ⟨i + 1, rfl, by go_num, by omega, H9.out⟩
     case measure => simp [intOf]; omega
    ·have hlt1 : ¬ (i : Int) < (n : Int) := by omega
     have HSB := Lib.hid (show toB S = bodyT seq l by rw [HS.out, toB_ofB, HB.out, List.take_of_length_le (by rw [HL.out]; omega)]);have HSZ := Lib.hid (show (bodyT seq l).length = S.size by rw [← HSB.out, toB_len]);obtain ⟨z, hz⟩ : ∃ z, z = (crcZ (bodyT seq l)).toNat := ⟨_, rfl⟩;have hzc := crcZ_in (bodyT seq l);have HZ := Lib.hid (show crcZ (toB S) = (z : Int) by rw [HSB.out, hz, Int.toNat_of_nonneg hzc.1]);have hzb : z < 4294967296 := by omega
     obtain ⟨Fx, hFx⟩ : ∃ x, x = ofB (fixB 4 z) := ⟨_, rfl⟩;have hfs : Fx.size = 4 := by rw [hFx, ofB_size, fixB_len]
     have HFX := Lib.hid hFx;have HALL := Lib.hid (show Fx ++ S = ofB (fixB 4 z ++ bodyT seq l) by
      rw [hFx, ← ofB_toB S, HSB.out, ofB_append])
     have HZ2 := Lib.hid hz;have hfs2 : Fx.size ≤ 4 := by omega
     have cc1 : (9223372036854775807 < Fx.size + S.size) = False := eq_false (by omega);clear hzc hz hFx
     by_cases h4 : 4000 < S.size + 4
     ·have HEE := Lib.hid (show R = ByteArray.mk #[] by
       rw [HRR.out, showT, HTB.out, HSZ.out, decide_eq_false (show ¬ S.size + 4 ≤ 4000 by omega)]; rfl)
      have h41 : (4000 : Int) < (S.size : Int) + 4 := by omega
      go_wp2_with fail;go_ret;rw [HEE.out];exact ⟨rfl, H.fr⟩
     ·have HEE := Lib.hid (show R = Fx ++ S by
       rw [HRR.out, showT, HTB.out, HSZ.out, decide_eq_true (show S.size + 4 ≤ 4000 by omega), HALL.out, HZ2.out]; rfl)
      have h41 : ¬ (4000 : Int) < (S.size : Int) + 4 := by omega
      go_wp2_with fail;refine (implCrc_any S _ (by omega)).mono ?_;rintro e w2 ⟨rfl, hw⟩;subst hw;rw [HZ.out];go_wp2_with fail;refine (implFixed_any z _ hzb).mono ?_;rintro e w3 ⟨rfl, f3⟩;rw [← HFX.out];replace H := H.go f3;clear f3;go_wp2_with fail;go_ret;rw [HEE.out];exact ⟨rfl, H.fr⟩
set_option maxRecDepth 100000 in
set_option maxHeartbeats 8000000 in
theorem specShowTxn_any (seq : Int) (A : Option Addr) (n c : Nat) (l : List WrT) (w : World) (h : Rd w A n 2 (l.flatMap cWrite)) (hn : n ≤ 1048576) :
 Calls Tryz.prog 34 #[.agg #[.int .i64 seq, .slice A n c]] w fun e w' => e = .returned (.string (ofB (showT seq l))) ∧ Fr w w' := by
 have HL := Lib.hid (show l.length = n from h.lenk cWrite_len (by omega));have HR := Lib.hid h;obtain ⟨R, hR⟩ : ∃ R, R = ofB (showT seq l) := ⟨_, rfl⟩;rw [← hR];have HRR := Lib.hid hR;have H := (Hp.start w).lay_ 44 [.int .i64 seq, .slice A n c] rfl;clear h hR;have y0 := H.fa 0 0 rfl rfl;have y1 := H.fa 0 1 rfl rfl;obtain ⟨tb, htb⟩ : ∃ b, txnB seq l = b := ⟨_, rfl⟩;have HTB := Lib.hid htb;clear htb;go_enter Tryz.func34, Tryz.ntmps34;go_wp2_with fail;refine (specTxnOk_any seq A n c l _ (HR.out.fr H.fr) hn).mono ?_;rintro e w1 ⟨rfl, f1⟩;rw [HTB.out];replace H := H.go f1;clear f1 y0 y1
 cases tb with
 | false =>
   have HE := Lib.hid (show R = ByteArray.mk #[] by rw [HRR.out, showT, HTB.out]; rfl);go_wp2_with fail;go_ret;rw [HE.out];exact ⟨rfl, H.fr⟩
 | true =>
   have HX := txnB_R HTB.out;have hn17 : n ≤ 17 := by have := HX.len.2; rw [HL.out] at this; exact this
   have HOUT := Lib.hid HX.outs;clear HX;have hz0 := varS_size seq;have hz1 := varS_size (n : Int);obtain ⟨hd, hhd⟩ : ∃ x, x = 116 :: (varB seq ++ varB (n : Int)) := ⟨_, rfl⟩;have HB := Lib.hid (show bodyT seq l = hd ++ l.flatMap outB by rw [bodyT, HL.out, hhd]);have hhl : hd.length ≤ 15 := by
    rw [hhd, List.length_cons, List.length_append];have := varB_len seq;have := varB_len (n : Int);omega
   have HE := Lib.hid (show (ByteArray.mk #[116] ++ varS seq) ++ varS (n : Int) = ofB hd by
    have e : ByteArray.mk #[116] = ofB [116] := rfl;rw [e, varS, varS, ofB_append, ofB_append, hhd];simp [List.append_assoc])
   obtain ⟨t0, ht0⟩ : ∃ x, varS seq = x := ⟨_, rfl⟩;obtain ⟨t1, ht1⟩ : ∃ x, varS (n : Int) = x := ⟨_, rfl⟩;rw [ht0] at hz0;rw [ht1] at hz1;have HE := Lib.hid (show (ByteArray.mk #[116] ++ t0) ++ t1 = ofB hd by rw [← ht0, ← ht1]; exact HE.out);have HT0 := Lib.hid ht0;have HT1 := Lib.hid ht1;clear ht0 ht1 hhd;have cc0 : (9223372036854775807 < 1 + t0.size) = False := eq_false (by omega);have cc1 : (9223372036854775807 < 1 + t0.size + t1.size) = False := eq_false (by omega);go_wp2_with fail;replace H := H.drew;have y0 := H.fa 0 0 rfl rfl;have y1 := H.fa 0 1 rfl rfl;refine wp_region_held_drew (S := fun w' => w'.cell? ⟨w.heap.size, 0, none⟩ = some (.int .i64 seq) ∧ w'.cell? ⟨w.heap.size, 1, none⟩ = some (.slice A n c)) (by kernel_rfl) ?_ (fun hHeld => ?_)
   ·exact ⟨y0, y1⟩
   obtain ⟨u0, hu0⟩ : ∃ uu : World, uu = w1.drew := ⟨_, rfl⟩;rw [← hu0] at H hHeld ⊢;clear hu0;refine wpT 0 ?_;refine wpT 1 ?_;refine wpT 4 ?_;refine wpT 5 ?_;refine wpT 6 ?_;refine wpC 2 fun K hK => ?_;go_simp;refine (specVar_any seq _).mono ?_;rintro e u1 ⟨rfl, f9⟩;replace H := H.go f9;clear f9;rw [HT0.out];go_wp2_with fail;refine hK.out _ _ ?_ fun hHeld => ?_
   ·exact ⟨H.fa 0 0 rfl rfl, H.fa 0 1 rfl rfl⟩
   clear hK K;(try simp only [sX, Act.put]);refine wpT 3 ?_;refine wpC 7 fun K hK => ?_;go_simp;refine (specVar_any (n : Int) _).mono ?_;rintro e u2 ⟨rfl, f9⟩;replace H := H.go f9;clear f9;rw [HT1.out];go_wp2_with fail;refine hK.out _ _ ?_ fun hHeld => ?_
   ·exact ⟨H.fa 0 0 rfl rfl, H.fa 0 1 rfl rfl⟩
   clear hK K;(try simp only [sX, Act.put]);refine wpT 8 ?_;refine wpT 9 ?_;refine wpAnyH_done (by kernel_rfl) ?_ _;rw [HE.out];clear y0 y1 hz0 hz1 HT0 HT1 HE cc0 cc1;have y1 := H.fa 0 1 rfl rfl;go_wp2_with fail
   go_loopw [3, 4] (fun sv iv wr => ∃ i : Nat, sv = .string (ofB (hd ++ (l.take i).flatMap outB)) ∧ iv = .int .i64 i ∧ i ≤ n ∧ Hp [] w wr [.blk w.heap.size 44 [.int .i64 seq, .slice A n c]]) (fun _ iv _ => n - (intOf iv).toNat)
   case atStart => exact ⟨0, by simp, rfl, by omega, H⟩
   case round =>
    clear H y1;obtain ⟨i, rfl, rfl, hi, H⟩ := hrel;have hi0 : (0 : Int) ≤ (i : Int) := by omega
    have y1 := H.fa 0 1 rfl rfl;obtain ⟨S, hS⟩ : ∃ x, x = ofB (hd ++ (l.take i).flatMap outB) := ⟨_, rfl⟩;have hSz : S.size ≤ 8000 := by
     rw [hS, ofB_size, List.length_append];have h1 := flatO_le (l.take i) (fun x hx => (HOUT.out x (List.mem_of_mem_take hx)).2.2);have h2 : (l.take i).length ≤ 17 := by rw [List.length_take]; omega
     have h3 : (l.take i).length * 414 ≤ 17 * 414 := Nat.mul_le_mul_right _ h2;omega
    have HS := Lib.hid hS;rw [← hS];clear hS
    by_cases hlt : i < n
    ·have hlt1 : (i : Int) < (n : Int) := by omega
     obtain ⟨bk, of, rfl⟩ : ∃ bk of, A = some ⟨bk, of, none⟩ := by
      obtain ⟨b, o, e, _⟩ := HR.out.2 (by omega);exact ⟨b, o, e⟩
     obtain ⟨⟨x0, x1⟩, hx⟩ := some_at HL.out hlt;have hx400 : x1.size ≤ 400 := (HOUT.out _ (List.mem_of_getElem? hx)).2.2;obtain ⟨b', o', ea, hcell⟩ := (HR.out.fr H.fr).elem cWrite_len hx (by omega);injection ea with ea; injection ea with ea eb; subst ea eb;have ca0 := hcell 0 _ rfl; simp only [Nat.add_zero] at ca0;have ca1 := hcell 1 _ rfl;have HCE := Lib.hid (show ∀ w', Fr w w' → w'.cell? ⟨bk, of + i * 2, none⟩ = some (.int .i64 x0) ∧ w'.cell? ⟨bk, of + i * 2 + 1, none⟩ = some (.string x1) from fun w' f => by
      obtain ⟨b', o', ea, hc⟩ := (HR.out.fr f).elem cWrite_len hx (by omega);injection ea with ea; injection ea with ea eb; subst ea eb;exact ⟨hc 0 _ rfl, hc 1 _ rfl⟩)
     have HE2 := Lib.hid (show (S ++ varS x0) ++ ofB (pieceB x1) = ofB (hd ++ (l.take (i + 1)).flatMap outB) by
      rw [HS.out, List.take_add_one, hx, Option.toList_some, List.flatMap_append, List.flatMap_singleton, varS, ofB_append, ofB_append, outB];simp [List.append_assoc])
     have hu1 := varS_size x0;have hu2 : (ofB (pieceB x1)).size ≤ 407 := by rw [ofB_size]; have := pieceB_len x1; omega
     obtain ⟨u1, hq1⟩ : ∃ x, varS x0 = x := ⟨_, rfl⟩;obtain ⟨u2, hq2⟩ : ∃ x, ofB (pieceB x1) = x := ⟨_, rfl⟩;rw [hq1] at hu1 HE2;rw [hq2] at hu2 HE2;have HQ1 := Lib.hid hq1;have HQ2 := Lib.hid hq2;have cc1 : (9223372036854775807 < S.size + u1.size) = False := eq_false (by omega);have cc2 : (9223372036854775807 < S.size + u1.size + u2.size) = False := eq_false (by omega);clear hq1 hq2 hx hcell;clear ca0 ca1;go_wp2_with fail;clear y1;replace H := H.drew;have y0 := H.fa 0 0 rfl rfl;have y1 := H.fa 0 1 rfl rfl;have x0y := (HCE.out _ H.fr).1;have x1y := (HCE.out _ H.fr).2;refine wp_region_held_drew (S := fun w' => w'.cell? ⟨w.heap.size, 0, none⟩ = some (.int .i64 seq) ∧ w'.cell? ⟨w.heap.size, 1, none⟩ = some (.slice (some ⟨bk, of, none⟩) n c) ∧ w'.cell? ⟨bk, of + i * 2, none⟩ = some (.int .i64 x0) ∧ w'.cell? ⟨bk, of + i * 2 + 1, none⟩ = some (.string x1)) (by kernel_rfl) ?_ (fun hHeld => ?_)
     ·exact ⟨y0, y1, x0y, x1y⟩
     obtain ⟨u0, hu0⟩ : ∃ uu : World, uu = wr.drew := ⟨_, rfl⟩;rw [← hu0] at H hHeld ⊢;clear hu0;refine wpT 0 ?_;refine wpT 1 ?_;refine wpT 2 ?_;refine wpT 3 ?_;refine wpT 4 ?_;refine wpT 5 ?_;refine wpT 6 ?_;refine wpT 9 ?_;refine wpT 10 ?_;refine wpT 11 ?_;refine wpT 12 ?_;refine wpT 13 ?_;refine wpT 14 ?_;refine wpC 7 fun K hK => ?_;go_simp;refine (specVar_any x0 _).mono ?_;rintro e u1 ⟨rfl, f9⟩;replace H := H.go f9;clear f9;rw [HQ1.out];go_wp2_with fail;refine hK.out _ _ ?_ fun hHeld => ?_
     ·exact ⟨H.fa 0 0 rfl rfl, H.fa 0 1 rfl rfl, (HCE.out _ H.fr).1, (HCE.out _ H.fr).2⟩
     clear hK K;(try simp only [sX, Act.put]);refine wpT 8 ?_;refine wpC 15 fun K hK => ?_;go_simp;refine (specPiece_any x1 _ (by omega)).mono ?_;rintro e u2 ⟨rfl, f9⟩;replace H := H.go f9;clear f9;rw [HQ2.out];go_wp2_with fail;refine hK.out _ _ ?_ fun hHeld => ?_
     ·exact ⟨H.fa 0 0 rfl rfl, H.fa 0 1 rfl rfl, (HCE.out _ H.fr).1, (HCE.out _ H.fr).2⟩
     clear hK K;(try simp only [sX, Act.put]);refine wpT 16 ?_;refine wpT 17 ?_;refine wpAnyH_done (by kernel_rfl) ?_ _;rw [HE2.out];have H9 := Lib.hid H;clear y0 y1 x0y x1y H cc1 cc2 hu1 hu2;go_wp2_with fail;go_roundw
     case rel => exact ⟨i + 1, rfl, by go_num, by omega, H9.out⟩
     case measure => simp [intOf]; omega
    ·have hlt1 : ¬ (i : Int) < (n : Int) := by omega
     have HSB := Lib.hid (show toB S = bodyT seq l by rw [HS.out, toB_ofB, HB.out, List.take_of_length_le (by rw [HL.out]; omega)]);have HSZ := Lib.hid (show (bodyT seq l).length = S.size by rw [← HSB.out, toB_len]);obtain ⟨z, hz⟩ : ∃ z, z = (crcZ (bodyT seq l)).toNat := ⟨_, rfl⟩;have hzc := crcZ_in (bodyT seq l);have HZ := Lib.hid (show crcZ (toB S) = (z : Int) by rw [HSB.out, hz, Int.toNat_of_nonneg hzc.1]);have hzb : z < 4294967296 := by omega
     obtain ⟨Fx, hFx⟩ : ∃ x, x = ofB (fixB 4 z) := ⟨_, rfl⟩;have hfs : Fx.size = 4 := by rw [hFx, ofB_size, fixB_len]
     have HFX := Lib.hid hFx;have HALL := Lib.hid (show Fx ++ S = ofB (fixB 4 z ++ bodyT seq l) by
      rw [hFx, ← ofB_toB S, HSB.out, ofB_append])
     have HZ2 := Lib.hid hz;have hfs2 : Fx.size ≤ 4 := by omega
     have cc1 : (9223372036854775807 < Fx.size + S.size) = False := eq_false (by omega);clear hzc hz hFx
     by_cases h4 : 4000 < S.size + 4
     ·have HEE := Lib.hid (show R = ByteArray.mk #[] by
       rw [HRR.out, showT, HTB.out, HSZ.out, decide_eq_false (show ¬ S.size + 4 ≤ 4000 by omega)]; rfl)
      have hTs : 4000 < (Fx ++ S).size := by rw [ByteArray.size_append]; omega
      clear hfs;go_wp2_with fail;refine (specCrc_any S _ (by omega)).mono ?_;rintro e w2 ⟨rfl, hw⟩;subst hw;rw [HZ.out];go_wp2_with fail;refine (specFixed_any z _ hzb).mono ?_;rintro e w3 ⟨rfl, f3⟩;rw [← HFX.out];replace H := H.go f3;clear f3;obtain ⟨T, hT⟩ : ∃ T, T = Fx ++ S := ⟨_, rfl⟩;have hex : Fx ++ S = T := hT.symm;have HTT := Lib.hid hT;rw [← hT] at hTs;clear hT;have h41 : (4000 : Int) < (T.size : Int) := by omega
      go_wp2_with fail;go_ret;rw [HEE.out];exact ⟨rfl, H.fr⟩
     ·have HEE := Lib.hid (show R = Fx ++ S by
       rw [HRR.out, showT, HTB.out, HSZ.out, decide_eq_true (show S.size + 4 ≤ 4000 by omega), HALL.out, HZ2.out]; rfl)
      have hTs : ¬ 4000 < (Fx ++ S).size := by rw [ByteArray.size_append]; omega
      clear hfs;go_wp2_with fail;refine (specCrc_any S _ (by omega)).mono ?_;rintro e w2 ⟨rfl, hw⟩;subst hw;rw [HZ.out];go_wp2_with fail;refine (specFixed_any z _ hzb).mono ?_;rintro e w3 ⟨rfl, f3⟩;rw [← HFX.out];replace H := H.go f3;clear f3;obtain ⟨T, hT⟩ : ∃ T, T = Fx ++ S := ⟨_, rfl⟩;have hex : Fx ++ S = T := hT.symm;have HTT := Lib.hid hT;rw [← hT] at hTs;clear hT;have h41 : ¬ (4000 : Int) < (T.size : Int) := by omega
      go_wp2_with fail;go_ret;rw [HEE.out, ← HTT.out];exact ⟨rfl, H.fr⟩
end Go.Proofs.YtmpldngnkacnmaaGreatDoor
namespace Go.Proofs.YtmpldngnkacnmaaGreatDoor
open Go.RowKit
def findZ {α : Type} (P : α → Bool) (l : List α) : Int := match l.findIdx? P with
 | some k => (k : Int)
 | none => -1
theorem findZ_hit {α : Type} {P : α → Bool} {l : List α} {k : Nat} {x : α} (hno : ∀ y ∈ l.take k, P y = false) (hx : l[k]? = some x) (he : P x = true) : findZ P l = (k : Int) := by
 have : l.findIdx? P = some k := by
  obtain ⟨hk, hxe⟩ := List.getElem?_eq_some_iff.1 hx;refine List.findIdx?_eq_some_iff_getElem.2 ⟨hk, by rw [hxe]; exact he, fun j hj => ?_⟩;have hjm : l[j] ∈ l.take k := by
   rw [List.mem_take_iff_getElem];exact ⟨j, by omega, rfl⟩
  simp [hno _ hjm]
 rw [findZ, this]
theorem findZ_miss {α : Type} {P : α → Bool} {l : List α} (hno : ∀ y ∈ l, P y = false) : findZ P l = -1 := by
 have : l.findIdx? P = none := List.findIdx?_eq_none_iff.2 fun x hx => hno x hx;rw [findZ, this]
theorem findZ_any {α : Type} (P : α → Bool) (l : List α) : decide (0 ≤ findZ P l) = l.any P := by
 unfold findZ
 cases h : l.findIdx? P with
 | none =>
   have h1 : l.any P = false := by
    rw [List.any_eq_false];intro x hx;have := List.findIdx?_eq_none_iff.1 h x hx;simp [this]
   rw [h1]; decide
 | some k =>
   obtain ⟨hk, h1, _⟩ := List.findIdx?_eq_some_iff_getElem.1 h;have h2 : l.any P = true := List.any_eq_true.2 ⟨l[k], List.getElem_mem hk, h1⟩;rw [h2]; simp
theorem take_no {α : Type} {P : α → Bool} {l : List α} {i : Nat} {x : α} (hno : ∀ y ∈ l.take i, P y = false) (hx : l[i]? = some x) (he : P x = false) : ∀ y ∈ l.take (i + 1), P y = false := by
 intro y hy;rw [List.take_add_one, hx] at hy
 rcases List.mem_append.1 hy with h | h
 ·exact hno y h
 ·simp only [Option.toList_some, List.mem_singleton] at h
  rw [h]; exact he
set_option maxRecDepth 100000 in
set_option maxHeartbeats 2000000 in
theorem idxE_inodeOk (cap : Value) (P : EntT → Bool) (A : Option Addr) (n c : Nat) (l : List EntT) (w : World) (h : Rd w A n 4 (l.flatMap cEnt)) (hn : n ≤ 1048576)
 (hP : ∀ e ∈ l, ∀ w', Fr w w' → Calls Tryz.prog 104 #[.agg #[.int .i64 e.1, .int .i64 e.2.1, .string e.2.2.1, .int .i64 e.2.2.2], cap] w' fun r w'' => r = .returned (.bool (P e)) ∧ Fr w' w'') :
 Calls Tryz.prog 122 #[.slice A n c, .func (.func 104) #[] #[cap]] w fun e w' => e = .returned (.int .i64 (findZ P l)) ∧ Fr w w' := by
 have HL := Lib.hid (h.lenk cEnt_len (by omega));have HR := Lib.hid h;have HP := Lib.hid hP;clear h hP;obtain ⟨z, hz⟩ : ∃ z, z = findZ P l := ⟨_, rfl⟩;rw [← hz];have HZ := Lib.hid hz;clear hz;go_enter Tryz.func122, Tryz.ntmps122;go_wp2_with fail
 go_loopw [5, 8] (fun jv iv wr => ∃ i : Nat, iv = .int .i64 i ∧ i ≤ n ∧ (∀ y ∈ l.take i, P y = false) ∧ Fr w wr) (fun _ iv _ => n - (intOf iv).toNat)
 case atStart => exact ⟨0, rfl, by omega, by simp, Below.refl _ _⟩
 case round =>
  obtain ⟨i, rfl, hi, hno, hf⟩ := hrel;have HO := Lib.hid hno;have HF := Lib.hid hf;clear hno hf;have hi0 : (0 : Int) ≤ (i : Int) := by omega
  by_cases hlt : i < n
  ·have hi1 : (i : Int) < (n : Int) := by omega
   obtain ⟨⟨x0, x1, x2, x3⟩, hx⟩ := at_some HL.out hlt;obtain ⟨bk, of, rfl, hcell⟩ := (HR.out.fr HF.out).elem cEnt_len hx (by omega);have ca0 := hcell 0 _ rfl; simp only [Nat.add_zero] at ca0;have ca1 := hcell 1 _ rfl;have ca2 := hcell 2 _ rfl;have ca3 := hcell 3 _ rfl;have HX := Lib.hid hx;clear hx hcell;go_wp2_with fail;have HC := HP.out _ (HX.out.mem) _ HF.out;simp only at HC;refine HC.mono ?_;clear HC;rintro e w2 ⟨rfl, f2⟩;obtain ⟨pb, hpb⟩ : ∃ b, P (x0, x1, x2, x3) = b := ⟨_, rfl⟩;have HPB := Lib.hid hpb;rw [hpb];clear hpb
   cases pb with
   | true =>
     have HE := Lib.hid (HZ.out.trans (findZ_hit HO.out HX.out HPB.out));go_wp2_with fail;go_ret;rw [HE.out];exact ⟨rfl, HF.out.then f2⟩
   | false =>
     have HO2 := Lib.hid (take_no HO.out HX.out HPB.out);have F2 := Lib.hid (HF.out.then f2);clear f2;go_wp2_with fail;go_roundw
     case rel => exact ⟨i + 1, by go_num, by omega, HO2.out, F2.out⟩
     case measure => simp [intOf]; omega
  ·have hi1 : ¬ (i : Int) < (n : Int) := by omega
   have HE := Lib.hid (HZ.out.trans (findZ_miss (by
    have := HO.out
    rwa [List.take_of_length_le (by rw [HL.out]; omega)] at this)))
   go_wp2_with fail;go_ret;rw [HE.out];exact ⟨rfl, HF.out⟩
set_option maxRecDepth 100000 in
set_option maxHeartbeats 2000000 in
theorem idxN_volOk (cap : Value) (P : (Value × Nod) → Bool) (A : Option Addr) (n c : Nat) (l : List (Value × Nod)) (w : World) (h : RdN w A n l) (hn : n ≤ 1048576)
 (hP : ∀ p ∈ l, ∀ w', Fr w w' → Calls Tryz.prog 81 #[.agg #[.int .i64 p.2.1, .int .i64 p.2.2.1, .int .i64 p.2.2.2.1, .string p.2.2.2.2.1, p.1], cap] w' fun r w'' => r = .returned (.bool (P p)) ∧ Fr w' w'') :
 Calls Tryz.prog 106 #[.slice A n c, .func (.func 81) #[] #[cap]] w fun e w' => e = .returned (.int .i64 (findZ P l)) ∧ Fr w w' := by
 have HL := Lib.hid (h.len);have HR := Lib.hid h;have HP := Lib.hid hP;clear h hP;obtain ⟨z, hz⟩ : ∃ z, z = findZ P l := ⟨_, rfl⟩;rw [← hz];have HZ := Lib.hid hz;clear hz;go_enter Tryz.func106, Tryz.ntmps106;go_wp2_with fail
 go_loopw [5, 8] (fun jv iv wr => ∃ i : Nat, iv = .int .i64 i ∧ i ≤ n ∧ (∀ y ∈ l.take i, P y = false) ∧ Fr w wr) (fun _ iv _ => n - (intOf iv).toNat)
 case atStart => exact ⟨0, rfl, by omega, by simp, Below.refl _ _⟩
 case round =>
  obtain ⟨i, rfl, hi, hno, hf⟩ := hrel;have HO := Lib.hid hno;have HF := Lib.hid hf;clear hno hf;have hi0 : (0 : Int) ≤ (i : Int) := by omega
  by_cases hlt : i < n
  ·have hi1 : (i : Int) < (n : Int) := by omega
   obtain ⟨⟨v, x0, x1, x2, x3, es⟩, hx⟩ := at_some HL.out hlt;obtain ⟨bk, of, B1, d1, rfl, e1, r1, c1⟩ := (HR.out.fr HF.out).elem hx;simp only at e1 r1;subst e1;have ca0 := c1 0 _ rfl; simp only [Nat.add_zero] at ca0;have ca1 := c1 1 _ rfl;have ca2 := c1 2 _ rfl;have ca3 := c1 3 _ rfl;have ca4 := c1 4 _ rfl;have HX := Lib.hid hx;clear hx c1 r1;go_wp2_with fail;have HC := HP.out _ (HX.out.mem) _ HF.out;simp only at HC;refine HC.mono ?_;clear HC;rintro e w2 ⟨rfl, f2⟩;obtain ⟨pb, hpb⟩ : ∃ b, P (.slice B1 es.length d1, x0, x1, x2, x3, es) = b := ⟨_, rfl⟩;have HPB := Lib.hid hpb;rw [hpb];clear hpb
   cases pb with
   | true =>
     have HE := Lib.hid (HZ.out.trans (findZ_hit HO.out HX.out HPB.out));go_wp2_with fail;go_ret;rw [HE.out];exact ⟨rfl, HF.out.then f2⟩
   | false =>
     have HO2 := Lib.hid (take_no HO.out HX.out HPB.out);have F2 := Lib.hid (HF.out.then f2);clear f2;go_wp2_with fail;go_roundw
     case rel => exact ⟨i + 1, by go_num, by omega, HO2.out, F2.out⟩
     case measure => simp [intOf]; omega
  ·have hi1 : ¬ (i : Int) < (n : Int) := by omega
   have HE := Lib.hid (HZ.out.trans (findZ_miss (by
    have := HO.out
    rwa [List.take_of_length_le (by rw [HL.out]; omega)] at this)))
   go_wp2_with fail;go_ret;rw [HE.out];exact ⟨rfl, HF.out⟩
set_option maxRecDepth 100000 in
set_option maxHeartbeats 2000000 in
theorem hasE_inodeOk (cap : Value) (P : EntT → Bool) (A : Option Addr) (n c : Nat) (l : List EntT) (w : World) (h : Rd w A n 4 (l.flatMap cEnt)) (hn : n ≤ 1048576)
 (hP : ∀ e ∈ l, ∀ w', Fr w w' → Calls Tryz.prog 104 #[.agg #[.int .i64 e.1, .int .i64 e.2.1, .string e.2.2.1, .int .i64 e.2.2.2], cap] w' fun r w'' => r = .returned (.bool (P e)) ∧ Fr w' w'') :
 Calls Tryz.prog 103 #[.slice A n c, .func (.func 104) #[] #[cap]] w fun e w' => e = .returned (.bool (l.any P)) ∧ Fr w w' := by
 have HR := Lib.hid h;have HP := Lib.hid hP;clear h hP;have HA := Lib.hid (findZ_any P l);obtain ⟨z, hz⟩ : ∃ z, z = findZ P l := ⟨_, rfl⟩;rw [← hz] at HA;have HZ := Lib.hid hz;rw [← HA.out];clear hz;go_enter Tryz.func103, Tryz.ntmps103;go_wp2_with fail;refine (idxE_inodeOk cap P A n c l _ HR.out hn HP.out).mono ?_;rintro e w2 ⟨rfl, f2⟩;rw [← HZ.out]
 by_cases h0 : 0 ≤ z
 ·have HE := Lib.hid (decide_eq_true h0)
  go_wp2_with fail;go_ret;rw [HE.out];exact ⟨rfl, f2⟩
 ·have HE := Lib.hid (decide_eq_false h0)
  go_wp2_with fail;go_ret;rw [HE.out];exact ⟨rfl, f2⟩
set_option maxRecDepth 100000 in
set_option maxHeartbeats 2000000 in
theorem hasN_volOk (cap : Value) (P : (Value × Nod) → Bool) (A : Option Addr) (n c : Nat) (l : List (Value × Nod)) (w : World) (h : RdN w A n l) (hn : n ≤ 1048576)
 (hP : ∀ p ∈ l, ∀ w', Fr w w' → Calls Tryz.prog 81 #[.agg #[.int .i64 p.2.1, .int .i64 p.2.2.1, .int .i64 p.2.2.2.1, .string p.2.2.2.2.1, p.1], cap] w' fun r w'' => r = .returned (.bool (P p)) ∧ Fr w' w'') :
 Calls Tryz.prog 80 #[.slice A n c, .func (.func 81) #[] #[cap]] w fun e w' => e = .returned (.bool (l.any P)) ∧ Fr w w' := by
 have HR := Lib.hid h;have HP := Lib.hid hP;clear h hP;have HA := Lib.hid (findZ_any P l);obtain ⟨z, hz⟩ : ∃ z, z = findZ P l := ⟨_, rfl⟩;rw [← hz] at HA;have HZ := Lib.hid hz;rw [← HA.out];clear hz;go_enter Tryz.func80, Tryz.ntmps80;go_wp2_with fail;refine (idxN_volOk cap P A n c l _ HR.out hn HP.out).mono ?_;rintro e w2 ⟨rfl, f2⟩;rw [← HZ.out]
 by_cases h0 : 0 ≤ z
 ·have HE := Lib.hid (decide_eq_true h0)
  go_wp2_with fail;go_ret;rw [HE.out];exact ⟨rfl, f2⟩
 ·have HE := Lib.hid (decide_eq_false h0)
  go_wp2_with fail;go_ret;rw [HE.out];exact ⟨rfl, f2⟩
end Go.Proofs.YtmpldngnkacnmaaGreatDoor
namespace Go.Proofs.YtmpldngnkacnmaaGreatDoor
open Go.RowKit
def slen : Value → Nat
 | .slice _ n _ => n
 | _ => 0
theorem Hp.castW {W : List Nat} {w0 w w' : World} {l : List Ob} (h : Hp W w0 w l) (e : w = w') : Hp W w0 w' l := e ▸ h
theorem Hp.lit_ {W : List Nat} {w0 w : World} {l : List Ob} (h : Hp W w0 w l) (E : TypeId) (k n : Nat) (cs : List Value) (hs : cs.length = n * k) (hn : n ≤ maxLen) {g : Nat} (hg : g = w.heap.size) : Hp W w0 (w.alloc (.cells cs.toArray E)) (.row E k (.slice (some ⟨g, 0, none⟩) n n) n cs :: l) := by
 subst hg; exact h.lit E k n cs hs hn
set_option maxRecDepth 100000 in
set_option maxHeartbeats 8000000 in
theorem implBelow_any (next : Int) (A : Option Addr) (n c : Nat) (L : List (Value × Nod)) (id : Int) (w : World) (h : RdN w A n L) (hn : n ≤ 1048576) (hfew : FewE L) (hall : (allIds (nodes L)).length ≤ 1000000) :
 Calls Tryz.prog 79 #[.agg #[.int .i64 next, .slice A n c], .int .i64 id] w fun e w' => ∃ (B : Option Addr) (d : Nat) (out : List Int), e = .returned (.slice B out.length d) ∧ (∀ x, x ∈ out ↔ Blw (nodes L) id x) ∧ out.length ≤ 1000000 ∧ w'.ownsRow w.heap.size 3 1 (.slice B out.length d) out.length (out.map (Value.int .i64)) ∧ Fr w w' := by
 have HL := Lib.hid h.len;have HR := Lib.hid h;have HFE := Lib.hid hfew;obtain ⟨T, hT⟩ : ∃ T, T = (allIds (nodes L)).length := ⟨_, rfl⟩;rw [← hT] at hall;have HT := Lib.hid hT;clear hT h hfew;have H0 := (((Hp.start w).lay_ 28 [.int .i64 next, .slice A n c] rfl).lit_ 3 1 0 [] rfl (by simp [maxLen]) (g := w.heap.size + 1) (by simp)).lit_ 3 1 1 [.int .i64 id] rfl (by simp [maxLen]) (g := w.heap.size + 1 + 1) (by simp);go_enter Tryz.func79, Tryz.ntmps79;go_wp2_with fail
 go_loopw [5, 6] (fun ov qv wr => ∃ (out Q ql : List Int) (gq nq cq j r s : Nat), qv = .slice (some ⟨gq, j, none⟩) r s ∧ Left nq cq j r s Q ql ∧ ql.length = r ∧ nq ≤ out.length + 1 ∧ Bq (nodes L) id out ql none [] ∧ Hp [] w wr [.row 3 1 (.slice (some ⟨gq, 0, none⟩) nq cq) nq (Q.map (Value.int .i64)), .row 3 1 ov out.length (out.map (Value.int .i64)), .blk w.heap.size 28 [.int .i64 next, .slice A n c]]) (fun ov qv _ => 2 * (T - slen ov) + slen qv)
 case atStart => exact ⟨[], [id], [id], w.heap.size + 1 + 1, 1, 1, 0, 1, 1, rfl, .inr ⟨rfl, rfl, rfl⟩, rfl, by simp, Bq.start _ _, H0⟩
 case round =>
  clear H0;obtain ⟨out, Q, ql, gq, nq, cq, j, r, s, rfl, hlf, hqr, hnq, hbq, H⟩ := hrel;obtain ⟨C, oc, rfl⟩ := H.shape 1 rfl;have hol := hbq.len;rw [← HT.out] at hol
  cases ql with
  | nil =>
    have hr0 : r = 0 := hqr.symm;subst hr0;have HB := Lib.hid hbq;clear hlf hbq;go_wp2_with fail;go_ret;exact ⟨_, _, out, rfl, HB.out.done, by omega, H.out 1 rfl, H.fr⟩
  | cons x ql1 =>
    have hr1 : r = ql1.length + 1 := by rw [← hqr]; rfl
    subst hr1;have hlf2 := hlf.resolve_left (fun h => by have := h.1; omega);obtain ⟨hnq1, hcq1, hdr⟩ := hlf2;have hlenQ : Q.length = nq := by simpa using (H.row 0 rfl).1
    have hncap : nq ≤ cq := by
     obtain ⟨_, _, _, e, _, _, h3, _⟩ := ((H.row 0 rfl).2).resolve_left (fun h => by cases h.1);injection e with _ _ e;rw [e]; exact h3
    have HX := Lib.hid (show Q[j]? = some x by
     have := congrArg (fun l => l[0]?) hdr;simpa using this.symm)
    have HQ1 := Lib.hid (show ql1 = Q.drop (j + 1) by
     have := congrArg List.tail hdr;simpa using this)
    have HBQ := Lib.hid hbq;obtain ⟨z, hz⟩ : ∃ z, z = atZ (nodes L) x := ⟨_, rfl⟩;have HZ := Lib.hid hz;have hp0 : (0 : Int) < (ql1.length : Int) + 1 := by omega
    have hp1 : (0 : Int) < ((ql1.length + 1 : Nat) : Int) := by omega
    clear hlf hqr hbq hdr hz;have HN9 := Lib.hid (And.intro hnq1 hcq1);clear hnq1 hcq1;have hs1 : ∃ s1, s = s1 + 1 := ⟨s - 1, by have := HN9.out; omega⟩;obtain ⟨s1, rfl⟩ := hs1;go_wp2_with fail;replace H := H.drew;have y0 := H.fa 2 0 rfl rfl;have y1 := H.fa 2 1 rfl rfl;have y2 := H.atM (f1 := Value.int .i64) 0 rfl HX.out;refine wp_region_held_drew (S := fun w' => w'.cell? ⟨w.heap.size, 0, none⟩ = some (.int .i64 next) ∧ w'.cell? ⟨w.heap.size, 1, none⟩ = some (.slice A n c) ∧ w'.cell? ⟨gq, j, none⟩ = some (.int .i64 x)) (by kernel_rfl) ?_ (fun hHeld => ?_)
    ·exact ⟨y0, y1, y2⟩
    obtain ⟨u0, hu0⟩ : ∃ uu : World, uu = wr.drew := ⟨_, rfl⟩;rw [← hu0] at H hHeld ⊢;clear hu0;refine wpT 0 ?_;refine wpT 1 ?_;refine wpT 2 ?_;refine wpT 3 ?_;refine wpC 4 fun K hK => ?_;go_simp;refine (implAt_any next A n c L x _ (HR.out.fr H.fr) hn).mono ?_;rintro e u1 ⟨rfl, f9⟩;replace H := H.go f9;clear f9;rw [← HZ.out];go_wp2_with fail;refine hK.out _ _ ?_ fun hHeld => ?_
    ·exact ⟨H.fa 2 0 rfl rfl, H.fa 2 1 rfl rfl, H.atM (f1 := Value.int .i64) 0 rfl HX.out⟩
    clear hK K;(try simp only [sX, Act.put]);refine wpT 5 ?_;refine wpAnyH_done (by kernel_rfl) ?_ _;clear y0 y1 y2
    by_cases hs0 : s1 = 0
    ·subst hs0
     have hql : ql1.length = 0 := by have := HN9.out; omega
     have HL2 := Lib.hid (show Left nq cq j 0 0 Q ql1 from .inl ⟨rfl, rfl, List.eq_nil_of_length_eq_zero hql⟩);obtain rfl : ql1 = [] := List.eq_nil_of_length_eq_zero hql;have HBP := Lib.hid (show Bq (nodes L) id out ([] : List Int) (some x) [] from HBQ.out.pop);obtain ⟨M, hM⟩ : ∃ M, M = 2 * (T - out.length) + ([] : List Int).length := ⟨_, rfl⟩;have HM := Lib.hid hM;clear hM
     rcases atZ_cases (nodes L) x with ⟨hza, hzn⟩ | ⟨k, hza, hzn, hkl⟩
     ·have HK0 := Lib.hid (show kidsL (nodes L) x = [] by rw [kidsL, hzn])
      have hz1 : z = -1 := HZ.out.trans hza;subst hz1;clear hza hzn;have HBC := Lib.hid (show Bq (nodes L) id out ([] : List Int) none [] from HBP.out.close (by rw [HK0.out]; simp));go_wp2_with fail;go_roundw
      case rel => exact ⟨out, Q, ([] : List Int), gq, nq, cq, j, 0, 0, rfl, HL2.out, rfl, hnq, HBC.out, H⟩
      case measure => simp only [slen]; omega
     ·have hz1 : z = (k : Int) := HZ.out.trans hza
      subst hz1;have hkn : k < n := by rw [nodes_len, HL.out] at hkl; exact hkl
      have hk0 : (0 : Int) ≤ (k : Int) := by omega
      have hk1 : (k : Int) < (n : Int) := by omega
      have hk2 : ¬ (k : Int) < 0 := by omega
      obtain ⟨⟨v, x0, x1, x2, x3, es⟩, hx⟩ := some_at HL.out hkn;have hm := HFE.out _ (List.mem_of_getElem? hx);obtain ⟨bk, of, B1, d1, rfl, e1, r1, c1⟩ := (HR.out.fr H.fr).elem hx;simp only at e1 r1 hm;subst e1;have ca4 := c1 4 _ rfl;have HKD := Lib.hid (kids_of hzn (nodes_at hx));simp only at HKD;have HRE := Lib.hid (show ∀ w', Fr w w' → Rd w' B1 es.length 4 (es.flatMap cEnt) from fun w' f => by
       obtain ⟨_, _, B2, d2, _, e2, r2, _⟩ := (HR.out.fr f).elem hx;simp only at e2 r2;injection e2 with e2 _ _;subst e2;exact r2)
      obtain ⟨m, hmm⟩ : ∃ m, m = es.length := ⟨_, rfl⟩;have HEM := Lib.hid hmm.symm;rw [← hmm] at hm ca4 HRE;clear hx c1 r1 hmm hza hzn hkl;have t1 := H.fa 2 1 rfl rfl;go_wp2_with fail;clear t1 ca4;have H1 := H;clear H
      go_loopw [5, 6, 32] (fun ov qv kv wr => ∃ (k : Nat) (out Q ql : List Int) (gq nq cq j r s : Nat), kv = .int .i64 k ∧ k ≤ m ∧ qv = .slice (some ⟨gq, j, none⟩) r s ∧ Left nq cq j r s Q ql ∧ ql.length = r ∧ nq ≤ out.length + 1 ∧ Bq (nodes L) id out ql (some x) ((es.map fun e => e.2.2.2).take k) ∧ 2 * (T - out.length) + r ≤ M ∧ Hp [] w wr [.row 3 1 (.slice (some ⟨gq, 0, none⟩) nq cq) nq (Q.map (Value.int .i64)), .row 3 1 ov out.length (out.map (Value.int .i64)), .blk w.heap.size 28 [.int .i64 next, .slice (some ⟨bk, of, none⟩) n c]]) (fun _ _ kv _ => m - (intOf kv).toNat)
      case atStart => exact ⟨0, out, Q, ([] : List Int), gq, nq, cq, j, 0, 0, rfl, by omega, rfl, HL2.out, rfl, hnq, by simpa using HBP.out, by rw [HM.out]; exact Nat.le_refl _, H1⟩
      case round =>
       clear H1 hnq;clear HL2 HBQ HBP;obtain ⟨k, out, Q, ql, gq, nq, cq, j, r, s, rfl, hk, rfl, hlf, hqr, hnq, hbq, hmm, H⟩ := hrel;have HLF := Lib.hid hlf;have HQR := Lib.hid hqr;have HBQ := Lib.hid hbq;have HMM := Lib.hid hmm;have hol := hbq.len;rw [← HT.out] at hol;clear hlf hqr hbq hmm;obtain ⟨C, oc, rfl⟩ := H.shape 1 rfl;have hk0 : (0 : Int) ≤ (k : Int) := by omega
       by_cases hkm : k < m
       ·have hk1 : (k : Int) < (m : Int) := by omega
        obtain ⟨⟨y0, y1, y2, y3⟩, hy⟩ := some_at HEM.out hkm;obtain ⟨bq, oq, rfl, hcell⟩ := (HRE.out _ H.fr).elem cEnt_len hy (by omega);have cb0 := hcell 0 _ rfl; simp only [Nat.add_zero] at cb0;have cb1 := hcell 1 _ rfl;have cb2 := hcell 2 _ rfl;have cb3 := hcell 3 _ rfl;have HY := Lib.hid (show (es.map fun e => e.2.2.2).take (k + 1) = (es.map fun e => e.2.2.2).take k ++ [y3] by
         rw [List.take_add_one, List.getElem?_map, hy]; rfl)
        have HYK := Lib.hid (show y3 ∈ kidsL (nodes L) x by
         rw [HKD.out]; exact List.mem_map_of_mem (f := fun e : EntT => e.2.2.2) (List.mem_of_getElem? hy))
        clear hy hcell;go_wp2_with fail;have H2 := H.lay_ 90 [.int .i64 y0, .int .i64 y1, .string y2, .int .i64 y3] rfl;clear cb0 cb1 cb2 cb3 H;obtain ⟨g2, hg2⟩ : ∃ x, x = wr.heap.size := ⟨_, rfl⟩;rw [← hg2] at H2 ⊢;have HG2 := Lib.hid hg2;clear hg2;obtain ⟨w2, hw2⟩ : ∃ x, x = wr.alloc (.cells #[.int .i64 y0, .int .i64 y1, .string y2, .int .i64 y3] 90) := ⟨_, rfl⟩;have H := H2.castW hw2.symm;rw [← hw2];clear hw2 H2;refine (containsI_any C out.length oc out y3 w2 (H.rd 2 rfl) (by omega)).mono ?_;rintro e w3 ⟨rfl, hw3⟩;subst hw3
        by_cases hin : y3 ∈ out
        ·have hd : decide (y3 ∈ out) = true := decide_eq_true hin
         have HBN := Lib.hid (HBQ.out.old hin);rw [hd];clear hd hin;have H9 := H.tail;clear H;go_wp2_with fail;go_roundw
         case rel => exact ⟨k + 1, out, Q, ql, gq, nq, cq, j, r, s, by go_num, by omega, rfl, HLF.out, HQR.out, hnq, by rw [HY.out]; exact HBN.out, HMM.out, H9⟩
         case measure => simp [intOf]; omega
        ·have hd : decide (y3 ∈ out) = false := decide_eq_false hin
         have HBN := Lib.hid (HBQ.out.fresh hin HYK.out);have hol2 := HBN.out.len;rw [← HT.out, List.length_append, List.length_singleton] at hol2;rw [hd];clear hd hin;have t3 := H.fa 0 3 rfl rfl;have H3 := H;clear H;go_wp2_with (at_builtin; refine wp_appM (f := Value.int .i64) (H3) rfl _ _ _ rfl Tryz.underlying83 infoInt rfl 2 _ _ rfl rfl _ _ (y3) rfl (by simp) rfl (by first | (simp only [maxLen]; omega) | (simp [maxLen]; done) | (simp [maxLen]; omega)) (by first | omega | (simp; done) | (simp; omega)) ?_)
         intro v' w4 H;clear H3 t3;replace H : Hp [] w w4 [.blk g2 90 [.int .i64 y0, .int .i64 y1, .string y2, .int .i64 y3], .row 3 1 (.slice (some ⟨gq, 0, none⟩) nq cq) nq (Q.map (Value.int .i64)), .row 3 1 v' (out ++ [y3]).length ((out ++ [y3]).map (Value.int .i64)), .blk w.heap.size 28 [.int .i64 next, .slice (some ⟨bk, of, none⟩) n c]] := H.recast (by simp);have t3 := H.fa 0 3 rfl rfl;have H3 := H;clear H;go_wp2_with (at_builtin; refine wp_appShift (f := Value.int .i64) H3 rfl _ _ _ rfl Tryz.underlying83 infoInt rfl 1 gq nq cq j r s Q ql rfl HLF.out rfl _ _ y3 rfl (by simp) rfl (by simp only [maxLen]; omega) (by omega) ?_);intro g' j' r' q' n' cap' L' w5 hn' hlf' H;clear H3 t3;have HLN := Lib.hid hlf';have HRL := Lib.hid (show (ql ++ [y3]).length = r' by
          have hl9 : L'.length = n' := by simpa using (H.row 1 rfl).1
          rcases hlf' with ⟨h1, h2, h3⟩ | ⟨h1, h2, h3⟩
          ·rw [h3, h1]; rfl
          ·rw [h3, List.length_drop]; omega)
         have HQ2 := HRL.out;rw [List.length_append, List.length_singleton, HQR.out] at HQ2;clear hlf';have H9 := H.tail;have hn9 : n' ≤ (out ++ [y3]).length + 1 := by rw [List.length_append, List.length_singleton]; omega
         have HM9 := Lib.hid (show 2 * (T - (out ++ [y3]).length) + r' ≤ M by
          have := HMM.out;rw [List.length_append, List.length_singleton]; omega)
         clear H;go_wp2_with fail;go_roundw
         case rel => exact ⟨k + 1, out ++ [y3], L', ql ++ [y3], g', n', cap', j', r', q', by go_num, by omega, rfl, HLN.out, HRL.out, hn9, by rw [HY.out]; exact HBN.out, HM9.out, H9.recast (by simp)⟩
         case measure => simp [intOf]; omega
       ·have hk1 : ¬ (k : Int) < (m : Int) := by omega
        have HBC := Lib.hid (show Bq (nodes L) id out ql none [] from HBQ.out.close (by
         rw [HKD.out];intro y hy
         rwa [List.take_of_length_le (by rw [List.length_map, HEM.out]; omega)]))
        go_wp2_with fail;go_roundw
        case rel => exact ⟨out, Q, ql, gq, nq, cq, j, r, s, rfl, HLF.out, HQR.out, hnq, HBC.out, H⟩
        case measure => have := HMM.out; have := HM.out; simp only [slen]; omega
    ·have hs2 : ¬ (s1 + 1 = 1) := by omega
     have hs3 : (s1 + 1 = 1) = False := eq_false hs2;have hs4 : (s1 = 0) = False := eq_false hs0;have HL2 := Lib.hid (show Left nq cq (j + 1) ql1.length s1 Q ql1 from .inr ⟨by have := HN9.out; omega, by have := HN9.out; omega, HQ1.out⟩);have HBP := Lib.hid (show Bq (nodes L) id out ql1 (some x) [] from HBQ.out.pop);obtain ⟨M, hM⟩ : ∃ M, M = 2 * (T - out.length) + ql1.length := ⟨_, rfl⟩;have HM := Lib.hid hM;clear hM
     rcases atZ_cases (nodes L) x with ⟨hza, hzn⟩ | ⟨k, hza, hzn, hkl⟩
     ·have HK0 := Lib.hid (show kidsL (nodes L) x = [] by rw [kidsL, hzn])
      have hz1 : z = -1 := HZ.out.trans hza;subst hz1;clear hza hzn;have HBC := Lib.hid (show Bq (nodes L) id out ql1 none [] from HBP.out.close (by rw [HK0.out]; simp));go_wp2_with fail;go_roundw
      case rel => exact ⟨out, Q, ql1, gq, nq, cq, j + 1, ql1.length, s1, rfl, HL2.out, rfl, hnq, HBC.out, H⟩
      case measure => simp only [slen]; omega
     ·have hz1 : z = (k : Int) := HZ.out.trans hza
      subst hz1;have hkn : k < n := by rw [nodes_len, HL.out] at hkl; exact hkl
      have hk0 : (0 : Int) ≤ (k : Int) := by omega
      have hk1 : (k : Int) < (n : Int) := by omega
      have hk2 : ¬ (k : Int) < 0 := by omega
      obtain ⟨⟨v, x0, x1, x2, x3, es⟩, hx⟩ := some_at HL.out hkn;have hm := HFE.out _ (List.mem_of_getElem? hx);obtain ⟨bk, of, B1, d1, rfl, e1, r1, c1⟩ := (HR.out.fr H.fr).elem hx;simp only at e1 r1 hm;subst e1;have ca4 := c1 4 _ rfl;have HKD := Lib.hid (kids_of hzn (nodes_at hx));simp only at HKD;have HRE := Lib.hid (show ∀ w', Fr w w' → Rd w' B1 es.length 4 (es.flatMap cEnt) from fun w' f => by
       obtain ⟨_, _, B2, d2, _, e2, r2, _⟩ := (HR.out.fr f).elem hx;simp only at e2 r2;injection e2 with e2 _ _;subst e2;exact r2)
      obtain ⟨m, hmm⟩ : ∃ m, m = es.length := ⟨_, rfl⟩;have HEM := Lib.hid hmm.symm;rw [← hmm] at hm ca4 HRE;clear hx c1 r1 hmm hza hzn hkl;have t1 := H.fa 2 1 rfl rfl;go_wp2_with fail;clear t1 ca4;have H1 := H;clear H
      go_loopw [5, 6, 32] (fun ov qv kv wr => ∃ (k : Nat) (out Q ql : List Int) (gq nq cq j r s : Nat), kv = .int .i64 k ∧ k ≤ m ∧ qv = .slice (some ⟨gq, j, none⟩) r s ∧ Left nq cq j r s Q ql ∧ ql.length = r ∧ nq ≤ out.length + 1 ∧ Bq (nodes L) id out ql (some x) ((es.map fun e => e.2.2.2).take k) ∧ 2 * (T - out.length) + r ≤ M ∧ Hp [] w wr [.row 3 1 (.slice (some ⟨gq, 0, none⟩) nq cq) nq (Q.map (Value.int .i64)), .row 3 1 ov out.length (out.map (Value.int .i64)), .blk w.heap.size 28 [.int .i64 next, .slice (some ⟨bk, of, none⟩) n c]]) (fun _ _ kv _ => m - (intOf kv).toNat)
      case atStart => exact ⟨0, out, Q, ql1, gq, nq, cq, j + 1, ql1.length, s1, rfl, by omega, rfl, HL2.out, rfl, hnq, by simpa using HBP.out, by rw [HM.out]; exact Nat.le_refl _, H1⟩
      case round =>
       clear H1 hnq;clear HL2 HBQ HBP;obtain ⟨k, out, Q, ql, gq, nq, cq, j, r, s, rfl, hk, rfl, hlf, hqr, hnq, hbq, hmm, H⟩ := hrel;have HLF := Lib.hid hlf;have HQR := Lib.hid hqr;have HBQ := Lib.hid hbq;have HMM := Lib.hid hmm;have hol := hbq.len;rw [← HT.out] at hol;clear hlf hqr hbq hmm;obtain ⟨C, oc, rfl⟩ := H.shape 1 rfl;have hk0 : (0 : Int) ≤ (k : Int) := by omega
       by_cases hkm : k < m
       ·have hk1 : (k : Int) < (m : Int) := by omega
        obtain ⟨⟨y0, y1, y2, y3⟩, hy⟩ := some_at HEM.out hkm;obtain ⟨bq, oq, rfl, hcell⟩ := (HRE.out _ H.fr).elem cEnt_len hy (by omega);have cb0 := hcell 0 _ rfl; simp only [Nat.add_zero] at cb0;have cb1 := hcell 1 _ rfl;have cb2 := hcell 2 _ rfl;have cb3 := hcell 3 _ rfl;have HY := Lib.hid (show (es.map fun e => e.2.2.2).take (k + 1) = (es.map fun e => e.2.2.2).take k ++ [y3] by
         rw [List.take_add_one, List.getElem?_map, hy]; rfl)
        have HYK := Lib.hid (show y3 ∈ kidsL (nodes L) x by
         rw [HKD.out]; exact List.mem_map_of_mem (f := fun e : EntT => e.2.2.2) (List.mem_of_getElem? hy))
        clear hy hcell;go_wp2_with fail;have H2 := H.lay_ 90 [.int .i64 y0, .int .i64 y1, .string y2, .int .i64 y3] rfl;clear cb0 cb1 cb2 cb3 H;obtain ⟨g2, hg2⟩ : ∃ x, x = wr.heap.size := ⟨_, rfl⟩;rw [← hg2] at H2 ⊢;have HG2 := Lib.hid hg2;clear hg2;obtain ⟨w2, hw2⟩ : ∃ x, x = wr.alloc (.cells #[.int .i64 y0, .int .i64 y1, .string y2, .int .i64 y3] 90) := ⟨_, rfl⟩;have H := H2.castW hw2.symm;rw [← hw2];clear hw2 H2;refine (containsI_any C out.length oc out y3 w2 (H.rd 2 rfl) (by omega)).mono ?_;rintro e w3 ⟨rfl, hw3⟩;subst hw3
        by_cases hin : y3 ∈ out
        ·have hd : decide (y3 ∈ out) = true := decide_eq_true hin
         have HBN := Lib.hid (HBQ.out.old hin);rw [hd];clear hd hin;have H9 := H.tail;clear H;go_wp2_with fail;go_roundw
         case rel => exact ⟨k + 1, out, Q, ql, gq, nq, cq, j, r, s, by go_num, by omega, rfl, HLF.out, HQR.out, hnq, by rw [HY.out]; exact HBN.out, HMM.out, H9⟩
         case measure => simp [intOf]; omega
        ·have hd : decide (y3 ∈ out) = false := decide_eq_false hin
         have HBN := Lib.hid (HBQ.out.fresh hin HYK.out);have hol2 := HBN.out.len;rw [← HT.out, List.length_append, List.length_singleton] at hol2;rw [hd];clear hd hin;have t3 := H.fa 0 3 rfl rfl;have H3 := H;clear H;go_wp2_with (at_builtin; refine wp_appM (f := Value.int .i64) (H3) rfl _ _ _ rfl Tryz.underlying83 infoInt rfl 2 _ _ rfl rfl _ _ (y3) rfl (by simp) rfl (by first | (simp only [maxLen]; omega) | (simp [maxLen]; done) | (simp [maxLen]; omega)) (by first | omega | (simp; done) | (simp; omega)) ?_)
         intro v' w4 H;clear H3 t3;replace H : Hp [] w w4 [.blk g2 90 [.int .i64 y0, .int .i64 y1, .string y2, .int .i64 y3], .row 3 1 (.slice (some ⟨gq, 0, none⟩) nq cq) nq (Q.map (Value.int .i64)), .row 3 1 v' (out ++ [y3]).length ((out ++ [y3]).map (Value.int .i64)), .blk w.heap.size 28 [.int .i64 next, .slice (some ⟨bk, of, none⟩) n c]] := H.recast (by simp);have t3 := H.fa 0 3 rfl rfl;have H3 := H;clear H;go_wp2_with (at_builtin; refine wp_appShift (f := Value.int .i64) H3 rfl _ _ _ rfl Tryz.underlying83 infoInt rfl 1 gq nq cq j r s Q ql rfl HLF.out rfl _ _ y3 rfl (by simp) rfl (by simp only [maxLen]; omega) (by omega) ?_);intro g' j' r' q' n' cap' L' w5 hn' hlf' H;clear H3 t3;have HLN := Lib.hid hlf';have HRL := Lib.hid (show (ql ++ [y3]).length = r' by
          have hl9 : L'.length = n' := by simpa using (H.row 1 rfl).1
          rcases hlf' with ⟨h1, h2, h3⟩ | ⟨h1, h2, h3⟩
          ·rw [h3, h1]; rfl
          ·rw [h3, List.length_drop]; omega)
         have HQ2 := HRL.out;rw [List.length_append, List.length_singleton, HQR.out] at HQ2;clear hlf';have H9 := H.tail;have hn9 : n' ≤ (out ++ [y3]).length + 1 := by rw [List.length_append, List.length_singleton]; omega
         have HM9 := Lib.hid (show 2 * (T - (out ++ [y3]).length) + r' ≤ M by
          have := HMM.out;rw [List.length_append, List.length_singleton]; omega)
         clear H;go_wp2_with fail;go_roundw
         case rel => exact ⟨k + 1, out ++ [y3], L', ql ++ [y3], g', n', cap', j', r', q', by go_num, by omega, rfl, HLN.out, HRL.out, hn9, by rw [HY.out]; exact HBN.out, HM9.out, H9.recast (by simp)⟩
         case measure => simp [intOf]; omega
       ·have hk1 : ¬ (k : Int) < (m : Int) := by omega
        have HBC := Lib.hid (show Bq (nodes L) id out ql none [] from HBQ.out.close (by
         rw [HKD.out];intro y hy
         rwa [List.take_of_length_le (by rw [List.length_map, HEM.out]; omega)]))
        go_wp2_with fail;go_roundw
        case rel => exact ⟨out, Q, ql, gq, nq, cq, j, r, s, rfl, HLF.out, HQR.out, hnq, HBC.out, H⟩
        case measure => have := HMM.out; have := HM.out; simp only [slen]; omega
end Go.Proofs.YtmpldngnkacnmaaGreatDoor
namespace Go.Proofs.YtmpldngnkacnmaaGreatDoor
open Go.RowKit
theorem putAll_lenA : ∀ (outs : List WrT) (l : List ByteArray), (putAll l outs).length = l.length
 | [], l => rfl
 | x :: outs, l => by
   show (putAll (l.set x.1.toNat x.2) outs).length = l.length
   rw [putAll_lenA outs, List.length_set]
theorem putAll_take (n : Nat) : ∀ (outs : List WrT) (l : List ByteArray), (putAll l outs).take n = putAll (l.take n) outs
 | [], l => rfl
 | x :: outs, l => by
   show (putAll (l.set x.1.toNat x.2) outs).take n = putAll ((l.take n).set x.1.toNat x.2) outs
   rw [putAll_take n outs, List.take_set]
theorem putAll_miss {i : Nat} : ∀ (outs : List WrT) (l : List ByteArray), (∀ x ∈ outs, x.1.toNat ≠ i) → (putAll l outs)[i]? = l[i]?
 | [], l, _ => rfl
 | x :: outs, l, h => by
   show (putAll (l.set x.1.toNat x.2) outs)[i]? = l[i]?
   rw [putAll_miss outs _ fun y hy => h y (List.mem_cons_of_mem _ hy), List.getElem?_set_ne (h x List.mem_cons_self)]
theorem putAll_hit {x : WrT} : ∀ (outs : List WrT) (l : List ByteArray), outs.Pairwise (fun a b => a.1.toNat ≠ b.1.toNat) → x ∈ outs → (putAll l outs)[x.1.toNat]? = if x.1.toNat < l.length then some x.2 else none
 | [], l, _, h => nomatch h
 | y :: outs, l, hp, h => by
   obtain ⟨h1, h2⟩ := List.pairwise_cons.1 hp
   show (putAll (l.set y.1.toNat y.2) outs)[x.1.toNat]? = _
   rcases List.mem_cons.1 h with rfl | h3
   ·rw [putAll_miss outs _ fun z hz => (h1 z hz).symm, List.getElem?_set, if_pos rfl]
   ·rw [putAll_hit outs _ h2 h3, List.length_set]
theorem putAll_twice {outs ps : List WrT} {l : List ByteArray} (hp : outs.Pairwise fun a b => a.1.toNat ≠ b.1.toNat) (hs : ∀ x ∈ ps, x ∈ outs) : putAll (putAll l ps) outs = putAll l outs := by
 refine List.ext_getElem? fun i => ?_
 by_cases h : ∃ x ∈ outs, x.1.toNat = i
 ·obtain ⟨x, hx, rfl⟩ := h
  rw [putAll_hit outs _ hp hx, putAll_hit outs _ hp hx, putAll_lenA]
 ·have h1 : ∀ x ∈ outs, x.1.toNat ≠ i := fun x hx e => h ⟨x, hx, e⟩
  rw [putAll_miss outs _ h1, putAll_miss outs _ h1, putAll_miss ps _ fun x hx => h1 x (hs x hx)]
theorem outs_up {l : List WrT} (h : outsTo l l.length = true) : l.Pairwise fun a b => a.1 < b.1 := by
 rw [List.pairwise_iff_getElem];have hstep : ∀ i (hi : i + 1 < l.length), (l[i]).1 < (l[i + 1]).1 := by
  intro i hi;have h1 := outsTo_at h (List.getElem?_eq_getElem hi);simp only [outOk, List.getElem?_eq_getElem (show i < l.length by omega), Bool.and_eq_true, decide_eq_true_eq] at h1;exact h1.2
 intro i j hi hj hij
 induction j with
 | zero => omega
 | succ j ih =>
   rcases Nat.lt_or_eq_of_le (Nat.le_of_lt_succ hij) with h1 | h1
   ·exact Int.lt_trans (ih (by omega) h1) (hstep j hj)
   ·subst h1; exact hstep i hj
theorem readT_is {s : List UInt8} {p : Int × List WrT} (h : readT s = some p) : showT p.1 p.2 = s ∧ s ≠ [] := by
 classical
 rw [readT] at h
 split at h
 ·rename_i hex
  injection h with h;rw [← h];exact Classical.choose_spec hex
 ·cases h
theorem logT_outs {l : List ByteArray} {seq : Int} {outs : List WrT} (h : logT l = some (seq, outs)) : (outs.Pairwise fun a b => a.1.toNat ≠ b.1.toNat) ∧ ∀ x ∈ outs, 0 ≤ x.1 ∧ x.1 ≤ 16 := by
 rw [logT] at h
 split at h
 ·injection h with h
  injection h with h1 h2;rw [← h2];exact ⟨.nil, nofun⟩
 ·obtain ⟨h1, h2⟩ := readT_is h
  have h3 := (showT_ok (by rw [h1]; exact h2)).1;have hR := txnB_R h3;simp only [txnB, Bool.and_eq_true] at h3;refine ⟨(outs_up h3.2).imp_of_mem fun {a b} ha hb hab => ?_, fun x hx => ⟨(hR.outs x hx).1, (hR.outs x hx).2.1⟩⟩;have := (hR.outs a ha).1;omega
theorem mount_again {l : List ByteArray} {v : Int × List Nod} {outs ps : List WrT} {seq : Int} (h : mountB l = some (v, outs, seq)) (hs : ∀ x ∈ ps, x ∈ outs) : mountB (putAll l ps) = some (v, outs, seq) := by
 have hl : l.length = 18 := by
  cases Nat.decEq l.length 18 with
  | isTrue h1 => exact h1
  | isFalse h1 => rw [mountB, if_pos h1] at h; cases h
 rw [mountB, if_neg (by rw [hl]; simp)] at h
 cases ht : logT l with
 | none => rw [ht] at h; cases h
 | some t =>
   obtain ⟨sq, os⟩ := t;rw [ht] at h;simp only at h
   cases hr : readB (putAll (l.take 17) os) with
   | none => rw [hr] at h; cases h
   | some v2 =>
     rw [hr] at h;simp only [Option.some.injEq, Prod.mk.injEq] at h;obtain ⟨rfl, rfl, rfl⟩ := h;obtain ⟨h1, h2⟩ := logT_outs ht;have hx : (putAll l ps)[17]? = l[17]? := putAll_miss ps l fun x hx e => by
      have := (h2 x (hs x hx)).2;have := (h2 x (hs x hx)).1;omega
     have hlog : logT (putAll l ps) = logT l := by rw [logT, logT, txt, txt, hx]
     rw [mountB, if_neg (by rw [putAll_lenA, hl]; simp), hlog, ht];simp only;rw [putAll_take, putAll_twice h1 hs, hr]
end Go.Proofs.YtmpldngnkacnmaaGreatDoor
namespace Go.Proofs.YtmpldngnkacnmaaGreatDoor
abbrev ResT := Int × Int × ByteArray × ByteArray
def resC (k : Int) : ResT := (k, 0, ⟨#[]⟩, ⟨#[]⟩)
def entsOf (l : List Nod) (k : Nat) : List EntT := match l[k]? with
 | some x => x.2.2.2.2
 | none => []
def kindOf (l : List Nod) (k : Nat) : Int := match l[k]? with
 | some x => x.2.1
 | none => 0
def nEnts (l : List Nod) (k : Nat) (d : List EntT) : List Nod := match l[k]? with
 | some x => l.set k (x.1, x.2.1, x.2.2.1, x.2.2.2.1, d)
 | none => l
def nLinks (l : List Nod) (k : Nat) (n : Int) : List Nod := match l[k]? with
 | some x => l.set k (x.1, x.2.1, n, x.2.2.2.1, x.2.2.2.2)
 | none => l
def nData (l : List Nod) (k : Nat) (s : ByteArray) : List Nod := match l[k]? with
 | some x => l.set k (x.1, x.2.1, x.2.2.1, s, x.2.2.2.2)
 | none => l
def nLess (l : List Nod) (id : Int) : List Nod := match atN l id with
 | some k => (match l[k]? with
   | some x => if x.2.2.1 = 1 then l.eraseIdx k else nLinks l k (x.2.2.1 - 1)
   | none => l)
 | none => l
def begunP (l : List Nod) (c : CallT) : Int := match atN l c.2.1, atN l (if twoB c.1 = true then c.2.2.2.1 else c.2.1) with
 | some k, some t => if kindOf l k = 2 ∧ kindOf l t = 2 then (if nameB (toB c.2.2.1) = true ∧ (twoB c.1 = true → nameB (toB c.2.2.2.2.1) = true) then 0 else 1) else 4
 | _, _ => 2
abbrev OutT := (Int × List Nod) × ResT
def makeP (next : Int) (l : List Nod) (k : Nat) (c : CallT) : OutT :=
 if (dirAt (entsOf l k) (toB c.2.2.1)).isSome = true then ((next, l), resC 3)
 else if 12 ≤ (entsOf l k).length ∨ 16 ≤ l.length ∨ 100000 ≤ next then ((next, l), resC 7)
 else ((next + 1, nEnts l k (addD (entsOf l k) c.2.2.1 next).1 ++ [(next, (if c.1 = 2 then 2 else 1), 1, ⟨#[]⟩, [])]), (0, next, ⟨#[]⟩, ⟨#[]⟩))
def linkP (next : Int) (l : List Nod) (t xi : Nat) (x : Nod) (c : CallT) : OutT :=
 if x.2.1 = 2 then ((next, l), resC 5)
 else if (dirAt (entsOf l t) (toB c.2.2.2.2.1)).isSome = true then ((next, l), resC 3)
 else if 12 ≤ (entsOf l t).length then ((next, l), resC 7)
 else ((next, nLinks (nEnts l t (addD (entsOf l t) c.2.2.2.2.1 x.1).1) xi (x.2.2.1 + 1)), resC 0)
def clashP (x y : Nod) : Int :=
 if x.2.1 = 2 ∧ y.2.1 ≠ 2 then 4 else if x.2.1 = 2 ∧ y.2.2.2.2 ≠ [] then 6 else if x.2.1 ≠ 2 ∧ y.2.1 = 2 then 5 else 0
open Classical in
noncomputable def renP (next : Int) (l : List Nod) (k t : Nat) (x : Nod) (c : CallT) : OutT :=
 if x.2.1 = 2 ∧ (c.2.2.2.1 = x.1 ∨ Blw l x.1 c.2.2.2.1) then ((next, l), resC 8)
 else match lookD (entsOf l t) c.2.2.2.2.1 with
 | none => if c.2.1 ≠ c.2.2.2.1 ∧ 12 ≤ (entsOf l t).length then ((next, l), resC 7)
   else ((next, nEnts (nEnts l k (dropD (entsOf l k) c.2.2.1).1) t (addD (entsOf (nEnts l k (dropD (entsOf l k) c.2.2.1).1) t) c.2.2.2.2.1 x.1).1), resC 0)
 | some e => if e.2.2.2 = x.1 then
  (if c.2.1 = c.2.2.2.1 ∧ aliB (toB c.2.2.1) (toB c.2.2.2.2.1) = true then ((next, nEnts l t (respD (entsOf l t) c.2.2.2.2.1 x.1).1), resC 0) else ((next, l), resC 0))
  else match (atN l e.2.2.2).bind fun j => l[j]? with
  | none => ((next, l), resC 0)
  | some o => if clashP x o ≠ 0 then ((next, l), resC (clashP x o))
    else ((next, nLess (nEnts (nEnts l t (respD (entsOf l t) c.2.2.2.2.1 x.1).1) k (dropD (entsOf (nEnts l t (respD (entsOf l t) c.2.2.2.2.1 x.1).1) k) c.2.2.1).1) o.1), resC 0)
noncomputable def onP (next : Int) (l : List Nod) (k t : Nat) (c : CallT) : OutT := match lookD (entsOf l k) c.2.2.1 with
 | none => ((next, l), resC 2)
 | some e => match atN l e.2.2.2 with
   | none => ((next, l), resC 2)
   | some xi => match l[xi]? with
     | none => ((next, l), resC 2)
     | some x =>
       if (c.1 = 3 ∨ c.1 = 7) ∧ x.2.1 = 2 then ((next, l), resC 5)
       else if c.1 = 4 ∧ x.2.1 ≠ 2 then ((next, l), resC 4)
       else if c.1 = 4 ∧ x.2.2.2.2 ≠ [] then ((next, l), resC 6)
       else if c.1 = 3 ∨ c.1 = 4 then ((next, nLess (nEnts l k (dropD (entsOf l k) c.2.2.1).1) x.1), resC 0)
       else if c.1 = 5 then linkP next l t xi x c
       else if c.1 = 6 then renP next l k t x c
       else if c.1 = 7 then ((next, nData l xi c.2.2.2.2.2), resC 0)
       else ((next, l), (0, x.1, e.2.2.1, x.2.2.2.1))
noncomputable def volDoP (next : Int) (l : List Nod) (c : CallT) : OutT :=
 if callB c = true then (if begunP l c = 0 then (match atN l c.2.1, atN l (if twoB c.1 = true then c.2.2.2.1 else c.2.1) with
  | some k, some t => if c.1 = 1 ∨ c.1 = 2 then makeP next l k c else onP next l k t c
  | _, _ => ((next, l), resC 2)) else ((next, l), resC (begunP l c)))
 else ((next, l), resC 1)
end Go.Proofs.YtmpldngnkacnmaaGreatDoor