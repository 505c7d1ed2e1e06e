/-
  Many texts in one: ShowTxn, Func.
-/
import Derived.Test.YtaogikhpglcmjaaGreatDoorTxnOk
import Derived.Test.YtaogikhpglcmjaaGreatDoorGt
import Derived.Test.YtaogikhpglcmjaaGreatDoorGo
import Derived.Test.YtaogikhpglcmjaaGreatDoorGr
namespace Go.Proofs.YtaogikhpglcmjaaGreatDoor
open Go.RowKit

set_option linter.unusedVariables false
set_option linter.unusedSimpArgs false
theorem outB_le {x : WrT} (h : x.2.size ≤ 400) : (outB x).length ≤ 414 := by
  rw [outB, List.length_append]
  have h1 := varB_len x.1
  have h2 := pieceB_len x.2
  omega
theorem flatO_le : ∀ (l : List WrT), (∀ x ∈ l, x.2.size ≤ 400) → (l.flatMap outB).length ≤ l.length * 414
  | [], _ => by simp
  | x :: l, h => by
    rw [List.flatMap_cons, List.length_append, List.length_cons, Nat.add_mul]
    have h1 := outB_le (h x List.mem_cons_self)
    have h2 := flatO_le l fun y hy => h y (List.mem_cons_of_mem _ hy)
    omega
set_option maxRecDepth 100000 in
set_option maxHeartbeats 8000000 in
theorem implShowTxn_any (seq : Int) (A : Option Addr) (n c : Nat) (l : List WrT) (w : World) (h : Rd w A n 2 (l.flatMap cWrite)) (hn : n ≤ 1048576) :
    Calls Tryz.prog 60 #[.agg #[.int .i64 seq, .slice A n c]] w fun e w' => e = .returned (.string (ofB (showT seq l))) ∧ Fr w w' := by
  have HL := Lib.hid (show l.length = n from h.lenk cWrite_len (by omega))
  have HR := Lib.hid h
  obtain ⟨R, hR⟩ : ∃ R, R = ofB (showT seq l) := ⟨_, rfl⟩
  rw [← hR]
  have HRR := Lib.hid hR
  have H := (Hp.start w).lay_ 57 [.int .i64 seq, .slice A n c] rfl
  clear h hR
  have y0 := H.bat 0 rfl (j := 0) rfl
  have y1 := H.bat 0 rfl (j := 1) rfl
  obtain ⟨tb, htb⟩ : ∃ b, txnB seq l = b := ⟨_, rfl⟩
  have HTB := Lib.hid htb
  clear htb
  go_enter Tryz.func60, Tryz.ntmps60
  go_wp2_with fail
  refine (implTxnOk_any seq A n c l _ (HR.out.fr H.fr) hn).mono ?_
  rintro e w1 ⟨rfl, f1⟩
  rw [HTB.out]
  replace H := H.go f1
  clear f1 y0 y1
  cases tb with
  | false =>
    have HE := Lib.hid (show R = ByteArray.mk #[] by rw [HRR.out, showT, HTB.out]; rfl)
    go_wp2_with fail
    go_ret
    rw [HE.out]
    exact ⟨rfl, H.fr⟩
  | true =>
    have HX := txnB_R HTB.out
    have hn17 : n ≤ 17 := by have := HX.len.2; rw [HL.out] at this; exact this
    have HOUT := Lib.hid HX.outs
    clear HX
    have hz0 := varS_size seq
    have hz1 := varS_size (n : Int)
    obtain ⟨hd, hhd⟩ : ∃ x, x = 116 :: (varB seq ++ varB (n : Int)) := ⟨_, rfl⟩
    have HB := Lib.hid (show bodyT seq l = hd ++ l.flatMap outB by rw [bodyT, HL.out, hhd])
    have hhl : hd.length ≤ 15 := by
      rw [hhd, List.length_cons, List.length_append]
      have := varB_len seq
      have := varB_len (n : Int)
      omega
    have HE := Lib.hid (show (ByteArray.mk #[116] ++ varS seq) ++ varS (n : Int) = ofB hd by
      have e : ByteArray.mk #[116] = ofB [116] := rfl
      rw [e, varS, varS, ofB_append, ofB_append, hhd]
      simp [List.append_assoc])
    obtain ⟨t0, ht0⟩ : ∃ x, varS seq = x := ⟨_, rfl⟩
    obtain ⟨t1, ht1⟩ : ∃ x, varS (n : Int) = x := ⟨_, rfl⟩
    rw [ht0] at hz0
    rw [ht1] at hz1
    have HE := Lib.hid (show (ByteArray.mk #[116] ++ t0) ++ t1 = ofB hd by rw [← ht0, ← ht1]; exact HE.out)
    have HT0 := Lib.hid ht0
    have HT1 := Lib.hid ht1
    clear ht0 ht1 hhd
    have cc0 : (9223372036854775807 < 1 + t0.size) = False := eq_false (by omega)
    have cc1 : (9223372036854775807 < 1 + t0.size + t1.size) = False := eq_false (by omega)
    go_wp2_with fail
    replace H := H.drew
    have y0 := H.bat 0 rfl (j := 0) rfl
    have y1 := H.bat 0 rfl (j := 1) rfl
    refine wp_region_held_drew (S := fun w' => w'.cell? ⟨w.heap.size, 0, none⟩ = some (.int .i64 seq) ∧ w'.cell? ⟨w.heap.size, 1, none⟩ = some (.slice A n c)) (by kernel_rfl) ?_ (fun hHeld => ?_)
    · exact ⟨y0, y1⟩
    obtain ⟨u0, hu0⟩ : ∃ uu : World, uu = w1.drew := ⟨_, rfl⟩
    rw [← hu0] at H hHeld ⊢
    clear hu0
    refine wpT 0 ?_
    refine wpT 1 ?_
    refine wpT 4 ?_
    refine wpT 5 ?_
    refine wpT 6 ?_
    refine wpC 2 fun K hK => ?_
    go_simp
    refine (implVar_any seq _).mono ?_
    rintro e u1 ⟨rfl, f9⟩
    replace H := H.go f9
    clear f9
    rw [HT0.out]
    go_wp2_with fail
    refine hK.out _ _ ?_ (fun hHeld => ?_)
    · exact ⟨H.bat 0 rfl (j := 0) rfl, H.bat 0 rfl (j := 1) rfl⟩
    clear hK K
    try simp only [sA, sB, sC, Act.put, sD, sE, sF]
    refine wpT 3 ?_
    refine wpC 7 fun K hK => ?_
    go_simp
    refine (implVar_any (n : Int) _).mono ?_
    rintro e u2 ⟨rfl, f9⟩
    replace H := H.go f9
    clear f9
    rw [HT1.out]
    go_wp2_with fail
    refine hK.out _ _ ?_ (fun hHeld => ?_)
    · exact ⟨H.bat 0 rfl (j := 0) rfl, H.bat 0 rfl (j := 1) rfl⟩
    clear hK K
    try simp only [sA, sB, sC, Act.put, sD, sE, sF]
    refine wpT 8 ?_
    refine wpT 9 ?_
    refine wpAnyH_done (by kernel_rfl) ?_ _
    rw [HE.out]
    clear y0 y1 hz0 hz1 HT0 HT1 HE cc0 cc1
    have y1 := H.bat 0 rfl (j := 1) rfl
    go_wp2_with fail
    go_loopw [3, 21] (fun sv iv wr => ∃ i : Nat, sv = .string (ofB (hd ++ (l.take i).flatMap outB)) ∧ iv = .int .i64 i ∧ i ≤ n ∧ Hp [] w wr [.blk w.heap.size 57 [.int .i64 seq, .slice A n c]]) (fun _ iv _ => n - (intOf iv).toNat)
    case atStart => exact ⟨0, by simp, rfl, by omega, H⟩
    case round =>
      clear H y1
      obtain ⟨i, rfl, rfl, hi, H⟩ := hrel
      have hi0 : (0 : Int) ≤ (i : Int) := by omega
      have y1 := H.bat 0 rfl (j := 1) rfl
      obtain ⟨S, hS⟩ : ∃ x, x = ofB (hd ++ (l.take i).flatMap outB) := ⟨_, rfl⟩
      have hSz : S.size ≤ 8000 := by
        rw [hS, ofB_size, List.length_append]
        have h1 := flatO_le (l.take i) (fun x hx => (HOUT.out x (List.mem_of_mem_take hx)).2.2)
        have h2 : (l.take i).length ≤ 17 := by rw [List.length_take]; omega
        have h3 : (l.take i).length * 414 ≤ 17 * 414 := Nat.mul_le_mul_right _ h2
        omega
      have HS := Lib.hid hS
      rw [← hS]
      clear hS
      by_cases hlt : i < n
      · have hlt1 : (i : Int) < (n : Int) := by omega
        obtain ⟨bk, of, rfl⟩ : ∃ bk of, A = some ⟨bk, of, none⟩ := by
          obtain ⟨b, o, e, _⟩ := HR.out.2 (by omega)
          exact ⟨b, o, e⟩
        obtain ⟨⟨x0, x1⟩, hx⟩ := some_at HL.out hlt
        have hx400 : x1.size ≤ 400 := (HOUT.out _ (List.mem_of_getElem? hx)).2.2
        obtain ⟨b', o', ea, hcell⟩ := (HR.out.fr H.fr).elem cWrite_len hx (by omega)
        injection ea with ea; injection ea with ea eb; subst ea eb
        have ca0 := hcell 0 _ rfl; simp only [Nat.add_zero] at ca0
        have ca1 := hcell 1 _ rfl
        have HCE := Lib.hid (show ∀ w', Fr w w' → w'.cell? ⟨bk, of + i * 2, none⟩ = some (.int .i64 x0) ∧ w'.cell? ⟨bk, of + i * 2 + 1, none⟩ = some (.string x1) from fun w' f => by
          obtain ⟨b', o', ea, hc⟩ := (HR.out.fr f).elem cWrite_len hx (by omega)
          injection ea with ea; injection ea with ea eb; subst ea eb
          exact ⟨hc 0 _ rfl, hc 1 _ rfl⟩)
        have HE2 := Lib.hid (show (S ++ varS x0) ++ ofB (pieceB x1) = ofB (hd ++ (l.take (i + 1)).flatMap outB) by
          rw [HS.out, List.take_add_one, hx, Option.toList_some, List.flatMap_append, List.flatMap_singleton, varS, ofB_append, ofB_append, outB]
          simp [List.append_assoc])
        have hu1 := varS_size x0
        have hu2 : (ofB (pieceB x1)).size ≤ 407 := by rw [ofB_size]; have := pieceB_len x1; omega
        obtain ⟨u1, hq1⟩ : ∃ x, varS x0 = x := ⟨_, rfl⟩
        obtain ⟨u2, hq2⟩ : ∃ x, ofB (pieceB x1) = x := ⟨_, rfl⟩
        rw [hq1] at hu1 HE2
        rw [hq2] at hu2 HE2
        have HQ1 := Lib.hid hq1
        have HQ2 := Lib.hid hq2
        have cc1 : (9223372036854775807 < S.size + u1.size) = False := eq_false (by omega)
        have cc2 : (9223372036854775807 < S.size + u1.size + u2.size) = False := eq_false (by omega)
        clear hq1 hq2 hx hcell
        go_wp2_with fail
        have H2 := (H.lay_ 61 [.int .i64 x0, .string x1] rfl).drew
        obtain ⟨gx, hgx⟩ : ∃ x, x = wr.heap.size := ⟨_, rfl⟩
        rw [← hgx] at H2 ⊢
        have HGX := Lib.hid hgx
        clear hgx H ca0 ca1 y1
        have H := H2
        clear H2
        have x0y := H.bat 0 rfl (j := 0) rfl
        have x1y := H.bat 0 rfl (j := 1) rfl
        refine wp_region_held_drew (S := fun w' => w'.cell? ⟨gx, 0, none⟩ = some (.int .i64 x0) ∧ w'.cell? ⟨gx, 1, none⟩ = some (.string x1)) (by kernel_rfl) ?_ (fun hHeld => ?_)
        · exact ⟨x0y, x1y⟩
        obtain ⟨u0, hu0⟩ : ∃ uu : World, uu = (wr.alloc (.cells #[.int .i64 x0, .string x1] 61)).drew := ⟨_, rfl⟩
        rw [← hu0] at H hHeld ⊢
        clear hu0
        refine wpT 0 ?_
        refine wpT 1 ?_
        refine wpT 2 ?_
        refine wpT 5 ?_
        refine wpT 6 ?_
        refine wpC 3 fun K hK => ?_
        go_simp
        refine (implVar_any x0 _).mono ?_
        rintro e u1 ⟨rfl, f9⟩
        replace H := H.go f9
        clear f9
        rw [HQ1.out]
        go_wp2_with fail
        refine hK.out _ _ ?_ (fun hHeld => ?_)
        · exact ⟨H.bat 0 rfl (j := 0) rfl, H.bat 0 rfl (j := 1) rfl⟩
        clear hK K
        try simp only [sA, sB, sC, Act.put, sD, sE, sF]
        refine wpT 4 ?_
        refine wpC 7 fun K hK => ?_
        go_simp
        refine (implPiece_any x1 _ (by omega)).mono ?_
        rintro e u2 ⟨rfl, f9⟩
        replace H := H.go f9
        clear f9
        rw [HQ2.out]
        go_wp2_with fail
        refine hK.out _ _ ?_ (fun hHeld => ?_)
        · exact ⟨H.bat 0 rfl (j := 0) rfl, H.bat 0 rfl (j := 1) rfl⟩
        clear hK K
        try simp only [sA, sB, sC, Act.put, sD, sE, sF]
        refine wpT 8 ?_
        refine wpT 9 ?_
        refine wpAnyH_done (by kernel_rfl) ?_ _
        rw [HE2.out]
        have H9 := Lib.hid H.tail
        clear x0y x1y H cc1 cc2 hu1 hu2
        go_wp2_with fail
        go_roundw
        case rel => exact ⟨i + 1, rfl, by go_num, by omega, H9.out⟩
        case measure => simp [intOf]; omega
      · have hlt1 : ¬ (i : Int) < (n : Int) := by omega
        have HSB := Lib.hid (show toB S = bodyT seq l by rw [HS.out, toB_ofB, HB.out, List.take_of_length_le (by rw [HL.out]; omega)])
        have HSZ := Lib.hid (show (bodyT seq l).length = S.size by rw [← HSB.out, toB_len])
        obtain ⟨z, hz⟩ : ∃ z, z = (crcZ (bodyT seq l)).toNat := ⟨_, rfl⟩
        have hzc := crcZ_in (bodyT seq l)
        have HZ := Lib.hid (show crcZ (toB S) = (z : Int) by rw [HSB.out, hz, Int.toNat_of_nonneg hzc.1])
        have hzb : z < 4294967296 := by omega
        obtain ⟨Fx, hFx⟩ : ∃ x, x = ofB (fixB 4 z) := ⟨_, rfl⟩
        have hfs : Fx.size = 4 := by rw [hFx, ofB_size, fixB_len]
        have HFX := Lib.hid hFx
        have HALL := Lib.hid (show Fx ++ S = ofB (fixB 4 z ++ bodyT seq l) by
          rw [hFx, ← ofB_toB S, HSB.out, ofB_append])
        have HZ2 := Lib.hid hz
        have hfs2 : Fx.size ≤ 4 := by omega
        have cc1 : (9223372036854775807 < Fx.size + S.size) = False := eq_false (by omega)
        clear hzc hz hFx
        by_cases h4 : 4000 < S.size + 4
        · have HEE := Lib.hid (show R = ByteArray.mk #[] by
            rw [HRR.out, showT, HTB.out, HSZ.out, decide_eq_false (show ¬ S.size + 4 ≤ 4000 by omega)]; rfl)
          have h41 : (4000 : Int) < (S.size : Int) + 4 := by omega
          go_wp2_with fail
          go_ret
          rw [HEE.out]
          exact ⟨rfl, H.fr⟩
        · have HEE := Lib.hid (show R = Fx ++ S by
            rw [HRR.out, showT, HTB.out, HSZ.out, decide_eq_true (show S.size + 4 ≤ 4000 by omega), HALL.out, HZ2.out]; rfl)
          have h41 : ¬ (4000 : Int) < (S.size : Int) + 4 := by omega
          go_wp2_with fail
          refine (implCrc_any S _ (by omega)).mono ?_
          rintro e w2 ⟨rfl, hw⟩
          subst hw
          rw [HZ.out]
          go_wp2_with fail
          refine (implFixed_any z _ hzb).mono ?_
          rintro e w3 ⟨rfl, f3⟩
          rw [← HFX.out]
          replace H := H.go f3
          clear f3
          go_wp2_with fail
          go_ret
          rw [HEE.out]
          exact ⟨rfl, H.fr⟩
set_option maxRecDepth 100000 in
set_option maxHeartbeats 8000000 in
theorem specShowTxn_any (seq : Int) (A : Option Addr) (n c : Nat) (l : List WrT) (w : World) (h : Rd w A n 2 (l.flatMap cWrite)) (hn : n ≤ 1048576) :
    Calls Tryz.prog 52 #[.agg #[.int .i64 seq, .slice A n c]] w fun e w' => e = .returned (.string (ofB (showT seq l))) ∧ Fr w w' := by
  have HL := Lib.hid (show l.length = n from h.lenk cWrite_len (by omega))
  have HR := Lib.hid h
  obtain ⟨R, hR⟩ : ∃ R, R = ofB (showT seq l) := ⟨_, rfl⟩
  rw [← hR]
  have HRR := Lib.hid hR
  have H := (Hp.start w).lay_ 57 [.int .i64 seq, .slice A n c] rfl
  clear h hR
  have y0 := H.bat 0 rfl (j := 0) rfl
  have y1 := H.bat 0 rfl (j := 1) rfl
  obtain ⟨tb, htb⟩ : ∃ b, txnB seq l = b := ⟨_, rfl⟩
  have HTB := Lib.hid htb
  clear htb
  go_enter Tryz.func52, Tryz.ntmps52
  go_wp2_with fail
  refine (specTxnOk_any seq A n c l _ (HR.out.fr H.fr) hn).mono ?_
  rintro e w1 ⟨rfl, f1⟩
  rw [HTB.out]
  replace H := H.go f1
  clear f1 y0 y1
  cases tb with
  | false =>
    have HE := Lib.hid (show R = ByteArray.mk #[] by rw [HRR.out, showT, HTB.out]; rfl)
    go_wp2_with fail
    go_ret
    rw [HE.out]
    exact ⟨rfl, H.fr⟩
  | true =>
    have HX := txnB_R HTB.out
    have hn17 : n ≤ 17 := by have := HX.len.2; rw [HL.out] at this; exact this
    have HOUT := Lib.hid HX.outs
    clear HX
    have hz0 := varS_size seq
    have hz1 := varS_size (n : Int)
    obtain ⟨hd, hhd⟩ : ∃ x, x = 116 :: (varB seq ++ varB (n : Int)) := ⟨_, rfl⟩
    have HB := Lib.hid (show bodyT seq l = hd ++ l.flatMap outB by rw [bodyT, HL.out, hhd])
    have hhl : hd.length ≤ 15 := by
      rw [hhd, List.length_cons, List.length_append]
      have := varB_len seq
      have := varB_len (n : Int)
      omega
    have HE := Lib.hid (show (ByteArray.mk #[116] ++ varS seq) ++ varS (n : Int) = ofB hd by
      have e : ByteArray.mk #[116] = ofB [116] := rfl
      rw [e, varS, varS, ofB_append, ofB_append, hhd]
      simp [List.append_assoc])
    obtain ⟨t0, ht0⟩ : ∃ x, varS seq = x := ⟨_, rfl⟩
    obtain ⟨t1, ht1⟩ : ∃ x, varS (n : Int) = x := ⟨_, rfl⟩
    rw [ht0] at hz0
    rw [ht1] at hz1
    have HE := Lib.hid (show (ByteArray.mk #[116] ++ t0) ++ t1 = ofB hd by rw [← ht0, ← ht1]; exact HE.out)
    have HT0 := Lib.hid ht0
    have HT1 := Lib.hid ht1
    clear ht0 ht1 hhd
    have cc0 : (9223372036854775807 < 1 + t0.size) = False := eq_false (by omega)
    have cc1 : (9223372036854775807 < 1 + t0.size + t1.size) = False := eq_false (by omega)
    go_wp2_with fail
    replace H := H.drew
    have y0 := H.bat 0 rfl (j := 0) rfl
    have y1 := H.bat 0 rfl (j := 1) rfl
    refine wp_region_held_drew (S := fun w' => w'.cell? ⟨w.heap.size, 0, none⟩ = some (.int .i64 seq) ∧ w'.cell? ⟨w.heap.size, 1, none⟩ = some (.slice A n c)) (by kernel_rfl) ?_ (fun hHeld => ?_)
    · exact ⟨y0, y1⟩
    obtain ⟨u0, hu0⟩ : ∃ uu : World, uu = w1.drew := ⟨_, rfl⟩
    rw [← hu0] at H hHeld ⊢
    clear hu0
    refine wpT 0 ?_
    refine wpT 1 ?_
    refine wpT 4 ?_
    refine wpT 5 ?_
    refine wpT 6 ?_
    refine wpC 2 fun K hK => ?_
    go_simp
    refine (specVar_any seq _).mono ?_
    rintro e u1 ⟨rfl, f9⟩
    replace H := H.go f9
    clear f9
    rw [HT0.out]
    go_wp2_with fail
    refine hK.out _ _ ?_ (fun hHeld => ?_)
    · exact ⟨H.bat 0 rfl (j := 0) rfl, H.bat 0 rfl (j := 1) rfl⟩
    clear hK K
    try simp only [sA, sB, sC, Act.put, sD, sE, sF]
    refine wpT 3 ?_
    refine wpC 7 fun K hK => ?_
    go_simp
    refine (specVar_any (n : Int) _).mono ?_
    rintro e u2 ⟨rfl, f9⟩
    replace H := H.go f9
    clear f9
    rw [HT1.out]
    go_wp2_with fail
    refine hK.out _ _ ?_ (fun hHeld => ?_)
    · exact ⟨H.bat 0 rfl (j := 0) rfl, H.bat 0 rfl (j := 1) rfl⟩
    clear hK K
    try simp only [sA, sB, sC, Act.put, sD, sE, sF]
    refine wpT 8 ?_
    refine wpT 9 ?_
    refine wpAnyH_done (by kernel_rfl) ?_ _
    rw [HE.out]
    clear y0 y1 hz0 hz1 HT0 HT1 HE cc0 cc1
    have y1 := H.bat 0 rfl (j := 1) rfl
    go_wp2_with fail
    go_loopw [3, 4] (fun sv iv wr => ∃ i : Nat, sv = .string (ofB (hd ++ (l.take i).flatMap outB)) ∧ iv = .int .i64 i ∧ i ≤ n ∧ Hp [] w wr [.blk w.heap.size 57 [.int .i64 seq, .slice A n c]]) (fun _ iv _ => n - (intOf iv).toNat)
    case atStart => exact ⟨0, by simp, rfl, by omega, H⟩
    case round =>
      clear H y1
      obtain ⟨i, rfl, rfl, hi, H⟩ := hrel
      have hi0 : (0 : Int) ≤ (i : Int) := by omega
      have y1 := H.bat 0 rfl (j := 1) rfl
      obtain ⟨S, hS⟩ : ∃ x, x = ofB (hd ++ (l.take i).flatMap outB) := ⟨_, rfl⟩
      have hSz : S.size ≤ 8000 := by
        rw [hS, ofB_size, List.length_append]
        have h1 := flatO_le (l.take i) (fun x hx => (HOUT.out x (List.mem_of_mem_take hx)).2.2)
        have h2 : (l.take i).length ≤ 17 := by rw [List.length_take]; omega
        have h3 : (l.take i).length * 414 ≤ 17 * 414 := Nat.mul_le_mul_right _ h2
        omega
      have HS := Lib.hid hS
      rw [← hS]
      clear hS
      by_cases hlt : i < n
      · have hlt1 : (i : Int) < (n : Int) := by omega
        obtain ⟨bk, of, rfl⟩ : ∃ bk of, A = some ⟨bk, of, none⟩ := by
          obtain ⟨b, o, e, _⟩ := HR.out.2 (by omega)
          exact ⟨b, o, e⟩
        obtain ⟨⟨x0, x1⟩, hx⟩ := some_at HL.out hlt
        have hx400 : x1.size ≤ 400 := (HOUT.out _ (List.mem_of_getElem? hx)).2.2
        obtain ⟨b', o', ea, hcell⟩ := (HR.out.fr H.fr).elem cWrite_len hx (by omega)
        injection ea with ea; injection ea with ea eb; subst ea eb
        have ca0 := hcell 0 _ rfl; simp only [Nat.add_zero] at ca0
        have ca1 := hcell 1 _ rfl
        have HCE := Lib.hid (show ∀ w', Fr w w' → w'.cell? ⟨bk, of + i * 2, none⟩ = some (.int .i64 x0) ∧ w'.cell? ⟨bk, of + i * 2 + 1, none⟩ = some (.string x1) from fun w' f => by
          obtain ⟨b', o', ea, hc⟩ := (HR.out.fr f).elem cWrite_len hx (by omega)
          injection ea with ea; injection ea with ea eb; subst ea eb
          exact ⟨hc 0 _ rfl, hc 1 _ rfl⟩)
        have HE2 := Lib.hid (show (S ++ varS x0) ++ ofB (pieceB x1) = ofB (hd ++ (l.take (i + 1)).flatMap outB) by
          rw [HS.out, List.take_add_one, hx, Option.toList_some, List.flatMap_append, List.flatMap_singleton, varS, ofB_append, ofB_append, outB]
          simp [List.append_assoc])
        have hu1 := varS_size x0
        have hu2 : (ofB (pieceB x1)).size ≤ 407 := by rw [ofB_size]; have := pieceB_len x1; omega
        obtain ⟨u1, hq1⟩ : ∃ x, varS x0 = x := ⟨_, rfl⟩
        obtain ⟨u2, hq2⟩ : ∃ x, ofB (pieceB x1) = x := ⟨_, rfl⟩
        rw [hq1] at hu1 HE2
        rw [hq2] at hu2 HE2
        have HQ1 := Lib.hid hq1
        have HQ2 := Lib.hid hq2
        have cc1 : (9223372036854775807 < S.size + u1.size) = False := eq_false (by omega)
        have cc2 : (9223372036854775807 < S.size + u1.size + u2.size) = False := eq_false (by omega)
        clear hq1 hq2 hx hcell
        clear ca0 ca1
        go_wp2_with fail
        clear y1
        replace H := H.drew
        have y0 := H.bat 0 rfl (j := 0) rfl
        have y1 := H.bat 0 rfl (j := 1) rfl
        have x0y := (HCE.out _ H.fr).1
        have x1y := (HCE.out _ H.fr).2
        refine wp_region_held_drew (S := fun w' => w'.cell? ⟨w.heap.size, 0, none⟩ = some (.int .i64 seq) ∧ w'.cell? ⟨w.heap.size, 1, none⟩ = some (.slice (some ⟨bk, of, none⟩) n c) ∧ w'.cell? ⟨bk, of + i * 2, none⟩ = some (.int .i64 x0) ∧ w'.cell? ⟨bk, of + i * 2 + 1, none⟩ = some (.string x1)) (by kernel_rfl) ?_ (fun hHeld => ?_)
        · exact ⟨y0, y1, x0y, x1y⟩
        obtain ⟨u0, hu0⟩ : ∃ uu : World, uu = wr.drew := ⟨_, rfl⟩
        rw [← hu0] at H hHeld ⊢
        clear hu0
        refine wpT 0 ?_
        refine wpT 1 ?_
        refine wpT 2 ?_
        refine wpT 3 ?_
        refine wpT 4 ?_
        refine wpT 5 ?_
        refine wpT 6 ?_
        refine wpT 9 ?_
        refine wpT 10 ?_
        refine wpT 11 ?_
        refine wpT 12 ?_
        refine wpT 13 ?_
        refine wpT 14 ?_
        refine wpC 7 fun K hK => ?_
        go_simp
        refine (specVar_any x0 _).mono ?_
        rintro e u1 ⟨rfl, f9⟩
        replace H := H.go f9
        clear f9
        rw [HQ1.out]
        go_wp2_with fail
        refine hK.out _ _ ?_ (fun hHeld => ?_)
        · exact ⟨H.bat 0 rfl (j := 0) rfl, H.bat 0 rfl (j := 1) rfl, (HCE.out _ H.fr).1, (HCE.out _ H.fr).2⟩
        clear hK K
        try simp only [sA, sB, sC, Act.put, sD, sE, sF]
        refine wpT 8 ?_
        refine wpC 15 fun K hK => ?_
        go_simp
        refine (specPiece_any x1 _ (by omega)).mono ?_
        rintro e u2 ⟨rfl, f9⟩
        replace H := H.go f9
        clear f9
        rw [HQ2.out]
        go_wp2_with fail
        refine hK.out _ _ ?_ (fun hHeld => ?_)
        · exact ⟨H.bat 0 rfl (j := 0) rfl, H.bat 0 rfl (j := 1) rfl, (HCE.out _ H.fr).1, (HCE.out _ H.fr).2⟩
        clear hK K
        try simp only [sA, sB, sC, Act.put, sD, sE, sF]
        refine wpT 16 ?_
        refine wpT 17 ?_
        refine wpAnyH_done (by kernel_rfl) ?_ _
        rw [HE2.out]
        have H9 := Lib.hid H
        clear y0 y1 x0y x1y H cc1 cc2 hu1 hu2
        go_wp2_with fail
        go_roundw
        case rel => exact ⟨i + 1, rfl, by go_num, by omega, H9.out⟩
        case measure => simp [intOf]; omega
      · have hlt1 : ¬ (i : Int) < (n : Int) := by omega
        have HSB := Lib.hid (show toB S = bodyT seq l by rw [HS.out, toB_ofB, HB.out, List.take_of_length_le (by rw [HL.out]; omega)])
        have HSZ := Lib.hid (show (bodyT seq l).length = S.size by rw [← HSB.out, toB_len])
        obtain ⟨z, hz⟩ : ∃ z, z = (crcZ (bodyT seq l)).toNat := ⟨_, rfl⟩
        have hzc := crcZ_in (bodyT seq l)
        have HZ := Lib.hid (show crcZ (toB S) = (z : Int) by rw [HSB.out, hz, Int.toNat_of_nonneg hzc.1])
        have hzb : z < 4294967296 := by omega
        obtain ⟨Fx, hFx⟩ : ∃ x, x = ofB (fixB 4 z) := ⟨_, rfl⟩
        have hfs : Fx.size = 4 := by rw [hFx, ofB_size, fixB_len]
        have HFX := Lib.hid hFx
        have HALL := Lib.hid (show Fx ++ S = ofB (fixB 4 z ++ bodyT seq l) by
          rw [hFx, ← ofB_toB S, HSB.out, ofB_append])
        have HZ2 := Lib.hid hz
        have hfs2 : Fx.size ≤ 4 := by omega
        have cc1 : (9223372036854775807 < Fx.size + S.size) = False := eq_false (by omega)
        clear hzc hz hFx
        by_cases h4 : 4000 < S.size + 4
        · have HEE := Lib.hid (show R = ByteArray.mk #[] by
            rw [HRR.out, showT, HTB.out, HSZ.out, decide_eq_false (show ¬ S.size + 4 ≤ 4000 by omega)]; rfl)
          have hTs : 4000 < (Fx ++ S).size := by rw [ByteArray.size_append]; omega
          clear hfs
          go_wp2_with fail
          refine (specCrc_any S _ (by omega)).mono ?_
          rintro e w2 ⟨rfl, hw⟩
          subst hw
          rw [HZ.out]
          go_wp2_with fail
          refine (specFixed_any z _ hzb).mono ?_
          rintro e w3 ⟨rfl, f3⟩
          rw [← HFX.out]
          replace H := H.go f3
          clear f3
          obtain ⟨T, hT⟩ : ∃ T, T = Fx ++ S := ⟨_, rfl⟩
          have hex : Fx ++ S = T := hT.symm
          have HTT := Lib.hid hT
          rw [← hT] at hTs
          clear hT
          have h41 : (4000 : Int) < (T.size : Int) := by omega
          go_wp2_with fail
          go_ret
          rw [HEE.out]
          exact ⟨rfl, H.fr⟩
        · have HEE := Lib.hid (show R = Fx ++ S by
            rw [HRR.out, showT, HTB.out, HSZ.out, decide_eq_true (show S.size + 4 ≤ 4000 by omega), HALL.out, HZ2.out]; rfl)
          have hTs : ¬ 4000 < (Fx ++ S).size := by rw [ByteArray.size_append]; omega
          clear hfs
          go_wp2_with fail
          refine (specCrc_any S _ (by omega)).mono ?_
          rintro e w2 ⟨rfl, hw⟩
          subst hw
          rw [HZ.out]
          go_wp2_with fail
          refine (specFixed_any z _ hzb).mono ?_
          rintro e w3 ⟨rfl, f3⟩
          rw [← HFX.out]
          replace H := H.go f3
          clear f3
          obtain ⟨T, hT⟩ : ∃ T, T = Fx ++ S := ⟨_, rfl⟩
          have hex : Fx ++ S = T := hT.symm
          have HTT := Lib.hid hT
          rw [← hT] at hTs
          clear hT
          have h41 : ¬ (4000 : Int) < (T.size : Int) := by omega
          go_wp2_with fail
          go_ret
          rw [HEE.out, ← HTT.out]
          exact ⟨rfl, H.fr⟩
end Go.Proofs.YtaogikhpglcmjaaGreatDoor

namespace Go.Proofs.YtaogikhpglcmjaaGreatDoor
open Go.RowKit

set_option linter.unusedVariables false
set_option linter.unusedSimpArgs false
def findZ {α : Type} (P : α → Bool) (l : List α) : Int := match l.findIdx? P with
  | some k => (k : Int)
  | none => -1
theorem findZ_hit {α : Type} {P : α → Bool} {l : List α} {k : Nat} {x : α} (hno : ∀ y ∈ l.take k, P y = false) (hx : l[k]? = some x) (he : P x = true) : findZ P l = (k : Int) := by
  have : l.findIdx? P = some k := by
    obtain ⟨hk, hxe⟩ := List.getElem?_eq_some_iff.1 hx
    refine List.findIdx?_eq_some_iff_getElem.2 ⟨hk, by rw [hxe]; exact he, fun j hj => ?_⟩
    have hjm : l[j] ∈ l.take k := by
      rw [List.mem_take_iff_getElem]
      exact ⟨j, by omega, rfl⟩
    simp [hno _ hjm]
  rw [findZ, this]
theorem findZ_miss {α : Type} {P : α → Bool} {l : List α} (hno : ∀ y ∈ l, P y = false) : findZ P l = -1 := by
  have : l.findIdx? P = none := List.findIdx?_eq_none_iff.2 fun x hx => hno x hx
  rw [findZ, this]
theorem findZ_any {α : Type} (P : α → Bool) (l : List α) : decide (0 ≤ findZ P l) = l.any P := by
  unfold findZ
  cases h : l.findIdx? P with
  | none =>
    have h1 : l.any P = false := by
      rw [List.any_eq_false]
      intro x hx
      have := List.findIdx?_eq_none_iff.1 h x hx
      simp [this]
    rw [h1]; decide
  | some k =>
    obtain ⟨hk, h1, _⟩ := List.findIdx?_eq_some_iff_getElem.1 h
    have h2 : l.any P = true := List.any_eq_true.2 ⟨l[k], List.getElem_mem hk, h1⟩
    rw [h2]; simp
theorem take_no {α : Type} {P : α → Bool} {l : List α} {i : Nat} {x : α} (hno : ∀ y ∈ l.take i, P y = false) (hx : l[i]? = some x) (he : P x = false) : ∀ y ∈ l.take (i + 1), P y = false := by
  intro y hy
  rw [List.take_add_one, hx] at hy
  rcases List.mem_append.1 hy with h | h
  · exact hno y h
  · simp only [Option.toList_some, List.mem_singleton] at h
    rw [h]; exact he
set_option maxRecDepth 100000 in
set_option maxHeartbeats 2000000 in
theorem idxE_inodeOk (cap : Value) (P : EntT → Bool) (A : Option Addr) (n c : Nat) (l : List EntT) (w : World) (h : Rd w A n 4 (l.flatMap cEnt)) (hn : n ≤ 1048576)
    (hP : ∀ e ∈ l, ∀ w', Fr w w' → Calls Tryz.prog 111 #[.agg #[.int .i64 e.1, .int .i64 e.2.1, .string e.2.2.1, .int .i64 e.2.2.2], cap] w' fun r w'' => r = .returned (.bool (P e)) ∧ Fr w' w'') :
    Calls Tryz.prog 127 #[.slice A n c, .func (.func 111) #[] #[cap]] w fun e w' => e = .returned (.int .i64 (findZ P l)) ∧ Fr w w' := by
  have HL := Lib.hid (h.lenk cEnt_len (by omega))
  have HR := Lib.hid h
  have HP := Lib.hid hP
  clear h hP
  obtain ⟨z, hz⟩ : ∃ z, z = findZ P l := ⟨_, rfl⟩
  rw [← hz]
  have HZ := Lib.hid hz
  clear hz
  go_enter Tryz.func127, Tryz.ntmps127
  go_wp2_with fail
  go_loopw [5, 8] (fun jv iv wr => ∃ i : Nat, iv = .int .i64 i ∧ i ≤ n ∧ (∀ y ∈ l.take i, P y = false) ∧ Fr w wr) (fun _ iv _ => n - (intOf iv).toNat)
  case atStart => exact ⟨0, rfl, by omega, by simp, Below.refl _ _⟩
  case round =>
    obtain ⟨i, rfl, hi, hno, hf⟩ := hrel
    have HO := Lib.hid hno
    have HF := Lib.hid hf
    clear hno hf
    have hi0 : (0 : Int) ≤ (i : Int) := by omega
    by_cases hlt : i < n
    · have hi1 : (i : Int) < (n : Int) := by omega
      obtain ⟨⟨x0, x1, x2, x3⟩, hx⟩ := at_some HL.out hlt
      obtain ⟨bk, of, rfl, hcell⟩ := (HR.out.fr HF.out).elem cEnt_len hx (by omega)
      have ca0 := hcell 0 _ rfl; simp only [Nat.add_zero] at ca0
      have ca1 := hcell 1 _ rfl
      have ca2 := hcell 2 _ rfl
      have ca3 := hcell 3 _ rfl
      have HX := Lib.hid hx
      clear hx hcell
      go_wp2_with fail
      have HC := HP.out _ (HX.out.mem) _ HF.out
      simp only at HC
      refine HC.mono ?_
      clear HC
      rintro e w2 ⟨rfl, f2⟩
      obtain ⟨pb, hpb⟩ : ∃ b, P (x0, x1, x2, x3) = b := ⟨_, rfl⟩
      have HPB := Lib.hid hpb
      rw [hpb]
      clear hpb
      cases pb with
      | true =>
        have HE := Lib.hid (HZ.out.trans (findZ_hit HO.out HX.out HPB.out))
        go_wp2_with fail
        go_ret
        rw [HE.out]
        exact ⟨rfl, HF.out.then f2⟩
      | false =>
        have HO2 := Lib.hid (take_no HO.out HX.out HPB.out)
        have F2 := Lib.hid (HF.out.then f2)
        clear f2
        go_wp2_with fail
        go_roundw
        case rel => exact ⟨i + 1, by go_num, by omega, HO2.out, F2.out⟩
        case measure => simp [intOf]; omega
    · have hi1 : ¬ (i : Int) < (n : Int) := by omega
      have HE := Lib.hid (HZ.out.trans (findZ_miss (by
        have := HO.out
        rwa [List.take_of_length_le (by rw [HL.out]; omega)] at this)))
      go_wp2_with fail
      go_ret
      rw [HE.out]
      exact ⟨rfl, HF.out⟩
set_option maxRecDepth 100000 in
set_option maxHeartbeats 2000000 in
theorem idxN_volOk (cap : Value) (P : (Value × Nod) → Bool) (A : Option Addr) (n c : Nat) (l : List (Value × Nod)) (w : World) (h : RdN w A n l) (hn : n ≤ 1048576)
    (hP : ∀ p ∈ l, ∀ w', Fr w w' → Calls Tryz.prog 81 #[.agg #[.int .i64 p.2.1, .int .i64 p.2.2.1, .int .i64 p.2.2.2.1, .string p.2.2.2.2.1, p.1], cap] w' fun r w'' => r = .returned (.bool (P p)) ∧ Fr w' w'') :
    Calls Tryz.prog 113 #[.slice A n c, .func (.func 81) #[] #[cap]] w fun e w' => e = .returned (.int .i64 (findZ P l)) ∧ Fr w w' := by
  have HL := Lib.hid (h.len)
  have HR := Lib.hid h
  have HP := Lib.hid hP
  clear h hP
  obtain ⟨z, hz⟩ : ∃ z, z = findZ P l := ⟨_, rfl⟩
  rw [← hz]
  have HZ := Lib.hid hz
  clear hz
  go_enter Tryz.func113, Tryz.ntmps113
  go_wp2_with fail
  go_loopw [5, 8] (fun jv iv wr => ∃ i : Nat, iv = .int .i64 i ∧ i ≤ n ∧ (∀ y ∈ l.take i, P y = false) ∧ Fr w wr) (fun _ iv _ => n - (intOf iv).toNat)
  case atStart => exact ⟨0, rfl, by omega, by simp, Below.refl _ _⟩
  case round =>
    obtain ⟨i, rfl, hi, hno, hf⟩ := hrel
    have HO := Lib.hid hno
    have HF := Lib.hid hf
    clear hno hf
    have hi0 : (0 : Int) ≤ (i : Int) := by omega
    by_cases hlt : i < n
    · have hi1 : (i : Int) < (n : Int) := by omega
      obtain ⟨⟨v, x0, x1, x2, x3, es⟩, hx⟩ := at_some HL.out hlt
      obtain ⟨bk, of, B1, d1, rfl, e1, r1, c1⟩ := (HR.out.fr HF.out).elem hx
      simp only at e1 r1
      subst e1
      have ca0 := c1 0 _ rfl; simp only [Nat.add_zero] at ca0
      have ca1 := c1 1 _ rfl
      have ca2 := c1 2 _ rfl
      have ca3 := c1 3 _ rfl
      have ca4 := c1 4 _ rfl
      have HX := Lib.hid hx
      clear hx c1 r1
      go_wp2_with fail
      have HC := HP.out _ (HX.out.mem) _ HF.out
      simp only at HC
      refine HC.mono ?_
      clear HC
      rintro e w2 ⟨rfl, f2⟩
      obtain ⟨pb, hpb⟩ : ∃ b, P (.slice B1 es.length d1, x0, x1, x2, x3, es) = b := ⟨_, rfl⟩
      have HPB := Lib.hid hpb
      rw [hpb]
      clear hpb
      cases pb with
      | true =>
        have HE := Lib.hid (HZ.out.trans (findZ_hit HO.out HX.out HPB.out))
        go_wp2_with fail
        go_ret
        rw [HE.out]
        exact ⟨rfl, HF.out.then f2⟩
      | false =>
        have HO2 := Lib.hid (take_no HO.out HX.out HPB.out)
        have F2 := Lib.hid (HF.out.then f2)
        clear f2
        go_wp2_with fail
        go_roundw
        case rel => exact ⟨i + 1, by go_num, by omega, HO2.out, F2.out⟩
        case measure => simp [intOf]; omega
    · have hi1 : ¬ (i : Int) < (n : Int) := by omega
      have HE := Lib.hid (HZ.out.trans (findZ_miss (by
        have := HO.out
        rwa [List.take_of_length_le (by rw [HL.out]; omega)] at this)))
      go_wp2_with fail
      go_ret
      rw [HE.out]
      exact ⟨rfl, HF.out⟩
set_option maxRecDepth 100000 in
set_option maxHeartbeats 2000000 in
theorem hasE_inodeOk (cap : Value) (P : EntT → Bool) (A : Option Addr) (n c : Nat) (l : List EntT) (w : World) (h : Rd w A n 4 (l.flatMap cEnt)) (hn : n ≤ 1048576)
    (hP : ∀ e ∈ l, ∀ w', Fr w w' → Calls Tryz.prog 111 #[.agg #[.int .i64 e.1, .int .i64 e.2.1, .string e.2.2.1, .int .i64 e.2.2.2], cap] w' fun r w'' => r = .returned (.bool (P e)) ∧ Fr w' w'') :
    Calls Tryz.prog 110 #[.slice A n c, .func (.func 111) #[] #[cap]] w fun e w' => e = .returned (.bool (l.any P)) ∧ Fr w w' := by
  have HR := Lib.hid h
  have HP := Lib.hid hP
  clear h hP
  have HA := Lib.hid (findZ_any P l)
  obtain ⟨z, hz⟩ : ∃ z, z = findZ P l := ⟨_, rfl⟩
  rw [← hz] at HA
  have HZ := Lib.hid hz
  rw [← HA.out]
  clear hz
  go_enter Tryz.func110, Tryz.ntmps110
  go_wp2_with fail
  refine (idxE_inodeOk cap P A n c l _ HR.out hn HP.out).mono ?_
  rintro e w2 ⟨rfl, f2⟩
  rw [← HZ.out]
  by_cases h0 : 0 ≤ z
  · have HE := Lib.hid (decide_eq_true h0)
    go_wp2_with fail
    go_ret
    rw [HE.out]
    exact ⟨rfl, f2⟩
  · have HE := Lib.hid (decide_eq_false h0)
    go_wp2_with fail
    go_ret
    rw [HE.out]
    exact ⟨rfl, f2⟩
set_option maxRecDepth 100000 in
set_option maxHeartbeats 2000000 in
theorem hasN_volOk (cap : Value) (P : (Value × Nod) → Bool) (A : Option Addr) (n c : Nat) (l : List (Value × Nod)) (w : World) (h : RdN w A n l) (hn : n ≤ 1048576)
    (hP : ∀ p ∈ l, ∀ w', Fr w w' → Calls Tryz.prog 81 #[.agg #[.int .i64 p.2.1, .int .i64 p.2.2.1, .int .i64 p.2.2.2.1, .string p.2.2.2.2.1, p.1], cap] w' fun r w'' => r = .returned (.bool (P p)) ∧ Fr w' w'') :
    Calls Tryz.prog 80 #[.slice A n c, .func (.func 81) #[] #[cap]] w fun e w' => e = .returned (.bool (l.any P)) ∧ Fr w w' := by
  have HR := Lib.hid h
  have HP := Lib.hid hP
  clear h hP
  have HA := Lib.hid (findZ_any P l)
  obtain ⟨z, hz⟩ : ∃ z, z = findZ P l := ⟨_, rfl⟩
  rw [← hz] at HA
  have HZ := Lib.hid hz
  rw [← HA.out]
  clear hz
  go_enter Tryz.func80, Tryz.ntmps80
  go_wp2_with fail
  refine (idxN_volOk cap P A n c l _ HR.out hn HP.out).mono ?_
  rintro e w2 ⟨rfl, f2⟩
  rw [← HZ.out]
  by_cases h0 : 0 ≤ z
  · have HE := Lib.hid (decide_eq_true h0)
    go_wp2_with fail
    go_ret
    rw [HE.out]
    exact ⟨rfl, f2⟩
  · have HE := Lib.hid (decide_eq_false h0)
    go_wp2_with fail
    go_ret
    rw [HE.out]
    exact ⟨rfl, f2⟩
end Go.Proofs.YtaogikhpglcmjaaGreatDoor
