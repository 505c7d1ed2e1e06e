/-
  The law FnOthers, walked.
-/
import Derived.Test.YtbmoolmgfpcnkaaDrawFil2
import Derived.Test.YtbmoolmgfpcnkaaFilWriteI
import Derived.Test.YtbmoolmgfpcnkaaFilCutI
import Derived.Test.YtbmoolmgfpcnkaaGb
namespace Go.Proofs.Ytbmoolmgfpcnkaa
open Go.RowKit

set_option linter.unusedSimpArgs false
set_option linter.unusedVariables false
theorem bigO_any (A : Option Addr) (n c : Nat) (w : World) (_hn : n ≤ 9223372036854775807) :
    Calls Try.prog 19 #[.slice A n c] w fun e w' => e = .returned (.bool (decide (1048576 < n))) ∧ w = w' := by
  go_enter Try.func19, Try.ntmps19
  go_wp2
  go_ret
  exact ⟨ret_bool (by simp; omega), rfl⟩
theorem blocks_mem {l : List (Int × Int × Int)} (h : eOk l = true) {b : Nat} (hb : b < 24) : (b : Int) ∈ blocksOfL l ↔ (b : Int) ∈ flatL l := by
  rw [blocksOfL, if_pos h]
  simp only [List.mem_map, List.mem_filter, List.mem_range, List.contains_iff_mem]
  constructor
  · rintro ⟨k, ⟨_, h2⟩, h3⟩
    rw [← h3]; exact h2
  · intro h2
    exact ⟨b, ⟨hb, h2⟩, rfl⟩
/-- What the law asks of a write: what is not of the file stays; what does not fit changes nothing. -/
theorem others_wr {bits : List Bool} {data : List ByteArray} {z : Int} {l : List (Int × Int × Int)} {off : Int} {txt : ByteArray} {r : WRes} (hr : wrRes bits data z l off txt = r) {b : Nat} (hb : bits[b]? = some true) (hn : (b : Int) ∉ flatL l) :
    r.1[b]? = some true ∧ r.2.1[b]? = data[b]? := by
  cases hk : r.2.2.2.2 with
  | true =>
    obtain ⟨_, _, _, _, _, _, K⟩ := wr_ok hr hk
    exact ⟨(K.keep b hb hn).1, (K.keep b hb hn).2.1⟩
  | false =>
    rw [wr_no hr hk]
    exact ⟨hb, rfl⟩
set_option maxRecDepth 100000 in
set_option maxHeartbeats 16000000 in
theorem lawFnOthers_walk (A : Option Addr) (n c : Nat) (bs : List UInt8) (w : World) (hA : Rd w A n 1 (bs.map cU8)) (hcap : n ≤ 9223372036854775807) :
    Calls Try.prog 6 #[.slice A n c] w fun e w' => e = .returned (.bool true) ∧ Fr w w' := by
  by_cases hbig : 1048576 < n
  · have hd : decide (1048576 < n) = true := by simpa using hbig
    go_enter Try.func6, Try.ntmps6
    go_wp2_with fail
    refine (bigO_any A n c _ hcap).mono ?_
    rintro e w1 ⟨rfl, rfl⟩
    rw [hd]
    go_wp2_with fail
    go_ret
    exact ⟨rfl, Below.refl _ _⟩
  have hd : decide (1048576 < n) = false := by simpa using hbig
  have hn : n ≤ 1048576 := by omega
  have HA := Lib.hid hA
  go_enter Try.func6, Try.ntmps6
  go_wp2_with fail
  refine (bigO_any A n c _ hcap).mono ?_
  rintro e wq ⟨rfl, hwq⟩
  rw [← hwq, hd]
  clear hwq hd hbig
  go_wp2_with fail
  refine (drawFilWrite_any A n c bs _ hA hn).mono ?_
  rintro e w1 ⟨A1, n1, c1, bits, B1, d1, data, z, E1, q, r1, l, off, tx, rfl, hn1, hsz, hq, hoff, htx, H⟩
  have HSZ := Lib.hid (show ∀ s ∈ data, s.size ≤ 1048576 from fun s hs => by have := hsz s hs; omega)
  have hcA := own_nc (H.row 0 rfl)
  have hcB := own_nc (H.row 1 rfl)
  have hcE := own_nc (H.row 2 rfl)
  have HN1 := Lib.hid (H.rd 0 rfl).len1
  have HN2 := Lib.hid (H.rd 1 rfl).len1
  have hn1b : n1 ≤ 1048576 := by omega
  have h24b : (24 : Nat) ≤ 1048576 := by decide
  have hqb : q ≤ 1048576 := by omega
  have htxb : tx.size ≤ 9223372036854775807 := by omega
  clear hA hsz
  replace H := (H.lay_ 31 [.slice A1 n1 c1, .slice B1 24 d1] rfl).lay_ 34 [.int .i64 z, .slice E1 q r1] (g := w1.heap.size + 1) (by simp)
  obtain ⟨ga, hp1⟩ : ∃ x, x = w1.heap.size := ⟨_, rfl⟩
  rw [← hp1] at H
  have Hga := Lib.hid hp1
  clear hp1
  have y0 := H.bat 1 rfl (j := 0) rfl
  have y1 := H.bat 1 rfl (j := 1) rfl
  have y2 := H.bat 0 rfl (j := 0) rfl
  have y3 := H.bat 0 rfl (j := 1) rfl
  go_wp2_with fail
  obtain ⟨u1, hu1⟩ : ∃ u : World, u = (w1.alloc (.cells #[.slice A1 n1 c1, .slice B1 24 d1] 31)).alloc (.cells #[.int .i64 z, .slice E1 q r1] 34) := ⟨_, rfl⟩
  rw [← hu1] at H ⊢
  clear hu1 y0 y1 y2 y3
  rw [← Hga.out]
  refine (implFilWrite_any A1 n1 c1 bits B1 24 d1 data z E1 q r1 l off tx _ (H.rd 2 rfl) (H.rd 3 rfl) (H.rd 4 rfl) hcA hcB hcE hn1b h24b HSZ.out hqb hoff htxb).mono ?_
  rintro e w2 ⟨A2, c2, B2, d2, E2, q2, r2, rfl, hq2, K⟩
  replace H := H.join K
  obtain ⟨R, hR⟩ : ∃ x, x = wrRes bits data z l off tx := ⟨_, rfl⟩
  have HR := Lib.hid hR.symm
  rw [← hR] at H hq2 ⊢
  have HQ2 := Lib.hid hq2
  clear K hR hq2
  replace H := (H.lay_ 31 [.slice A2 n1 c2, .slice B2 24 d2] rfl).lay_ 34 [.int .i64 R.2.2.1, .slice E2 q2 r2] (g := w2.heap.size + 1) (by simp)
  obtain ⟨gb, hp1⟩ : ∃ x, x = w2.heap.size := ⟨_, rfl⟩
  rw [← hp1] at H
  have Hgb := Lib.hid hp1
  clear hp1
  have y0 := H.bat 6 rfl (j := 0) rfl
  have y1 := H.bat 6 rfl (j := 1) rfl
  have y2 := H.bat 5 rfl (j := 0) rfl
  have y3 := H.bat 5 rfl (j := 1) rfl
  go_wp2_with fail
  obtain ⟨u2, hu1⟩ : ∃ u : World, u = (w2.alloc (.cells #[.slice A2 n1 c2, .slice B2 24 d2] 31)).alloc (.cells #[.int .i64 R.2.2.1, .slice E2 q2 r2] 34) := ⟨_, rfl⟩
  rw [← hu1] at H ⊢
  clear hu1 y0 y1 y2 y3
  rw [← Hgb.out]
  refine (specFilWrite_any A1 n1 c1 bits B1 24 d1 data z E1 q r1 l off tx _ (H.rd 7 rfl) (H.rd 8 rfl) (H.rd 9 rfl) hcA hcB hcE hn1b h24b HSZ.out hqb hoff htxb).mono ?_
  rintro e w3 ⟨A3, c3, B3, d3, E3, q3, r3, rfl, _, K⟩
  replace H := H.go K.fr
  rw [HR.out]
  clear K
  replace H := (H.lay_ 31 [.slice A3 n1 c3, .slice B3 24 d3] rfl).lay_ 34 [.int .i64 R.2.2.1, .slice E3 q3 r3] (g := w3.heap.size + 1) (by simp)
  obtain ⟨gc, hp1⟩ : ∃ x, x = w3.heap.size := ⟨_, rfl⟩
  rw [← hp1] at H
  have Hgc := Lib.hid hp1
  clear hp1
  go_wp2_with fail
  rw [← Hgc.out]
  have HT := H.tail2
  clear H
  refine (drawFilCut_any A n c bs _ (HT.old HA.out) hn).mono ?_
  rintro e w4 ⟨A4, n4, c4, bits4, B4, d4, data4, z4, E4, q4, r4, l4, size, rfl, hn4, hsz4, hq4, K⟩
  have H := HT.join K
  have HSZ4 := Lib.hid (show ∀ s ∈ data4, s.size ≤ 1048576 from fun s hs => by have := hsz4 s hs; omega)
  have hcA4 := own_nc (K.row 0 rfl)
  have hcB4 := own_nc (K.row 1 rfl)
  have hcE4 := own_nc (K.row 2 rfl)
  have hn4b : n4 ≤ 1048576 := by omega
  have hq4b : q4 ≤ 1048576 := by omega
  clear HT K hsz4
  replace H := (H.lay_ 31 [.slice A4 n4 c4, .slice B4 24 d4] rfl).lay_ 34 [.int .i64 z4, .slice E4 q4 r4] (g := w4.heap.size + 1) (by simp)
  obtain ⟨gd, hp1⟩ : ∃ x, x = w4.heap.size := ⟨_, rfl⟩
  rw [← hp1] at H
  have Hgd := Lib.hid hp1
  clear hp1
  have y0 := H.bat 1 rfl (j := 0) rfl
  have y1 := H.bat 1 rfl (j := 1) rfl
  have y2 := H.bat 0 rfl (j := 0) rfl
  have y3 := H.bat 0 rfl (j := 1) rfl
  go_wp2_with fail
  obtain ⟨u4, hu1⟩ : ∃ u : World, u = (w4.alloc (.cells #[.slice A4 n4 c4, .slice B4 24 d4] 31)).alloc (.cells #[.int .i64 z4, .slice E4 q4 r4] 34) := ⟨_, rfl⟩
  rw [← hu1] at H ⊢
  clear hu1 y0 y1 y2 y3
  rw [← Hgd.out]
  refine (implFilCut_any A4 n4 c4 bits4 B4 24 d4 data4 z4 E4 q4 r4 l4 size _ (H.rd 2 rfl) (H.rd 3 rfl) (H.rd 4 rfl) hcA4 hcB4 hcE4 hn4b h24b HSZ4.out hq4b).mono ?_
  rintro e w5 ⟨A5, c5, B5, d5, E5, q5, r5, rfl, hq5, K⟩
  replace H := H.join K
  have HQ5 := Lib.hid hq5
  clear K hq5
  replace H := (H.lay_ 31 [.slice A5 n4 c5, .slice B5 24 d5] rfl).lay_ 34 [.int .i64 (cutZ bits4 data4 z4 l4 size), .slice E5 q5 r5] (g := w5.heap.size + 1) (by simp)
  obtain ⟨ge, hp1⟩ : ∃ x, x = w5.heap.size := ⟨_, rfl⟩
  rw [← hp1] at H
  have Hge := Lib.hid hp1
  clear hp1
  have y0 := H.bat 6 rfl (j := 0) rfl
  have y1 := H.bat 6 rfl (j := 1) rfl
  have y2 := H.bat 5 rfl (j := 0) rfl
  have y3 := H.bat 5 rfl (j := 1) rfl
  go_wp2_with fail
  obtain ⟨u5, hu1⟩ : ∃ u : World, u = (w5.alloc (.cells #[.slice A5 n4 c5, .slice B5 24 d5] 31)).alloc (.cells #[.int .i64 (cutZ bits4 data4 z4 l4 size), .slice E5 q5 r5] 34) := ⟨_, rfl⟩
  rw [← hu1] at H ⊢
  clear hu1 y0 y1 y2 y3
  rw [← Hge.out]
  refine (specFilCut_any A4 n4 c4 bits4 B4 24 d4 data4 z4 E4 q4 r4 l4 size _ (H.rd 7 rfl) (H.rd 8 rfl) (H.rd 9 rfl) hcA4 hcB4 hcE4 hn4b h24b HSZ4.out hq4b).mono ?_
  rintro e w6 ⟨A6, c6, B6, d6, E6, q6, r6, rfl, _, K⟩
  replace H := H.go K.fr
  clear K hcA4 hcB4 hcE4 hn4b hq4b HSZ4 hcA hcB hcE
  replace H := (H.lay_ 31 [.slice A6 n4 c6, .slice B6 24 d6] rfl).lay_ 34 [.int .i64 (cutZ bits4 data4 z4 l4 size), .slice E6 q6 r6] (g := w6.heap.size + 1) (by simp)
  obtain ⟨gf, hp1⟩ : ∃ x, x = w6.heap.size := ⟨_, rfl⟩
  rw [← hp1] at H
  have Hgf := Lib.hid hp1
  clear hp1
  have HL0 := Lib.hid (show l.length ≤ 12 by rw [(H.rd 21 rfl).lenk cExt_len (by omega)]; exact hq)
  have HL4 := Lib.hid (show l4.length ≤ 12 by rw [(H.rd 11 rfl).lenk cExt_len (by omega)]; exact hq4)
  have HQ2' := Lib.hid (show q2 ≤ 1048576 by rw [← HQ2.out, ← HR.out]; have := wr_len (bits := bits) (data := data) (z := z) (off := off) (txt := tx) HL0.out; omega)
  obtain ⟨is, his⟩ : ∃ x, x = R.2.2.2.2 := ⟨_, rfl⟩
  obtain ⟨ck, hck⟩ : ∃ x, x = cutOk bits4 data4 z4 l4 size := ⟨_, rfl⟩
  have y0 := H.bat 18 rfl (j := 0) rfl
  have y1 := H.bat 18 rfl (j := 1) rfl
  have y2 := H.bat 17 rfl (j := 0) rfl
  have y3 := H.bat 17 rfl (j := 1) rfl
  rw [← his, ← hck]
  have HIS := Lib.hid his
  have HCK := Lib.hid hck
  clear his hck
  have hb1 : (is != is) = false := by cases is <;> rfl
  have hb2 : (ck != ck) = false := by cases ck <;> rfl
  go_wp2_with fail
  obtain ⟨u6, hu1⟩ : ∃ u : World, u = (w6.alloc (.cells #[.slice A6 n4 c6, .slice B6 24 d6] 31)).alloc (.cells #[.int .i64 (cutZ bits4 data4 z4 l4 size), .slice E6 q6 r6] 34) := ⟨_, rfl⟩
  rw [← hu1] at H ⊢
  clear hu1 y0 y1 y2 y3
  rw [← Hgf.out]
  clear hb1 hb2
  refine (specFilOk_any A1 n1 c1 bits B1 24 d1 data z E1 q r1 l _ (H.rd 19 rfl) (H.rd 20 rfl) (H.rd 21 rfl) h24b HSZ.out hqb).mono ?_
  rintro e w7 ⟨rfl, f7⟩
  replace H := H.go f7
  clear f7
  cases is with
  | true =>
    have WR := wr_ok HR.out HIS.out.symm
    have HFI := Lib.hid WR.1
    have HFR := Lib.hid WR.2.2.2.1
    have HSZ2 := Lib.hid (show ∀ s ∈ R.2.1, s.size ≤ 1048576 from fun s hs => by have := HFR.out.sz s hs; omega)
    clear WR
    rw [filOk_iff.2 HFI.out]
    have y0 := H.bat 13 rfl (j := 0) rfl
    have y1 := H.bat 13 rfl (j := 1) rfl
    have y2 := H.bat 12 rfl (j := 0) rfl
    have y3 := H.bat 12 rfl (j := 1) rfl
    go_wp2_with fail
    refine (specFilOk_any A2 n1 c2 R.1 B2 24 d2 R.2.1 R.2.2.1 E2 q2 r2 R.2.2.2.1 _ (H.rd 14 rfl) (H.rd 15 rfl) (H.rd 16 rfl) h24b HSZ2.out HQ2'.out).mono ?_
    rintro e w8 ⟨rfl, f8⟩
    rw [filOk_iff.2 HFR.out]
    replace H := H.go f8
    clear f8 y0 y1 y2 y3
    -- the cut, in the two cases
    have hck := HCK.out
    clear HCK
    cases ck with
    | false =>
      clear hck
      have y4 := H.bat 17 rfl (j := 1) rfl
      go_wp2_with fail
      refine (specBlocksOf_any E1 q r1 l _ (H.rd 21 rfl) hqb).mono ?_
      rintro e w20 ⟨AO, cO, rfl, oO, fO⟩
      replace H := H.made oO fO
      clear oO fO y4
      obtain ⟨O, hO⟩ : ∃ x, x = blocksOfL l := ⟨_, rfl⟩
      have HO := Lib.hid hO
      rw [← hO] at H ⊢
      obtain ⟨kO, hkO⟩ : ∃ x, x = O.length := ⟨_, rfl⟩
      rw [← hkO] at H ⊢
      have HKO := Lib.hid hkO.symm
      have hkOb : kO ≤ 24 := by rw [hkO, hO]; exact blocksOfL_len l
      clear hO hkO
      replace H := (H.reord [0, 13, 14, 15, 16, 17, 18, 19, 20, 21, 22, 1, 2, 3, 4, 5, 6, 7, 8, 9, 10, 11, 12] (n := 23) rfl (by decide)).sub (List.take_sublist 11 _)
      as_aux_lemma =>
        have hn24 : n1 = 24 := by have := HN1.out; rw [HFI.out.lb] at this; exact this.symm
        subst hn24
        have HN3 := Lib.hid (H.rd 3 rfl).len1
        have HN4 := Lib.hid (H.rd 4 rfl).len1
        obtain ⟨gA1, _, e, _⟩ := H.form 8 rfl (by decide)
        injection e with e1 _ e2
        subst e1 e2
        obtain ⟨gB1, _, e, _⟩ := H.form 9 rfl (by decide)
        injection e with e1 _ e2
        subst e1 e2
        obtain ⟨gA2, _, e, _⟩ := H.form 3 rfl (by decide)
        injection e with e1 _ e2
        subst e1 e2
        obtain ⟨gB2, _, e, _⟩ := H.form 4 rfl (by decide)
        injection e with e1 _ e2
        subst e1 e2
        have HEOK := Lib.hid HFI.out.ok
        go_wp2_with fail
        go_loopw [23] (fun bv wr => ∃ k : Nat, bv = .int .i64 k ∧ k ≤ 24 ∧ Hp [] w wr [.row 3 1 (.slice AO kO cO) kO (O.map (Value.int .i64)), .blk (gb + 1) 34 [.int .i64 R.2.2.1, .slice E2 q2 r2], .blk gb 31 [.slice (some ⟨gA2, 0, none⟩) 24 c2, .slice (some ⟨gB2, 0, none⟩) 24 d2], .row 4 1 (.slice (some ⟨gA2, 0, none⟩) 24 c2) 24 (R.1.map Value.bool), .row 9 1 (.slice (some ⟨gB2, 0, none⟩) 24 d2) 24 (R.2.1.map Value.string), .row 92 3 (.slice E2 q2 r2) q2 (R.2.2.2.1.flatMap cExt),
            .blk (ga + 1) 34 [.int .i64 z, .slice E1 q r1], .blk ga 31 [.slice (some ⟨gA1, 0, none⟩) 24 c1, .slice (some ⟨gB1, 0, none⟩) 24 d1], .row 4 1 (.slice (some ⟨gA1, 0, none⟩) 24 c1) 24 (bits.map Value.bool), .row 9 1 (.slice (some ⟨gB1, 0, none⟩) 24 d1) 24 (data.map Value.string), .row 92 3 (.slice E1 q r1) q (l.flatMap cExt)]) (fun bv _ => 24 - (intOf bv).toNat)
        case atStart => exact ⟨0, rfl, by omega, H⟩
        case round =>
          clear H
          obtain ⟨k, rfl, hk, H⟩ := hrel
          have y0 := H.bat 7 rfl (j := 0) rfl
          have y1 := H.bat 7 rfl (j := 1) rfl
          have y2 := H.bat 6 rfl (j := 0) rfl
          have y3 := H.bat 6 rfl (j := 1) rfl
          have y4 := H.bat 1 rfl (j := 0) rfl
          have hk0 : (0 : Int) ≤ (k : Int) := by omega
          by_cases hk24 : k < 24
          · have hk1 : (k : Int) < 24 := by omega
            go_wp2_with fail
            refine (specFilOk_any _ 24 c1 bits _ 24 d1 data z E1 q r1 l _ (H.rd 8 rfl) (H.rd 9 rfl) (H.rd 10 rfl) h24b HSZ.out hqb).mono ?_
            rintro e w9 ⟨rfl, f9⟩
            rw [filOk_iff.2 HFI.out]
            replace H := H.go f9
            clear f9 y0 y1 y2 y3 y4
            have y0 := H.bat 7 rfl (j := 0) rfl
            have y1 := H.bat 7 rfl (j := 1) rfl
            have y2 := H.bat 6 rfl (j := 0) rfl
            have y3 := H.bat 6 rfl (j := 1) rfl
            have y4 := H.bat 1 rfl (j := 0) rfl
            go_wp2_with fail
            go_loopw [24, 25] (fun mv iv wi => ∃ i : Nat, i ≤ kO ∧ iv = .int .i64 i ∧ mv = .bool ((O.take i).any fun x => x == (k : Int)) ∧ w9 = wi) (fun _ iv _ => kO - (intOf iv).toNat)
            case atStart => exact ⟨0, by omega, rfl, rfl, rfl⟩
            case round =>
              obtain ⟨i, hi, rfl, rfl, rfl⟩ := hrel
              by_cases hil : i < kO
              · obtain ⟨x, hx⟩ := at_some HKO.out hil
                have HX := Lib.hid hx
                obtain ⟨gO, cgO, e, _⟩ := H.form 0 rfl (by omega)
                injection e with e1 _ e2
                subst e1 e2
                have cx := H.atM (f1 := Value.int .i64) 0 rfl hx
                have hi0 : (0 : Int) ≤ (i : Int) := by omega
                have hi1 : (i : Int) < (kO : Int) := by omega
                have HNX := Lib.hid (show ((O.take (i + 1)).any fun x => x == (k : Int)) = (((O.take i).any fun x => x == (k : Int)) || (x == (k : Int))) by rw [HX.out.take, List.any_append]; simp)
                clear hx
                obtain ⟨m, hm⟩ : ∃ m, m = ((O.take i).any fun x => x == (k : Int)) := ⟨_, rfl⟩
                rw [← hm] at HNX ⊢
                have HM := Lib.hid hm
                clear hm
                cases m with
                | true =>
                  go_wp2_with fail
                  go_roundw
                  case rel => exact ⟨i + 1, by omega, by go_num, by rw [HNX.out]; rfl, by first | trivial | rfl⟩
                  case measure => simp [intOf]; omega
                | false =>
                  obtain ⟨bq, hbq⟩ : ∃ bq, (x == (k : Int)) = bq := ⟨_, rfl⟩
                  have HBQ := Lib.hid hbq
                  go_wp2_with fail
                  go_roundw
                  case rel => exact ⟨i + 1, by omega, by go_num, by rw [HNX.out, HBQ.out]; rfl, by first | trivial | rfl⟩
                  case measure => simp [intOf]; omega
              · obtain ⟨m, hm⟩ : ∃ m, m = O.any fun x => x == (k : Int) := ⟨_, rfl⟩
                have hmt : ((O.take i).any fun x => x == (k : Int)) = m := by rw [List.take_of_length_le (by rw [HKO.out]; omega), hm]
                rw [hmt]
                have HM := Lib.hid hm
                have hil2 : ¬ ((i : Int) < (kO : Int)) := by omega
                clear hm hmt
                obtain ⟨x, hx⟩ := at_some HN1.out hk24
                obtain ⟨s, hs⟩ := at_some HN2.out hk24
                obtain ⟨x', hx'⟩ := at_some HN3.out hk24
                obtain ⟨s', hs'⟩ := at_some HN4.out hk24
                skip
                have hss : (s.toList != s.toList) = false := bne_self_eq_false _
                cases x with
                | false =>
                  go_wp2_with fail
                  clear y0 y1 y2 y3 y4
                  have m0 := H.bat 7 rfl (j := 0) rfl
                  have m1 := H.bat 7 rfl (j := 1) rfl
                  have m2 := H.bat 2 rfl (j := 0) rfl
                  have m3 := H.bat 2 rfl (j := 1) rfl
                  have m4 := H.atM (f1 := Value.bool) 8 rfl hx
                  have m5 := H.atM (f1 := Value.string) 9 rfl hs
                  have m6 := H.atM (f1 := Value.bool) 3 rfl hx'
                  have m7 := H.atM (f1 := Value.string) 4 rfl hs'
                  have H9 := Lib.hid H
                  clear H hx hs hx' hs'
                  refine wp_region_quiet_lit (by kernel_rfl) (by kernel_rfl) ?_
                  repeat (any_goals (first | go_big_quiet_step ((fail)) | quiet_step ((fail)) | (refine wpQuiet_step (fun K hK => ?_); go_simp; split <;> (refine hK _ ?_; clear hK K))))
                  all_goals (refine wpQuiet_nil ?_; intro _ hw_; obtain ⟨nq, hw__⟩ := hw_; subst hw__)
                  all_goals go_wp2_with fail
                  all_goals go_roundw
                  all_goals first
                    | (case rel => exact ⟨k + 1, by go_num, by omega, H9.out.on nq⟩)
                    | (case measure => simp [intOf]; omega)
                    | skip
                | true =>
                  cases m with
                  | true =>
                    go_wp2_with fail
                    clear y0 y1 y2 y3 y4
                    have m0 := H.bat 7 rfl (j := 0) rfl
                    have m1 := H.bat 7 rfl (j := 1) rfl
                    have m2 := H.bat 2 rfl (j := 0) rfl
                    have m3 := H.bat 2 rfl (j := 1) rfl
                    have m4 := H.atM (f1 := Value.bool) 8 rfl hx
                    have m5 := H.atM (f1 := Value.string) 9 rfl hs
                    have m6 := H.atM (f1 := Value.bool) 3 rfl hx'
                    have m7 := H.atM (f1 := Value.string) 4 rfl hs'
                    have H9 := Lib.hid H
                    clear H hx hs hx' hs'
                    refine wp_region_quiet_lit (by kernel_rfl) (by kernel_rfl) ?_
                    repeat (any_goals (first | go_big_quiet_step ((fail)) | quiet_step ((fail)) | (refine wpQuiet_step (fun K hK => ?_); go_simp; split <;> (refine hK _ ?_; clear hK K))))
                    all_goals (refine wpQuiet_nil ?_; intro _ hw_; obtain ⟨nq, hw__⟩ := hw_; subst hw__)
                    all_goals go_wp2_with fail
                    all_goals go_roundw
                    all_goals first
                      | (case rel => exact ⟨k + 1, by go_num, by omega, H9.out.on nq⟩)
                      | (case measure => simp [intOf]; omega)
                      | skip
                  | false =>
                    have hnb : (k : Int) ∉ flatL l := by
                      rw [← blocks_mem HEOK.out hk24, ← HO.out]
                      have h9 := HM.out
                      rw [eq_comm, List.any_eq_false] at h9
                      intro hc
                      have := h9 _ hc
                      simp at this
                    have hw := others_wr HR.out hx hnb
                    ((obtain rfl : s = s' := by have h8 := (hw.2.trans hs).symm.trans hs'; simpa using h8); (obtain rfl : true = x' := by have h8 := hw.1.symm.trans hx'; simpa using h8))
                    clear hw hnb
                    go_wp2_with fail
                    clear y0 y1 y2 y3 y4
                    have m0 := H.bat 7 rfl (j := 0) rfl
                    have m1 := H.bat 7 rfl (j := 1) rfl
                    have m2 := H.bat 2 rfl (j := 0) rfl
                    have m3 := H.bat 2 rfl (j := 1) rfl
                    have m4 := H.atM (f1 := Value.bool) 8 rfl hx
                    have m5 := H.atM (f1 := Value.string) 9 rfl hs
                    have m6 := H.atM (f1 := Value.bool) 3 rfl hx'
                    have m7 := H.atM (f1 := Value.string) 4 rfl hs'
                    have H9 := Lib.hid H
                    clear H hx hs hx' hs'
                    refine wp_region_quiet_lit (by kernel_rfl) (by kernel_rfl) ?_
                    repeat (any_goals (first | go_big_quiet_step ((fail)) | quiet_step ((fail)) | (refine wpQuiet_step (fun K hK => ?_); go_simp; split <;> (refine hK _ ?_; clear hK K))))
                    all_goals (refine wpQuiet_nil ?_; intro _ hw_; obtain ⟨nq, hw__⟩ := hw_; subst hw__)
                    all_goals go_wp2_with fail
                    all_goals go_roundw
                    all_goals first
                      | (case rel => exact ⟨k + 1, by go_num, by omega, H9.out.on nq⟩)
                      | (case measure => simp [intOf]; omega)
                      | skip
          · have hk1 : ¬ (k : Int) < 24 := by omega
            go_wp2_with fail
            go_ret
            exact ⟨rfl, H.fr⟩
    | true =>
      have HC := Lib.hid (cut_fi hck.symm)
      have hcz : cutZ bits4 data4 z4 l4 size = size := by rw [cutZ, ← hck, if_pos rfl]
      have hcz2 : (cutZ bits4 data4 z4 l4 size != size) = false := by rw [hcz]; exact bne_self_eq_false _
      have hcz3 : (cutZ bits4 data4 z4 l4 size == size) = true := by rw [hcz]; exact beq_self_eq_true _
      have HCZ := Lib.hid hcz
      have HQ5' := Lib.hid (show q5 ≤ 1048576 by rw [← HQ5.out]; have := cut_len (bits := bits4) (data := data4) (z := z4) (size := size) (l := l4) HL4.out; omega)
      have HSZ5 := Lib.hid (show ∀ s ∈ cutData bits4 data4 z4 l4 size, s.size ≤ 1048576 from fun s hs => by have := HC.out.2.2.1.sz s hs; omega)
      clear hcz hck
      have y0 := H.bat 3 rfl (j := 0) rfl
      have y1 := H.bat 3 rfl (j := 1) rfl
      have y2 := H.bat 2 rfl (j := 0) rfl
      have y3 := H.bat 2 rfl (j := 1) rfl
      go_wp2_with fail
      refine (specFilOk_any A5 n4 c5 (cutBits bits4 data4 z4 l4 size) B5 24 d5 (cutData bits4 data4 z4 l4 size) (cutZ bits4 data4 z4 l4 size) E5 q5 r5 (cutL bits4 data4 z4 l4 size) _ (H.rd 4 rfl) (H.rd 5 rfl) (H.rd 6 rfl) h24b HSZ5.out HQ5'.out).mono ?_
      rintro e w9 ⟨rfl, f9⟩
      rw [show filOk (cutBits bits4 data4 z4 l4 size) (cutData bits4 data4 z4 l4 size) (cutZ bits4 data4 z4 l4 size) (cutL bits4 data4 z4 l4 size) = true by rw [HCZ.out]; exact filOk_iff.2 HC.out.2.2.1]
      replace H := H.go f9
      clear f9 y0 y1 y2 y3
      have y2 := H.bat 2 rfl (j := 0) rfl
      have y4 := H.bat 17 rfl (j := 1) rfl
      go_wp2_with fail
      refine (specBlocksOf_any E1 q r1 l _ (H.rd 21 rfl) hqb).mono ?_
      rintro e w20 ⟨AO, cO, rfl, oO, fO⟩
      replace H := H.made oO fO
      clear oO fO y4
      obtain ⟨O, hO⟩ : ∃ x, x = blocksOfL l := ⟨_, rfl⟩
      have HO := Lib.hid hO
      rw [← hO] at H ⊢
      obtain ⟨kO, hkO⟩ : ∃ x, x = O.length := ⟨_, rfl⟩
      rw [← hkO] at H ⊢
      have HKO := Lib.hid hkO.symm
      have hkOb : kO ≤ 24 := by rw [hkO, hO]; exact blocksOfL_len l
      clear hO hkO
      replace H := (H.reord [0, 13, 14, 15, 16, 17, 18, 19, 20, 21, 22, 1, 2, 3, 4, 5, 6, 7, 8, 9, 10, 11, 12] (n := 23) rfl (by decide)).sub (List.take_sublist 11 _)
      clear y2
      as_aux_lemma =>
        have hn24 : n1 = 24 := by have := HN1.out; rw [HFI.out.lb] at this; exact this.symm
        subst hn24
        have HN3 := Lib.hid (H.rd 3 rfl).len1
        have HN4 := Lib.hid (H.rd 4 rfl).len1
        obtain ⟨gA1, _, e, _⟩ := H.form 8 rfl (by decide)
        injection e with e1 _ e2
        subst e1 e2
        obtain ⟨gB1, _, e, _⟩ := H.form 9 rfl (by decide)
        injection e with e1 _ e2
        subst e1 e2
        obtain ⟨gA2, _, e, _⟩ := H.form 3 rfl (by decide)
        injection e with e1 _ e2
        subst e1 e2
        obtain ⟨gB2, _, e, _⟩ := H.form 4 rfl (by decide)
        injection e with e1 _ e2
        subst e1 e2
        have HEOK := Lib.hid HFI.out.ok
        go_wp2_with fail
        go_loopw [23] (fun bv wr => ∃ k : Nat, bv = .int .i64 k ∧ k ≤ 24 ∧ Hp [] w wr [.row 3 1 (.slice AO kO cO) kO (O.map (Value.int .i64)), .blk (gb + 1) 34 [.int .i64 R.2.2.1, .slice E2 q2 r2], .blk gb 31 [.slice (some ⟨gA2, 0, none⟩) 24 c2, .slice (some ⟨gB2, 0, none⟩) 24 d2], .row 4 1 (.slice (some ⟨gA2, 0, none⟩) 24 c2) 24 (R.1.map Value.bool), .row 9 1 (.slice (some ⟨gB2, 0, none⟩) 24 d2) 24 (R.2.1.map Value.string), .row 92 3 (.slice E2 q2 r2) q2 (R.2.2.2.1.flatMap cExt),
            .blk (ga + 1) 34 [.int .i64 z, .slice E1 q r1], .blk ga 31 [.slice (some ⟨gA1, 0, none⟩) 24 c1, .slice (some ⟨gB1, 0, none⟩) 24 d1], .row 4 1 (.slice (some ⟨gA1, 0, none⟩) 24 c1) 24 (bits.map Value.bool), .row 9 1 (.slice (some ⟨gB1, 0, none⟩) 24 d1) 24 (data.map Value.string), .row 92 3 (.slice E1 q r1) q (l.flatMap cExt)]) (fun bv _ => 24 - (intOf bv).toNat)
        case atStart => exact ⟨0, rfl, by omega, H⟩
        case round =>
          clear H
          obtain ⟨k, rfl, hk, H⟩ := hrel
          have y0 := H.bat 7 rfl (j := 0) rfl
          have y1 := H.bat 7 rfl (j := 1) rfl
          have y2 := H.bat 6 rfl (j := 0) rfl
          have y3 := H.bat 6 rfl (j := 1) rfl
          have y4 := H.bat 1 rfl (j := 0) rfl
          have hk0 : (0 : Int) ≤ (k : Int) := by omega
          by_cases hk24 : k < 24
          · have hk1 : (k : Int) < 24 := by omega
            go_wp2_with fail
            refine (specFilOk_any _ 24 c1 bits _ 24 d1 data z E1 q r1 l _ (H.rd 8 rfl) (H.rd 9 rfl) (H.rd 10 rfl) h24b HSZ.out hqb).mono ?_
            rintro e w9 ⟨rfl, f9⟩
            rw [filOk_iff.2 HFI.out]
            replace H := H.go f9
            clear f9 y0 y1 y2 y3 y4
            have y0 := H.bat 7 rfl (j := 0) rfl
            have y1 := H.bat 7 rfl (j := 1) rfl
            have y2 := H.bat 6 rfl (j := 0) rfl
            have y3 := H.bat 6 rfl (j := 1) rfl
            have y4 := H.bat 1 rfl (j := 0) rfl
            go_wp2_with fail
            go_loopw [24, 25] (fun mv iv wi => ∃ i : Nat, i ≤ kO ∧ iv = .int .i64 i ∧ mv = .bool ((O.take i).any fun x => x == (k : Int)) ∧ w9 = wi) (fun _ iv _ => kO - (intOf iv).toNat)
            case atStart => exact ⟨0, by omega, rfl, rfl, rfl⟩
            case round =>
              obtain ⟨i, hi, rfl, rfl, rfl⟩ := hrel
              by_cases hil : i < kO
              · obtain ⟨x, hx⟩ := at_some HKO.out hil
                have HX := Lib.hid hx
                obtain ⟨gO, cgO, e, _⟩ := H.form 0 rfl (by omega)
                injection e with e1 _ e2
                subst e1 e2
                have cx := H.atM (f1 := Value.int .i64) 0 rfl hx
                have hi0 : (0 : Int) ≤ (i : Int) := by omega
                have hi1 : (i : Int) < (kO : Int) := by omega
                have HNX := Lib.hid (show ((O.take (i + 1)).any fun x => x == (k : Int)) = (((O.take i).any fun x => x == (k : Int)) || (x == (k : Int))) by rw [HX.out.take, List.any_append]; simp)
                clear hx
                obtain ⟨m, hm⟩ : ∃ m, m = ((O.take i).any fun x => x == (k : Int)) := ⟨_, rfl⟩
                rw [← hm] at HNX ⊢
                have HM := Lib.hid hm
                clear hm
                cases m with
                | true =>
                  go_wp2_with fail
                  go_roundw
                  case rel => exact ⟨i + 1, by omega, by go_num, by rw [HNX.out]; rfl, by first | trivial | rfl⟩
                  case measure => simp [intOf]; omega
                | false =>
                  obtain ⟨bq, hbq⟩ : ∃ bq, (x == (k : Int)) = bq := ⟨_, rfl⟩
                  have HBQ := Lib.hid hbq
                  go_wp2_with fail
                  go_roundw
                  case rel => exact ⟨i + 1, by omega, by go_num, by rw [HNX.out, HBQ.out]; rfl, by first | trivial | rfl⟩
                  case measure => simp [intOf]; omega
              · obtain ⟨m, hm⟩ : ∃ m, m = O.any fun x => x == (k : Int) := ⟨_, rfl⟩
                have hmt : ((O.take i).any fun x => x == (k : Int)) = m := by rw [List.take_of_length_le (by rw [HKO.out]; omega), hm]
                rw [hmt]
                have HM := Lib.hid hm
                have hil2 : ¬ ((i : Int) < (kO : Int)) := by omega
                clear hm hmt
                obtain ⟨x, hx⟩ := at_some HN1.out hk24
                obtain ⟨s, hs⟩ := at_some HN2.out hk24
                obtain ⟨x', hx'⟩ := at_some HN3.out hk24
                obtain ⟨s', hs'⟩ := at_some HN4.out hk24
                skip
                have hss : (s.toList != s.toList) = false := bne_self_eq_false _
                cases x with
                | false =>
                  go_wp2_with fail
                  clear y0 y1 y2 y3 y4
                  have m0 := H.bat 7 rfl (j := 0) rfl
                  have m1 := H.bat 7 rfl (j := 1) rfl
                  have m2 := H.bat 2 rfl (j := 0) rfl
                  have m3 := H.bat 2 rfl (j := 1) rfl
                  have m4 := H.atM (f1 := Value.bool) 8 rfl hx
                  have m5 := H.atM (f1 := Value.string) 9 rfl hs
                  have m6 := H.atM (f1 := Value.bool) 3 rfl hx'
                  have m7 := H.atM (f1 := Value.string) 4 rfl hs'
                  have H9 := Lib.hid H
                  clear H hx hs hx' hs'
                  refine wp_region_quiet_lit (by kernel_rfl) (by kernel_rfl) ?_
                  repeat (any_goals (first | go_big_quiet_step ((fail)) | quiet_step ((fail)) | (refine wpQuiet_step (fun K hK => ?_); go_simp; split <;> (refine hK _ ?_; clear hK K))))
                  all_goals (refine wpQuiet_nil ?_; intro _ hw_; obtain ⟨nq, hw__⟩ := hw_; subst hw__)
                  all_goals go_wp2_with fail
                  all_goals go_roundw
                  all_goals first
                    | (case rel => exact ⟨k + 1, by go_num, by omega, H9.out.on nq⟩)
                    | (case measure => simp [intOf]; omega)
                    | skip
                | true =>
                  cases m with
                  | true =>
                    go_wp2_with fail
                    clear y0 y1 y2 y3 y4
                    have m0 := H.bat 7 rfl (j := 0) rfl
                    have m1 := H.bat 7 rfl (j := 1) rfl
                    have m2 := H.bat 2 rfl (j := 0) rfl
                    have m3 := H.bat 2 rfl (j := 1) rfl
                    have m4 := H.atM (f1 := Value.bool) 8 rfl hx
                    have m5 := H.atM (f1 := Value.string) 9 rfl hs
                    have m6 := H.atM (f1 := Value.bool) 3 rfl hx'
                    have m7 := H.atM (f1 := Value.string) 4 rfl hs'
                    have H9 := Lib.hid H
                    clear H hx hs hx' hs'
                    refine wp_region_quiet_lit (by kernel_rfl) (by kernel_rfl) ?_
                    repeat (any_goals (first | go_big_quiet_step ((fail)) | quiet_step ((fail)) | (refine wpQuiet_step (fun K hK => ?_); go_simp; split <;> (refine hK _ ?_; clear hK K))))
                    all_goals (refine wpQuiet_nil ?_; intro _ hw_; obtain ⟨nq, hw__⟩ := hw_; subst hw__)
                    all_goals go_wp2_with fail
                    all_goals go_roundw
                    all_goals first
                      | (case rel => exact ⟨k + 1, by go_num, by omega, H9.out.on nq⟩)
                      | (case measure => simp [intOf]; omega)
                      | skip
                  | false =>
                    have hnb : (k : Int) ∉ flatL l := by
                      rw [← blocks_mem HEOK.out hk24, ← HO.out]
                      have h9 := HM.out
                      rw [eq_comm, List.any_eq_false] at h9
                      intro hc
                      have := h9 _ hc
                      simp at this
                    have hw := others_wr HR.out hx hnb
                    ((obtain rfl : s = s' := by have h8 := (hw.2.trans hs).symm.trans hs'; simpa using h8); (obtain rfl : true = x' := by have h8 := hw.1.symm.trans hx'; simpa using h8))
                    clear hw hnb
                    go_wp2_with fail
                    clear y0 y1 y2 y3 y4
                    have m0 := H.bat 7 rfl (j := 0) rfl
                    have m1 := H.bat 7 rfl (j := 1) rfl
                    have m2 := H.bat 2 rfl (j := 0) rfl
                    have m3 := H.bat 2 rfl (j := 1) rfl
                    have m4 := H.atM (f1 := Value.bool) 8 rfl hx
                    have m5 := H.atM (f1 := Value.string) 9 rfl hs
                    have m6 := H.atM (f1 := Value.bool) 3 rfl hx'
                    have m7 := H.atM (f1 := Value.string) 4 rfl hs'
                    have H9 := Lib.hid H
                    clear H hx hs hx' hs'
                    refine wp_region_quiet_lit (by kernel_rfl) (by kernel_rfl) ?_
                    repeat (any_goals (first | go_big_quiet_step ((fail)) | quiet_step ((fail)) | (refine wpQuiet_step (fun K hK => ?_); go_simp; split <;> (refine hK _ ?_; clear hK K))))
                    all_goals (refine wpQuiet_nil ?_; intro _ hw_; obtain ⟨nq, hw__⟩ := hw_; subst hw__)
                    all_goals go_wp2_with fail
                    all_goals go_roundw
                    all_goals first
                      | (case rel => exact ⟨k + 1, by go_num, by omega, H9.out.on nq⟩)
                      | (case measure => simp [intOf]; omega)
                      | skip
          · have hk1 : ¬ (k : Int) < 24 := by omega
            go_wp2_with fail
            go_ret
            exact ⟨rfl, H.fr⟩
  | false =>
    have HNO := Lib.hid (wr_no HR.out HIS.out.symm)
    cases hfo : filOk bits data z l with
    | true =>
      have HFI := Lib.hid (filOk_iff.1 hfo)
      clear hfo
      -- the cut, in the two cases
      have hck := HCK.out
      clear HCK
      cases ck with
      | false =>
        clear hck
        have y4 := H.bat 17 rfl (j := 1) rfl
        go_wp2_with fail
        refine (specBlocksOf_any E1 q r1 l _ (H.rd 21 rfl) hqb).mono ?_
        rintro e w20 ⟨AO, cO, rfl, oO, fO⟩
        replace H := H.made oO fO
        clear oO fO y4
        obtain ⟨O, hO⟩ : ∃ x, x = blocksOfL l := ⟨_, rfl⟩
        have HO := Lib.hid hO
        rw [← hO] at H ⊢
        obtain ⟨kO, hkO⟩ : ∃ x, x = O.length := ⟨_, rfl⟩
        rw [← hkO] at H ⊢
        have HKO := Lib.hid hkO.symm
        have hkOb : kO ≤ 24 := by rw [hkO, hO]; exact blocksOfL_len l
        clear hO hkO
        replace H := (H.reord [0, 13, 14, 15, 16, 17, 18, 19, 20, 21, 22, 1, 2, 3, 4, 5, 6, 7, 8, 9, 10, 11, 12] (n := 23) rfl (by decide)).sub (List.take_sublist 11 _)
        as_aux_lemma =>
          have hzz : (R.2.2.1 == z) = true := by rw [HNO.out]; exact beq_self_eq_true _
          have hzz2 : R.2.2.1 = z := by rw [HNO.out]
          have hn24 : n1 = 24 := by have := HN1.out; rw [HFI.out.lb] at this; exact this.symm
          subst hn24
          have HN3 := Lib.hid (H.rd 3 rfl).len1
          have HN4 := Lib.hid (H.rd 4 rfl).len1
          obtain ⟨gA1, _, e, _⟩ := H.form 8 rfl (by decide)
          injection e with e1 _ e2
          subst e1 e2
          obtain ⟨gB1, _, e, _⟩ := H.form 9 rfl (by decide)
          injection e with e1 _ e2
          subst e1 e2
          obtain ⟨gA2, _, e, _⟩ := H.form 3 rfl (by decide)
          injection e with e1 _ e2
          subst e1 e2
          obtain ⟨gB2, _, e, _⟩ := H.form 4 rfl (by decide)
          injection e with e1 _ e2
          subst e1 e2
          have HEOK := Lib.hid HFI.out.ok
          go_wp2_with fail
          go_loopw [23] (fun bv wr => ∃ k : Nat, bv = .int .i64 k ∧ k ≤ 24 ∧ Hp [] w wr [.row 3 1 (.slice AO kO cO) kO (O.map (Value.int .i64)), .blk (gb + 1) 34 [.int .i64 R.2.2.1, .slice E2 q2 r2], .blk gb 31 [.slice (some ⟨gA2, 0, none⟩) 24 c2, .slice (some ⟨gB2, 0, none⟩) 24 d2], .row 4 1 (.slice (some ⟨gA2, 0, none⟩) 24 c2) 24 (R.1.map Value.bool), .row 9 1 (.slice (some ⟨gB2, 0, none⟩) 24 d2) 24 (R.2.1.map Value.string), .row 92 3 (.slice E2 q2 r2) q2 (R.2.2.2.1.flatMap cExt),
              .blk (ga + 1) 34 [.int .i64 z, .slice E1 q r1], .blk ga 31 [.slice (some ⟨gA1, 0, none⟩) 24 c1, .slice (some ⟨gB1, 0, none⟩) 24 d1], .row 4 1 (.slice (some ⟨gA1, 0, none⟩) 24 c1) 24 (bits.map Value.bool), .row 9 1 (.slice (some ⟨gB1, 0, none⟩) 24 d1) 24 (data.map Value.string), .row 92 3 (.slice E1 q r1) q (l.flatMap cExt)]) (fun bv _ => 24 - (intOf bv).toNat)
          case atStart => exact ⟨0, rfl, by omega, H⟩
          case round =>
            clear H
            obtain ⟨k, rfl, hk, H⟩ := hrel
            have y0 := H.bat 7 rfl (j := 0) rfl
            have y1 := H.bat 7 rfl (j := 1) rfl
            have y2 := H.bat 6 rfl (j := 0) rfl
            have y3 := H.bat 6 rfl (j := 1) rfl
            have y4 := H.bat 1 rfl (j := 0) rfl
            have hk0 : (0 : Int) ≤ (k : Int) := by omega
            by_cases hk24 : k < 24
            · have hk1 : (k : Int) < 24 := by omega
              go_wp2_with fail
              refine (specFilOk_any _ 24 c1 bits _ 24 d1 data z E1 q r1 l _ (H.rd 8 rfl) (H.rd 9 rfl) (H.rd 10 rfl) h24b HSZ.out hqb).mono ?_
              rintro e w9 ⟨rfl, f9⟩
              rw [filOk_iff.2 HFI.out]
              replace H := H.go f9
              clear f9 y0 y1 y2 y3 y4
              have y0 := H.bat 7 rfl (j := 0) rfl
              have y1 := H.bat 7 rfl (j := 1) rfl
              have y2 := H.bat 6 rfl (j := 0) rfl
              have y3 := H.bat 6 rfl (j := 1) rfl
              have y4 := H.bat 1 rfl (j := 0) rfl
              go_wp2_with fail
              go_loopw [24, 25] (fun mv iv wi => ∃ i : Nat, i ≤ kO ∧ iv = .int .i64 i ∧ mv = .bool ((O.take i).any fun x => x == (k : Int)) ∧ w9 = wi) (fun _ iv _ => kO - (intOf iv).toNat)
              case atStart => exact ⟨0, by omega, rfl, rfl, rfl⟩
              case round =>
                obtain ⟨i, hi, rfl, rfl, rfl⟩ := hrel
                by_cases hil : i < kO
                · obtain ⟨x, hx⟩ := at_some HKO.out hil
                  have HX := Lib.hid hx
                  obtain ⟨gO, cgO, e, _⟩ := H.form 0 rfl (by omega)
                  injection e with e1 _ e2
                  subst e1 e2
                  have cx := H.atM (f1 := Value.int .i64) 0 rfl hx
                  have hi0 : (0 : Int) ≤ (i : Int) := by omega
                  have hi1 : (i : Int) < (kO : Int) := by omega
                  have HNX := Lib.hid (show ((O.take (i + 1)).any fun x => x == (k : Int)) = (((O.take i).any fun x => x == (k : Int)) || (x == (k : Int))) by rw [HX.out.take, List.any_append]; simp)
                  clear hx
                  obtain ⟨m, hm⟩ : ∃ m, m = ((O.take i).any fun x => x == (k : Int)) := ⟨_, rfl⟩
                  rw [← hm] at HNX ⊢
                  have HM := Lib.hid hm
                  clear hm
                  cases m with
                  | true =>
                    go_wp2_with fail
                    go_roundw
                    case rel => exact ⟨i + 1, by omega, by go_num, by rw [HNX.out]; rfl, by first | trivial | rfl⟩
                    case measure => simp [intOf]; omega
                  | false =>
                    obtain ⟨bq, hbq⟩ : ∃ bq, (x == (k : Int)) = bq := ⟨_, rfl⟩
                    have HBQ := Lib.hid hbq
                    go_wp2_with fail
                    go_roundw
                    case rel => exact ⟨i + 1, by omega, by go_num, by rw [HNX.out, HBQ.out]; rfl, by first | trivial | rfl⟩
                    case measure => simp [intOf]; omega
                · obtain ⟨m, hm⟩ : ∃ m, m = O.any fun x => x == (k : Int) := ⟨_, rfl⟩
                  have hmt : ((O.take i).any fun x => x == (k : Int)) = m := by rw [List.take_of_length_le (by rw [HKO.out]; omega), hm]
                  rw [hmt]
                  have HM := Lib.hid hm
                  have hil2 : ¬ ((i : Int) < (kO : Int)) := by omega
                  clear hm hmt
                  obtain ⟨x, hx⟩ := at_some HN1.out hk24
                  obtain ⟨s, hs⟩ := at_some HN2.out hk24
                  obtain ⟨x', hx'⟩ := at_some HN3.out hk24
                  obtain ⟨s', hs'⟩ := at_some HN4.out hk24
                  (obtain ⟨rfl, rfl⟩ : x = x' ∧ s = s' := by have e1 := hx'; have e2 := hs'; rw [At, HNO.out] at e1 e2; exact ⟨by simpa using hx.symm.trans e1, by simpa using hs.symm.trans e2⟩)
                  have hss : (s.toList != s.toList) = false := bne_self_eq_false _
                  cases x with
                  | false =>
                    go_wp2_with fail
                    clear y0 y1 y2 y3 y4
                    have m0 := H.bat 7 rfl (j := 0) rfl
                    have m1 := H.bat 7 rfl (j := 1) rfl
                    have m2 := H.bat 2 rfl (j := 0) rfl
                    have m3 := H.bat 2 rfl (j := 1) rfl
                    have m4 := H.atM (f1 := Value.bool) 8 rfl hx
                    have m5 := H.atM (f1 := Value.string) 9 rfl hs
                    have m6 := H.atM (f1 := Value.bool) 3 rfl hx'
                    have m7 := H.atM (f1 := Value.string) 4 rfl hs'
                    have H9 := Lib.hid H
                    clear H hx hs hx' hs'
                    refine wp_region_quiet_lit (by kernel_rfl) (by kernel_rfl) ?_
                    repeat (any_goals (first | go_big_quiet_step ((fail)) | quiet_step ((fail)) | (refine wpQuiet_step (fun K hK => ?_); go_simp; split <;> (refine hK _ ?_; clear hK K))))
                    all_goals (refine wpQuiet_nil ?_; intro _ hw_; obtain ⟨nq, hw__⟩ := hw_; subst hw__)
                    all_goals go_wp2_with fail
                    all_goals go_roundw
                    all_goals first
                      | (case rel => exact ⟨k + 1, by go_num, by omega, H9.out.on nq⟩)
                      | (case measure => simp [intOf]; omega)
                      | skip
                  | true =>
                    cases m with
                    | true =>
                      go_wp2_with fail
                      clear y0 y1 y2 y3 y4
                      have m0 := H.bat 7 rfl (j := 0) rfl
                      have m1 := H.bat 7 rfl (j := 1) rfl
                      have m2 := H.bat 2 rfl (j := 0) rfl
                      have m3 := H.bat 2 rfl (j := 1) rfl
                      have m4 := H.atM (f1 := Value.bool) 8 rfl hx
                      have m5 := H.atM (f1 := Value.string) 9 rfl hs
                      have m6 := H.atM (f1 := Value.bool) 3 rfl hx'
                      have m7 := H.atM (f1 := Value.string) 4 rfl hs'
                      have H9 := Lib.hid H
                      clear H hx hs hx' hs'
                      refine wp_region_quiet_lit (by kernel_rfl) (by kernel_rfl) ?_
                      repeat (any_goals (first | go_big_quiet_step ((fail)) | quiet_step ((fail)) | (refine wpQuiet_step (fun K hK => ?_); go_simp; split <;> (refine hK _ ?_; clear hK K))))
                      all_goals (refine wpQuiet_nil ?_; intro _ hw_; obtain ⟨nq, hw__⟩ := hw_; subst hw__)
                      all_goals go_wp2_with fail
                      all_goals go_roundw
                      all_goals first
                        | (case rel => exact ⟨k + 1, by go_num, by omega, H9.out.on nq⟩)
                        | (case measure => simp [intOf]; omega)
                        | skip
                    | false =>
                      have hnb : (k : Int) ∉ flatL l := by
                        rw [← blocks_mem HEOK.out hk24, ← HO.out]
                        have h9 := HM.out
                        rw [eq_comm, List.any_eq_false] at h9
                        intro hc
                        have := h9 _ hc
                        simp at this
                      have hw := others_wr HR.out hx hnb
                      skip
                      clear hw hnb
                      go_wp2_with fail
                      clear y0 y1 y2 y3 y4
                      have m0 := H.bat 7 rfl (j := 0) rfl
                      have m1 := H.bat 7 rfl (j := 1) rfl
                      have m2 := H.bat 2 rfl (j := 0) rfl
                      have m3 := H.bat 2 rfl (j := 1) rfl
                      have m4 := H.atM (f1 := Value.bool) 8 rfl hx
                      have m5 := H.atM (f1 := Value.string) 9 rfl hs
                      have m6 := H.atM (f1 := Value.bool) 3 rfl hx'
                      have m7 := H.atM (f1 := Value.string) 4 rfl hs'
                      have H9 := Lib.hid H
                      clear H hx hs hx' hs'
                      refine wp_region_quiet_lit (by kernel_rfl) (by kernel_rfl) ?_
                      repeat (any_goals (first | go_big_quiet_step ((fail)) | quiet_step ((fail)) | (refine wpQuiet_step (fun K hK => ?_); go_simp; split <;> (refine hK _ ?_; clear hK K))))
                      all_goals (refine wpQuiet_nil ?_; intro _ hw_; obtain ⟨nq, hw__⟩ := hw_; subst hw__)
                      all_goals go_wp2_with fail
                      all_goals go_roundw
                      all_goals first
                        | (case rel => exact ⟨k + 1, by go_num, by omega, H9.out.on nq⟩)
                        | (case measure => simp [intOf]; omega)
                        | skip
            · have hk1 : ¬ (k : Int) < 24 := by omega
              go_wp2_with fail
              go_ret
              exact ⟨rfl, H.fr⟩
      | true =>
        have HC := Lib.hid (cut_fi hck.symm)
        have hcz : cutZ bits4 data4 z4 l4 size = size := by rw [cutZ, ← hck, if_pos rfl]
        have hcz2 : (cutZ bits4 data4 z4 l4 size != size) = false := by rw [hcz]; exact bne_self_eq_false _
        have hcz3 : (cutZ bits4 data4 z4 l4 size == size) = true := by rw [hcz]; exact beq_self_eq_true _
        have HCZ := Lib.hid hcz
        have HQ5' := Lib.hid (show q5 ≤ 1048576 by rw [← HQ5.out]; have := cut_len (bits := bits4) (data := data4) (z := z4) (size := size) (l := l4) HL4.out; omega)
        have HSZ5 := Lib.hid (show ∀ s ∈ cutData bits4 data4 z4 l4 size, s.size ≤ 1048576 from fun s hs => by have := HC.out.2.2.1.sz s hs; omega)
        clear hcz hck
        have y0 := H.bat 3 rfl (j := 0) rfl
        have y1 := H.bat 3 rfl (j := 1) rfl
        have y2 := H.bat 2 rfl (j := 0) rfl
        have y3 := H.bat 2 rfl (j := 1) rfl
        go_wp2_with fail
        refine (specFilOk_any A5 n4 c5 (cutBits bits4 data4 z4 l4 size) B5 24 d5 (cutData bits4 data4 z4 l4 size) (cutZ bits4 data4 z4 l4 size) E5 q5 r5 (cutL bits4 data4 z4 l4 size) _ (H.rd 4 rfl) (H.rd 5 rfl) (H.rd 6 rfl) h24b HSZ5.out HQ5'.out).mono ?_
        rintro e w9 ⟨rfl, f9⟩
        rw [show filOk (cutBits bits4 data4 z4 l4 size) (cutData bits4 data4 z4 l4 size) (cutZ bits4 data4 z4 l4 size) (cutL bits4 data4 z4 l4 size) = true by rw [HCZ.out]; exact filOk_iff.2 HC.out.2.2.1]
        replace H := H.go f9
        clear f9 y0 y1 y2 y3
        have y2 := H.bat 2 rfl (j := 0) rfl
        have y4 := H.bat 17 rfl (j := 1) rfl
        go_wp2_with fail
        refine (specBlocksOf_any E1 q r1 l _ (H.rd 21 rfl) hqb).mono ?_
        rintro e w20 ⟨AO, cO, rfl, oO, fO⟩
        replace H := H.made oO fO
        clear oO fO y4
        obtain ⟨O, hO⟩ : ∃ x, x = blocksOfL l := ⟨_, rfl⟩
        have HO := Lib.hid hO
        rw [← hO] at H ⊢
        obtain ⟨kO, hkO⟩ : ∃ x, x = O.length := ⟨_, rfl⟩
        rw [← hkO] at H ⊢
        have HKO := Lib.hid hkO.symm
        have hkOb : kO ≤ 24 := by rw [hkO, hO]; exact blocksOfL_len l
        clear hO hkO
        replace H := (H.reord [0, 13, 14, 15, 16, 17, 18, 19, 20, 21, 22, 1, 2, 3, 4, 5, 6, 7, 8, 9, 10, 11, 12] (n := 23) rfl (by decide)).sub (List.take_sublist 11 _)
        clear y2
        as_aux_lemma =>
          have hzz : (R.2.2.1 == z) = true := by rw [HNO.out]; exact beq_self_eq_true _
          have hzz2 : R.2.2.1 = z := by rw [HNO.out]
          have hn24 : n1 = 24 := by have := HN1.out; rw [HFI.out.lb] at this; exact this.symm
          subst hn24
          have HN3 := Lib.hid (H.rd 3 rfl).len1
          have HN4 := Lib.hid (H.rd 4 rfl).len1
          obtain ⟨gA1, _, e, _⟩ := H.form 8 rfl (by decide)
          injection e with e1 _ e2
          subst e1 e2
          obtain ⟨gB1, _, e, _⟩ := H.form 9 rfl (by decide)
          injection e with e1 _ e2
          subst e1 e2
          obtain ⟨gA2, _, e, _⟩ := H.form 3 rfl (by decide)
          injection e with e1 _ e2
          subst e1 e2
          obtain ⟨gB2, _, e, _⟩ := H.form 4 rfl (by decide)
          injection e with e1 _ e2
          subst e1 e2
          have HEOK := Lib.hid HFI.out.ok
          go_wp2_with fail
          go_loopw [23] (fun bv wr => ∃ k : Nat, bv = .int .i64 k ∧ k ≤ 24 ∧ Hp [] w wr [.row 3 1 (.slice AO kO cO) kO (O.map (Value.int .i64)), .blk (gb + 1) 34 [.int .i64 R.2.2.1, .slice E2 q2 r2], .blk gb 31 [.slice (some ⟨gA2, 0, none⟩) 24 c2, .slice (some ⟨gB2, 0, none⟩) 24 d2], .row 4 1 (.slice (some ⟨gA2, 0, none⟩) 24 c2) 24 (R.1.map Value.bool), .row 9 1 (.slice (some ⟨gB2, 0, none⟩) 24 d2) 24 (R.2.1.map Value.string), .row 92 3 (.slice E2 q2 r2) q2 (R.2.2.2.1.flatMap cExt),
              .blk (ga + 1) 34 [.int .i64 z, .slice E1 q r1], .blk ga 31 [.slice (some ⟨gA1, 0, none⟩) 24 c1, .slice (some ⟨gB1, 0, none⟩) 24 d1], .row 4 1 (.slice (some ⟨gA1, 0, none⟩) 24 c1) 24 (bits.map Value.bool), .row 9 1 (.slice (some ⟨gB1, 0, none⟩) 24 d1) 24 (data.map Value.string), .row 92 3 (.slice E1 q r1) q (l.flatMap cExt)]) (fun bv _ => 24 - (intOf bv).toNat)
          case atStart => exact ⟨0, rfl, by omega, H⟩
          case round =>
            clear H
            obtain ⟨k, rfl, hk, H⟩ := hrel
            have y0 := H.bat 7 rfl (j := 0) rfl
            have y1 := H.bat 7 rfl (j := 1) rfl
            have y2 := H.bat 6 rfl (j := 0) rfl
            have y3 := H.bat 6 rfl (j := 1) rfl
            have y4 := H.bat 1 rfl (j := 0) rfl
            have hk0 : (0 : Int) ≤ (k : Int) := by omega
            by_cases hk24 : k < 24
            · have hk1 : (k : Int) < 24 := by omega
              go_wp2_with fail
              refine (specFilOk_any _ 24 c1 bits _ 24 d1 data z E1 q r1 l _ (H.rd 8 rfl) (H.rd 9 rfl) (H.rd 10 rfl) h24b HSZ.out hqb).mono ?_
              rintro e w9 ⟨rfl, f9⟩
              rw [filOk_iff.2 HFI.out]
              replace H := H.go f9
              clear f9 y0 y1 y2 y3 y4
              have y0 := H.bat 7 rfl (j := 0) rfl
              have y1 := H.bat 7 rfl (j := 1) rfl
              have y2 := H.bat 6 rfl (j := 0) rfl
              have y3 := H.bat 6 rfl (j := 1) rfl
              have y4 := H.bat 1 rfl (j := 0) rfl
              go_wp2_with fail
              go_loopw [24, 25] (fun mv iv wi => ∃ i : Nat, i ≤ kO ∧ iv = .int .i64 i ∧ mv = .bool ((O.take i).any fun x => x == (k : Int)) ∧ w9 = wi) (fun _ iv _ => kO - (intOf iv).toNat)
              case atStart => exact ⟨0, by omega, rfl, rfl, rfl⟩
              case round =>
                obtain ⟨i, hi, rfl, rfl, rfl⟩ := hrel
                by_cases hil : i < kO
                · obtain ⟨x, hx⟩ := at_some HKO.out hil
                  have HX := Lib.hid hx
                  obtain ⟨gO, cgO, e, _⟩ := H.form 0 rfl (by omega)
                  injection e with e1 _ e2
                  subst e1 e2
                  have cx := H.atM (f1 := Value.int .i64) 0 rfl hx
                  have hi0 : (0 : Int) ≤ (i : Int) := by omega
                  have hi1 : (i : Int) < (kO : Int) := by omega
                  have HNX := Lib.hid (show ((O.take (i + 1)).any fun x => x == (k : Int)) = (((O.take i).any fun x => x == (k : Int)) || (x == (k : Int))) by rw [HX.out.take, List.any_append]; simp)
                  clear hx
                  obtain ⟨m, hm⟩ : ∃ m, m = ((O.take i).any fun x => x == (k : Int)) := ⟨_, rfl⟩
                  rw [← hm] at HNX ⊢
                  have HM := Lib.hid hm
                  clear hm
                  cases m with
                  | true =>
                    go_wp2_with fail
                    go_roundw
                    case rel => exact ⟨i + 1, by omega, by go_num, by rw [HNX.out]; rfl, by first | trivial | rfl⟩
                    case measure => simp [intOf]; omega
                  | false =>
                    obtain ⟨bq, hbq⟩ : ∃ bq, (x == (k : Int)) = bq := ⟨_, rfl⟩
                    have HBQ := Lib.hid hbq
                    go_wp2_with fail
                    go_roundw
                    case rel => exact ⟨i + 1, by omega, by go_num, by rw [HNX.out, HBQ.out]; rfl, by first | trivial | rfl⟩
                    case measure => simp [intOf]; omega
                · obtain ⟨m, hm⟩ : ∃ m, m = O.any fun x => x == (k : Int) := ⟨_, rfl⟩
                  have hmt : ((O.take i).any fun x => x == (k : Int)) = m := by rw [List.take_of_length_le (by rw [HKO.out]; omega), hm]
                  rw [hmt]
                  have HM := Lib.hid hm
                  have hil2 : ¬ ((i : Int) < (kO : Int)) := by omega
                  clear hm hmt
                  obtain ⟨x, hx⟩ := at_some HN1.out hk24
                  obtain ⟨s, hs⟩ := at_some HN2.out hk24
                  obtain ⟨x', hx'⟩ := at_some HN3.out hk24
                  obtain ⟨s', hs'⟩ := at_some HN4.out hk24
                  (obtain ⟨rfl, rfl⟩ : x = x' ∧ s = s' := by have e1 := hx'; have e2 := hs'; rw [At, HNO.out] at e1 e2; exact ⟨by simpa using hx.symm.trans e1, by simpa using hs.symm.trans e2⟩)
                  have hss : (s.toList != s.toList) = false := bne_self_eq_false _
                  cases x with
                  | false =>
                    go_wp2_with fail
                    clear y0 y1 y2 y3 y4
                    have m0 := H.bat 7 rfl (j := 0) rfl
                    have m1 := H.bat 7 rfl (j := 1) rfl
                    have m2 := H.bat 2 rfl (j := 0) rfl
                    have m3 := H.bat 2 rfl (j := 1) rfl
                    have m4 := H.atM (f1 := Value.bool) 8 rfl hx
                    have m5 := H.atM (f1 := Value.string) 9 rfl hs
                    have m6 := H.atM (f1 := Value.bool) 3 rfl hx'
                    have m7 := H.atM (f1 := Value.string) 4 rfl hs'
                    have H9 := Lib.hid H
                    clear H hx hs hx' hs'
                    refine wp_region_quiet_lit (by kernel_rfl) (by kernel_rfl) ?_
                    repeat (any_goals (first | go_big_quiet_step ((fail)) | quiet_step ((fail)) | (refine wpQuiet_step (fun K hK => ?_); go_simp; split <;> (refine hK _ ?_; clear hK K))))
                    all_goals (refine wpQuiet_nil ?_; intro _ hw_; obtain ⟨nq, hw__⟩ := hw_; subst hw__)
                    all_goals go_wp2_with fail
                    all_goals go_roundw
                    all_goals first
                      | (case rel => exact ⟨k + 1, by go_num, by omega, H9.out.on nq⟩)
                      | (case measure => simp [intOf]; omega)
                      | skip
                  | true =>
                    cases m with
                    | true =>
                      go_wp2_with fail
                      clear y0 y1 y2 y3 y4
                      have m0 := H.bat 7 rfl (j := 0) rfl
                      have m1 := H.bat 7 rfl (j := 1) rfl
                      have m2 := H.bat 2 rfl (j := 0) rfl
                      have m3 := H.bat 2 rfl (j := 1) rfl
                      have m4 := H.atM (f1 := Value.bool) 8 rfl hx
                      have m5 := H.atM (f1 := Value.string) 9 rfl hs
                      have m6 := H.atM (f1 := Value.bool) 3 rfl hx'
                      have m7 := H.atM (f1 := Value.string) 4 rfl hs'
                      have H9 := Lib.hid H
                      clear H hx hs hx' hs'
                      refine wp_region_quiet_lit (by kernel_rfl) (by kernel_rfl) ?_
                      repeat (any_goals (first | go_big_quiet_step ((fail)) | quiet_step ((fail)) | (refine wpQuiet_step (fun K hK => ?_); go_simp; split <;> (refine hK _ ?_; clear hK K))))
                      all_goals (refine wpQuiet_nil ?_; intro _ hw_; obtain ⟨nq, hw__⟩ := hw_; subst hw__)
                      all_goals go_wp2_with fail
                      all_goals go_roundw
                      all_goals first
                        | (case rel => exact ⟨k + 1, by go_num, by omega, H9.out.on nq⟩)
                        | (case measure => simp [intOf]; omega)
                        | skip
                    | false =>
                      have hnb : (k : Int) ∉ flatL l := by
                        rw [← blocks_mem HEOK.out hk24, ← HO.out]
                        have h9 := HM.out
                        rw [eq_comm, List.any_eq_false] at h9
                        intro hc
                        have := h9 _ hc
                        simp at this
                      have hw := others_wr HR.out hx hnb
                      skip
                      clear hw hnb
                      go_wp2_with fail
                      clear y0 y1 y2 y3 y4
                      have m0 := H.bat 7 rfl (j := 0) rfl
                      have m1 := H.bat 7 rfl (j := 1) rfl
                      have m2 := H.bat 2 rfl (j := 0) rfl
                      have m3 := H.bat 2 rfl (j := 1) rfl
                      have m4 := H.atM (f1 := Value.bool) 8 rfl hx
                      have m5 := H.atM (f1 := Value.string) 9 rfl hs
                      have m6 := H.atM (f1 := Value.bool) 3 rfl hx'
                      have m7 := H.atM (f1 := Value.string) 4 rfl hs'
                      have H9 := Lib.hid H
                      clear H hx hs hx' hs'
                      refine wp_region_quiet_lit (by kernel_rfl) (by kernel_rfl) ?_
                      repeat (any_goals (first | go_big_quiet_step ((fail)) | quiet_step ((fail)) | (refine wpQuiet_step (fun K hK => ?_); go_simp; split <;> (refine hK _ ?_; clear hK K))))
                      all_goals (refine wpQuiet_nil ?_; intro _ hw_; obtain ⟨nq, hw__⟩ := hw_; subst hw__)
                      all_goals go_wp2_with fail
                      all_goals go_roundw
                      all_goals first
                        | (case rel => exact ⟨k + 1, by go_num, by omega, H9.out.on nq⟩)
                        | (case measure => simp [intOf]; omega)
                        | skip
            · have hk1 : ¬ (k : Int) < 24 := by omega
              go_wp2_with fail
              go_ret
              exact ⟨rfl, H.fr⟩
    | false =>
      have HFO := Lib.hid hfo
      clear hfo
      -- the cut, in the two cases
      have hck := HCK.out
      clear HCK
      cases ck with
      | false =>
        clear hck
        have y4 := H.bat 17 rfl (j := 1) rfl
        go_wp2_with fail
        refine (specBlocksOf_any E1 q r1 l _ (H.rd 21 rfl) hqb).mono ?_
        rintro e w20 ⟨AO, cO, rfl, oO, fO⟩
        replace H := H.made oO fO
        clear oO fO y4
        obtain ⟨O, hO⟩ : ∃ x, x = blocksOfL l := ⟨_, rfl⟩
        have HO := Lib.hid hO
        rw [← hO] at H ⊢
        obtain ⟨kO, hkO⟩ : ∃ x, x = O.length := ⟨_, rfl⟩
        rw [← hkO] at H ⊢
        have HKO := Lib.hid hkO.symm
        have hkOb : kO ≤ 24 := by rw [hkO, hO]; exact blocksOfL_len l
        clear hO hkO
        replace H := (H.reord [0, 13, 14, 15, 16, 17, 18, 19, 20, 21, 22, 1, 2, 3, 4, 5, 6, 7, 8, 9, 10, 11, 12] (n := 23) rfl (by decide)).sub (List.take_sublist 11 _)
        as_aux_lemma =>
          have hzz : (R.2.2.1 == z) = true := by rw [HNO.out]; exact beq_self_eq_true _
          have hzz2 : R.2.2.1 = z := by rw [HNO.out]
          go_wp2_with fail
          go_loopw [23] (fun bv wr => ∃ k : Nat, bv = .int .i64 k ∧ k ≤ n1 ∧ Hp [] w wr [.row 3 1 (.slice AO kO cO) kO (O.map (Value.int .i64)), .blk (gb + 1) 34 [.int .i64 R.2.2.1, .slice E2 q2 r2], .blk gb 31 [.slice A2 n1 c2, .slice B2 24 d2], .row 4 1 (.slice A2 n1 c2) n1 (R.1.map Value.bool), .row 9 1 (.slice B2 24 d2) 24 (R.2.1.map Value.string), .row 92 3 (.slice E2 q2 r2) q2 (R.2.2.2.1.flatMap cExt),
              .blk (ga + 1) 34 [.int .i64 z, .slice E1 q r1], .blk ga 31 [.slice A1 n1 c1, .slice B1 24 d1], .row 4 1 (.slice A1 n1 c1) n1 (bits.map Value.bool), .row 9 1 (.slice B1 24 d1) 24 (data.map Value.string), .row 92 3 (.slice E1 q r1) q (l.flatMap cExt)]) (fun bv _ => 24 - (intOf bv).toNat)
          case atStart => exact ⟨0, rfl, by omega, H⟩
          case round =>
            clear H
            obtain ⟨k, rfl, hk, H⟩ := hrel
            have y0 := H.bat 7 rfl (j := 0) rfl
            have y1 := H.bat 7 rfl (j := 1) rfl
            have y2 := H.bat 6 rfl (j := 0) rfl
            have y3 := H.bat 6 rfl (j := 1) rfl
            have y4 := H.bat 1 rfl (j := 0) rfl
            have hk0 : (0 : Int) ≤ (k : Int) := by omega
            by_cases hkn : k < n1
            · have hk1 : (k : Int) < (n1 : Int) := by omega
              have hk2 : (k : Int) < 24 := by omega
              go_wp2_with fail
              refine (specFilOk_any A1 n1 c1 bits B1 24 d1 data z E1 q r1 l _ (H.rd 8 rfl) (H.rd 9 rfl) (H.rd 10 rfl) h24b HSZ.out hqb).mono ?_
              rintro e w9 ⟨rfl, f9⟩
              rw [HFO.out]
              replace H := H.go f9
              clear f9 y0 y1 y2 y3 y4
              have y2 := H.bat 6 rfl (j := 0) rfl
              have y4 := H.bat 1 rfl (j := 0) rfl
              go_wp2_with fail
              go_ret
              exact ⟨rfl, H.fr⟩
            · have hk1 : ¬ ((k : Int) < (n1 : Int)) := by omega
              go_wp2_with fail
              go_ret
              exact ⟨rfl, H.fr⟩
      | true =>
        have HC := Lib.hid (cut_fi hck.symm)
        have hcz : cutZ bits4 data4 z4 l4 size = size := by rw [cutZ, ← hck, if_pos rfl]
        have hcz2 : (cutZ bits4 data4 z4 l4 size != size) = false := by rw [hcz]; exact bne_self_eq_false _
        have hcz3 : (cutZ bits4 data4 z4 l4 size == size) = true := by rw [hcz]; exact beq_self_eq_true _
        have HCZ := Lib.hid hcz
        have HQ5' := Lib.hid (show q5 ≤ 1048576 by rw [← HQ5.out]; have := cut_len (bits := bits4) (data := data4) (z := z4) (size := size) (l := l4) HL4.out; omega)
        have HSZ5 := Lib.hid (show ∀ s ∈ cutData bits4 data4 z4 l4 size, s.size ≤ 1048576 from fun s hs => by have := HC.out.2.2.1.sz s hs; omega)
        clear hcz hck
        have y0 := H.bat 3 rfl (j := 0) rfl
        have y1 := H.bat 3 rfl (j := 1) rfl
        have y2 := H.bat 2 rfl (j := 0) rfl
        have y3 := H.bat 2 rfl (j := 1) rfl
        go_wp2_with fail
        refine (specFilOk_any A5 n4 c5 (cutBits bits4 data4 z4 l4 size) B5 24 d5 (cutData bits4 data4 z4 l4 size) (cutZ bits4 data4 z4 l4 size) E5 q5 r5 (cutL bits4 data4 z4 l4 size) _ (H.rd 4 rfl) (H.rd 5 rfl) (H.rd 6 rfl) h24b HSZ5.out HQ5'.out).mono ?_
        rintro e w9 ⟨rfl, f9⟩
        rw [show filOk (cutBits bits4 data4 z4 l4 size) (cutData bits4 data4 z4 l4 size) (cutZ bits4 data4 z4 l4 size) (cutL bits4 data4 z4 l4 size) = true by rw [HCZ.out]; exact filOk_iff.2 HC.out.2.2.1]
        replace H := H.go f9
        clear f9 y0 y1 y2 y3
        have y2 := H.bat 2 rfl (j := 0) rfl
        have y4 := H.bat 17 rfl (j := 1) rfl
        go_wp2_with fail
        refine (specBlocksOf_any E1 q r1 l _ (H.rd 21 rfl) hqb).mono ?_
        rintro e w20 ⟨AO, cO, rfl, oO, fO⟩
        replace H := H.made oO fO
        clear oO fO y4
        obtain ⟨O, hO⟩ : ∃ x, x = blocksOfL l := ⟨_, rfl⟩
        have HO := Lib.hid hO
        rw [← hO] at H ⊢
        obtain ⟨kO, hkO⟩ : ∃ x, x = O.length := ⟨_, rfl⟩
        rw [← hkO] at H ⊢
        have HKO := Lib.hid hkO.symm
        have hkOb : kO ≤ 24 := by rw [hkO, hO]; exact blocksOfL_len l
        clear hO hkO
        replace H := (H.reord [0, 13, 14, 15, 16, 17, 18, 19, 20, 21, 22, 1, 2, 3, 4, 5, 6, 7, 8, 9, 10, 11, 12] (n := 23) rfl (by decide)).sub (List.take_sublist 11 _)
        clear y2
        as_aux_lemma =>
          have hzz : (R.2.2.1 == z) = true := by rw [HNO.out]; exact beq_self_eq_true _
          have hzz2 : R.2.2.1 = z := by rw [HNO.out]
          go_wp2_with fail
          go_loopw [23] (fun bv wr => ∃ k : Nat, bv = .int .i64 k ∧ k ≤ n1 ∧ Hp [] w wr [.row 3 1 (.slice AO kO cO) kO (O.map (Value.int .i64)), .blk (gb + 1) 34 [.int .i64 R.2.2.1, .slice E2 q2 r2], .blk gb 31 [.slice A2 n1 c2, .slice B2 24 d2], .row 4 1 (.slice A2 n1 c2) n1 (R.1.map Value.bool), .row 9 1 (.slice B2 24 d2) 24 (R.2.1.map Value.string), .row 92 3 (.slice E2 q2 r2) q2 (R.2.2.2.1.flatMap cExt),
              .blk (ga + 1) 34 [.int .i64 z, .slice E1 q r1], .blk ga 31 [.slice A1 n1 c1, .slice B1 24 d1], .row 4 1 (.slice A1 n1 c1) n1 (bits.map Value.bool), .row 9 1 (.slice B1 24 d1) 24 (data.map Value.string), .row 92 3 (.slice E1 q r1) q (l.flatMap cExt)]) (fun bv _ => 24 - (intOf bv).toNat)
          case atStart => exact ⟨0, rfl, by omega, H⟩
          case round =>
            clear H
            obtain ⟨k, rfl, hk, H⟩ := hrel
            have y0 := H.bat 7 rfl (j := 0) rfl
            have y1 := H.bat 7 rfl (j := 1) rfl
            have y2 := H.bat 6 rfl (j := 0) rfl
            have y3 := H.bat 6 rfl (j := 1) rfl
            have y4 := H.bat 1 rfl (j := 0) rfl
            have hk0 : (0 : Int) ≤ (k : Int) := by omega
            by_cases hkn : k < n1
            · have hk1 : (k : Int) < (n1 : Int) := by omega
              have hk2 : (k : Int) < 24 := by omega
              go_wp2_with fail
              refine (specFilOk_any A1 n1 c1 bits B1 24 d1 data z E1 q r1 l _ (H.rd 8 rfl) (H.rd 9 rfl) (H.rd 10 rfl) h24b HSZ.out hqb).mono ?_
              rintro e w9 ⟨rfl, f9⟩
              rw [HFO.out]
              replace H := H.go f9
              clear f9 y0 y1 y2 y3 y4
              have y2 := H.bat 6 rfl (j := 0) rfl
              have y4 := H.bat 1 rfl (j := 0) rfl
              go_wp2_with fail
              go_ret
              exact ⟨rfl, H.fr⟩
            · have hk1 : ¬ ((k : Int) < (n1 : Int)) := by omega
              go_wp2_with fail
              go_ret
              exact ⟨rfl, H.fr⟩
end Go.Proofs.Ytbmoolmgfpcnkaa
