/-
  The law FnFile, walked.
-/
import Derived.Test.YtbmoolmgfpcnkaaGc
import Derived.Test.YtbmoolmgfpcnkaaFilWriteI
import Derived.Test.YtbmoolmgfpcnkaaFilCutI
import Derived.Test.YtbmoolmgfpcnkaaFilRead
import Derived.Test.YtbmoolmgfpcnkaaGb
namespace Go.Proofs.Ytbmoolmgfpcnkaa
open Go.RowKit

set_option linter.unusedSimpArgs false
set_option linter.unusedVariables false
theorem bigF_any (A : Option Addr) (n c : Nat) (w : World) (_hn : n ≤ 9223372036854775807) :
    Calls Try.prog 19 #[.slice A n c] w fun e w' => e = .returned (.bool (decide (1048576 < n))) ∧ w = w' := by
  go_enter Try.func19, Try.ntmps19
  go_wp2
  go_ret
  exact ⟨ret_bool (by simp; omega), rfl⟩
theorem at_any (A : Option Addr) (n c : Nat) (bs : List UInt8) (i : Int) (w : World) (hA : Rd w A n 1 (bs.map cU8)) (hn : n ≤ 1048576) (h0 : 0 ≤ i) (h1 : i ≤ 100000) :
    Calls Try.prog 31 #[.slice A n c, .int .i64 i] w fun e w' => ∃ u : UInt8, e = .returned (.int .i64 (u.toNat : Int)) ∧ w' = w := by
  obtain ⟨k, rfl⟩ : ∃ k : Nat, i = k := ⟨i.toNat, by omega⟩
  go_enter Try.func31, Try.ntmps31
  by_cases hlt : k < n
  · obtain ⟨u, hu⟩ := at_some hA.len1 hlt
    obtain ⟨b0, o0, rfl, cb⟩ := hA.get1 hu
    have hbb := u.toNat_lt
    obtain ⟨y, hy⟩ : ∃ y : Int, y = (u.toNat : Int) := ⟨_, rfl⟩
    rw [show cU8 u = .int .u8 y by rw [hy]; rfl] at cb
    have hy0 : 0 ≤ y := by omega
    have hy1 : y ≤ 255 := by omega
    have HY := Lib.hid hy
    have hk1 : (k : Int) < (n : Int) := by omega
    clear hu hA hy hbb
    go_wp2
    go_ret
    first
      | exact ⟨u, by rw [← HY.out]; rfl, rfl⟩
      | exact ⟨u, by rw [← HY.out]; rfl⟩
  · have hk1 : ¬ ((k : Int) < (n : Int)) := by omega
    obtain ⟨u, hu⟩ := byte_of (y := ((k : Int) * 37 + (n : Int) * 11) % 256) (by omega) (by omega)
    have hw1 : IntKind.i64.wrap ((k : Int) * 37) = (k : Int) * 37 := IntWalk.i64_in _ (by omega)
    have hw2 : IntKind.i64.wrap ((n : Int) * 11) = (n : Int) * 11 := IntWalk.i64_in _ (by omega)
    have hw3 : IntKind.i64.wrap ((k : Int) * 37 + (n : Int) * 11) = (k : Int) * 37 + (n : Int) * 11 := IntWalk.i64_in _ (by omega)
    have HU := Lib.hid hu
    clear hA hu
    go_wp2
    go_ret
    have h := HU.out
    first
      | exact ⟨u, by rw [← h]; rfl, rfl⟩
      | exact ⟨⟨u, by rw [← h]; rfl⟩, rfl⟩
      | exact ⟨u, by rw [← h]; rfl⟩
/-- How long a text is. -/
def szV : Value → Nat
  | .string s => s.size
  | _ => 0
theorem pad_snoc {u : List UInt8} {n : Nat} (h : u.length < n) : pad (u ++ [0]) n = pad u n := by
  unfold pad
  rw [List.length_append, List.length_singleton, List.append_assoc, show n - u.length = (n - (u.length + 1)) + 1 by omega]
  congr 1
theorem pad_full {u : List UInt8} {n : Nat} (h : n ≤ u.length) : pad u n = u := by
  unfold pad
  rw [show n - u.length = 0 by omega]
  simp [zB]
theorem sim_new : Sim newBits (newData 24) 0 [] [] := by
  have hf : flatL [] = List.replicate 12 (-1) := rfl
  have hb : ∀ p, byteAt (newData 24) (flatL []) p = 0 := fun p => by
    by_cases hp : p / 4 < 12
    · exact byte_neg (by rw [hf, List.getD_eq_getElem?_getD, List.getElem?_replicate, if_pos hp]; decide)
    · exact byte_out (by rw [hf, List.length_replicate]; omega)
  refine ⟨⟨by simp [newBits], newData_len 24, fun s hs => ?_, by decide, by decide, rfl, fun i b hi => ?_, fun p _ => hb p⟩, fun b hb2 => ?_, rfl, fun p => ?_⟩
  · rw [newData, List.mem_replicate] at hs
    rw [hs.2, ofB_size, zB, List.length_replicate]
  · rw [hf, List.getElem?_replicate] at hi
    split at hi
    · injection hi with hi; omega
    · cases hi
  · rw [newBits, List.getElem?_replicate] at hb2
    split at hb2
    · cases hb2
    · cases hb2
  · rw [hb]; rfl
set_option maxRecDepth 100000 in
set_option maxHeartbeats 16000000 in
theorem lawFnFile_walk (A : Option Addr) (n c : Nat) (bs : List UInt8) (w : World) (hA : Rd w A n 1 (bs.map cU8)) (hcap : n ≤ 9223372036854775807) :
    Calls Try.prog 5 #[.slice A n c] w fun e w' => e = .returned (.bool true) ∧ Fr w w' := by
  by_cases hbig : 1048576 < n
  · have hd : decide (1048576 < n) = true := by simpa using hbig
    go_enter Try.func5, Try.ntmps5
    go_wp2_with fail
    refine (bigF_any A n c _ hcap).mono ?_
    rintro e w1 ⟨rfl, rfl⟩
    rw [hd]
    go_wp2_with fail
    go_ret
    exact ⟨rfl, Below.refl _ _⟩
  have hd : decide (1048576 < n) = false := by simpa using hbig
  have hn : n ≤ 1048576 := by omega
  have HA := Lib.hid hA
  go_enter Try.func5, Try.ntmps5
  go_wp2_with fail
  refine (bigF_any A n c _ hcap).mono ?_
  rintro e wq ⟨rfl, hwq⟩
  rw [← hwq, hd]
  clear hwq hd hbig hA
  go_wp2_with fail
  refine (specNewStore_any _).mono ?_
  rintro e w1 ⟨A1, c1, B1, d1, rfl, K⟩
  have H1 := K.lay_ 31 [.slice A1 24 c1, .slice B1 24 d1] rfl
  obtain ⟨g3, hg3⟩ : ∃ x, x = w1.heap.size := ⟨_, rfl⟩
  have HG3 := Lib.hid hg3
  rw [← hg3] at H1
  have H2 := (H1.nil_ 92 3).lay_ 34 [.int .i64 0, .slice none 0 0] (g := g3 + 1) (by rw [hg3]; simp)
  obtain ⟨g4, hg4⟩ : ∃ x, x = g3 + 1 := ⟨_, rfl⟩
  have HG4 := Lib.hid hg4
  rw [← hg4] at H2
  clear H1 K hg3 hg4
  have H := H2.reord [4, 3, 1, 2, 0] (n := 5) rfl (by decide)
  clear H2
  have HS0 := Lib.hid (show Sim newBits (newData 24) 0 [] [] from sim_new)
  go_wp2_with fail
  rw [← HG3.out, ← HG4.out]
  clear HG3 HG4
  go_loopw [5, 6] (fun wv iv wr => ∃ (k : Nat) (want : List UInt8) (bits : List Bool) (data : List ByteArray) (z : Int) (l : List (Int × Int × Int)) (A1 : Option Addr) (c1 : Nat) (B1 : Option Addr) (d1 : Nat) (E1 : Option Addr) (q r1 : Nat), wv = .string (ofB want) ∧ iv = .int .i64 k ∧ k ≤ 14 ∧ Sim bits data z l want ∧ l.length = q ∧ q ≤ 12 ∧
    Hp [] w wr [.row 4 1 (.slice A1 24 c1) 24 (bits.map Value.bool), .row 9 1 (.slice B1 24 d1) 24 (data.map Value.string), .row 92 3 (.slice E1 q r1) q (l.flatMap cExt), .blk g3 31 [.slice A1 24 c1, .slice B1 24 d1], .blk g4 34 [.int .i64 z, .slice E1 q r1]]) (fun _ iv _ => 14 - (intOf iv).toNat)
  case atStart => exact ⟨0, [], newBits, newData 24, 0, [], A1, c1, B1, d1, none, 0, 0, rfl, rfl, by omega, HS0.out, rfl, by omega, H⟩
  case round =>
    clear H HS0
    obtain ⟨k, want, bits, data, z, l, A1, c1, B1, d1, E1, q, r1, rfl, rfl, hk, hsim, hl, hq, H⟩ := hrel
    have HSIM := Lib.hid hsim
    have HL := Lib.hid hl
    have hw48 : want.length ≤ 48 := by have := hsim.len; have := hsim.fi.z1; omega
    clear hsim hl
    by_cases hk14 : k < 14
    · have hk0 : (0 : Int) ≤ (k : Int) := by omega
      have hk1 : (k : Int) < 14 := by omega
      have hm3 : IntKind.i64.wrap (3 * (k : Int)) = 3 * (k : Int) := IntWalk.i64_in _ (by omega)
      go_wp2_with fail
      refine (at_any A n c bs _ _ (H.old HA.out) hn (by omega) (by omega)).mono ?_
      rintro e wq ⟨u0, rfl, hwq⟩
      rw [hwq]
      clear hwq
      obtain ⟨o, ho⟩ : ∃ o : Nat, (u0.toNat : Int) % 44 = (o : Int) := ⟨u0.toNat % 44, by omega⟩
      have ho43 : o ≤ 43 := by omega
      have hu0 := u0.toNat_lt
      go_wp2_with fail
      refine (at_any A n c bs _ _ (H.old HA.out) hn (by omega) (by omega)).mono ?_
      rintro e wq ⟨u1, rfl, hwq⟩
      rw [hwq]
      clear hwq
      obtain ⟨nn, hnn⟩ : ∃ o : Nat, (u1.toNat : Int) % 5 = (o : Int) := ⟨u1.toNat % 5, by omega⟩
      have hn4 : nn ≤ 4 := by omega
      go_wp2_with fail
      refine (at_any A n c bs _ _ (H.old HA.out) hn (by omega) (by omega)).mono ?_
      rintro e wq ⟨u2, rfl, hwq⟩
      rw [hwq]
      clear hwq
      have hcA := own_nc (H.row 0 rfl)
      have hcB := own_nc (H.row 1 rfl)
      have hcE := own_nc (H.row 2 rfl)
      have h24b : (24 : Nat) ≤ 1048576 := by decide
      have hqb : q ≤ 1048576 := by omega
      have HZ4 := Lib.hid (show ∀ s ∈ data, s.size ≤ 1048576 from fun s hs => by have := HSIM.out.fi.sz s hs; omega)
      have HO := Lib.hid ho
      have HN := Lib.hid hnn
      have y0 := H.bat 3 rfl (j := 0) rfl
      have y1 := H.bat 3 rfl (j := 1) rfl
      have y2 := H.bat 4 rfl (j := 0) rfl
      have y3 := H.bat 4 rfl (j := 1) rfl
      by_cases h3 : (u2.toNat : Int) % 3 = 0
      · go_wp2_with fail
        refine (implFilCut_any A1 24 c1 bits B1 24 d1 data z E1 q r1 l o _ (H.rd 0 rfl) (H.rd 1 rfl) (H.rd 2 rfl) hcA hcB hcE h24b h24b HZ4.out hqb).mono ?_
        rintro e w5 ⟨A2, c2, B2, d2, E2, q2, r2, rfl, hq2, K⟩
        have SC := HSIM.out.cut (n := o) (by omega)
        rw [SC.1]
        have HSIM2 := Lib.hid SC.2
        replace H := H.join K
        have HL2 := Lib.hid hq2
        have hq12 : q2 ≤ 12 := by rw [← hq2]; exact cut_len (by rw [HL.out]; exact hq)
        obtain ⟨bits2, hb2⟩ : ∃ x, x = cutBits bits data z l o := ⟨_, rfl⟩
        obtain ⟨data2, hd2⟩ : ∃ x, x = cutData bits data z l o := ⟨_, rfl⟩
        obtain ⟨z2, hz2⟩ : ∃ x, x = cutZ bits data z l o := ⟨_, rfl⟩
        obtain ⟨l2, hl2⟩ : ∃ x, x = cutL bits data z l o := ⟨_, rfl⟩
        rw [← hb2, ← hd2, ← hz2, ← hl2] at HSIM2
        rw [← hb2, ← hd2, ← hl2] at H
        rw [← hl2] at HL2
        rw [← hz2]
        clear SC K hq2 hb2 hd2 hz2 hl2 y0 y1 y2 y3 hcA hcB hcE HZ4 h3
        -- what came back, in boxes of its own; the text grows meanwhile
        replace H := (H.lay_ 31 [.slice A2 24 c2, .slice B2 24 d2] rfl).lay_ 34 [.int .i64 z2, .slice E2 q2 r2] (g := w5.heap.size + 1) (by simp)
        obtain ⟨g9, hg9⟩ : ∃ x, x = w5.heap.size := ⟨_, rfl⟩
        rw [← hg9] at H
        have HG9 := Lib.hid hg9
        clear hg9
        go_wp2_with fail
        rw [← HG9.out]
        go_loopw [5] (fun wv wr => ∃ u : List UInt8, wv = .string (ofB u) ∧ pad u o = pad want o ∧ u.length ≤ 100 ∧ Hp [] w wr [.blk (g9 + 1) 34 [.int .i64 z2, .slice E2 q2 r2], .blk g9 31 [.slice A2 24 c2, .slice B2 24 d2], .row 4 1 (.slice A2 24 c2) 24 (bits2.map Value.bool), .row 9 1 (.slice B2 24 d2) 24 (data2.map Value.string), .row 92 3 (.slice E2 q2 r2) q2 (l2.flatMap cExt), .row 4 1 (.slice A1 24 c1) 24 (bits.map Value.bool), .row 9 1 (.slice B1 24 d1) 24 (data.map Value.string), .row 92 3 (.slice E1 q r1) q (l.flatMap cExt), .blk g3 31 [.slice A1 24 c1, .slice B1 24 d1], .blk g4 34 [.int .i64 z, .slice E1 q r1]]) (fun wv _ => o - szV wv)
        -- noughts behind the text, up to a length
        case atStart => exact ⟨want, rfl, rfl, by omega, H⟩
        case round =>
          clear H
          obtain ⟨u, rfl, hpu, hul, H⟩ := hrel
          have HPU := Lib.hid hpu
          clear hpu
          obtain ⟨m, hm⟩ : ∃ m, m = u.length := ⟨_, rfl⟩
          have hms : (ofB u).size = m := by rw [ofB_size, hm]
          have HM := Lib.hid hm
          clear hm
          by_cases hlt : m < o
          · have hlt1 : (m : Int) < (o : Int) := by omega
            go_wp2_with fail
            refine (lawsZeros_any 1 (by decide) (by decide) _).mono ?_
            rintro e w9 ⟨rfl, f9⟩
            replace H := H.go f9
            clear f9
            obtain ⟨t1, ht1⟩ : ∃ x, x = ofB (zB (1 : Int).toNat) := ⟨_, rfl⟩
            have h1s : t1.size = 1 := by rw [ht1]; rfl
            have HAP := Lib.hid (show ofB u ++ t1 = ofB (u ++ [0]) by rw [ht1, ofB_append]; rfl)
            rw [← ht1]
            have hmb : m ≤ 100 := by rw [HM.out]; exact hul
            clear ht1
            go_wp2_with fail
            rw [HAP.out]
            go_roundw
            case rel => exact ⟨u ++ [0], rfl, by rw [← HPU.out, pad_snoc (by rw [← HM.out]; exact hlt)], by rw [List.length_append, List.length_singleton, ← HM.out]; omega, H⟩
            case measure => (simp only [szV, ofB_size, List.length_append, List.length_singleton, ← HM.out]; omega)
          · have hlt1 : ¬ ((m : Int) < (o : Int)) := by omega
            have HU := Lib.hid (show u = pad want o by rw [← HPU.out, pad_full (by rw [← HM.out]; omega)])
            clear HPU
            have HTK := Lib.hid (show (ofB u).extract 0 o = ofB (cutT want o) by rw [extract_ofB, HU.out, List.drop_zero, Nat.sub_zero]; rfl)
            have hom : (o : Int) ≤ (m : Int) := by omega
            have ho0 : (0 : Int) ≤ (o : Int) := by omega
            -- s = t, f = g
            have p0 := H.bat 1 rfl (j := 0) rfl
            have p1 := H.bat 1 rfl (j := 1) rfl
            have p2 := H.bat 0 rfl (j := 0) rfl
            have p3 := H.bat 0 rfl (j := 1) rfl
            have f0 := H.bfree 8 rfl 0
            have f1 := H.bfree 8 rfl 1
            have k0 := H.bat 8 rfl (j := 0) rfl
            have k1 := H.bat 8 rfl (j := 1) rfl
            have H2 := (H.bput 8 rfl 0 (.slice A2 24 c2)).bput 8 rfl 1 (.slice B2 24 d2)
            have p4 := H2.bat 0 rfl (j := 0) rfl
            have p5 := H2.bat 0 rfl (j := 1) rfl
            have f2 := H2.bfree 9 rfl 0
            have f3 := H2.bfree 9 rfl 1
            have k2 := H2.bat 9 rfl (j := 0) rfl
            have k3 := H2.bat 9 rfl (j := 1) rfl
            have H3 := (H2.bput 9 rfl 0 (.int .i64 z2)).bput 9 rfl 1 (.slice E2 q2 r2)
            have y0 := H3.bat 8 rfl (j := 0) rfl
            have y1 := H3.bat 8 rfl (j := 1) rfl
            have y2 := H3.bat 9 rfl (j := 0) rfl
            have y3 := H3.bat 9 rfl (j := 1) rfl
            have H4 := Lib.hid ((H3.reord [2, 3, 4, 8, 9, 0, 1, 5, 6, 7] (n := 10) rfl (by decide)).sub (List.take_sublist 5 _))
            clear H H2 H3
            go_wp2_with fail
            rw [HTK.out]
            obtain ⟨want2, hwt2⟩ : ∃ x, x = cutT want o := ⟨_, rfl⟩
            rw [← hwt2] at HSIM2 ⊢
            clear hwt2 HTK HU hms hlt hlt1 hom ho0 p0 p1 p2 p3 f0 f1 f2 f3 k0 k1 k2 k3 p4 p5
            as_aux_lemma =>
              -- the file is read, and judged
              have hw2 : want2.length ≤ 48 := by have := HSIM2.out.len; have := HSIM2.out.fi.z1; omega
              have HR1 := Lib.hid (show filReadS bits2 data2 z2 l2 0 100 = ofB want2 ∧ filReadB bits2 data2 z2 l2 0 100 = true by
                refine ⟨?_, ?_⟩
                · rw [filReadS, filOk_iff.2 HSIM2.out.fi, HSIM2.out.whole, read_all (by omega)]; rfl
                · rw [filReadB, filOk_iff.2 HSIM2.out.fi]; rfl)
              have HR2 := Lib.hid (show filReadS bits2 data2 z2 l2 o 3 = ofB ((want2.drop o).take 3) ∧ filReadB bits2 data2 z2 l2 o 3 = true by
                refine ⟨?_, ?_⟩
                · rw [filReadS, filOk_iff.2 HSIM2.out.fi, HSIM2.out.whole]; simp [readL]
                · rw [filReadB, filOk_iff.2 HSIM2.out.fi]; simp)
              have HZ2 := Lib.hid (show ∀ s ∈ data2, s.size ≤ 1048576 from fun s hs => by have := HSIM2.out.fi.sz s hs; omega)
              have hqb2 : q2 ≤ 1048576 := by omega
              obtain ⟨W2, hW2⟩ : ∃ x, x = ofB want2 := ⟨_, rfl⟩
              obtain ⟨P2, hP2⟩ : ∃ x, x = ofB ((want2.drop o).take 3) := ⟨_, rfl⟩
              rw [← hW2] at HR1 ⊢
              rw [← hP2] at HR2
              obtain ⟨m2, hm2⟩ : ∃ x, x = want2.length := ⟨_, rfl⟩
              have hWs : W2.size = m2 := by rw [hW2, ofB_size, hm2]
              have hm48 : m2 ≤ 48 := by omega
              have HW2 := Lib.hid hW2
              have HP2 := Lib.hid hP2
              have HM2 := Lib.hid hm2
              have hw3 : IntKind.i64.wrap (o : Int) = (o : Int) := IntWalk.i64_in _ (by omega)
              have ho0 : (0 : Int) ≤ (o : Int) := by omega
              clear hW2 hP2 hm2 hw2
              have H : Hp [] w _ [.row 4 1 (.slice A2 24 c2) 24 (bits2.map Value.bool), .row 9 1 (.slice B2 24 d2) 24 (data2.map Value.string), .row 92 3 (.slice E2 q2 r2) q2 (l2.flatMap cExt), .blk g3 31 [.slice A2 24 c2, .slice B2 24 d2], .blk g4 34 [.int .i64 z2, .slice E2 q2 r2]] := H4.out
              refine (implFilRead_any A2 24 c2 bits2 B2 24 d2 data2 z2 E2 q2 r2 l2 0 100 _ (H.rd 0 rfl) (H.rd 1 rfl) (H.rd 2 rfl) h24b HZ2.out hqb2).mono ?_
              rintro e w7 ⟨rfl, f7⟩
              rw [HR1.out.1, HR1.out.2]
              replace H := H.go f7
              clear f7 H4 y0 y1 y2 y3
              have y0 := H.bat 3 rfl (j := 0) rfl
              have y1 := H.bat 3 rfl (j := 1) rfl
              have y2 := H.bat 4 rfl (j := 0) rfl
              have y3 := H.bat 4 rfl (j := 1) rfl
              go_wp2_with fail
              refine (implFilRead_any A2 24 c2 bits2 B2 24 d2 data2 z2 E2 q2 r2 l2 o 3 _ (H.rd 0 rfl) (H.rd 1 rfl) (H.rd 2 rfl) h24b HZ2.out hqb2).mono ?_
              rintro e w8 ⟨rfl, f8⟩
              rw [HR2.out.1, HR2.out.2]
              replace H := H.go f8
              clear f8 y0 y1 y2 y3
              by_cases hom2 : o < m2
              · have hom3 : (o : Int) < (m2 : Int) := by omega
                have hom4 : (o : Int) ≤ (m2 : Int) := by omega
                by_cases h33 : 3 < m2 - o
                · obtain ⟨X2, hX2⟩ : ∃ x, x = W2.extract o m2 := ⟨_, rfl⟩
                  have hXs : X2.size = m2 - o := by rw [hX2, ByteArray.size_extract, hWs]; omega
                  have hXe : W2.extract o m2 = X2 := hX2.symm
                  have hXp : X2.extract 0 3 = P2 := by
                    have e1 : W2.extract o m2 = ofB (want2.drop o) := by rw [HW2.out, extract_ofB, List.take_of_length_le (by rw [List.length_drop]; have := HM2.out; omega)]
                    rw [hX2, e1, extract_ofB, List.drop_zero, HP2.out]
                  have hX3 : (3 : Int) < ((m2 - o : Nat) : Int) := by omega
                  have hX4 : (3 : Int) ≤ ((m2 - o : Nat) : Int) := by omega
                  have hw33 : IntKind.i64.wrap 3 = 3 := by decide
                  clear hX2
                  go_wp2_with fail
                  as_aux_lemma =>
                    -- what was read, and what is counted
                    have hss1 : (W2.toList != W2.toList) = false := bne_self_eq_false _
                    have hss2 : (P2.toList != P2.toList) = false := bne_self_eq_false _
                    have hff := filOk_iff.2 HSIM2.out.fi
                    have HFO := Lib.hid hff
                    obtain ⟨fr, hfr⟩ : ∃ x, sumLen (runs bits2) = x := ⟨_, rfl⟩
                    obtain ⟨kB, hkB⟩ : ∃ x, (blocksOfL l2).length = x := ⟨_, rfl⟩
                    have h24 := HSIM2.out.free
                    rw [hfr, hkB] at h24
                    have HFR := Lib.hid hfr
                    have HKB := Lib.hid hkB
                    have hws : IntKind.i64.wrap (fr + (kB : Int)) = 24 := by rw [h24]; decide
                    have hw24 : IntKind.i64.wrap 24 = 24 := by decide
                    clear hff hfr hkB
                    replace H := H.drew
                    have z0 := H.bat 3 rfl (j := 0) rfl
                    have z1 := H.bat 3 rfl (j := 1) rfl
                    have z2_ := H.bat 4 rfl (j := 0) rfl
                    have z3 := H.bat 4 rfl (j := 1) rfl
                    refine wp_region_held_drew (S := fun w' => w'.cell? ⟨g3, 0, none⟩ = some (.slice A2 24 c2) ∧ w'.cell? ⟨g3, 1, none⟩ = some (.slice B2 24 d2) ∧ w'.cell? ⟨g4, 0, none⟩ = some (.int .i64 z2) ∧ w'.cell? ⟨g4, 1, none⟩ = some (.slice E2 q2 r2)) (by kernel_rfl) ?_ (fun hHeld => ?_)
                    · exact ⟨z0, z1, z2_, z3⟩
                    obtain ⟨u0, hu0⟩ : ∃ uu : World, uu = w8.drew := ⟨_, rfl⟩
                    rw [← hu0] at H hHeld ⊢
                    clear hu0
                    refine wpAnyH_take (i := 0) (v := ?_) rfl (by kernel_rfl) (by kernel_rfl) (by kernel_rfl) (fun _ _ _ h => h) (Or.inl ⟨by kernel_rfl, ?_⟩) (by assumption) ?_
                    rotate_left
                    · (intro w hSw; (try dsimp only at hSw); go_simp; try (with_reducible rfl))
                    try simp only [sA, sB, sC, Act.put, sD, sE, sF]
                    refine wpAnyH_take (i := 1) (v := ?_) rfl (by kernel_rfl) (by kernel_rfl) (by kernel_rfl) (fun _ _ _ h => h) (Or.inl ⟨by kernel_rfl, ?_⟩) (by assumption) ?_
                    rotate_left
                    · (intro w hSw; (try dsimp only at hSw); go_simp; try (with_reducible rfl))
                    try simp only [sA, sB, sC, Act.put, sD, sE, sF]
                    refine wpAnyH_take (i := 2) (v := ?_) rfl (by kernel_rfl) (by kernel_rfl) (by kernel_rfl) (fun _ _ _ h => h) (Or.inl ⟨by kernel_rfl, ?_⟩) (by assumption) ?_
                    rotate_left
                    · (intro w hSw; (try dsimp only at hSw); go_simp; try (with_reducible rfl))
                    try simp only [sA, sB, sC, Act.put, sD, sE, sF]
                    refine wpAnyH_take (i := 3) (v := ?_) rfl (by kernel_rfl) (by kernel_rfl) (by kernel_rfl) (fun _ _ _ h => h) (Or.inl ⟨by kernel_rfl, ?_⟩) (by assumption) ?_
                    rotate_left
                    · (intro w hSw; (try dsimp only at hSw); go_simp; try (with_reducible rfl))
                    try simp only [sA, sB, sC, Act.put, sD, sE, sF]
                    refine wpAnyH_take (i := 4) (v := ?_) rfl (by kernel_rfl) (by kernel_rfl) (by kernel_rfl) (fun _ _ _ h => h) (Or.inl ⟨by kernel_rfl, ?_⟩) (by assumption) ?_
                    rotate_left
                    · (intro w hSw; (try dsimp only at hSw); go_simp; try (with_reducible rfl))
                    try simp only [sA, sB, sC, Act.put, sD, sE, sF]
                    refine wpAnyH_take (i := 5) (v := ?_) rfl (by kernel_rfl) (by kernel_rfl) (by kernel_rfl) (fun _ _ _ h => h) (Or.inl ⟨by kernel_rfl, ?_⟩) (by assumption) ?_
                    rotate_left
                    · (intro w hSw; (try dsimp only at hSw); go_simp; try (with_reducible rfl))
                    try simp only [sA, sB, sC, Act.put, sD, sE, sF]
                    refine wpAnyH_take (i := 6) (v := ?_) rfl (by kernel_rfl) (by kernel_rfl) (by kernel_rfl) (fun _ _ _ h => h) (Or.inl ⟨by kernel_rfl, ?_⟩) (by assumption) ?_
                    rotate_left
                    · (intro w hSw; (try dsimp only at hSw); go_simp; try (with_reducible rfl))
                    try simp only [sA, sB, sC, Act.put, sD, sE, sF]
                    refine wpAnyH_take (i := 7) (v := ?_) rfl (by kernel_rfl) (by kernel_rfl) (by kernel_rfl) (fun _ _ _ h => h) (Or.inl ⟨by kernel_rfl, ?_⟩) (by assumption) ?_
                    rotate_left
                    · (intro w hSw; (try dsimp only at hSw); go_simp; try (with_reducible rfl))
                    try simp only [sA, sB, sC, Act.put, sD, sE, sF]
                    refine wpAnyH_take (i := 8) (v := ?_) rfl (by kernel_rfl) (by kernel_rfl) (by kernel_rfl) (fun _ _ _ h => h) (Or.inl ⟨by kernel_rfl, ?_⟩) (by assumption) ?_
                    rotate_left
                    · (intro w hSw; (try dsimp only at hSw); go_simp; try (with_reducible rfl))
                    try simp only [sA, sB, sC, Act.put, sD, sE, sF]
                    refine wpAnyH_take (i := 9) (v := ?_) rfl (by kernel_rfl) (by kernel_rfl) (by kernel_rfl) (fun _ _ _ h => h) (Or.inl ⟨by kernel_rfl, ?_⟩) (by assumption) ?_
                    rotate_left
                    · (intro w hSw; (try dsimp only at hSw); go_simp; try (with_reducible rfl))
                    try simp only [sA, sB, sC, Act.put, sD, sE, sF]
                    refine wpAnyH_take (i := 10) (v := ?_) rfl (by kernel_rfl) (by kernel_rfl) (by kernel_rfl) (fun _ _ _ h => h) (Or.inl ⟨by kernel_rfl, ?_⟩) (by assumption) ?_
                    rotate_left
                    · (intro w hSw; (try dsimp only at hSw); go_simp; try (with_reducible rfl))
                    try simp only [sA, sB, sC, Act.put, sD, sE, sF]
                    refine wpAnyH_take (i := 11) (v := ?_) rfl (by kernel_rfl) (by kernel_rfl) (by kernel_rfl) (fun _ _ _ h => h) (Or.inl ⟨by kernel_rfl, ?_⟩) (by assumption) ?_
                    rotate_left
                    · (intro w hSw; (try dsimp only at hSw); go_simp; try (with_reducible rfl))
                    try simp only [sA, sB, sC, Act.put, sD, sE, sF]
                    refine wpAnyH_take (i := 12) (v := ?_) rfl (by kernel_rfl) (by kernel_rfl) (by kernel_rfl) (fun _ _ _ h => h) (Or.inl ⟨by kernel_rfl, ?_⟩) (by assumption) ?_
                    rotate_left
                    · (intro w hSw; (try dsimp only at hSw); go_simp; try (with_reducible rfl))
                    try simp only [sA, sB, sC, Act.put, sD, sE, sF]
                    refine wpAnyH_take (i := 13) (v := ?_) rfl (by kernel_rfl) (by kernel_rfl) (by kernel_rfl) (fun _ _ _ h => h) (Or.inl ⟨by kernel_rfl, ?_⟩) (by assumption) ?_
                    rotate_left
                    · (intro w hSw; (try dsimp only at hSw); go_simp; try (with_reducible rfl))
                    try simp only [sA, sB, sC, Act.put, sD, sE, sF]
                    refine wpAnyH_take (i := 14) (v := ?_) rfl (by kernel_rfl) (by kernel_rfl) (by kernel_rfl) (fun _ _ _ h => h) (Or.inl ⟨by kernel_rfl, ?_⟩) (by assumption) ?_
                    rotate_left
                    · (intro w hSw; (try dsimp only at hSw); go_simp; try (with_reducible rfl))
                    try simp only [sA, sB, sC, Act.put, sD, sE, sF]
                    refine wpAnyH_take (i := 15) (v := ?_) rfl (by kernel_rfl) (by kernel_rfl) (by kernel_rfl) (fun _ _ _ h => h) (Or.inl ⟨by kernel_rfl, ?_⟩) (by assumption) ?_
                    rotate_left
                    · (intro w hSw; (try dsimp only at hSw); go_simp; try (with_reducible rfl))
                    try simp only [sA, sB, sC, Act.put, sD, sE, sF]
                    refine wpAnyH_take (i := 16) (v := ?_) rfl (by kernel_rfl) (by kernel_rfl) (by kernel_rfl) (fun _ _ _ h => h) (Or.inl ⟨by kernel_rfl, ?_⟩) (by assumption) ?_
                    rotate_left
                    · (intro w hSw; (try dsimp only at hSw); go_simp; try (with_reducible rfl))
                    try simp only [sA, sB, sC, Act.put, sD, sE, sF]
                    refine wpAnyH_take (i := 17) (v := ?_) rfl (by kernel_rfl) (by kernel_rfl) (by kernel_rfl) (fun _ _ _ h => h) (Or.inl ⟨by kernel_rfl, ?_⟩) (by assumption) ?_
                    rotate_left
                    · (intro w hSw; (try dsimp only at hSw); go_simp; try (with_reducible rfl))
                    try simp only [sA, sB, sC, Act.put, sD, sE, sF]
                    refine wpAnyH_take (i := 18) (v := ?_) rfl (by kernel_rfl) (by kernel_rfl) (by kernel_rfl) (fun _ _ _ h => h) (Or.inl ⟨by kernel_rfl, ?_⟩) (by assumption) ?_
                    rotate_left
                    · (intro w hSw; (try dsimp only at hSw); go_simp; try (with_reducible rfl))
                    try simp only [sA, sB, sC, Act.put, sD, sE, sF]
                    refine wpAnyH_ready (rs := [19]) (by kernel_rfl) (by simp) ?_
                    refine (AllReadyH.cons rfl (fun K hK => ?_) AllReadyH.nil)
                    go_simp
                    refine (specFilOk_any A2 24 c2 bits2 B2 24 d2 data2 z2 E2 q2 r2 l2 _ (H.rd 0 rfl) (H.rd 1 rfl) (H.rd 2 rfl) h24b HZ2.out hqb2).mono ?_
                    rintro e u1 ⟨rfl, f9⟩
                    replace H := H.go f9
                    clear f9
                    rw [HFO.out]
                    go_wp2_with fail
                    refine hK.out _ _ ?_ (fun hHeld => ?_)
                    · exact ⟨H.bat 3 rfl (j := 0) rfl, H.bat 3 rfl (j := 1) rfl, H.bat 4 rfl (j := 0) rfl, H.bat 4 rfl (j := 1) rfl⟩
                    clear hK K
                    try simp only [sA, sB, sC, Act.put, sD, sE, sF]
                    refine wpAnyH_take (i := 20) (v := ?_) rfl (by kernel_rfl) (by kernel_rfl) (by kernel_rfl) (fun _ _ _ h => h) (Or.inl ⟨by kernel_rfl, ?_⟩) (by assumption) ?_
                    rotate_left
                    · (intro w hSw; (try dsimp only at hSw); go_simp; try (with_reducible rfl))
                    try simp only [sA, sB, sC, Act.put, sD, sE, sF]
                    refine wpAnyH_take (i := 21) (v := ?_) rfl (by kernel_rfl) (by kernel_rfl) (by kernel_rfl) (fun _ _ _ h => h) (Or.inl ⟨by kernel_rfl, ?_⟩) (by assumption) ?_
                    rotate_left
                    · (intro w hSw; (try dsimp only at hSw); go_simp; try (with_reducible rfl))
                    try simp only [sA, sB, sC, Act.put, sD, sE, sF]
                    refine wpAnyH_take (i := 22) (v := ?_) rfl (by kernel_rfl) (by kernel_rfl) (by kernel_rfl) (fun _ _ _ h => h) (Or.inl ⟨by kernel_rfl, ?_⟩) (by assumption) ?_
                    rotate_left
                    · (intro w hSw; (try dsimp only at hSw); go_simp; try (with_reducible rfl))
                    try simp only [sA, sB, sC, Act.put, sD, sE, sF]
                    refine wpAnyH_take (i := 23) (v := ?_) rfl (by kernel_rfl) (by kernel_rfl) (by kernel_rfl) (fun _ _ _ h => h) (Or.inl ⟨by kernel_rfl, ?_⟩) (by assumption) ?_
                    rotate_left
                    · (intro w hSw; (try dsimp only at hSw); go_simp; try (with_reducible rfl))
                    try simp only [sA, sB, sC, Act.put, sD, sE, sF]
                    refine wpAnyH_take (i := 24) (v := ?_) rfl (by kernel_rfl) (by kernel_rfl) (by kernel_rfl) (fun _ _ _ h => h) (Or.inl ⟨by kernel_rfl, ?_⟩) (by assumption) ?_
                    rotate_left
                    · (intro w hSw; (try dsimp only at hSw); go_simp; try (with_reducible rfl))
                    try simp only [sA, sB, sC, Act.put, sD, sE, sF]
                    refine wpAnyH_take (i := 26) (v := ?_) rfl (by kernel_rfl) (by kernel_rfl) (by kernel_rfl) (fun _ _ _ h => h) (Or.inl ⟨by kernel_rfl, ?_⟩) (by assumption) ?_
                    rotate_left
                    · (intro w hSw; (try dsimp only at hSw); go_simp; try (with_reducible rfl))
                    try simp only [sA, sB, sC, Act.put, sD, sE, sF]
                    refine wpAnyH_take (i := 27) (v := ?_) rfl (by kernel_rfl) (by kernel_rfl) (by kernel_rfl) (fun _ _ _ h => h) (Or.inl ⟨by kernel_rfl, ?_⟩) (by assumption) ?_
                    rotate_left
                    · (intro w hSw; (try dsimp only at hSw); go_simp; try (with_reducible rfl))
                    try simp only [sA, sB, sC, Act.put, sD, sE, sF]
                    refine wpAnyH_ready (rs := [25]) (by kernel_rfl) (by simp) ?_
                    refine (AllReadyH.cons rfl (fun K hK => ?_) AllReadyH.nil)
                    go_simp
                    refine (specFreeOf_any A2 24 c2 bits2 _ (H.rd 0 rfl)).mono ?_
                    rintro e u2 ⟨rfl, f9⟩
                    replace H := H.go f9
                    clear f9
                    rw [HFR.out]
                    go_wp2_with fail
                    refine hK.out _ _ ?_ (fun hHeld => ?_)
                    · exact ⟨H.bat 3 rfl (j := 0) rfl, H.bat 3 rfl (j := 1) rfl, H.bat 4 rfl (j := 0) rfl, H.bat 4 rfl (j := 1) rfl⟩
                    clear hK K
                    try simp only [sA, sB, sC, Act.put, sD, sE, sF]
                    refine wpAnyH_ready (rs := [28]) (by kernel_rfl) (by simp) ?_
                    refine (AllReadyH.cons rfl (fun K hK => ?_) AllReadyH.nil)
                    go_simp
                    refine (specBlocksOf_any E2 q2 r2 l2 _ (H.rd 2 rfl) hqb2).mono ?_
                    rintro e u3 ⟨AO, cO, rfl, oO, fO⟩
                    replace H := H.made oO fO
                    clear oO fO
                    rw [HKB.out]
                    go_wp2_with fail
                    refine hK.out _ _ ?_ (fun hHeld => ?_)
                    · exact ⟨H.bat 4 rfl (j := 0) rfl, H.bat 4 rfl (j := 1) rfl, H.bat 5 rfl (j := 0) rfl, H.bat 5 rfl (j := 1) rfl⟩
                    clear hK K
                    try simp only [sA, sB, sC, Act.put, sD, sE, sF]
                    refine wpAnyH_take (i := 29) (v := ?_) rfl (by kernel_rfl) (by kernel_rfl) (by kernel_rfl) (fun _ _ _ h => h) (Or.inl ⟨by kernel_rfl, ?_⟩) (by assumption) ?_
                    rotate_left
                    · (intro w hSw; (try dsimp only at hSw); go_simp; try (with_reducible rfl))
                    try simp only [sA, sB, sC, Act.put, sD, sE, sF]
                    refine wpAnyH_take (i := 30) (v := ?_) rfl (by kernel_rfl) (by kernel_rfl) (by kernel_rfl) (fun _ _ _ h => h) (Or.inl ⟨by kernel_rfl, ?_⟩) (by assumption) ?_
                    rotate_left
                    · (intro w hSw; (try dsimp only at hSw); go_simp; try (with_reducible rfl))
                    try simp only [sA, sB, sC, Act.put, sD, sE, sF]
                    refine wpAnyH_take (i := 31) (v := ?_) rfl (by kernel_rfl) (by kernel_rfl) (by kernel_rfl) (fun _ _ _ h => h) (Or.inl ⟨by kernel_rfl, ?_⟩) (by assumption) ?_
                    rotate_left
                    · (intro w hSw; (try dsimp only at hSw); go_simp; try (with_reducible rfl))
                    try simp only [sA, sB, sC, Act.put, sD, sE, sF]
                    refine wpAnyH_take (i := 32) (v := ?_) rfl (by kernel_rfl) (by kernel_rfl) (by kernel_rfl) (fun _ _ _ h => h) (Or.inl ⟨by kernel_rfl, ?_⟩) (by assumption) ?_
                    rotate_left
                    · (intro w hSw; (try dsimp only at hSw); go_simp; try (with_reducible rfl))
                    try simp only [sA, sB, sC, Act.put, sD, sE, sF]
                    refine wpAnyH_done (by kernel_rfl) ?_ _
                    have H9 := Lib.hid H.tail
                    clear H
                    go_wp2_with fail
                    go_roundw
                    case rel => exact ⟨k + 1, want2, bits2, data2, z2, l2, A2, c2, B2, d2, E2, q2, r2, by rw [HW2.out], by go_num, by omega, HSIM2.out, HL2.out, hq12, H9.out⟩
                    case measure => simp [intOf]; omega
                · have hXe : W2.extract o m2 = P2 := by
                    rw [HW2.out, HP2.out, extract_ofB, List.take_of_length_le (by rw [List.length_drop, HM2.out]; omega), List.take_of_length_le (by rw [List.length_drop, ← HM2.out]; omega)]
                  have hPs : P2.size = m2 - o := by rw [← hXe, ByteArray.size_extract, hWs]; omega
                  have hX3 : ¬ ((3 : Int) < ((m2 - o : Nat) : Int)) := by omega
                  go_wp2_with fail
                  as_aux_lemma =>
                    -- what was read, and what is counted
                    have hss1 : (W2.toList != W2.toList) = false := bne_self_eq_false _
                    have hss2 : (P2.toList != P2.toList) = false := bne_self_eq_false _
                    have hff := filOk_iff.2 HSIM2.out.fi
                    have HFO := Lib.hid hff
                    obtain ⟨fr, hfr⟩ : ∃ x, sumLen (runs bits2) = x := ⟨_, rfl⟩
                    obtain ⟨kB, hkB⟩ : ∃ x, (blocksOfL l2).length = x := ⟨_, rfl⟩
                    have h24 := HSIM2.out.free
                    rw [hfr, hkB] at h24
                    have HFR := Lib.hid hfr
                    have HKB := Lib.hid hkB
                    have hws : IntKind.i64.wrap (fr + (kB : Int)) = 24 := by rw [h24]; decide
                    have hw24 : IntKind.i64.wrap 24 = 24 := by decide
                    clear hff hfr hkB
                    replace H := H.drew
                    have z0 := H.bat 3 rfl (j := 0) rfl
                    have z1 := H.bat 3 rfl (j := 1) rfl
                    have z2_ := H.bat 4 rfl (j := 0) rfl
                    have z3 := H.bat 4 rfl (j := 1) rfl
                    refine wp_region_held_drew (S := fun w' => w'.cell? ⟨g3, 0, none⟩ = some (.slice A2 24 c2) ∧ w'.cell? ⟨g3, 1, none⟩ = some (.slice B2 24 d2) ∧ w'.cell? ⟨g4, 0, none⟩ = some (.int .i64 z2) ∧ w'.cell? ⟨g4, 1, none⟩ = some (.slice E2 q2 r2)) (by kernel_rfl) ?_ (fun hHeld => ?_)
                    · exact ⟨z0, z1, z2_, z3⟩
                    obtain ⟨u0, hu0⟩ : ∃ uu : World, uu = w8.drew := ⟨_, rfl⟩
                    rw [← hu0] at H hHeld ⊢
                    clear hu0
                    refine wpAnyH_take (i := 0) (v := ?_) rfl (by kernel_rfl) (by kernel_rfl) (by kernel_rfl) (fun _ _ _ h => h) (Or.inl ⟨by kernel_rfl, ?_⟩) (by assumption) ?_
                    rotate_left
                    · (intro w hSw; (try dsimp only at hSw); go_simp; try (with_reducible rfl))
                    try simp only [sA, sB, sC, Act.put, sD, sE, sF]
                    refine wpAnyH_take (i := 1) (v := ?_) rfl (by kernel_rfl) (by kernel_rfl) (by kernel_rfl) (fun _ _ _ h => h) (Or.inl ⟨by kernel_rfl, ?_⟩) (by assumption) ?_
                    rotate_left
                    · (intro w hSw; (try dsimp only at hSw); go_simp; try (with_reducible rfl))
                    try simp only [sA, sB, sC, Act.put, sD, sE, sF]
                    refine wpAnyH_take (i := 2) (v := ?_) rfl (by kernel_rfl) (by kernel_rfl) (by kernel_rfl) (fun _ _ _ h => h) (Or.inl ⟨by kernel_rfl, ?_⟩) (by assumption) ?_
                    rotate_left
                    · (intro w hSw; (try dsimp only at hSw); go_simp; try (with_reducible rfl))
                    try simp only [sA, sB, sC, Act.put, sD, sE, sF]
                    refine wpAnyH_take (i := 3) (v := ?_) rfl (by kernel_rfl) (by kernel_rfl) (by kernel_rfl) (fun _ _ _ h => h) (Or.inl ⟨by kernel_rfl, ?_⟩) (by assumption) ?_
                    rotate_left
                    · (intro w hSw; (try dsimp only at hSw); go_simp; try (with_reducible rfl))
                    try simp only [sA, sB, sC, Act.put, sD, sE, sF]
                    refine wpAnyH_take (i := 4) (v := ?_) rfl (by kernel_rfl) (by kernel_rfl) (by kernel_rfl) (fun _ _ _ h => h) (Or.inl ⟨by kernel_rfl, ?_⟩) (by assumption) ?_
                    rotate_left
                    · (intro w hSw; (try dsimp only at hSw); go_simp; try (with_reducible rfl))
                    try simp only [sA, sB, sC, Act.put, sD, sE, sF]
                    refine wpAnyH_take (i := 5) (v := ?_) rfl (by kernel_rfl) (by kernel_rfl) (by kernel_rfl) (fun _ _ _ h => h) (Or.inl ⟨by kernel_rfl, ?_⟩) (by assumption) ?_
                    rotate_left
                    · (intro w hSw; (try dsimp only at hSw); go_simp; try (with_reducible rfl))
                    try simp only [sA, sB, sC, Act.put, sD, sE, sF]
                    refine wpAnyH_take (i := 6) (v := ?_) rfl (by kernel_rfl) (by kernel_rfl) (by kernel_rfl) (fun _ _ _ h => h) (Or.inl ⟨by kernel_rfl, ?_⟩) (by assumption) ?_
                    rotate_left
                    · (intro w hSw; (try dsimp only at hSw); go_simp; try (with_reducible rfl))
                    try simp only [sA, sB, sC, Act.put, sD, sE, sF]
                    refine wpAnyH_take (i := 7) (v := ?_) rfl (by kernel_rfl) (by kernel_rfl) (by kernel_rfl) (fun _ _ _ h => h) (Or.inl ⟨by kernel_rfl, ?_⟩) (by assumption) ?_
                    rotate_left
                    · (intro w hSw; (try dsimp only at hSw); go_simp; try (with_reducible rfl))
                    try simp only [sA, sB, sC, Act.put, sD, sE, sF]
                    refine wpAnyH_take (i := 8) (v := ?_) rfl (by kernel_rfl) (by kernel_rfl) (by kernel_rfl) (fun _ _ _ h => h) (Or.inl ⟨by kernel_rfl, ?_⟩) (by assumption) ?_
                    rotate_left
                    · (intro w hSw; (try dsimp only at hSw); go_simp; try (with_reducible rfl))
                    try simp only [sA, sB, sC, Act.put, sD, sE, sF]
                    refine wpAnyH_take (i := 9) (v := ?_) rfl (by kernel_rfl) (by kernel_rfl) (by kernel_rfl) (fun _ _ _ h => h) (Or.inl ⟨by kernel_rfl, ?_⟩) (by assumption) ?_
                    rotate_left
                    · (intro w hSw; (try dsimp only at hSw); go_simp; try (with_reducible rfl))
                    try simp only [sA, sB, sC, Act.put, sD, sE, sF]
                    refine wpAnyH_take (i := 10) (v := ?_) rfl (by kernel_rfl) (by kernel_rfl) (by kernel_rfl) (fun _ _ _ h => h) (Or.inl ⟨by kernel_rfl, ?_⟩) (by assumption) ?_
                    rotate_left
                    · (intro w hSw; (try dsimp only at hSw); go_simp; try (with_reducible rfl))
                    try simp only [sA, sB, sC, Act.put, sD, sE, sF]
                    refine wpAnyH_take (i := 11) (v := ?_) rfl (by kernel_rfl) (by kernel_rfl) (by kernel_rfl) (fun _ _ _ h => h) (Or.inl ⟨by kernel_rfl, ?_⟩) (by assumption) ?_
                    rotate_left
                    · (intro w hSw; (try dsimp only at hSw); go_simp; try (with_reducible rfl))
                    try simp only [sA, sB, sC, Act.put, sD, sE, sF]
                    refine wpAnyH_take (i := 12) (v := ?_) rfl (by kernel_rfl) (by kernel_rfl) (by kernel_rfl) (fun _ _ _ h => h) (Or.inl ⟨by kernel_rfl, ?_⟩) (by assumption) ?_
                    rotate_left
                    · (intro w hSw; (try dsimp only at hSw); go_simp; try (with_reducible rfl))
                    try simp only [sA, sB, sC, Act.put, sD, sE, sF]
                    refine wpAnyH_take (i := 13) (v := ?_) rfl (by kernel_rfl) (by kernel_rfl) (by kernel_rfl) (fun _ _ _ h => h) (Or.inl ⟨by kernel_rfl, ?_⟩) (by assumption) ?_
                    rotate_left
                    · (intro w hSw; (try dsimp only at hSw); go_simp; try (with_reducible rfl))
                    try simp only [sA, sB, sC, Act.put, sD, sE, sF]
                    refine wpAnyH_take (i := 14) (v := ?_) rfl (by kernel_rfl) (by kernel_rfl) (by kernel_rfl) (fun _ _ _ h => h) (Or.inl ⟨by kernel_rfl, ?_⟩) (by assumption) ?_
                    rotate_left
                    · (intro w hSw; (try dsimp only at hSw); go_simp; try (with_reducible rfl))
                    try simp only [sA, sB, sC, Act.put, sD, sE, sF]
                    refine wpAnyH_take (i := 15) (v := ?_) rfl (by kernel_rfl) (by kernel_rfl) (by kernel_rfl) (fun _ _ _ h => h) (Or.inl ⟨by kernel_rfl, ?_⟩) (by assumption) ?_
                    rotate_left
                    · (intro w hSw; (try dsimp only at hSw); go_simp; try (with_reducible rfl))
                    try simp only [sA, sB, sC, Act.put, sD, sE, sF]
                    refine wpAnyH_take (i := 16) (v := ?_) rfl (by kernel_rfl) (by kernel_rfl) (by kernel_rfl) (fun _ _ _ h => h) (Or.inl ⟨by kernel_rfl, ?_⟩) (by assumption) ?_
                    rotate_left
                    · (intro w hSw; (try dsimp only at hSw); go_simp; try (with_reducible rfl))
                    try simp only [sA, sB, sC, Act.put, sD, sE, sF]
                    refine wpAnyH_take (i := 17) (v := ?_) rfl (by kernel_rfl) (by kernel_rfl) (by kernel_rfl) (fun _ _ _ h => h) (Or.inl ⟨by kernel_rfl, ?_⟩) (by assumption) ?_
                    rotate_left
                    · (intro w hSw; (try dsimp only at hSw); go_simp; try (with_reducible rfl))
                    try simp only [sA, sB, sC, Act.put, sD, sE, sF]
                    refine wpAnyH_take (i := 18) (v := ?_) rfl (by kernel_rfl) (by kernel_rfl) (by kernel_rfl) (fun _ _ _ h => h) (Or.inl ⟨by kernel_rfl, ?_⟩) (by assumption) ?_
                    rotate_left
                    · (intro w hSw; (try dsimp only at hSw); go_simp; try (with_reducible rfl))
                    try simp only [sA, sB, sC, Act.put, sD, sE, sF]
                    refine wpAnyH_ready (rs := [19]) (by kernel_rfl) (by simp) ?_
                    refine (AllReadyH.cons rfl (fun K hK => ?_) AllReadyH.nil)
                    go_simp
                    refine (specFilOk_any A2 24 c2 bits2 B2 24 d2 data2 z2 E2 q2 r2 l2 _ (H.rd 0 rfl) (H.rd 1 rfl) (H.rd 2 rfl) h24b HZ2.out hqb2).mono ?_
                    rintro e u1 ⟨rfl, f9⟩
                    replace H := H.go f9
                    clear f9
                    rw [HFO.out]
                    go_wp2_with fail
                    refine hK.out _ _ ?_ (fun hHeld => ?_)
                    · exact ⟨H.bat 3 rfl (j := 0) rfl, H.bat 3 rfl (j := 1) rfl, H.bat 4 rfl (j := 0) rfl, H.bat 4 rfl (j := 1) rfl⟩
                    clear hK K
                    try simp only [sA, sB, sC, Act.put, sD, sE, sF]
                    refine wpAnyH_take (i := 20) (v := ?_) rfl (by kernel_rfl) (by kernel_rfl) (by kernel_rfl) (fun _ _ _ h => h) (Or.inl ⟨by kernel_rfl, ?_⟩) (by assumption) ?_
                    rotate_left
                    · (intro w hSw; (try dsimp only at hSw); go_simp; try (with_reducible rfl))
                    try simp only [sA, sB, sC, Act.put, sD, sE, sF]
                    refine wpAnyH_take (i := 21) (v := ?_) rfl (by kernel_rfl) (by kernel_rfl) (by kernel_rfl) (fun _ _ _ h => h) (Or.inl ⟨by kernel_rfl, ?_⟩) (by assumption) ?_
                    rotate_left
                    · (intro w hSw; (try dsimp only at hSw); go_simp; try (with_reducible rfl))
                    try simp only [sA, sB, sC, Act.put, sD, sE, sF]
                    refine wpAnyH_take (i := 22) (v := ?_) rfl (by kernel_rfl) (by kernel_rfl) (by kernel_rfl) (fun _ _ _ h => h) (Or.inl ⟨by kernel_rfl, ?_⟩) (by assumption) ?_
                    rotate_left
                    · (intro w hSw; (try dsimp only at hSw); go_simp; try (with_reducible rfl))
                    try simp only [sA, sB, sC, Act.put, sD, sE, sF]
                    refine wpAnyH_take (i := 23) (v := ?_) rfl (by kernel_rfl) (by kernel_rfl) (by kernel_rfl) (fun _ _ _ h => h) (Or.inl ⟨by kernel_rfl, ?_⟩) (by assumption) ?_
                    rotate_left
                    · (intro w hSw; (try dsimp only at hSw); go_simp; try (with_reducible rfl))
                    try simp only [sA, sB, sC, Act.put, sD, sE, sF]
                    refine wpAnyH_take (i := 24) (v := ?_) rfl (by kernel_rfl) (by kernel_rfl) (by kernel_rfl) (fun _ _ _ h => h) (Or.inl ⟨by kernel_rfl, ?_⟩) (by assumption) ?_
                    rotate_left
                    · (intro w hSw; (try dsimp only at hSw); go_simp; try (with_reducible rfl))
                    try simp only [sA, sB, sC, Act.put, sD, sE, sF]
                    refine wpAnyH_take (i := 26) (v := ?_) rfl (by kernel_rfl) (by kernel_rfl) (by kernel_rfl) (fun _ _ _ h => h) (Or.inl ⟨by kernel_rfl, ?_⟩) (by assumption) ?_
                    rotate_left
                    · (intro w hSw; (try dsimp only at hSw); go_simp; try (with_reducible rfl))
                    try simp only [sA, sB, sC, Act.put, sD, sE, sF]
                    refine wpAnyH_take (i := 27) (v := ?_) rfl (by kernel_rfl) (by kernel_rfl) (by kernel_rfl) (fun _ _ _ h => h) (Or.inl ⟨by kernel_rfl, ?_⟩) (by assumption) ?_
                    rotate_left
                    · (intro w hSw; (try dsimp only at hSw); go_simp; try (with_reducible rfl))
                    try simp only [sA, sB, sC, Act.put, sD, sE, sF]
                    refine wpAnyH_ready (rs := [25]) (by kernel_rfl) (by simp) ?_
                    refine (AllReadyH.cons rfl (fun K hK => ?_) AllReadyH.nil)
                    go_simp
                    refine (specFreeOf_any A2 24 c2 bits2 _ (H.rd 0 rfl)).mono ?_
                    rintro e u2 ⟨rfl, f9⟩
                    replace H := H.go f9
                    clear f9
                    rw [HFR.out]
                    go_wp2_with fail
                    refine hK.out _ _ ?_ (fun hHeld => ?_)
                    · exact ⟨H.bat 3 rfl (j := 0) rfl, H.bat 3 rfl (j := 1) rfl, H.bat 4 rfl (j := 0) rfl, H.bat 4 rfl (j := 1) rfl⟩
                    clear hK K
                    try simp only [sA, sB, sC, Act.put, sD, sE, sF]
                    refine wpAnyH_ready (rs := [28]) (by kernel_rfl) (by simp) ?_
                    refine (AllReadyH.cons rfl (fun K hK => ?_) AllReadyH.nil)
                    go_simp
                    refine (specBlocksOf_any E2 q2 r2 l2 _ (H.rd 2 rfl) hqb2).mono ?_
                    rintro e u3 ⟨AO, cO, rfl, oO, fO⟩
                    replace H := H.made oO fO
                    clear oO fO
                    rw [HKB.out]
                    go_wp2_with fail
                    refine hK.out _ _ ?_ (fun hHeld => ?_)
                    · exact ⟨H.bat 4 rfl (j := 0) rfl, H.bat 4 rfl (j := 1) rfl, H.bat 5 rfl (j := 0) rfl, H.bat 5 rfl (j := 1) rfl⟩
                    clear hK K
                    try simp only [sA, sB, sC, Act.put, sD, sE, sF]
                    refine wpAnyH_take (i := 29) (v := ?_) rfl (by kernel_rfl) (by kernel_rfl) (by kernel_rfl) (fun _ _ _ h => h) (Or.inl ⟨by kernel_rfl, ?_⟩) (by assumption) ?_
                    rotate_left
                    · (intro w hSw; (try dsimp only at hSw); go_simp; try (with_reducible rfl))
                    try simp only [sA, sB, sC, Act.put, sD, sE, sF]
                    refine wpAnyH_take (i := 30) (v := ?_) rfl (by kernel_rfl) (by kernel_rfl) (by kernel_rfl) (fun _ _ _ h => h) (Or.inl ⟨by kernel_rfl, ?_⟩) (by assumption) ?_
                    rotate_left
                    · (intro w hSw; (try dsimp only at hSw); go_simp; try (with_reducible rfl))
                    try simp only [sA, sB, sC, Act.put, sD, sE, sF]
                    refine wpAnyH_take (i := 31) (v := ?_) rfl (by kernel_rfl) (by kernel_rfl) (by kernel_rfl) (fun _ _ _ h => h) (Or.inl ⟨by kernel_rfl, ?_⟩) (by assumption) ?_
                    rotate_left
                    · (intro w hSw; (try dsimp only at hSw); go_simp; try (with_reducible rfl))
                    try simp only [sA, sB, sC, Act.put, sD, sE, sF]
                    refine wpAnyH_take (i := 32) (v := ?_) rfl (by kernel_rfl) (by kernel_rfl) (by kernel_rfl) (fun _ _ _ h => h) (Or.inl ⟨by kernel_rfl, ?_⟩) (by assumption) ?_
                    rotate_left
                    · (intro w hSw; (try dsimp only at hSw); go_simp; try (with_reducible rfl))
                    try simp only [sA, sB, sC, Act.put, sD, sE, sF]
                    refine wpAnyH_done (by kernel_rfl) ?_ _
                    have H9 := Lib.hid H.tail
                    clear H
                    go_wp2_with fail
                    go_roundw
                    case rel => exact ⟨k + 1, want2, bits2, data2, z2, l2, A2, c2, B2, d2, E2, q2, r2, by rw [HW2.out], by go_num, by omega, HSIM2.out, HL2.out, hq12, H9.out⟩
                    case measure => simp [intOf]; omega
              · have hom3 : ¬ ((o : Int) < (m2 : Int)) := by omega
                have hPn : P2 = ByteArray.mk #[] := by
                  rw [HP2.out, List.drop_of_length_le (by rw [← HM2.out]; omega)]; rfl
                subst hPn
                obtain ⟨P2, hPP⟩ : ∃ x, x = ByteArray.mk #[] := ⟨_, rfl⟩
                go_wp2_with fail
                as_aux_lemma =>
                  -- what was read, and what is counted
                  have hss1 : (W2.toList != W2.toList) = false := bne_self_eq_false _
                  have hss2 : (P2.toList != P2.toList) = false := bne_self_eq_false _
                  have hff := filOk_iff.2 HSIM2.out.fi
                  have HFO := Lib.hid hff
                  obtain ⟨fr, hfr⟩ : ∃ x, sumLen (runs bits2) = x := ⟨_, rfl⟩
                  obtain ⟨kB, hkB⟩ : ∃ x, (blocksOfL l2).length = x := ⟨_, rfl⟩
                  have h24 := HSIM2.out.free
                  rw [hfr, hkB] at h24
                  have HFR := Lib.hid hfr
                  have HKB := Lib.hid hkB
                  have hws : IntKind.i64.wrap (fr + (kB : Int)) = 24 := by rw [h24]; decide
                  have hw24 : IntKind.i64.wrap 24 = 24 := by decide
                  clear hff hfr hkB
                  replace H := H.drew
                  have z0 := H.bat 3 rfl (j := 0) rfl
                  have z1 := H.bat 3 rfl (j := 1) rfl
                  have z2_ := H.bat 4 rfl (j := 0) rfl
                  have z3 := H.bat 4 rfl (j := 1) rfl
                  refine wp_region_held_drew (S := fun w' => w'.cell? ⟨g3, 0, none⟩ = some (.slice A2 24 c2) ∧ w'.cell? ⟨g3, 1, none⟩ = some (.slice B2 24 d2) ∧ w'.cell? ⟨g4, 0, none⟩ = some (.int .i64 z2) ∧ w'.cell? ⟨g4, 1, none⟩ = some (.slice E2 q2 r2)) (by kernel_rfl) ?_ (fun hHeld => ?_)
                  · exact ⟨z0, z1, z2_, z3⟩
                  obtain ⟨u0, hu0⟩ : ∃ uu : World, uu = w8.drew := ⟨_, rfl⟩
                  rw [← hu0] at H hHeld ⊢
                  clear hu0
                  refine wpAnyH_take (i := 0) (v := ?_) rfl (by kernel_rfl) (by kernel_rfl) (by kernel_rfl) (fun _ _ _ h => h) (Or.inl ⟨by kernel_rfl, ?_⟩) (by assumption) ?_
                  rotate_left
                  · (intro w hSw; (try dsimp only at hSw); go_simp; try (with_reducible rfl))
                  try simp only [sA, sB, sC, Act.put, sD, sE, sF]
                  refine wpAnyH_take (i := 1) (v := ?_) rfl (by kernel_rfl) (by kernel_rfl) (by kernel_rfl) (fun _ _ _ h => h) (Or.inl ⟨by kernel_rfl, ?_⟩) (by assumption) ?_
                  rotate_left
                  · (intro w hSw; (try dsimp only at hSw); go_simp; try (with_reducible rfl))
                  try simp only [sA, sB, sC, Act.put, sD, sE, sF]
                  refine wpAnyH_take (i := 2) (v := ?_) rfl (by kernel_rfl) (by kernel_rfl) (by kernel_rfl) (fun _ _ _ h => h) (Or.inl ⟨by kernel_rfl, ?_⟩) (by assumption) ?_
                  rotate_left
                  · (intro w hSw; (try dsimp only at hSw); go_simp; try (with_reducible rfl))
                  try simp only [sA, sB, sC, Act.put, sD, sE, sF]
                  refine wpAnyH_take (i := 3) (v := ?_) rfl (by kernel_rfl) (by kernel_rfl) (by kernel_rfl) (fun _ _ _ h => h) (Or.inl ⟨by kernel_rfl, ?_⟩) (by assumption) ?_
                  rotate_left
                  · (intro w hSw; (try dsimp only at hSw); go_simp; try (with_reducible rfl))
                  try simp only [sA, sB, sC, Act.put, sD, sE, sF]
                  refine wpAnyH_take (i := 4) (v := ?_) rfl (by kernel_rfl) (by kernel_rfl) (by kernel_rfl) (fun _ _ _ h => h) (Or.inl ⟨by kernel_rfl, ?_⟩) (by assumption) ?_
                  rotate_left
                  · (intro w hSw; (try dsimp only at hSw); go_simp; try (with_reducible rfl))
                  try simp only [sA, sB, sC, Act.put, sD, sE, sF]
                  refine wpAnyH_take (i := 5) (v := ?_) rfl (by kernel_rfl) (by kernel_rfl) (by kernel_rfl) (fun _ _ _ h => h) (Or.inl ⟨by kernel_rfl, ?_⟩) (by assumption) ?_
                  rotate_left
                  · (intro w hSw; (try dsimp only at hSw); go_simp; try (with_reducible rfl))
                  try simp only [sA, sB, sC, Act.put, sD, sE, sF]
                  refine wpAnyH_take (i := 6) (v := ?_) rfl (by kernel_rfl) (by kernel_rfl) (by kernel_rfl) (fun _ _ _ h => h) (Or.inl ⟨by kernel_rfl, ?_⟩) (by assumption) ?_
                  rotate_left
                  · (intro w hSw; (try dsimp only at hSw); go_simp; try (with_reducible rfl))
                  try simp only [sA, sB, sC, Act.put, sD, sE, sF]
                  refine wpAnyH_take (i := 7) (v := ?_) rfl (by kernel_rfl) (by kernel_rfl) (by kernel_rfl) (fun _ _ _ h => h) (Or.inl ⟨by kernel_rfl, ?_⟩) (by assumption) ?_
                  rotate_left
                  · (intro w hSw; (try dsimp only at hSw); go_simp; try (with_reducible rfl))
                  try simp only [sA, sB, sC, Act.put, sD, sE, sF]
                  refine wpAnyH_take (i := 8) (v := ?_) rfl (by kernel_rfl) (by kernel_rfl) (by kernel_rfl) (fun _ _ _ h => h) (Or.inl ⟨by kernel_rfl, ?_⟩) (by assumption) ?_
                  rotate_left
                  · (intro w hSw; (try dsimp only at hSw); go_simp; try (with_reducible rfl))
                  try simp only [sA, sB, sC, Act.put, sD, sE, sF]
                  refine wpAnyH_take (i := 9) (v := ?_) rfl (by kernel_rfl) (by kernel_rfl) (by kernel_rfl) (fun _ _ _ h => h) (Or.inl ⟨by kernel_rfl, ?_⟩) (by assumption) ?_
                  rotate_left
                  · (intro w hSw; (try dsimp only at hSw); go_simp; try (with_reducible rfl))
                  try simp only [sA, sB, sC, Act.put, sD, sE, sF]
                  refine wpAnyH_take (i := 10) (v := ?_) rfl (by kernel_rfl) (by kernel_rfl) (by kernel_rfl) (fun _ _ _ h => h) (Or.inl ⟨by kernel_rfl, ?_⟩) (by assumption) ?_
                  rotate_left
                  · (intro w hSw; (try dsimp only at hSw); go_simp; try (with_reducible rfl))
                  try simp only [sA, sB, sC, Act.put, sD, sE, sF]
                  refine wpAnyH_take (i := 11) (v := ?_) rfl (by kernel_rfl) (by kernel_rfl) (by kernel_rfl) (fun _ _ _ h => h) (Or.inl ⟨by kernel_rfl, ?_⟩) (by assumption) ?_
                  rotate_left
                  · (intro w hSw; (try dsimp only at hSw); go_simp; try (with_reducible rfl))
                  try simp only [sA, sB, sC, Act.put, sD, sE, sF]
                  refine wpAnyH_take (i := 12) (v := ?_) rfl (by kernel_rfl) (by kernel_rfl) (by kernel_rfl) (fun _ _ _ h => h) (Or.inl ⟨by kernel_rfl, ?_⟩) (by assumption) ?_
                  rotate_left
                  · (intro w hSw; (try dsimp only at hSw); go_simp; try (with_reducible rfl))
                  try simp only [sA, sB, sC, Act.put, sD, sE, sF]
                  refine wpAnyH_take (i := 13) (v := ?_) rfl (by kernel_rfl) (by kernel_rfl) (by kernel_rfl) (fun _ _ _ h => h) (Or.inl ⟨by kernel_rfl, ?_⟩) (by assumption) ?_
                  rotate_left
                  · (intro w hSw; (try dsimp only at hSw); go_simp; try (with_reducible rfl))
                  try simp only [sA, sB, sC, Act.put, sD, sE, sF]
                  refine wpAnyH_take (i := 14) (v := ?_) rfl (by kernel_rfl) (by kernel_rfl) (by kernel_rfl) (fun _ _ _ h => h) (Or.inl ⟨by kernel_rfl, ?_⟩) (by assumption) ?_
                  rotate_left
                  · (intro w hSw; (try dsimp only at hSw); go_simp; try (with_reducible rfl))
                  try simp only [sA, sB, sC, Act.put, sD, sE, sF]
                  refine wpAnyH_take (i := 15) (v := ?_) rfl (by kernel_rfl) (by kernel_rfl) (by kernel_rfl) (fun _ _ _ h => h) (Or.inl ⟨by kernel_rfl, ?_⟩) (by assumption) ?_
                  rotate_left
                  · (intro w hSw; (try dsimp only at hSw); go_simp; try (with_reducible rfl))
                  try simp only [sA, sB, sC, Act.put, sD, sE, sF]
                  refine wpAnyH_take (i := 16) (v := ?_) rfl (by kernel_rfl) (by kernel_rfl) (by kernel_rfl) (fun _ _ _ h => h) (Or.inl ⟨by kernel_rfl, ?_⟩) (by assumption) ?_
                  rotate_left
                  · (intro w hSw; (try dsimp only at hSw); go_simp; try (with_reducible rfl))
                  try simp only [sA, sB, sC, Act.put, sD, sE, sF]
                  refine wpAnyH_take (i := 17) (v := ?_) rfl (by kernel_rfl) (by kernel_rfl) (by kernel_rfl) (fun _ _ _ h => h) (Or.inl ⟨by kernel_rfl, ?_⟩) (by assumption) ?_
                  rotate_left
                  · (intro w hSw; (try dsimp only at hSw); go_simp; try (with_reducible rfl))
                  try simp only [sA, sB, sC, Act.put, sD, sE, sF]
                  refine wpAnyH_take (i := 18) (v := ?_) rfl (by kernel_rfl) (by kernel_rfl) (by kernel_rfl) (fun _ _ _ h => h) (Or.inl ⟨by kernel_rfl, ?_⟩) (by assumption) ?_
                  rotate_left
                  · (intro w hSw; (try dsimp only at hSw); go_simp; try (with_reducible rfl))
                  try simp only [sA, sB, sC, Act.put, sD, sE, sF]
                  refine wpAnyH_ready (rs := [19]) (by kernel_rfl) (by simp) ?_
                  refine (AllReadyH.cons rfl (fun K hK => ?_) AllReadyH.nil)
                  go_simp
                  refine (specFilOk_any A2 24 c2 bits2 B2 24 d2 data2 z2 E2 q2 r2 l2 _ (H.rd 0 rfl) (H.rd 1 rfl) (H.rd 2 rfl) h24b HZ2.out hqb2).mono ?_
                  rintro e u1 ⟨rfl, f9⟩
                  replace H := H.go f9
                  clear f9
                  rw [HFO.out]
                  go_wp2_with fail
                  refine hK.out _ _ ?_ (fun hHeld => ?_)
                  · exact ⟨H.bat 3 rfl (j := 0) rfl, H.bat 3 rfl (j := 1) rfl, H.bat 4 rfl (j := 0) rfl, H.bat 4 rfl (j := 1) rfl⟩
                  clear hK K
                  try simp only [sA, sB, sC, Act.put, sD, sE, sF]
                  refine wpAnyH_take (i := 20) (v := ?_) rfl (by kernel_rfl) (by kernel_rfl) (by kernel_rfl) (fun _ _ _ h => h) (Or.inl ⟨by kernel_rfl, ?_⟩) (by assumption) ?_
                  rotate_left
                  · (intro w hSw; (try dsimp only at hSw); go_simp; try (with_reducible rfl))
                  try simp only [sA, sB, sC, Act.put, sD, sE, sF]
                  refine wpAnyH_take (i := 21) (v := ?_) rfl (by kernel_rfl) (by kernel_rfl) (by kernel_rfl) (fun _ _ _ h => h) (Or.inl ⟨by kernel_rfl, ?_⟩) (by assumption) ?_
                  rotate_left
                  · (intro w hSw; (try dsimp only at hSw); go_simp; try (with_reducible rfl))
                  try simp only [sA, sB, sC, Act.put, sD, sE, sF]
                  refine wpAnyH_take (i := 22) (v := ?_) rfl (by kernel_rfl) (by kernel_rfl) (by kernel_rfl) (fun _ _ _ h => h) (Or.inl ⟨by kernel_rfl, ?_⟩) (by assumption) ?_
                  rotate_left
                  · (intro w hSw; (try dsimp only at hSw); go_simp; try (with_reducible rfl))
                  try simp only [sA, sB, sC, Act.put, sD, sE, sF]
                  refine wpAnyH_take (i := 23) (v := ?_) rfl (by kernel_rfl) (by kernel_rfl) (by kernel_rfl) (fun _ _ _ h => h) (Or.inl ⟨by kernel_rfl, ?_⟩) (by assumption) ?_
                  rotate_left
                  · (intro w hSw; (try dsimp only at hSw); go_simp; try (with_reducible rfl))
                  try simp only [sA, sB, sC, Act.put, sD, sE, sF]
                  refine wpAnyH_take (i := 24) (v := ?_) rfl (by kernel_rfl) (by kernel_rfl) (by kernel_rfl) (fun _ _ _ h => h) (Or.inl ⟨by kernel_rfl, ?_⟩) (by assumption) ?_
                  rotate_left
                  · (intro w hSw; (try dsimp only at hSw); go_simp; try (with_reducible rfl))
                  try simp only [sA, sB, sC, Act.put, sD, sE, sF]
                  refine wpAnyH_take (i := 26) (v := ?_) rfl (by kernel_rfl) (by kernel_rfl) (by kernel_rfl) (fun _ _ _ h => h) (Or.inl ⟨by kernel_rfl, ?_⟩) (by assumption) ?_
                  rotate_left
                  · (intro w hSw; (try dsimp only at hSw); go_simp; try (with_reducible rfl))
                  try simp only [sA, sB, sC, Act.put, sD, sE, sF]
                  refine wpAnyH_take (i := 27) (v := ?_) rfl (by kernel_rfl) (by kernel_rfl) (by kernel_rfl) (fun _ _ _ h => h) (Or.inl ⟨by kernel_rfl, ?_⟩) (by assumption) ?_
                  rotate_left
                  · (intro w hSw; (try dsimp only at hSw); go_simp; try (with_reducible rfl))
                  try simp only [sA, sB, sC, Act.put, sD, sE, sF]
                  refine wpAnyH_ready (rs := [25]) (by kernel_rfl) (by simp) ?_
                  refine (AllReadyH.cons rfl (fun K hK => ?_) AllReadyH.nil)
                  go_simp
                  refine (specFreeOf_any A2 24 c2 bits2 _ (H.rd 0 rfl)).mono ?_
                  rintro e u2 ⟨rfl, f9⟩
                  replace H := H.go f9
                  clear f9
                  rw [HFR.out]
                  go_wp2_with fail
                  refine hK.out _ _ ?_ (fun hHeld => ?_)
                  · exact ⟨H.bat 3 rfl (j := 0) rfl, H.bat 3 rfl (j := 1) rfl, H.bat 4 rfl (j := 0) rfl, H.bat 4 rfl (j := 1) rfl⟩
                  clear hK K
                  try simp only [sA, sB, sC, Act.put, sD, sE, sF]
                  refine wpAnyH_ready (rs := [28]) (by kernel_rfl) (by simp) ?_
                  refine (AllReadyH.cons rfl (fun K hK => ?_) AllReadyH.nil)
                  go_simp
                  refine (specBlocksOf_any E2 q2 r2 l2 _ (H.rd 2 rfl) hqb2).mono ?_
                  rintro e u3 ⟨AO, cO, rfl, oO, fO⟩
                  replace H := H.made oO fO
                  clear oO fO
                  rw [HKB.out]
                  go_wp2_with fail
                  refine hK.out _ _ ?_ (fun hHeld => ?_)
                  · exact ⟨H.bat 4 rfl (j := 0) rfl, H.bat 4 rfl (j := 1) rfl, H.bat 5 rfl (j := 0) rfl, H.bat 5 rfl (j := 1) rfl⟩
                  clear hK K
                  try simp only [sA, sB, sC, Act.put, sD, sE, sF]
                  refine wpAnyH_take (i := 29) (v := ?_) rfl (by kernel_rfl) (by kernel_rfl) (by kernel_rfl) (fun _ _ _ h => h) (Or.inl ⟨by kernel_rfl, ?_⟩) (by assumption) ?_
                  rotate_left
                  · (intro w hSw; (try dsimp only at hSw); go_simp; try (with_reducible rfl))
                  try simp only [sA, sB, sC, Act.put, sD, sE, sF]
                  refine wpAnyH_take (i := 30) (v := ?_) rfl (by kernel_rfl) (by kernel_rfl) (by kernel_rfl) (fun _ _ _ h => h) (Or.inl ⟨by kernel_rfl, ?_⟩) (by assumption) ?_
                  rotate_left
                  · (intro w hSw; (try dsimp only at hSw); go_simp; try (with_reducible rfl))
                  try simp only [sA, sB, sC, Act.put, sD, sE, sF]
                  refine wpAnyH_take (i := 31) (v := ?_) rfl (by kernel_rfl) (by kernel_rfl) (by kernel_rfl) (fun _ _ _ h => h) (Or.inl ⟨by kernel_rfl, ?_⟩) (by assumption) ?_
                  rotate_left
                  · (intro w hSw; (try dsimp only at hSw); go_simp; try (with_reducible rfl))
                  try simp only [sA, sB, sC, Act.put, sD, sE, sF]
                  refine wpAnyH_take (i := 32) (v := ?_) rfl (by kernel_rfl) (by kernel_rfl) (by kernel_rfl) (fun _ _ _ h => h) (Or.inl ⟨by kernel_rfl, ?_⟩) (by assumption) ?_
                  rotate_left
                  · (intro w hSw; (try dsimp only at hSw); go_simp; try (with_reducible rfl))
                  try simp only [sA, sB, sC, Act.put, sD, sE, sF]
                  refine wpAnyH_done (by kernel_rfl) ?_ _
                  have H9 := Lib.hid H.tail
                  clear H
                  go_wp2_with fail
                  go_roundw
                  case rel => exact ⟨k + 1, want2, bits2, data2, z2, l2, A2, c2, B2, d2, E2, q2, r2, by rw [HW2.out], by go_num, by omega, HSIM2.out, HL2.out, hq12, H9.out⟩
                  case measure => simp [intOf]; omega
      · have h3' : ((u2.toNat : Int) % 3 == 0) = false := beq_eq_false_iff_ne.2 h3
        clear y0 y1 y2 y3
        go_wp2_with fail
        go_loopw [12, 13] (fun dv jv wx => ∃ (j : Nat) (dl : List UInt8), dv = .string (ofB dl) ∧ jv = .int .i64 j ∧ dl.length = j ∧ j ≤ nn ∧ Hp [] w wx [.row 4 1 (.slice A1 24 c1) 24 (bits.map Value.bool), .row 9 1 (.slice B1 24 d1) 24 (data.map Value.string), .row 92 3 (.slice E1 q r1) q (l.flatMap cExt), .blk g3 31 [.slice A1 24 c1, .slice B1 24 d1], .blk g4 34 [.int .i64 z, .slice E1 q r1]]) (fun _ jv _ => nn - (intOf jv).toNat)
        case atStart => exact ⟨0, [], rfl, rfl, rfl, by omega, H⟩
        case round =>
          clear H
          obtain ⟨j, dl, rfl, rfl, hdl, hj, H⟩ := hrel
          have HDL := Lib.hid hdl
          have hds : (ofB dl).size = j := by rw [ofB_size, hdl]
          clear hdl
          have hj0 : (0 : Int) ≤ (j : Int) := by omega
          by_cases hjn : j < nn
          · have hjn1 : (j : Int) < (nn : Int) := by omega
            go_wp2_with fail
            refine (at_any A n c bs _ _ (H.old HA.out) hn (by omega) (by omega)).mono ?_
            rintro e wq ⟨u3, rfl, hwq⟩
            rw [hwq]
            clear hwq
            have hu3 := u3.toNat_lt
            have wq3 : IntKind.u8.wrap (u3.toNat : Int) = (u3.toNat : Int) := wraps_u8 _ (by omega) (by omega)
            have hr1 : Rd (wr.alloc (.cells #[.int .u8 (u3.toNat : Int)] 5)) (some ⟨wr.heap.size, 0, none⟩) 1 1 ([u3].map cU8) :=
              ((Hp.start wr).lit 5 1 1 [.int .u8 (u3.toNat : Int)] rfl (by simp [maxLen])).rd 0 rfl
            have hc := run_str (c := 1) 44 9 5 Try.underlying44 Try.underlying5 Try.underlying9 hr1
            have hs1 : (ofB [u3]).size = 1 := rfl
            have HAP := Lib.hid (ofB_append dl [u3])
            have H2 := Lib.hid (H.al (.cells #[.int .u8 (u3.toNat : Int)] 5))
            clear hr1 H
            go_wp2_with fail
            go_roundw
            case rel => exact ⟨j + 1, dl ++ [u3], by rw [HAP.out], by go_num, by rw [List.length_append, HDL.out]; rfl, by omega, H2.out⟩
            case measure => simp [intOf]; omega
          · have hjn1 : ¬ ((j : Int) < (nn : Int)) := by omega
            have hjnn : nn ≤ j := by omega
            have y0 := H.bat 3 rfl (j := 0) rfl
            have y1 := H.bat 3 rfl (j := 1) rfl
            have y2 := H.bat 4 rfl (j := 0) rfl
            have y3 := H.bat 4 rfl (j := 1) rfl
            go_wp2_with fail
            refine (implFilWrite_any A1 24 c1 bits B1 24 d1 data z E1 q r1 l o (ofB dl) _ (H.rd 0 rfl) (H.rd 1 rfl) (H.rd 2 rfl) hcA hcB hcE h24b h24b HZ4.out hqb (by omega) (by omega)).mono ?_
            rintro e w5 ⟨A2, c2, B2, d2, E2, q2, r2, rfl, hq2, K⟩
            obtain ⟨R, hR⟩ : ∃ x, x = wrRes bits data z l o (ofB dl) := ⟨_, rfl⟩
            have SC := HSIM.out.write (off := o) (txt := ofB dl) (by omega) hR.symm
            rw [toB_ofB] at SC
            have hq12 : q2 ≤ 12 := by rw [← hq2]; exact wr_len (by rw [HL.out]; exact hq)
            rw [← hR] at K hq2 ⊢
            rw [SC.1]
            replace H := H.join K
            obtain ⟨bits2, hb2⟩ : ∃ x, x = R.1 := ⟨_, rfl⟩
            obtain ⟨data2, hd2⟩ : ∃ x, x = R.2.1 := ⟨_, rfl⟩
            obtain ⟨z2, hz2⟩ : ∃ x, x = R.2.2.1 := ⟨_, rfl⟩
            obtain ⟨l2, hl2⟩ : ∃ x, x = R.2.2.2.1 := ⟨_, rfl⟩
            have SC2 := SC.2
            rw [← hb2, ← hd2, ← hz2, ← hl2] at SC2
            rw [← hb2, ← hd2, ← hl2] at H
            rw [← hl2] at hq2
            rw [← hz2]
            have HSIM2 := Lib.hid SC2
            have HL2 := Lib.hid hq2
            clear SC SC2 K hR hq2 hb2 hd2 hz2 hl2 y0 y1 y2 y3 hcA hcB hcE HZ4 h3 h3'
            -- what came back, in boxes of its own; the text grows meanwhile
            replace H := (H.lay_ 31 [.slice A2 24 c2, .slice B2 24 d2] rfl).lay_ 34 [.int .i64 z2, .slice E2 q2 r2] (g := w5.heap.size + 1) (by simp)
            obtain ⟨g9, hg9⟩ : ∃ x, x = w5.heap.size := ⟨_, rfl⟩
            rw [← hg9] at H
            have HG9 := Lib.hid hg9
            clear hg9
            by_cases hj00 : j = 0
            · have hdn : dl = [] := List.eq_nil_of_length_eq_zero (by rw [HDL.out, hj00])
              have he1 : ((ofB dl).toList == (ByteArray.mk #[]).toList) = true := by rw [hdn, cmpB, toB_ofB]; rfl
              have he2 : ((ofB dl).toList == []) = true := by rw [hdn, toList_B, toB_ofB]; rfl
              have he3 : ((ofB dl).toList != (ByteArray.mk #[]).toList) = false := by rw [bne, he1]; rfl
              have he4 : ((ofB dl).toList != []) = false := by rw [bne, he2]; rfl
              have HW := Lib.hid (show wrote want o dl = want by rw [wrote, if_pos hdn])
              clear hdn hj00
              -- s = t, f = g
              have p0 := H.bat 1 rfl (j := 0) rfl
              have p1 := H.bat 1 rfl (j := 1) rfl
              have p2 := H.bat 0 rfl (j := 0) rfl
              have p3 := H.bat 0 rfl (j := 1) rfl
              have f0 := H.bfree 8 rfl 0
              have f1 := H.bfree 8 rfl 1
              have k0 := H.bat 8 rfl (j := 0) rfl
              have k1 := H.bat 8 rfl (j := 1) rfl
              have H2 := (H.bput 8 rfl 0 (.slice A2 24 c2)).bput 8 rfl 1 (.slice B2 24 d2)
              have p4 := H2.bat 0 rfl (j := 0) rfl
              have p5 := H2.bat 0 rfl (j := 1) rfl
              have f2 := H2.bfree 9 rfl 0
              have f3 := H2.bfree 9 rfl 1
              have k2 := H2.bat 9 rfl (j := 0) rfl
              have k3 := H2.bat 9 rfl (j := 1) rfl
              have H3 := (H2.bput 9 rfl 0 (.int .i64 z2)).bput 9 rfl 1 (.slice E2 q2 r2)
              have y0 := H3.bat 8 rfl (j := 0) rfl
              have y1 := H3.bat 8 rfl (j := 1) rfl
              have y2 := H3.bat 9 rfl (j := 0) rfl
              have y3 := H3.bat 9 rfl (j := 1) rfl
              have H4 := Lib.hid ((H3.reord [2, 3, 4, 8, 9, 0, 1, 5, 6, 7] (n := 10) rfl (by decide)).sub (List.take_sublist 5 _))
              clear H H2 H3
              rw [HG9.out] at p0 p1 p2 p3 p4 p5
              go_wp2_with fail
              obtain ⟨want2, hwt2⟩ : ∃ x, x = want := ⟨_, rfl⟩
              rw [HW.out] at HSIM2
              rw [← hwt2] at HSIM2 ⊢
              clear hwt2 HW hds p0 p1 p2 p3 f0 f1 f2 f3 k0 k1 k2 k3 p4 p5 he1 he2 he3 he4 hj0 hjn hjn1 hjnn
              as_aux_lemma =>
                -- the file is read, and judged
                have hw2 : want2.length ≤ 48 := by have := HSIM2.out.len; have := HSIM2.out.fi.z1; omega
                have HR1 := Lib.hid (show filReadS bits2 data2 z2 l2 0 100 = ofB want2 ∧ filReadB bits2 data2 z2 l2 0 100 = true by
                  refine ⟨?_, ?_⟩
                  · rw [filReadS, filOk_iff.2 HSIM2.out.fi, HSIM2.out.whole, read_all (by omega)]; rfl
                  · rw [filReadB, filOk_iff.2 HSIM2.out.fi]; rfl)
                have HR2 := Lib.hid (show filReadS bits2 data2 z2 l2 o 3 = ofB ((want2.drop o).take 3) ∧ filReadB bits2 data2 z2 l2 o 3 = true by
                  refine ⟨?_, ?_⟩
                  · rw [filReadS, filOk_iff.2 HSIM2.out.fi, HSIM2.out.whole]; simp [readL]
                  · rw [filReadB, filOk_iff.2 HSIM2.out.fi]; simp)
                have HZ2 := Lib.hid (show ∀ s ∈ data2, s.size ≤ 1048576 from fun s hs => by have := HSIM2.out.fi.sz s hs; omega)
                have hqb2 : q2 ≤ 1048576 := by omega
                obtain ⟨W2, hW2⟩ : ∃ x, x = ofB want2 := ⟨_, rfl⟩
                obtain ⟨P2, hP2⟩ : ∃ x, x = ofB ((want2.drop o).take 3) := ⟨_, rfl⟩
                rw [← hW2] at HR1 ⊢
                rw [← hP2] at HR2
                obtain ⟨m2, hm2⟩ : ∃ x, x = want2.length := ⟨_, rfl⟩
                have hWs : W2.size = m2 := by rw [hW2, ofB_size, hm2]
                have hm48 : m2 ≤ 48 := by omega
                have HW2 := Lib.hid hW2
                have HP2 := Lib.hid hP2
                have HM2 := Lib.hid hm2
                have hw3 : IntKind.i64.wrap (o : Int) = (o : Int) := IntWalk.i64_in _ (by omega)
                have ho0 : (0 : Int) ≤ (o : Int) := by omega
                clear hW2 hP2 hm2 hw2
                have H : Hp [] w _ [.row 4 1 (.slice A2 24 c2) 24 (bits2.map Value.bool), .row 9 1 (.slice B2 24 d2) 24 (data2.map Value.string), .row 92 3 (.slice E2 q2 r2) q2 (l2.flatMap cExt), .blk g3 31 [.slice A2 24 c2, .slice B2 24 d2], .blk g4 34 [.int .i64 z2, .slice E2 q2 r2]] := H4.out
                refine (implFilRead_any A2 24 c2 bits2 B2 24 d2 data2 z2 E2 q2 r2 l2 0 100 _ (H.rd 0 rfl) (H.rd 1 rfl) (H.rd 2 rfl) h24b HZ2.out hqb2).mono ?_
                rintro e w7 ⟨rfl, f7⟩
                rw [HR1.out.1, HR1.out.2]
                replace H := H.go f7
                clear f7 H4 y0 y1 y2 y3
                have y0 := H.bat 3 rfl (j := 0) rfl
                have y1 := H.bat 3 rfl (j := 1) rfl
                have y2 := H.bat 4 rfl (j := 0) rfl
                have y3 := H.bat 4 rfl (j := 1) rfl
                go_wp2_with fail
                refine (implFilRead_any A2 24 c2 bits2 B2 24 d2 data2 z2 E2 q2 r2 l2 o 3 _ (H.rd 0 rfl) (H.rd 1 rfl) (H.rd 2 rfl) h24b HZ2.out hqb2).mono ?_
                rintro e w8 ⟨rfl, f8⟩
                rw [HR2.out.1, HR2.out.2]
                replace H := H.go f8
                clear f8 y0 y1 y2 y3
                by_cases hom2 : o < m2
                · have hom3 : (o : Int) < (m2 : Int) := by omega
                  have hom4 : (o : Int) ≤ (m2 : Int) := by omega
                  by_cases h33 : 3 < m2 - o
                  · obtain ⟨X2, hX2⟩ : ∃ x, x = W2.extract o m2 := ⟨_, rfl⟩
                    have hXs : X2.size = m2 - o := by rw [hX2, ByteArray.size_extract, hWs]; omega
                    have hXe : W2.extract o m2 = X2 := hX2.symm
                    have hXp : X2.extract 0 3 = P2 := by
                      have e1 : W2.extract o m2 = ofB (want2.drop o) := by rw [HW2.out, extract_ofB, List.take_of_length_le (by rw [List.length_drop]; have := HM2.out; omega)]
                      rw [hX2, e1, extract_ofB, List.drop_zero, HP2.out]
                    have hX3 : (3 : Int) < ((m2 - o : Nat) : Int) := by omega
                    have hX4 : (3 : Int) ≤ ((m2 - o : Nat) : Int) := by omega
                    have hw33 : IntKind.i64.wrap 3 = 3 := by decide
                    clear hX2
                    go_wp2_with fail
                    as_aux_lemma =>
                      -- what was read, and what is counted
                      have hss1 : (W2.toList != W2.toList) = false := bne_self_eq_false _
                      have hss2 : (P2.toList != P2.toList) = false := bne_self_eq_false _
                      have hff := filOk_iff.2 HSIM2.out.fi
                      have HFO := Lib.hid hff
                      obtain ⟨fr, hfr⟩ : ∃ x, sumLen (runs bits2) = x := ⟨_, rfl⟩
                      obtain ⟨kB, hkB⟩ : ∃ x, (blocksOfL l2).length = x := ⟨_, rfl⟩
                      have h24 := HSIM2.out.free
                      rw [hfr, hkB] at h24
                      have HFR := Lib.hid hfr
                      have HKB := Lib.hid hkB
                      have hws : IntKind.i64.wrap (fr + (kB : Int)) = 24 := by rw [h24]; decide
                      have hw24 : IntKind.i64.wrap 24 = 24 := by decide
                      clear hff hfr hkB
                      replace H := H.drew
                      have z0 := H.bat 3 rfl (j := 0) rfl
                      have z1 := H.bat 3 rfl (j := 1) rfl
                      have z2_ := H.bat 4 rfl (j := 0) rfl
                      have z3 := H.bat 4 rfl (j := 1) rfl
                      refine wp_region_held_drew (S := fun w' => w'.cell? ⟨g3, 0, none⟩ = some (.slice A2 24 c2) ∧ w'.cell? ⟨g3, 1, none⟩ = some (.slice B2 24 d2) ∧ w'.cell? ⟨g4, 0, none⟩ = some (.int .i64 z2) ∧ w'.cell? ⟨g4, 1, none⟩ = some (.slice E2 q2 r2)) (by kernel_rfl) ?_ (fun hHeld => ?_)
                      · exact ⟨z0, z1, z2_, z3⟩
                      obtain ⟨u0, hu0⟩ : ∃ uu : World, uu = w8.drew := ⟨_, rfl⟩
                      rw [← hu0] at H hHeld ⊢
                      clear hu0
                      refine wpAnyH_take (i := 0) (v := ?_) rfl (by kernel_rfl) (by kernel_rfl) (by kernel_rfl) (fun _ _ _ h => h) (Or.inl ⟨by kernel_rfl, ?_⟩) (by assumption) ?_
                      rotate_left
                      · (intro w hSw; (try dsimp only at hSw); go_simp; try (with_reducible rfl))
                      try simp only [sA, sB, sC, Act.put, sD, sE, sF]
                      refine wpAnyH_take (i := 1) (v := ?_) rfl (by kernel_rfl) (by kernel_rfl) (by kernel_rfl) (fun _ _ _ h => h) (Or.inl ⟨by kernel_rfl, ?_⟩) (by assumption) ?_
                      rotate_left
                      · (intro w hSw; (try dsimp only at hSw); go_simp; try (with_reducible rfl))
                      try simp only [sA, sB, sC, Act.put, sD, sE, sF]
                      refine wpAnyH_take (i := 2) (v := ?_) rfl (by kernel_rfl) (by kernel_rfl) (by kernel_rfl) (fun _ _ _ h => h) (Or.inl ⟨by kernel_rfl, ?_⟩) (by assumption) ?_
                      rotate_left
                      · (intro w hSw; (try dsimp only at hSw); go_simp; try (with_reducible rfl))
                      try simp only [sA, sB, sC, Act.put, sD, sE, sF]
                      refine wpAnyH_take (i := 3) (v := ?_) rfl (by kernel_rfl) (by kernel_rfl) (by kernel_rfl) (fun _ _ _ h => h) (Or.inl ⟨by kernel_rfl, ?_⟩) (by assumption) ?_
                      rotate_left
                      · (intro w hSw; (try dsimp only at hSw); go_simp; try (with_reducible rfl))
                      try simp only [sA, sB, sC, Act.put, sD, sE, sF]
                      refine wpAnyH_take (i := 4) (v := ?_) rfl (by kernel_rfl) (by kernel_rfl) (by kernel_rfl) (fun _ _ _ h => h) (Or.inl ⟨by kernel_rfl, ?_⟩) (by assumption) ?_
                      rotate_left
                      · (intro w hSw; (try dsimp only at hSw); go_simp; try (with_reducible rfl))
                      try simp only [sA, sB, sC, Act.put, sD, sE, sF]
                      refine wpAnyH_take (i := 5) (v := ?_) rfl (by kernel_rfl) (by kernel_rfl) (by kernel_rfl) (fun _ _ _ h => h) (Or.inl ⟨by kernel_rfl, ?_⟩) (by assumption) ?_
                      rotate_left
                      · (intro w hSw; (try dsimp only at hSw); go_simp; try (with_reducible rfl))
                      try simp only [sA, sB, sC, Act.put, sD, sE, sF]
                      refine wpAnyH_take (i := 6) (v := ?_) rfl (by kernel_rfl) (by kernel_rfl) (by kernel_rfl) (fun _ _ _ h => h) (Or.inl ⟨by kernel_rfl, ?_⟩) (by assumption) ?_
                      rotate_left
                      · (intro w hSw; (try dsimp only at hSw); go_simp; try (with_reducible rfl))
                      try simp only [sA, sB, sC, Act.put, sD, sE, sF]
                      refine wpAnyH_take (i := 7) (v := ?_) rfl (by kernel_rfl) (by kernel_rfl) (by kernel_rfl) (fun _ _ _ h => h) (Or.inl ⟨by kernel_rfl, ?_⟩) (by assumption) ?_
                      rotate_left
                      · (intro w hSw; (try dsimp only at hSw); go_simp; try (with_reducible rfl))
                      try simp only [sA, sB, sC, Act.put, sD, sE, sF]
                      refine wpAnyH_take (i := 8) (v := ?_) rfl (by kernel_rfl) (by kernel_rfl) (by kernel_rfl) (fun _ _ _ h => h) (Or.inl ⟨by kernel_rfl, ?_⟩) (by assumption) ?_
                      rotate_left
                      · (intro w hSw; (try dsimp only at hSw); go_simp; try (with_reducible rfl))
                      try simp only [sA, sB, sC, Act.put, sD, sE, sF]
                      refine wpAnyH_take (i := 9) (v := ?_) rfl (by kernel_rfl) (by kernel_rfl) (by kernel_rfl) (fun _ _ _ h => h) (Or.inl ⟨by kernel_rfl, ?_⟩) (by assumption) ?_
                      rotate_left
                      · (intro w hSw; (try dsimp only at hSw); go_simp; try (with_reducible rfl))
                      try simp only [sA, sB, sC, Act.put, sD, sE, sF]
                      refine wpAnyH_take (i := 10) (v := ?_) rfl (by kernel_rfl) (by kernel_rfl) (by kernel_rfl) (fun _ _ _ h => h) (Or.inl ⟨by kernel_rfl, ?_⟩) (by assumption) ?_
                      rotate_left
                      · (intro w hSw; (try dsimp only at hSw); go_simp; try (with_reducible rfl))
                      try simp only [sA, sB, sC, Act.put, sD, sE, sF]
                      refine wpAnyH_take (i := 11) (v := ?_) rfl (by kernel_rfl) (by kernel_rfl) (by kernel_rfl) (fun _ _ _ h => h) (Or.inl ⟨by kernel_rfl, ?_⟩) (by assumption) ?_
                      rotate_left
                      · (intro w hSw; (try dsimp only at hSw); go_simp; try (with_reducible rfl))
                      try simp only [sA, sB, sC, Act.put, sD, sE, sF]
                      refine wpAnyH_take (i := 12) (v := ?_) rfl (by kernel_rfl) (by kernel_rfl) (by kernel_rfl) (fun _ _ _ h => h) (Or.inl ⟨by kernel_rfl, ?_⟩) (by assumption) ?_
                      rotate_left
                      · (intro w hSw; (try dsimp only at hSw); go_simp; try (with_reducible rfl))
                      try simp only [sA, sB, sC, Act.put, sD, sE, sF]
                      refine wpAnyH_take (i := 13) (v := ?_) rfl (by kernel_rfl) (by kernel_rfl) (by kernel_rfl) (fun _ _ _ h => h) (Or.inl ⟨by kernel_rfl, ?_⟩) (by assumption) ?_
                      rotate_left
                      · (intro w hSw; (try dsimp only at hSw); go_simp; try (with_reducible rfl))
                      try simp only [sA, sB, sC, Act.put, sD, sE, sF]
                      refine wpAnyH_take (i := 14) (v := ?_) rfl (by kernel_rfl) (by kernel_rfl) (by kernel_rfl) (fun _ _ _ h => h) (Or.inl ⟨by kernel_rfl, ?_⟩) (by assumption) ?_
                      rotate_left
                      · (intro w hSw; (try dsimp only at hSw); go_simp; try (with_reducible rfl))
                      try simp only [sA, sB, sC, Act.put, sD, sE, sF]
                      refine wpAnyH_take (i := 15) (v := ?_) rfl (by kernel_rfl) (by kernel_rfl) (by kernel_rfl) (fun _ _ _ h => h) (Or.inl ⟨by kernel_rfl, ?_⟩) (by assumption) ?_
                      rotate_left
                      · (intro w hSw; (try dsimp only at hSw); go_simp; try (with_reducible rfl))
                      try simp only [sA, sB, sC, Act.put, sD, sE, sF]
                      refine wpAnyH_take (i := 16) (v := ?_) rfl (by kernel_rfl) (by kernel_rfl) (by kernel_rfl) (fun _ _ _ h => h) (Or.inl ⟨by kernel_rfl, ?_⟩) (by assumption) ?_
                      rotate_left
                      · (intro w hSw; (try dsimp only at hSw); go_simp; try (with_reducible rfl))
                      try simp only [sA, sB, sC, Act.put, sD, sE, sF]
                      refine wpAnyH_take (i := 17) (v := ?_) rfl (by kernel_rfl) (by kernel_rfl) (by kernel_rfl) (fun _ _ _ h => h) (Or.inl ⟨by kernel_rfl, ?_⟩) (by assumption) ?_
                      rotate_left
                      · (intro w hSw; (try dsimp only at hSw); go_simp; try (with_reducible rfl))
                      try simp only [sA, sB, sC, Act.put, sD, sE, sF]
                      refine wpAnyH_take (i := 18) (v := ?_) rfl (by kernel_rfl) (by kernel_rfl) (by kernel_rfl) (fun _ _ _ h => h) (Or.inl ⟨by kernel_rfl, ?_⟩) (by assumption) ?_
                      rotate_left
                      · (intro w hSw; (try dsimp only at hSw); go_simp; try (with_reducible rfl))
                      try simp only [sA, sB, sC, Act.put, sD, sE, sF]
                      refine wpAnyH_ready (rs := [19]) (by kernel_rfl) (by simp) ?_
                      refine (AllReadyH.cons rfl (fun K hK => ?_) AllReadyH.nil)
                      go_simp
                      refine (specFilOk_any A2 24 c2 bits2 B2 24 d2 data2 z2 E2 q2 r2 l2 _ (H.rd 0 rfl) (H.rd 1 rfl) (H.rd 2 rfl) h24b HZ2.out hqb2).mono ?_
                      rintro e u1 ⟨rfl, f9⟩
                      replace H := H.go f9
                      clear f9
                      rw [HFO.out]
                      go_wp2_with fail
                      refine hK.out _ _ ?_ (fun hHeld => ?_)
                      · exact ⟨H.bat 3 rfl (j := 0) rfl, H.bat 3 rfl (j := 1) rfl, H.bat 4 rfl (j := 0) rfl, H.bat 4 rfl (j := 1) rfl⟩
                      clear hK K
                      try simp only [sA, sB, sC, Act.put, sD, sE, sF]
                      refine wpAnyH_take (i := 20) (v := ?_) rfl (by kernel_rfl) (by kernel_rfl) (by kernel_rfl) (fun _ _ _ h => h) (Or.inl ⟨by kernel_rfl, ?_⟩) (by assumption) ?_
                      rotate_left
                      · (intro w hSw; (try dsimp only at hSw); go_simp; try (with_reducible rfl))
                      try simp only [sA, sB, sC, Act.put, sD, sE, sF]
                      refine wpAnyH_take (i := 21) (v := ?_) rfl (by kernel_rfl) (by kernel_rfl) (by kernel_rfl) (fun _ _ _ h => h) (Or.inl ⟨by kernel_rfl, ?_⟩) (by assumption) ?_
                      rotate_left
                      · (intro w hSw; (try dsimp only at hSw); go_simp; try (with_reducible rfl))
                      try simp only [sA, sB, sC, Act.put, sD, sE, sF]
                      refine wpAnyH_take (i := 22) (v := ?_) rfl (by kernel_rfl) (by kernel_rfl) (by kernel_rfl) (fun _ _ _ h => h) (Or.inl ⟨by kernel_rfl, ?_⟩) (by assumption) ?_
                      rotate_left
                      · (intro w hSw; (try dsimp only at hSw); go_simp; try (with_reducible rfl))
                      try simp only [sA, sB, sC, Act.put, sD, sE, sF]
                      refine wpAnyH_take (i := 23) (v := ?_) rfl (by kernel_rfl) (by kernel_rfl) (by kernel_rfl) (fun _ _ _ h => h) (Or.inl ⟨by kernel_rfl, ?_⟩) (by assumption) ?_
                      rotate_left
                      · (intro w hSw; (try dsimp only at hSw); go_simp; try (with_reducible rfl))
                      try simp only [sA, sB, sC, Act.put, sD, sE, sF]
                      refine wpAnyH_take (i := 24) (v := ?_) rfl (by kernel_rfl) (by kernel_rfl) (by kernel_rfl) (fun _ _ _ h => h) (Or.inl ⟨by kernel_rfl, ?_⟩) (by assumption) ?_
                      rotate_left
                      · (intro w hSw; (try dsimp only at hSw); go_simp; try (with_reducible rfl))
                      try simp only [sA, sB, sC, Act.put, sD, sE, sF]
                      refine wpAnyH_take (i := 26) (v := ?_) rfl (by kernel_rfl) (by kernel_rfl) (by kernel_rfl) (fun _ _ _ h => h) (Or.inl ⟨by kernel_rfl, ?_⟩) (by assumption) ?_
                      rotate_left
                      · (intro w hSw; (try dsimp only at hSw); go_simp; try (with_reducible rfl))
                      try simp only [sA, sB, sC, Act.put, sD, sE, sF]
                      refine wpAnyH_take (i := 27) (v := ?_) rfl (by kernel_rfl) (by kernel_rfl) (by kernel_rfl) (fun _ _ _ h => h) (Or.inl ⟨by kernel_rfl, ?_⟩) (by assumption) ?_
                      rotate_left
                      · (intro w hSw; (try dsimp only at hSw); go_simp; try (with_reducible rfl))
                      try simp only [sA, sB, sC, Act.put, sD, sE, sF]
                      refine wpAnyH_ready (rs := [25]) (by kernel_rfl) (by simp) ?_
                      refine (AllReadyH.cons rfl (fun K hK => ?_) AllReadyH.nil)
                      go_simp
                      refine (specFreeOf_any A2 24 c2 bits2 _ (H.rd 0 rfl)).mono ?_
                      rintro e u2 ⟨rfl, f9⟩
                      replace H := H.go f9
                      clear f9
                      rw [HFR.out]
                      go_wp2_with fail
                      refine hK.out _ _ ?_ (fun hHeld => ?_)
                      · exact ⟨H.bat 3 rfl (j := 0) rfl, H.bat 3 rfl (j := 1) rfl, H.bat 4 rfl (j := 0) rfl, H.bat 4 rfl (j := 1) rfl⟩
                      clear hK K
                      try simp only [sA, sB, sC, Act.put, sD, sE, sF]
                      refine wpAnyH_ready (rs := [28]) (by kernel_rfl) (by simp) ?_
                      refine (AllReadyH.cons rfl (fun K hK => ?_) AllReadyH.nil)
                      go_simp
                      refine (specBlocksOf_any E2 q2 r2 l2 _ (H.rd 2 rfl) hqb2).mono ?_
                      rintro e u3 ⟨AO, cO, rfl, oO, fO⟩
                      replace H := H.made oO fO
                      clear oO fO
                      rw [HKB.out]
                      go_wp2_with fail
                      refine hK.out _ _ ?_ (fun hHeld => ?_)
                      · exact ⟨H.bat 4 rfl (j := 0) rfl, H.bat 4 rfl (j := 1) rfl, H.bat 5 rfl (j := 0) rfl, H.bat 5 rfl (j := 1) rfl⟩
                      clear hK K
                      try simp only [sA, sB, sC, Act.put, sD, sE, sF]
                      refine wpAnyH_take (i := 29) (v := ?_) rfl (by kernel_rfl) (by kernel_rfl) (by kernel_rfl) (fun _ _ _ h => h) (Or.inl ⟨by kernel_rfl, ?_⟩) (by assumption) ?_
                      rotate_left
                      · (intro w hSw; (try dsimp only at hSw); go_simp; try (with_reducible rfl))
                      try simp only [sA, sB, sC, Act.put, sD, sE, sF]
                      refine wpAnyH_take (i := 30) (v := ?_) rfl (by kernel_rfl) (by kernel_rfl) (by kernel_rfl) (fun _ _ _ h => h) (Or.inl ⟨by kernel_rfl, ?_⟩) (by assumption) ?_
                      rotate_left
                      · (intro w hSw; (try dsimp only at hSw); go_simp; try (with_reducible rfl))
                      try simp only [sA, sB, sC, Act.put, sD, sE, sF]
                      refine wpAnyH_take (i := 31) (v := ?_) rfl (by kernel_rfl) (by kernel_rfl) (by kernel_rfl) (fun _ _ _ h => h) (Or.inl ⟨by kernel_rfl, ?_⟩) (by assumption) ?_
                      rotate_left
                      · (intro w hSw; (try dsimp only at hSw); go_simp; try (with_reducible rfl))
                      try simp only [sA, sB, sC, Act.put, sD, sE, sF]
                      refine wpAnyH_take (i := 32) (v := ?_) rfl (by kernel_rfl) (by kernel_rfl) (by kernel_rfl) (fun _ _ _ h => h) (Or.inl ⟨by kernel_rfl, ?_⟩) (by assumption) ?_
                      rotate_left
                      · (intro w hSw; (try dsimp only at hSw); go_simp; try (with_reducible rfl))
                      try simp only [sA, sB, sC, Act.put, sD, sE, sF]
                      refine wpAnyH_done (by kernel_rfl) ?_ _
                      have H9 := Lib.hid H.tail
                      clear H
                      go_wp2_with fail
                      go_roundw
                      case rel => exact ⟨k + 1, want2, bits2, data2, z2, l2, A2, c2, B2, d2, E2, q2, r2, by rw [HW2.out], by go_num, by omega, HSIM2.out, HL2.out, hq12, H9.out⟩
                      case measure => simp [intOf]; omega
                  · have hXe : W2.extract o m2 = P2 := by
                      rw [HW2.out, HP2.out, extract_ofB, List.take_of_length_le (by rw [List.length_drop, HM2.out]; omega), List.take_of_length_le (by rw [List.length_drop, ← HM2.out]; omega)]
                    have hPs : P2.size = m2 - o := by rw [← hXe, ByteArray.size_extract, hWs]; omega
                    have hX3 : ¬ ((3 : Int) < ((m2 - o : Nat) : Int)) := by omega
                    go_wp2_with fail
                    as_aux_lemma =>
                      -- what was read, and what is counted
                      have hss1 : (W2.toList != W2.toList) = false := bne_self_eq_false _
                      have hss2 : (P2.toList != P2.toList) = false := bne_self_eq_false _
                      have hff := filOk_iff.2 HSIM2.out.fi
                      have HFO := Lib.hid hff
                      obtain ⟨fr, hfr⟩ : ∃ x, sumLen (runs bits2) = x := ⟨_, rfl⟩
                      obtain ⟨kB, hkB⟩ : ∃ x, (blocksOfL l2).length = x := ⟨_, rfl⟩
                      have h24 := HSIM2.out.free
                      rw [hfr, hkB] at h24
                      have HFR := Lib.hid hfr
                      have HKB := Lib.hid hkB
                      have hws : IntKind.i64.wrap (fr + (kB : Int)) = 24 := by rw [h24]; decide
                      have hw24 : IntKind.i64.wrap 24 = 24 := by decide
                      clear hff hfr hkB
                      replace H := H.drew
                      have z0 := H.bat 3 rfl (j := 0) rfl
                      have z1 := H.bat 3 rfl (j := 1) rfl
                      have z2_ := H.bat 4 rfl (j := 0) rfl
                      have z3 := H.bat 4 rfl (j := 1) rfl
                      refine wp_region_held_drew (S := fun w' => w'.cell? ⟨g3, 0, none⟩ = some (.slice A2 24 c2) ∧ w'.cell? ⟨g3, 1, none⟩ = some (.slice B2 24 d2) ∧ w'.cell? ⟨g4, 0, none⟩ = some (.int .i64 z2) ∧ w'.cell? ⟨g4, 1, none⟩ = some (.slice E2 q2 r2)) (by kernel_rfl) ?_ (fun hHeld => ?_)
                      · exact ⟨z0, z1, z2_, z3⟩
                      obtain ⟨u0, hu0⟩ : ∃ uu : World, uu = w8.drew := ⟨_, rfl⟩
                      rw [← hu0] at H hHeld ⊢
                      clear hu0
                      refine wpAnyH_take (i := 0) (v := ?_) rfl (by kernel_rfl) (by kernel_rfl) (by kernel_rfl) (fun _ _ _ h => h) (Or.inl ⟨by kernel_rfl, ?_⟩) (by assumption) ?_
                      rotate_left
                      · (intro w hSw; (try dsimp only at hSw); go_simp; try (with_reducible rfl))
                      try simp only [sA, sB, sC, Act.put, sD, sE, sF]
                      refine wpAnyH_take (i := 1) (v := ?_) rfl (by kernel_rfl) (by kernel_rfl) (by kernel_rfl) (fun _ _ _ h => h) (Or.inl ⟨by kernel_rfl, ?_⟩) (by assumption) ?_
                      rotate_left
                      · (intro w hSw; (try dsimp only at hSw); go_simp; try (with_reducible rfl))
                      try simp only [sA, sB, sC, Act.put, sD, sE, sF]
                      refine wpAnyH_take (i := 2) (v := ?_) rfl (by kernel_rfl) (by kernel_rfl) (by kernel_rfl) (fun _ _ _ h => h) (Or.inl ⟨by kernel_rfl, ?_⟩) (by assumption) ?_
                      rotate_left
                      · (intro w hSw; (try dsimp only at hSw); go_simp; try (with_reducible rfl))
                      try simp only [sA, sB, sC, Act.put, sD, sE, sF]
                      refine wpAnyH_take (i := 3) (v := ?_) rfl (by kernel_rfl) (by kernel_rfl) (by kernel_rfl) (fun _ _ _ h => h) (Or.inl ⟨by kernel_rfl, ?_⟩) (by assumption) ?_
                      rotate_left
                      · (intro w hSw; (try dsimp only at hSw); go_simp; try (with_reducible rfl))
                      try simp only [sA, sB, sC, Act.put, sD, sE, sF]
                      refine wpAnyH_take (i := 4) (v := ?_) rfl (by kernel_rfl) (by kernel_rfl) (by kernel_rfl) (fun _ _ _ h => h) (Or.inl ⟨by kernel_rfl, ?_⟩) (by assumption) ?_
                      rotate_left
                      · (intro w hSw; (try dsimp only at hSw); go_simp; try (with_reducible rfl))
                      try simp only [sA, sB, sC, Act.put, sD, sE, sF]
                      refine wpAnyH_take (i := 5) (v := ?_) rfl (by kernel_rfl) (by kernel_rfl) (by kernel_rfl) (fun _ _ _ h => h) (Or.inl ⟨by kernel_rfl, ?_⟩) (by assumption) ?_
                      rotate_left
                      · (intro w hSw; (try dsimp only at hSw); go_simp; try (with_reducible rfl))
                      try simp only [sA, sB, sC, Act.put, sD, sE, sF]
                      refine wpAnyH_take (i := 6) (v := ?_) rfl (by kernel_rfl) (by kernel_rfl) (by kernel_rfl) (fun _ _ _ h => h) (Or.inl ⟨by kernel_rfl, ?_⟩) (by assumption) ?_
                      rotate_left
                      · (intro w hSw; (try dsimp only at hSw); go_simp; try (with_reducible rfl))
                      try simp only [sA, sB, sC, Act.put, sD, sE, sF]
                      refine wpAnyH_take (i := 7) (v := ?_) rfl (by kernel_rfl) (by kernel_rfl) (by kernel_rfl) (fun _ _ _ h => h) (Or.inl ⟨by kernel_rfl, ?_⟩) (by assumption) ?_
                      rotate_left
                      · (intro w hSw; (try dsimp only at hSw); go_simp; try (with_reducible rfl))
                      try simp only [sA, sB, sC, Act.put, sD, sE, sF]
                      refine wpAnyH_take (i := 8) (v := ?_) rfl (by kernel_rfl) (by kernel_rfl) (by kernel_rfl) (fun _ _ _ h => h) (Or.inl ⟨by kernel_rfl, ?_⟩) (by assumption) ?_
                      rotate_left
                      · (intro w hSw; (try dsimp only at hSw); go_simp; try (with_reducible rfl))
                      try simp only [sA, sB, sC, Act.put, sD, sE, sF]
                      refine wpAnyH_take (i := 9) (v := ?_) rfl (by kernel_rfl) (by kernel_rfl) (by kernel_rfl) (fun _ _ _ h => h) (Or.inl ⟨by kernel_rfl, ?_⟩) (by assumption) ?_
                      rotate_left
                      · (intro w hSw; (try dsimp only at hSw); go_simp; try (with_reducible rfl))
                      try simp only [sA, sB, sC, Act.put, sD, sE, sF]
                      refine wpAnyH_take (i := 10) (v := ?_) rfl (by kernel_rfl) (by kernel_rfl) (by kernel_rfl) (fun _ _ _ h => h) (Or.inl ⟨by kernel_rfl, ?_⟩) (by assumption) ?_
                      rotate_left
                      · (intro w hSw; (try dsimp only at hSw); go_simp; try (with_reducible rfl))
                      try simp only [sA, sB, sC, Act.put, sD, sE, sF]
                      refine wpAnyH_take (i := 11) (v := ?_) rfl (by kernel_rfl) (by kernel_rfl) (by kernel_rfl) (fun _ _ _ h => h) (Or.inl ⟨by kernel_rfl, ?_⟩) (by assumption) ?_
                      rotate_left
                      · (intro w hSw; (try dsimp only at hSw); go_simp; try (with_reducible rfl))
                      try simp only [sA, sB, sC, Act.put, sD, sE, sF]
                      refine wpAnyH_take (i := 12) (v := ?_) rfl (by kernel_rfl) (by kernel_rfl) (by kernel_rfl) (fun _ _ _ h => h) (Or.inl ⟨by kernel_rfl, ?_⟩) (by assumption) ?_
                      rotate_left
                      · (intro w hSw; (try dsimp only at hSw); go_simp; try (with_reducible rfl))
                      try simp only [sA, sB, sC, Act.put, sD, sE, sF]
                      refine wpAnyH_take (i := 13) (v := ?_) rfl (by kernel_rfl) (by kernel_rfl) (by kernel_rfl) (fun _ _ _ h => h) (Or.inl ⟨by kernel_rfl, ?_⟩) (by assumption) ?_
                      rotate_left
                      · (intro w hSw; (try dsimp only at hSw); go_simp; try (with_reducible rfl))
                      try simp only [sA, sB, sC, Act.put, sD, sE, sF]
                      refine wpAnyH_take (i := 14) (v := ?_) rfl (by kernel_rfl) (by kernel_rfl) (by kernel_rfl) (fun _ _ _ h => h) (Or.inl ⟨by kernel_rfl, ?_⟩) (by assumption) ?_
                      rotate_left
                      · (intro w hSw; (try dsimp only at hSw); go_simp; try (with_reducible rfl))
                      try simp only [sA, sB, sC, Act.put, sD, sE, sF]
                      refine wpAnyH_take (i := 15) (v := ?_) rfl (by kernel_rfl) (by kernel_rfl) (by kernel_rfl) (fun _ _ _ h => h) (Or.inl ⟨by kernel_rfl, ?_⟩) (by assumption) ?_
                      rotate_left
                      · (intro w hSw; (try dsimp only at hSw); go_simp; try (with_reducible rfl))
                      try simp only [sA, sB, sC, Act.put, sD, sE, sF]
                      refine wpAnyH_take (i := 16) (v := ?_) rfl (by kernel_rfl) (by kernel_rfl) (by kernel_rfl) (fun _ _ _ h => h) (Or.inl ⟨by kernel_rfl, ?_⟩) (by assumption) ?_
                      rotate_left
                      · (intro w hSw; (try dsimp only at hSw); go_simp; try (with_reducible rfl))
                      try simp only [sA, sB, sC, Act.put, sD, sE, sF]
                      refine wpAnyH_take (i := 17) (v := ?_) rfl (by kernel_rfl) (by kernel_rfl) (by kernel_rfl) (fun _ _ _ h => h) (Or.inl ⟨by kernel_rfl, ?_⟩) (by assumption) ?_
                      rotate_left
                      · (intro w hSw; (try dsimp only at hSw); go_simp; try (with_reducible rfl))
                      try simp only [sA, sB, sC, Act.put, sD, sE, sF]
                      refine wpAnyH_take (i := 18) (v := ?_) rfl (by kernel_rfl) (by kernel_rfl) (by kernel_rfl) (fun _ _ _ h => h) (Or.inl ⟨by kernel_rfl, ?_⟩) (by assumption) ?_
                      rotate_left
                      · (intro w hSw; (try dsimp only at hSw); go_simp; try (with_reducible rfl))
                      try simp only [sA, sB, sC, Act.put, sD, sE, sF]
                      refine wpAnyH_ready (rs := [19]) (by kernel_rfl) (by simp) ?_
                      refine (AllReadyH.cons rfl (fun K hK => ?_) AllReadyH.nil)
                      go_simp
                      refine (specFilOk_any A2 24 c2 bits2 B2 24 d2 data2 z2 E2 q2 r2 l2 _ (H.rd 0 rfl) (H.rd 1 rfl) (H.rd 2 rfl) h24b HZ2.out hqb2).mono ?_
                      rintro e u1 ⟨rfl, f9⟩
                      replace H := H.go f9
                      clear f9
                      rw [HFO.out]
                      go_wp2_with fail
                      refine hK.out _ _ ?_ (fun hHeld => ?_)
                      · exact ⟨H.bat 3 rfl (j := 0) rfl, H.bat 3 rfl (j := 1) rfl, H.bat 4 rfl (j := 0) rfl, H.bat 4 rfl (j := 1) rfl⟩
                      clear hK K
                      try simp only [sA, sB, sC, Act.put, sD, sE, sF]
                      refine wpAnyH_take (i := 20) (v := ?_) rfl (by kernel_rfl) (by kernel_rfl) (by kernel_rfl) (fun _ _ _ h => h) (Or.inl ⟨by kernel_rfl, ?_⟩) (by assumption) ?_
                      rotate_left
                      · (intro w hSw; (try dsimp only at hSw); go_simp; try (with_reducible rfl))
                      try simp only [sA, sB, sC, Act.put, sD, sE, sF]
                      refine wpAnyH_take (i := 21) (v := ?_) rfl (by kernel_rfl) (by kernel_rfl) (by kernel_rfl) (fun _ _ _ h => h) (Or.inl ⟨by kernel_rfl, ?_⟩) (by assumption) ?_
                      rotate_left
                      · (intro w hSw; (try dsimp only at hSw); go_simp; try (with_reducible rfl))
                      try simp only [sA, sB, sC, Act.put, sD, sE, sF]
                      refine wpAnyH_take (i := 22) (v := ?_) rfl (by kernel_rfl) (by kernel_rfl) (by kernel_rfl) (fun _ _ _ h => h) (Or.inl ⟨by kernel_rfl, ?_⟩) (by assumption) ?_
                      rotate_left
                      · (intro w hSw; (try dsimp only at hSw); go_simp; try (with_reducible rfl))
                      try simp only [sA, sB, sC, Act.put, sD, sE, sF]
                      refine wpAnyH_take (i := 23) (v := ?_) rfl (by kernel_rfl) (by kernel_rfl) (by kernel_rfl) (fun _ _ _ h => h) (Or.inl ⟨by kernel_rfl, ?_⟩) (by assumption) ?_
                      rotate_left
                      · (intro w hSw; (try dsimp only at hSw); go_simp; try (with_reducible rfl))
                      try simp only [sA, sB, sC, Act.put, sD, sE, sF]
                      refine wpAnyH_take (i := 24) (v := ?_) rfl (by kernel_rfl) (by kernel_rfl) (by kernel_rfl) (fun _ _ _ h => h) (Or.inl ⟨by kernel_rfl, ?_⟩) (by assumption) ?_
                      rotate_left
                      · (intro w hSw; (try dsimp only at hSw); go_simp; try (with_reducible rfl))
                      try simp only [sA, sB, sC, Act.put, sD, sE, sF]
                      refine wpAnyH_take (i := 26) (v := ?_) rfl (by kernel_rfl) (by kernel_rfl) (by kernel_rfl) (fun _ _ _ h => h) (Or.inl ⟨by kernel_rfl, ?_⟩) (by assumption) ?_
                      rotate_left
                      · (intro w hSw; (try dsimp only at hSw); go_simp; try (with_reducible rfl))
                      try simp only [sA, sB, sC, Act.put, sD, sE, sF]
                      refine wpAnyH_take (i := 27) (v := ?_) rfl (by kernel_rfl) (by kernel_rfl) (by kernel_rfl) (fun _ _ _ h => h) (Or.inl ⟨by kernel_rfl, ?_⟩) (by assumption) ?_
                      rotate_left
                      · (intro w hSw; (try dsimp only at hSw); go_simp; try (with_reducible rfl))
                      try simp only [sA, sB, sC, Act.put, sD, sE, sF]
                      refine wpAnyH_ready (rs := [25]) (by kernel_rfl) (by simp) ?_
                      refine (AllReadyH.cons rfl (fun K hK => ?_) AllReadyH.nil)
                      go_simp
                      refine (specFreeOf_any A2 24 c2 bits2 _ (H.rd 0 rfl)).mono ?_
                      rintro e u2 ⟨rfl, f9⟩
                      replace H := H.go f9
                      clear f9
                      rw [HFR.out]
                      go_wp2_with fail
                      refine hK.out _ _ ?_ (fun hHeld => ?_)
                      · exact ⟨H.bat 3 rfl (j := 0) rfl, H.bat 3 rfl (j := 1) rfl, H.bat 4 rfl (j := 0) rfl, H.bat 4 rfl (j := 1) rfl⟩
                      clear hK K
                      try simp only [sA, sB, sC, Act.put, sD, sE, sF]
                      refine wpAnyH_ready (rs := [28]) (by kernel_rfl) (by simp) ?_
                      refine (AllReadyH.cons rfl (fun K hK => ?_) AllReadyH.nil)
                      go_simp
                      refine (specBlocksOf_any E2 q2 r2 l2 _ (H.rd 2 rfl) hqb2).mono ?_
                      rintro e u3 ⟨AO, cO, rfl, oO, fO⟩
                      replace H := H.made oO fO
                      clear oO fO
                      rw [HKB.out]
                      go_wp2_with fail
                      refine hK.out _ _ ?_ (fun hHeld => ?_)
                      · exact ⟨H.bat 4 rfl (j := 0) rfl, H.bat 4 rfl (j := 1) rfl, H.bat 5 rfl (j := 0) rfl, H.bat 5 rfl (j := 1) rfl⟩
                      clear hK K
                      try simp only [sA, sB, sC, Act.put, sD, sE, sF]
                      refine wpAnyH_take (i := 29) (v := ?_) rfl (by kernel_rfl) (by kernel_rfl) (by kernel_rfl) (fun _ _ _ h => h) (Or.inl ⟨by kernel_rfl, ?_⟩) (by assumption) ?_
                      rotate_left
                      · (intro w hSw; (try dsimp only at hSw); go_simp; try (with_reducible rfl))
                      try simp only [sA, sB, sC, Act.put, sD, sE, sF]
                      refine wpAnyH_take (i := 30) (v := ?_) rfl (by kernel_rfl) (by kernel_rfl) (by kernel_rfl) (fun _ _ _ h => h) (Or.inl ⟨by kernel_rfl, ?_⟩) (by assumption) ?_
                      rotate_left
                      · (intro w hSw; (try dsimp only at hSw); go_simp; try (with_reducible rfl))
                      try simp only [sA, sB, sC, Act.put, sD, sE, sF]
                      refine wpAnyH_take (i := 31) (v := ?_) rfl (by kernel_rfl) (by kernel_rfl) (by kernel_rfl) (fun _ _ _ h => h) (Or.inl ⟨by kernel_rfl, ?_⟩) (by assumption) ?_
                      rotate_left
                      · (intro w hSw; (try dsimp only at hSw); go_simp; try (with_reducible rfl))
                      try simp only [sA, sB, sC, Act.put, sD, sE, sF]
                      refine wpAnyH_take (i := 32) (v := ?_) rfl (by kernel_rfl) (by kernel_rfl) (by kernel_rfl) (fun _ _ _ h => h) (Or.inl ⟨by kernel_rfl, ?_⟩) (by assumption) ?_
                      rotate_left
                      · (intro w hSw; (try dsimp only at hSw); go_simp; try (with_reducible rfl))
                      try simp only [sA, sB, sC, Act.put, sD, sE, sF]
                      refine wpAnyH_done (by kernel_rfl) ?_ _
                      have H9 := Lib.hid H.tail
                      clear H
                      go_wp2_with fail
                      go_roundw
                      case rel => exact ⟨k + 1, want2, bits2, data2, z2, l2, A2, c2, B2, d2, E2, q2, r2, by rw [HW2.out], by go_num, by omega, HSIM2.out, HL2.out, hq12, H9.out⟩
                      case measure => simp [intOf]; omega
                · have hom3 : ¬ ((o : Int) < (m2 : Int)) := by omega
                  have hPn : P2 = ByteArray.mk #[] := by
                    rw [HP2.out, List.drop_of_length_le (by rw [← HM2.out]; omega)]; rfl
                  subst hPn
                  obtain ⟨P2, hPP⟩ : ∃ x, x = ByteArray.mk #[] := ⟨_, rfl⟩
                  go_wp2_with fail
                  as_aux_lemma =>
                    -- what was read, and what is counted
                    have hss1 : (W2.toList != W2.toList) = false := bne_self_eq_false _
                    have hss2 : (P2.toList != P2.toList) = false := bne_self_eq_false _
                    have hff := filOk_iff.2 HSIM2.out.fi
                    have HFO := Lib.hid hff
                    obtain ⟨fr, hfr⟩ : ∃ x, sumLen (runs bits2) = x := ⟨_, rfl⟩
                    obtain ⟨kB, hkB⟩ : ∃ x, (blocksOfL l2).length = x := ⟨_, rfl⟩
                    have h24 := HSIM2.out.free
                    rw [hfr, hkB] at h24
                    have HFR := Lib.hid hfr
                    have HKB := Lib.hid hkB
                    have hws : IntKind.i64.wrap (fr + (kB : Int)) = 24 := by rw [h24]; decide
                    have hw24 : IntKind.i64.wrap 24 = 24 := by decide
                    clear hff hfr hkB
                    replace H := H.drew
                    have z0 := H.bat 3 rfl (j := 0) rfl
                    have z1 := H.bat 3 rfl (j := 1) rfl
                    have z2_ := H.bat 4 rfl (j := 0) rfl
                    have z3 := H.bat 4 rfl (j := 1) rfl
                    refine wp_region_held_drew (S := fun w' => w'.cell? ⟨g3, 0, none⟩ = some (.slice A2 24 c2) ∧ w'.cell? ⟨g3, 1, none⟩ = some (.slice B2 24 d2) ∧ w'.cell? ⟨g4, 0, none⟩ = some (.int .i64 z2) ∧ w'.cell? ⟨g4, 1, none⟩ = some (.slice E2 q2 r2)) (by kernel_rfl) ?_ (fun hHeld => ?_)
                    · exact ⟨z0, z1, z2_, z3⟩
                    obtain ⟨u0, hu0⟩ : ∃ uu : World, uu = w8.drew := ⟨_, rfl⟩
                    rw [← hu0] at H hHeld ⊢
                    clear hu0
                    refine wpAnyH_take (i := 0) (v := ?_) rfl (by kernel_rfl) (by kernel_rfl) (by kernel_rfl) (fun _ _ _ h => h) (Or.inl ⟨by kernel_rfl, ?_⟩) (by assumption) ?_
                    rotate_left
                    · (intro w hSw; (try dsimp only at hSw); go_simp; try (with_reducible rfl))
                    try simp only [sA, sB, sC, Act.put, sD, sE, sF]
                    refine wpAnyH_take (i := 1) (v := ?_) rfl (by kernel_rfl) (by kernel_rfl) (by kernel_rfl) (fun _ _ _ h => h) (Or.inl ⟨by kernel_rfl, ?_⟩) (by assumption) ?_
                    rotate_left
                    · (intro w hSw; (try dsimp only at hSw); go_simp; try (with_reducible rfl))
                    try simp only [sA, sB, sC, Act.put, sD, sE, sF]
                    refine wpAnyH_take (i := 2) (v := ?_) rfl (by kernel_rfl) (by kernel_rfl) (by kernel_rfl) (fun _ _ _ h => h) (Or.inl ⟨by kernel_rfl, ?_⟩) (by assumption) ?_
                    rotate_left
                    · (intro w hSw; (try dsimp only at hSw); go_simp; try (with_reducible rfl))
                    try simp only [sA, sB, sC, Act.put, sD, sE, sF]
                    refine wpAnyH_take (i := 3) (v := ?_) rfl (by kernel_rfl) (by kernel_rfl) (by kernel_rfl) (fun _ _ _ h => h) (Or.inl ⟨by kernel_rfl, ?_⟩) (by assumption) ?_
                    rotate_left
                    · (intro w hSw; (try dsimp only at hSw); go_simp; try (with_reducible rfl))
                    try simp only [sA, sB, sC, Act.put, sD, sE, sF]
                    refine wpAnyH_take (i := 4) (v := ?_) rfl (by kernel_rfl) (by kernel_rfl) (by kernel_rfl) (fun _ _ _ h => h) (Or.inl ⟨by kernel_rfl, ?_⟩) (by assumption) ?_
                    rotate_left
                    · (intro w hSw; (try dsimp only at hSw); go_simp; try (with_reducible rfl))
                    try simp only [sA, sB, sC, Act.put, sD, sE, sF]
                    refine wpAnyH_take (i := 5) (v := ?_) rfl (by kernel_rfl) (by kernel_rfl) (by kernel_rfl) (fun _ _ _ h => h) (Or.inl ⟨by kernel_rfl, ?_⟩) (by assumption) ?_
                    rotate_left
                    · (intro w hSw; (try dsimp only at hSw); go_simp; try (with_reducible rfl))
                    try simp only [sA, sB, sC, Act.put, sD, sE, sF]
                    refine wpAnyH_take (i := 6) (v := ?_) rfl (by kernel_rfl) (by kernel_rfl) (by kernel_rfl) (fun _ _ _ h => h) (Or.inl ⟨by kernel_rfl, ?_⟩) (by assumption) ?_
                    rotate_left
                    · (intro w hSw; (try dsimp only at hSw); go_simp; try (with_reducible rfl))
                    try simp only [sA, sB, sC, Act.put, sD, sE, sF]
                    refine wpAnyH_take (i := 7) (v := ?_) rfl (by kernel_rfl) (by kernel_rfl) (by kernel_rfl) (fun _ _ _ h => h) (Or.inl ⟨by kernel_rfl, ?_⟩) (by assumption) ?_
                    rotate_left
                    · (intro w hSw; (try dsimp only at hSw); go_simp; try (with_reducible rfl))
                    try simp only [sA, sB, sC, Act.put, sD, sE, sF]
                    refine wpAnyH_take (i := 8) (v := ?_) rfl (by kernel_rfl) (by kernel_rfl) (by kernel_rfl) (fun _ _ _ h => h) (Or.inl ⟨by kernel_rfl, ?_⟩) (by assumption) ?_
                    rotate_left
                    · (intro w hSw; (try dsimp only at hSw); go_simp; try (with_reducible rfl))
                    try simp only [sA, sB, sC, Act.put, sD, sE, sF]
                    refine wpAnyH_take (i := 9) (v := ?_) rfl (by kernel_rfl) (by kernel_rfl) (by kernel_rfl) (fun _ _ _ h => h) (Or.inl ⟨by kernel_rfl, ?_⟩) (by assumption) ?_
                    rotate_left
                    · (intro w hSw; (try dsimp only at hSw); go_simp; try (with_reducible rfl))
                    try simp only [sA, sB, sC, Act.put, sD, sE, sF]
                    refine wpAnyH_take (i := 10) (v := ?_) rfl (by kernel_rfl) (by kernel_rfl) (by kernel_rfl) (fun _ _ _ h => h) (Or.inl ⟨by kernel_rfl, ?_⟩) (by assumption) ?_
                    rotate_left
                    · (intro w hSw; (try dsimp only at hSw); go_simp; try (with_reducible rfl))
                    try simp only [sA, sB, sC, Act.put, sD, sE, sF]
                    refine wpAnyH_take (i := 11) (v := ?_) rfl (by kernel_rfl) (by kernel_rfl) (by kernel_rfl) (fun _ _ _ h => h) (Or.inl ⟨by kernel_rfl, ?_⟩) (by assumption) ?_
                    rotate_left
                    · (intro w hSw; (try dsimp only at hSw); go_simp; try (with_reducible rfl))
                    try simp only [sA, sB, sC, Act.put, sD, sE, sF]
                    refine wpAnyH_take (i := 12) (v := ?_) rfl (by kernel_rfl) (by kernel_rfl) (by kernel_rfl) (fun _ _ _ h => h) (Or.inl ⟨by kernel_rfl, ?_⟩) (by assumption) ?_
                    rotate_left
                    · (intro w hSw; (try dsimp only at hSw); go_simp; try (with_reducible rfl))
                    try simp only [sA, sB, sC, Act.put, sD, sE, sF]
                    refine wpAnyH_take (i := 13) (v := ?_) rfl (by kernel_rfl) (by kernel_rfl) (by kernel_rfl) (fun _ _ _ h => h) (Or.inl ⟨by kernel_rfl, ?_⟩) (by assumption) ?_
                    rotate_left
                    · (intro w hSw; (try dsimp only at hSw); go_simp; try (with_reducible rfl))
                    try simp only [sA, sB, sC, Act.put, sD, sE, sF]
                    refine wpAnyH_take (i := 14) (v := ?_) rfl (by kernel_rfl) (by kernel_rfl) (by kernel_rfl) (fun _ _ _ h => h) (Or.inl ⟨by kernel_rfl, ?_⟩) (by assumption) ?_
                    rotate_left
                    · (intro w hSw; (try dsimp only at hSw); go_simp; try (with_reducible rfl))
                    try simp only [sA, sB, sC, Act.put, sD, sE, sF]
                    refine wpAnyH_take (i := 15) (v := ?_) rfl (by kernel_rfl) (by kernel_rfl) (by kernel_rfl) (fun _ _ _ h => h) (Or.inl ⟨by kernel_rfl, ?_⟩) (by assumption) ?_
                    rotate_left
                    · (intro w hSw; (try dsimp only at hSw); go_simp; try (with_reducible rfl))
                    try simp only [sA, sB, sC, Act.put, sD, sE, sF]
                    refine wpAnyH_take (i := 16) (v := ?_) rfl (by kernel_rfl) (by kernel_rfl) (by kernel_rfl) (fun _ _ _ h => h) (Or.inl ⟨by kernel_rfl, ?_⟩) (by assumption) ?_
                    rotate_left
                    · (intro w hSw; (try dsimp only at hSw); go_simp; try (with_reducible rfl))
                    try simp only [sA, sB, sC, Act.put, sD, sE, sF]
                    refine wpAnyH_take (i := 17) (v := ?_) rfl (by kernel_rfl) (by kernel_rfl) (by kernel_rfl) (fun _ _ _ h => h) (Or.inl ⟨by kernel_rfl, ?_⟩) (by assumption) ?_
                    rotate_left
                    · (intro w hSw; (try dsimp only at hSw); go_simp; try (with_reducible rfl))
                    try simp only [sA, sB, sC, Act.put, sD, sE, sF]
                    refine wpAnyH_take (i := 18) (v := ?_) rfl (by kernel_rfl) (by kernel_rfl) (by kernel_rfl) (fun _ _ _ h => h) (Or.inl ⟨by kernel_rfl, ?_⟩) (by assumption) ?_
                    rotate_left
                    · (intro w hSw; (try dsimp only at hSw); go_simp; try (with_reducible rfl))
                    try simp only [sA, sB, sC, Act.put, sD, sE, sF]
                    refine wpAnyH_ready (rs := [19]) (by kernel_rfl) (by simp) ?_
                    refine (AllReadyH.cons rfl (fun K hK => ?_) AllReadyH.nil)
                    go_simp
                    refine (specFilOk_any A2 24 c2 bits2 B2 24 d2 data2 z2 E2 q2 r2 l2 _ (H.rd 0 rfl) (H.rd 1 rfl) (H.rd 2 rfl) h24b HZ2.out hqb2).mono ?_
                    rintro e u1 ⟨rfl, f9⟩
                    replace H := H.go f9
                    clear f9
                    rw [HFO.out]
                    go_wp2_with fail
                    refine hK.out _ _ ?_ (fun hHeld => ?_)
                    · exact ⟨H.bat 3 rfl (j := 0) rfl, H.bat 3 rfl (j := 1) rfl, H.bat 4 rfl (j := 0) rfl, H.bat 4 rfl (j := 1) rfl⟩
                    clear hK K
                    try simp only [sA, sB, sC, Act.put, sD, sE, sF]
                    refine wpAnyH_take (i := 20) (v := ?_) rfl (by kernel_rfl) (by kernel_rfl) (by kernel_rfl) (fun _ _ _ h => h) (Or.inl ⟨by kernel_rfl, ?_⟩) (by assumption) ?_
                    rotate_left
                    · (intro w hSw; (try dsimp only at hSw); go_simp; try (with_reducible rfl))
                    try simp only [sA, sB, sC, Act.put, sD, sE, sF]
                    refine wpAnyH_take (i := 21) (v := ?_) rfl (by kernel_rfl) (by kernel_rfl) (by kernel_rfl) (fun _ _ _ h => h) (Or.inl ⟨by kernel_rfl, ?_⟩) (by assumption) ?_
                    rotate_left
                    · (intro w hSw; (try dsimp only at hSw); go_simp; try (with_reducible rfl))
                    try simp only [sA, sB, sC, Act.put, sD, sE, sF]
                    refine wpAnyH_take (i := 22) (v := ?_) rfl (by kernel_rfl) (by kernel_rfl) (by kernel_rfl) (fun _ _ _ h => h) (Or.inl ⟨by kernel_rfl, ?_⟩) (by assumption) ?_
                    rotate_left
                    · (intro w hSw; (try dsimp only at hSw); go_simp; try (with_reducible rfl))
                    try simp only [sA, sB, sC, Act.put, sD, sE, sF]
                    refine wpAnyH_take (i := 23) (v := ?_) rfl (by kernel_rfl) (by kernel_rfl) (by kernel_rfl) (fun _ _ _ h => h) (Or.inl ⟨by kernel_rfl, ?_⟩) (by assumption) ?_
                    rotate_left
                    · (intro w hSw; (try dsimp only at hSw); go_simp; try (with_reducible rfl))
                    try simp only [sA, sB, sC, Act.put, sD, sE, sF]
                    refine wpAnyH_take (i := 24) (v := ?_) rfl (by kernel_rfl) (by kernel_rfl) (by kernel_rfl) (fun _ _ _ h => h) (Or.inl ⟨by kernel_rfl, ?_⟩) (by assumption) ?_
                    rotate_left
                    · (intro w hSw; (try dsimp only at hSw); go_simp; try (with_reducible rfl))
                    try simp only [sA, sB, sC, Act.put, sD, sE, sF]
                    refine wpAnyH_take (i := 26) (v := ?_) rfl (by kernel_rfl) (by kernel_rfl) (by kernel_rfl) (fun _ _ _ h => h) (Or.inl ⟨by kernel_rfl, ?_⟩) (by assumption) ?_
                    rotate_left
                    · (intro w hSw; (try dsimp only at hSw); go_simp; try (with_reducible rfl))
                    try simp only [sA, sB, sC, Act.put, sD, sE, sF]
                    refine wpAnyH_take (i := 27) (v := ?_) rfl (by kernel_rfl) (by kernel_rfl) (by kernel_rfl) (fun _ _ _ h => h) (Or.inl ⟨by kernel_rfl, ?_⟩) (by assumption) ?_
                    rotate_left
                    · (intro w hSw; (try dsimp only at hSw); go_simp; try (with_reducible rfl))
                    try simp only [sA, sB, sC, Act.put, sD, sE, sF]
                    refine wpAnyH_ready (rs := [25]) (by kernel_rfl) (by simp) ?_
                    refine (AllReadyH.cons rfl (fun K hK => ?_) AllReadyH.nil)
                    go_simp
                    refine (specFreeOf_any A2 24 c2 bits2 _ (H.rd 0 rfl)).mono ?_
                    rintro e u2 ⟨rfl, f9⟩
                    replace H := H.go f9
                    clear f9
                    rw [HFR.out]
                    go_wp2_with fail
                    refine hK.out _ _ ?_ (fun hHeld => ?_)
                    · exact ⟨H.bat 3 rfl (j := 0) rfl, H.bat 3 rfl (j := 1) rfl, H.bat 4 rfl (j := 0) rfl, H.bat 4 rfl (j := 1) rfl⟩
                    clear hK K
                    try simp only [sA, sB, sC, Act.put, sD, sE, sF]
                    refine wpAnyH_ready (rs := [28]) (by kernel_rfl) (by simp) ?_
                    refine (AllReadyH.cons rfl (fun K hK => ?_) AllReadyH.nil)
                    go_simp
                    refine (specBlocksOf_any E2 q2 r2 l2 _ (H.rd 2 rfl) hqb2).mono ?_
                    rintro e u3 ⟨AO, cO, rfl, oO, fO⟩
                    replace H := H.made oO fO
                    clear oO fO
                    rw [HKB.out]
                    go_wp2_with fail
                    refine hK.out _ _ ?_ (fun hHeld => ?_)
                    · exact ⟨H.bat 4 rfl (j := 0) rfl, H.bat 4 rfl (j := 1) rfl, H.bat 5 rfl (j := 0) rfl, H.bat 5 rfl (j := 1) rfl⟩
                    clear hK K
                    try simp only [sA, sB, sC, Act.put, sD, sE, sF]
                    refine wpAnyH_take (i := 29) (v := ?_) rfl (by kernel_rfl) (by kernel_rfl) (by kernel_rfl) (fun _ _ _ h => h) (Or.inl ⟨by kernel_rfl, ?_⟩) (by assumption) ?_
                    rotate_left
                    · (intro w hSw; (try dsimp only at hSw); go_simp; try (with_reducible rfl))
                    try simp only [sA, sB, sC, Act.put, sD, sE, sF]
                    refine wpAnyH_take (i := 30) (v := ?_) rfl (by kernel_rfl) (by kernel_rfl) (by kernel_rfl) (fun _ _ _ h => h) (Or.inl ⟨by kernel_rfl, ?_⟩) (by assumption) ?_
                    rotate_left
                    · (intro w hSw; (try dsimp only at hSw); go_simp; try (with_reducible rfl))
                    try simp only [sA, sB, sC, Act.put, sD, sE, sF]
                    refine wpAnyH_take (i := 31) (v := ?_) rfl (by kernel_rfl) (by kernel_rfl) (by kernel_rfl) (fun _ _ _ h => h) (Or.inl ⟨by kernel_rfl, ?_⟩) (by assumption) ?_
                    rotate_left
                    · (intro w hSw; (try dsimp only at hSw); go_simp; try (with_reducible rfl))
                    try simp only [sA, sB, sC, Act.put, sD, sE, sF]
                    refine wpAnyH_take (i := 32) (v := ?_) rfl (by kernel_rfl) (by kernel_rfl) (by kernel_rfl) (fun _ _ _ h => h) (Or.inl ⟨by kernel_rfl, ?_⟩) (by assumption) ?_
                    rotate_left
                    · (intro w hSw; (try dsimp only at hSw); go_simp; try (with_reducible rfl))
                    try simp only [sA, sB, sC, Act.put, sD, sE, sF]
                    refine wpAnyH_done (by kernel_rfl) ?_ _
                    have H9 := Lib.hid H.tail
                    clear H
                    go_wp2_with fail
                    go_roundw
                    case rel => exact ⟨k + 1, want2, bits2, data2, z2, l2, A2, c2, B2, d2, E2, q2, r2, by rw [HW2.out], by go_num, by omega, HSIM2.out, HL2.out, hq12, H9.out⟩
                    case measure => simp [intOf]; omega
            · have hdn : dl ≠ [] := by intro h; rw [h] at HDL; exact hj00 HDL.out.symm
              have hb3 : ((ofB dl).toList == (ByteArray.mk #[]).toList) = false := by rw [cmpB, toB_ofB]; exact decide_eq_false hdn
              have he2 : ((ofB dl).toList == []) = false := by rw [toList_B, toB_ofB]; simpa using hdn
              have he3 : ((ofB dl).toList != (ByteArray.mk #[]).toList) = true := by rw [bne, hb3]; rfl
              have he4 : ((ofB dl).toList != []) = true := by rw [bne, he2]; rfl
              have HDN := Lib.hid hdn
              clear hdn
              obtain ⟨tl, htl⟩ : ∃ x, x = o + j := ⟨_, rfl⟩
              have hwt : IntKind.i64.wrap ((o : Int) + (j : Int)) = (tl : Int) := by rw [IntWalk.i64_in _ (by omega)]; omega
              have hwt' : (o : Int) + (j : Int) = (tl : Int) := by omega
              have HTL := Lib.hid htl
              have htl48 : tl ≤ 48 := by omega
              have hotl : o ≤ tl := by omega
              clear htl
              go_wp2_with fail
              rw [← HG9.out]
              go_loopw [5] (fun wv wr => ∃ u : List UInt8, wv = .string (ofB u) ∧ pad u tl = pad want tl ∧ u.length ≤ 100 ∧ Hp [] w wr [.blk (g9 + 1) 34 [.int .i64 z2, .slice E2 q2 r2], .blk g9 31 [.slice A2 24 c2, .slice B2 24 d2], .row 4 1 (.slice A2 24 c2) 24 (bits2.map Value.bool), .row 9 1 (.slice B2 24 d2) 24 (data2.map Value.string), .row 92 3 (.slice E2 q2 r2) q2 (l2.flatMap cExt), .row 4 1 (.slice A1 24 c1) 24 (bits.map Value.bool), .row 9 1 (.slice B1 24 d1) 24 (data.map Value.string), .row 92 3 (.slice E1 q r1) q (l.flatMap cExt), .blk g3 31 [.slice A1 24 c1, .slice B1 24 d1], .blk g4 34 [.int .i64 z, .slice E1 q r1]]) (fun wv _ => tl - szV wv)
              -- noughts behind the text, up to a length
              case atStart => exact ⟨want, rfl, rfl, by omega, H⟩
              case round =>
                clear H
                obtain ⟨u, rfl, hpu, hul, H⟩ := hrel
                have HPU := Lib.hid hpu
                clear hpu
                obtain ⟨m, hm⟩ : ∃ m, m = u.length := ⟨_, rfl⟩
                have hms : (ofB u).size = m := by rw [ofB_size, hm]
                have HM := Lib.hid hm
                clear hm
                by_cases hlt : m < tl
                · have hlt1 : (m : Int) < (tl : Int) := by omega
                  go_wp2_with fail
                  refine (lawsZeros_any 1 (by decide) (by decide) _).mono ?_
                  rintro e w9 ⟨rfl, f9⟩
                  replace H := H.go f9
                  clear f9
                  obtain ⟨t1, ht1⟩ : ∃ x, x = ofB (zB (1 : Int).toNat) := ⟨_, rfl⟩
                  have h1s : t1.size = 1 := by rw [ht1]; rfl
                  have HAP := Lib.hid (show ofB u ++ t1 = ofB (u ++ [0]) by rw [ht1, ofB_append]; rfl)
                  rw [← ht1]
                  have hmb : m ≤ 100 := by rw [HM.out]; exact hul
                  clear ht1
                  go_wp2_with fail
                  rw [HAP.out]
                  go_roundw
                  case rel => exact ⟨u ++ [0], rfl, by rw [← HPU.out, pad_snoc (by rw [← HM.out]; exact hlt)], by rw [List.length_append, List.length_singleton, ← HM.out]; omega, H⟩
                  case measure => (simp only [szV, ofB_size, List.length_append, List.length_singleton, ← HM.out]; omega)
                · have hlt1 : ¬ ((m : Int) < (tl : Int)) := by omega
                  have HU := Lib.hid (show u = pad want tl by rw [← HPU.out, pad_full (by rw [← HM.out]; omega)])
                  clear HPU
                  have htm : tl ≤ m := by omega
                  obtain ⟨S1, hS1⟩ : ∃ x, (ofB u).extract 0 o = x := ⟨_, rfl⟩
                  have hs1z : S1.size = o := by rw [← hS1, ByteArray.size_extract, hms]; omega
                  obtain ⟨S2, hS2⟩ : ∃ x, S1 ++ ofB dl = x := ⟨_, rfl⟩
                  have hs2z : S2.size = tl := by rw [← hS2, ByteArray.size_append, hs1z, hds, HTL.out]
                  obtain ⟨S3, hS3⟩ : ∃ x, (ofB u).extract tl m = x := ⟨_, rfl⟩
                  have hs3z : S3.size = m - tl := by rw [← hS3, ByteArray.size_extract, hms]; omega
                  obtain ⟨S4, hS4⟩ : ∃ x, S2 ++ S3 = x := ⟨_, rfl⟩
                  have hE1 : (ofB u).extract 0 o = ofB (u.take o) := by rw [extract_ofB, List.drop_zero, Nat.sub_zero]
                  have hE2 : (ofB u).extract tl m = ofB (u.drop tl) := by rw [extract_ofB, List.take_of_length_le (by rw [List.length_drop, ← HM.out]; omega)]
                  have HS4 := Lib.hid (show S4 = ofB (wrote want o dl) by
                    rw [← hS4, ← hS2, ← hS3, ← hS1, hE1, hE2, ofB_append, ofB_append, wrote, if_neg HDN.out, HDL.out, ← HTL.out, ← HU.out, List.append_assoc])
                  clear hE1 hE2
                  have hq0 : (0 : Int) ≤ (o : Int) := by omega
                  have hq1 : (o : Int) ≤ (m : Int) := by omega
                  have hq2 : (0 : Int) ≤ (tl : Int) := by omega
                  have hq3 : (tl : Int) ≤ (m : Int) := by omega
                  have hwo : IntKind.i64.wrap (o : Int) = (o : Int) := IntWalk.i64_in _ (by omega)
                  have hwtl : IntKind.i64.wrap (tl : Int) = (tl : Int) := IntWalk.i64_in _ (by omega)
                  have hmb : m ≤ 100 := by rw [HM.out]; exact hul
                  have hw00 : IntKind.i64.wrap 0 = 0 := by decide
                  have hwm : IntKind.i64.wrap (m : Int) = (m : Int) := IntWalk.i64_in _ (by omega)
                  go_wp2_with fail
                  refine wp_region_quiet_lit (by kernel_rfl) (by kernel_rfl) ?_
                  repeat (any_goals (first | go_big_quiet_step ((fail)) | quiet_step ((fail)) | (refine wpQuiet_step (fun K hK => ?_); go_simp; split <;> (refine hK _ ?_; clear hK K))))
                  all_goals (refine wpQuiet_nil ?_; intro _ hw_; obtain ⟨nq, hw__⟩ := hw_; subst hw__)
                  replace H := H.on nq
                  -- s = t, f = g
                  have p0 := H.bat 1 rfl (j := 0) rfl
                  have p1 := H.bat 1 rfl (j := 1) rfl
                  have p2 := H.bat 0 rfl (j := 0) rfl
                  have p3 := H.bat 0 rfl (j := 1) rfl
                  have f0 := H.bfree 8 rfl 0
                  have f1 := H.bfree 8 rfl 1
                  have k0 := H.bat 8 rfl (j := 0) rfl
                  have k1 := H.bat 8 rfl (j := 1) rfl
                  have H2 := (H.bput 8 rfl 0 (.slice A2 24 c2)).bput 8 rfl 1 (.slice B2 24 d2)
                  have p4 := H2.bat 0 rfl (j := 0) rfl
                  have p5 := H2.bat 0 rfl (j := 1) rfl
                  have f2 := H2.bfree 9 rfl 0
                  have f3 := H2.bfree 9 rfl 1
                  have k2 := H2.bat 9 rfl (j := 0) rfl
                  have k3 := H2.bat 9 rfl (j := 1) rfl
                  have H3 := (H2.bput 9 rfl 0 (.int .i64 z2)).bput 9 rfl 1 (.slice E2 q2 r2)
                  have y0 := H3.bat 8 rfl (j := 0) rfl
                  have y1 := H3.bat 8 rfl (j := 1) rfl
                  have y2 := H3.bat 9 rfl (j := 0) rfl
                  have y3 := H3.bat 9 rfl (j := 1) rfl
                  have H4 := Lib.hid ((H3.reord [2, 3, 4, 8, 9, 0, 1, 5, 6, 7] (n := 10) rfl (by decide)).sub (List.take_sublist 5 _))
                  clear H H2 H3
                  go_wp2_with fail
                  rw [HS4.out]
                  obtain ⟨want2, hwt2⟩ : ∃ x, x = wrote want o dl := ⟨_, rfl⟩
                  rw [← hwt2] at HSIM2 ⊢
                  clear hwt2 HS4 HU hms hlt hlt1 hq0 hq1 hq2 hq3 hwo hwtl hmb hw00 hwm p0 p1 p2 p3 f0 f1 f2 f3 k0 k1 k2 k3 p4 p5 hS1 hs1z hS2 hs2z hS3 hs3z hS4 hds hj0 hjn hjn1 hjnn he2 he3 he4 hb3 hwt hwt'
                  as_aux_lemma =>
                    -- the file is read, and judged
                    have hw2 : want2.length ≤ 48 := by have := HSIM2.out.len; have := HSIM2.out.fi.z1; omega
                    have HR1 := Lib.hid (show filReadS bits2 data2 z2 l2 0 100 = ofB want2 ∧ filReadB bits2 data2 z2 l2 0 100 = true by
                      refine ⟨?_, ?_⟩
                      · rw [filReadS, filOk_iff.2 HSIM2.out.fi, HSIM2.out.whole, read_all (by omega)]; rfl
                      · rw [filReadB, filOk_iff.2 HSIM2.out.fi]; rfl)
                    have HR2 := Lib.hid (show filReadS bits2 data2 z2 l2 o 3 = ofB ((want2.drop o).take 3) ∧ filReadB bits2 data2 z2 l2 o 3 = true by
                      refine ⟨?_, ?_⟩
                      · rw [filReadS, filOk_iff.2 HSIM2.out.fi, HSIM2.out.whole]; simp [readL]
                      · rw [filReadB, filOk_iff.2 HSIM2.out.fi]; simp)
                    have HZ2 := Lib.hid (show ∀ s ∈ data2, s.size ≤ 1048576 from fun s hs => by have := HSIM2.out.fi.sz s hs; omega)
                    have hqb2 : q2 ≤ 1048576 := by omega
                    obtain ⟨W2, hW2⟩ : ∃ x, x = ofB want2 := ⟨_, rfl⟩
                    obtain ⟨P2, hP2⟩ : ∃ x, x = ofB ((want2.drop o).take 3) := ⟨_, rfl⟩
                    rw [← hW2] at HR1 ⊢
                    rw [← hP2] at HR2
                    obtain ⟨m2, hm2⟩ : ∃ x, x = want2.length := ⟨_, rfl⟩
                    have hWs : W2.size = m2 := by rw [hW2, ofB_size, hm2]
                    have hm48 : m2 ≤ 48 := by omega
                    have HW2 := Lib.hid hW2
                    have HP2 := Lib.hid hP2
                    have HM2 := Lib.hid hm2
                    have hw3 : IntKind.i64.wrap (o : Int) = (o : Int) := IntWalk.i64_in _ (by omega)
                    have ho0 : (0 : Int) ≤ (o : Int) := by omega
                    clear hW2 hP2 hm2 hw2
                    have H : Hp [] w _ [.row 4 1 (.slice A2 24 c2) 24 (bits2.map Value.bool), .row 9 1 (.slice B2 24 d2) 24 (data2.map Value.string), .row 92 3 (.slice E2 q2 r2) q2 (l2.flatMap cExt), .blk g3 31 [.slice A2 24 c2, .slice B2 24 d2], .blk g4 34 [.int .i64 z2, .slice E2 q2 r2]] := H4.out
                    refine (implFilRead_any A2 24 c2 bits2 B2 24 d2 data2 z2 E2 q2 r2 l2 0 100 _ (H.rd 0 rfl) (H.rd 1 rfl) (H.rd 2 rfl) h24b HZ2.out hqb2).mono ?_
                    rintro e w7 ⟨rfl, f7⟩
                    rw [HR1.out.1, HR1.out.2]
                    replace H := H.go f7
                    clear f7 H4 y0 y1 y2 y3
                    have y0 := H.bat 3 rfl (j := 0) rfl
                    have y1 := H.bat 3 rfl (j := 1) rfl
                    have y2 := H.bat 4 rfl (j := 0) rfl
                    have y3 := H.bat 4 rfl (j := 1) rfl
                    go_wp2_with fail
                    refine (implFilRead_any A2 24 c2 bits2 B2 24 d2 data2 z2 E2 q2 r2 l2 o 3 _ (H.rd 0 rfl) (H.rd 1 rfl) (H.rd 2 rfl) h24b HZ2.out hqb2).mono ?_
                    rintro e w8 ⟨rfl, f8⟩
                    rw [HR2.out.1, HR2.out.2]
                    replace H := H.go f8
                    clear f8 y0 y1 y2 y3
                    by_cases hom2 : o < m2
                    · have hom3 : (o : Int) < (m2 : Int) := by omega
                      have hom4 : (o : Int) ≤ (m2 : Int) := by omega
                      by_cases h33 : 3 < m2 - o
                      · obtain ⟨X2, hX2⟩ : ∃ x, x = W2.extract o m2 := ⟨_, rfl⟩
                        have hXs : X2.size = m2 - o := by rw [hX2, ByteArray.size_extract, hWs]; omega
                        have hXe : W2.extract o m2 = X2 := hX2.symm
                        have hXp : X2.extract 0 3 = P2 := by
                          have e1 : W2.extract o m2 = ofB (want2.drop o) := by rw [HW2.out, extract_ofB, List.take_of_length_le (by rw [List.length_drop]; have := HM2.out; omega)]
                          rw [hX2, e1, extract_ofB, List.drop_zero, HP2.out]
                        have hX3 : (3 : Int) < ((m2 - o : Nat) : Int) := by omega
                        have hX4 : (3 : Int) ≤ ((m2 - o : Nat) : Int) := by omega
                        have hw33 : IntKind.i64.wrap 3 = 3 := by decide
                        clear hX2
                        go_wp2_with fail
                        as_aux_lemma =>
                          -- what was read, and what is counted
                          have hss1 : (W2.toList != W2.toList) = false := bne_self_eq_false _
                          have hss2 : (P2.toList != P2.toList) = false := bne_self_eq_false _
                          have hff := filOk_iff.2 HSIM2.out.fi
                          have HFO := Lib.hid hff
                          obtain ⟨fr, hfr⟩ : ∃ x, sumLen (runs bits2) = x := ⟨_, rfl⟩
                          obtain ⟨kB, hkB⟩ : ∃ x, (blocksOfL l2).length = x := ⟨_, rfl⟩
                          have h24 := HSIM2.out.free
                          rw [hfr, hkB] at h24
                          have HFR := Lib.hid hfr
                          have HKB := Lib.hid hkB
                          have hws : IntKind.i64.wrap (fr + (kB : Int)) = 24 := by rw [h24]; decide
                          have hw24 : IntKind.i64.wrap 24 = 24 := by decide
                          clear hff hfr hkB
                          replace H := H.drew
                          have z0 := H.bat 3 rfl (j := 0) rfl
                          have z1 := H.bat 3 rfl (j := 1) rfl
                          have z2_ := H.bat 4 rfl (j := 0) rfl
                          have z3 := H.bat 4 rfl (j := 1) rfl
                          refine wp_region_held_drew (S := fun w' => w'.cell? ⟨g3, 0, none⟩ = some (.slice A2 24 c2) ∧ w'.cell? ⟨g3, 1, none⟩ = some (.slice B2 24 d2) ∧ w'.cell? ⟨g4, 0, none⟩ = some (.int .i64 z2) ∧ w'.cell? ⟨g4, 1, none⟩ = some (.slice E2 q2 r2)) (by kernel_rfl) ?_ (fun hHeld => ?_)
                          · exact ⟨z0, z1, z2_, z3⟩
                          obtain ⟨u0, hu0⟩ : ∃ uu : World, uu = w8.drew := ⟨_, rfl⟩
                          rw [← hu0] at H hHeld ⊢
                          clear hu0
                          refine wpAnyH_take (i := 0) (v := ?_) rfl (by kernel_rfl) (by kernel_rfl) (by kernel_rfl) (fun _ _ _ h => h) (Or.inl ⟨by kernel_rfl, ?_⟩) (by assumption) ?_
                          rotate_left
                          · (intro w hSw; (try dsimp only at hSw); go_simp; try (with_reducible rfl))
                          try simp only [sA, sB, sC, Act.put, sD, sE, sF]
                          refine wpAnyH_take (i := 1) (v := ?_) rfl (by kernel_rfl) (by kernel_rfl) (by kernel_rfl) (fun _ _ _ h => h) (Or.inl ⟨by kernel_rfl, ?_⟩) (by assumption) ?_
                          rotate_left
                          · (intro w hSw; (try dsimp only at hSw); go_simp; try (with_reducible rfl))
                          try simp only [sA, sB, sC, Act.put, sD, sE, sF]
                          refine wpAnyH_take (i := 2) (v := ?_) rfl (by kernel_rfl) (by kernel_rfl) (by kernel_rfl) (fun _ _ _ h => h) (Or.inl ⟨by kernel_rfl, ?_⟩) (by assumption) ?_
                          rotate_left
                          · (intro w hSw; (try dsimp only at hSw); go_simp; try (with_reducible rfl))
                          try simp only [sA, sB, sC, Act.put, sD, sE, sF]
                          refine wpAnyH_take (i := 3) (v := ?_) rfl (by kernel_rfl) (by kernel_rfl) (by kernel_rfl) (fun _ _ _ h => h) (Or.inl ⟨by kernel_rfl, ?_⟩) (by assumption) ?_
                          rotate_left
                          · (intro w hSw; (try dsimp only at hSw); go_simp; try (with_reducible rfl))
                          try simp only [sA, sB, sC, Act.put, sD, sE, sF]
                          refine wpAnyH_take (i := 4) (v := ?_) rfl (by kernel_rfl) (by kernel_rfl) (by kernel_rfl) (fun _ _ _ h => h) (Or.inl ⟨by kernel_rfl, ?_⟩) (by assumption) ?_
                          rotate_left
                          · (intro w hSw; (try dsimp only at hSw); go_simp; try (with_reducible rfl))
                          try simp only [sA, sB, sC, Act.put, sD, sE, sF]
                          refine wpAnyH_take (i := 5) (v := ?_) rfl (by kernel_rfl) (by kernel_rfl) (by kernel_rfl) (fun _ _ _ h => h) (Or.inl ⟨by kernel_rfl, ?_⟩) (by assumption) ?_
                          rotate_left
                          · (intro w hSw; (try dsimp only at hSw); go_simp; try (with_reducible rfl))
                          try simp only [sA, sB, sC, Act.put, sD, sE, sF]
                          refine wpAnyH_take (i := 6) (v := ?_) rfl (by kernel_rfl) (by kernel_rfl) (by kernel_rfl) (fun _ _ _ h => h) (Or.inl ⟨by kernel_rfl, ?_⟩) (by assumption) ?_
                          rotate_left
                          · (intro w hSw; (try dsimp only at hSw); go_simp; try (with_reducible rfl))
                          try simp only [sA, sB, sC, Act.put, sD, sE, sF]
                          refine wpAnyH_take (i := 7) (v := ?_) rfl (by kernel_rfl) (by kernel_rfl) (by kernel_rfl) (fun _ _ _ h => h) (Or.inl ⟨by kernel_rfl, ?_⟩) (by assumption) ?_
                          rotate_left
                          · (intro w hSw; (try dsimp only at hSw); go_simp; try (with_reducible rfl))
                          try simp only [sA, sB, sC, Act.put, sD, sE, sF]
                          refine wpAnyH_take (i := 8) (v := ?_) rfl (by kernel_rfl) (by kernel_rfl) (by kernel_rfl) (fun _ _ _ h => h) (Or.inl ⟨by kernel_rfl, ?_⟩) (by assumption) ?_
                          rotate_left
                          · (intro w hSw; (try dsimp only at hSw); go_simp; try (with_reducible rfl))
                          try simp only [sA, sB, sC, Act.put, sD, sE, sF]
                          refine wpAnyH_take (i := 9) (v := ?_) rfl (by kernel_rfl) (by kernel_rfl) (by kernel_rfl) (fun _ _ _ h => h) (Or.inl ⟨by kernel_rfl, ?_⟩) (by assumption) ?_
                          rotate_left
                          · (intro w hSw; (try dsimp only at hSw); go_simp; try (with_reducible rfl))
                          try simp only [sA, sB, sC, Act.put, sD, sE, sF]
                          refine wpAnyH_take (i := 10) (v := ?_) rfl (by kernel_rfl) (by kernel_rfl) (by kernel_rfl) (fun _ _ _ h => h) (Or.inl ⟨by kernel_rfl, ?_⟩) (by assumption) ?_
                          rotate_left
                          · (intro w hSw; (try dsimp only at hSw); go_simp; try (with_reducible rfl))
                          try simp only [sA, sB, sC, Act.put, sD, sE, sF]
                          refine wpAnyH_take (i := 11) (v := ?_) rfl (by kernel_rfl) (by kernel_rfl) (by kernel_rfl) (fun _ _ _ h => h) (Or.inl ⟨by kernel_rfl, ?_⟩) (by assumption) ?_
                          rotate_left
                          · (intro w hSw; (try dsimp only at hSw); go_simp; try (with_reducible rfl))
                          try simp only [sA, sB, sC, Act.put, sD, sE, sF]
                          refine wpAnyH_take (i := 12) (v := ?_) rfl (by kernel_rfl) (by kernel_rfl) (by kernel_rfl) (fun _ _ _ h => h) (Or.inl ⟨by kernel_rfl, ?_⟩) (by assumption) ?_
                          rotate_left
                          · (intro w hSw; (try dsimp only at hSw); go_simp; try (with_reducible rfl))
                          try simp only [sA, sB, sC, Act.put, sD, sE, sF]
                          refine wpAnyH_take (i := 13) (v := ?_) rfl (by kernel_rfl) (by kernel_rfl) (by kernel_rfl) (fun _ _ _ h => h) (Or.inl ⟨by kernel_rfl, ?_⟩) (by assumption) ?_
                          rotate_left
                          · (intro w hSw; (try dsimp only at hSw); go_simp; try (with_reducible rfl))
                          try simp only [sA, sB, sC, Act.put, sD, sE, sF]
                          refine wpAnyH_take (i := 14) (v := ?_) rfl (by kernel_rfl) (by kernel_rfl) (by kernel_rfl) (fun _ _ _ h => h) (Or.inl ⟨by kernel_rfl, ?_⟩) (by assumption) ?_
                          rotate_left
                          · (intro w hSw; (try dsimp only at hSw); go_simp; try (with_reducible rfl))
                          try simp only [sA, sB, sC, Act.put, sD, sE, sF]
                          refine wpAnyH_take (i := 15) (v := ?_) rfl (by kernel_rfl) (by kernel_rfl) (by kernel_rfl) (fun _ _ _ h => h) (Or.inl ⟨by kernel_rfl, ?_⟩) (by assumption) ?_
                          rotate_left
                          · (intro w hSw; (try dsimp only at hSw); go_simp; try (with_reducible rfl))
                          try simp only [sA, sB, sC, Act.put, sD, sE, sF]
                          refine wpAnyH_take (i := 16) (v := ?_) rfl (by kernel_rfl) (by kernel_rfl) (by kernel_rfl) (fun _ _ _ h => h) (Or.inl ⟨by kernel_rfl, ?_⟩) (by assumption) ?_
                          rotate_left
                          · (intro w hSw; (try dsimp only at hSw); go_simp; try (with_reducible rfl))
                          try simp only [sA, sB, sC, Act.put, sD, sE, sF]
                          refine wpAnyH_take (i := 17) (v := ?_) rfl (by kernel_rfl) (by kernel_rfl) (by kernel_rfl) (fun _ _ _ h => h) (Or.inl ⟨by kernel_rfl, ?_⟩) (by assumption) ?_
                          rotate_left
                          · (intro w hSw; (try dsimp only at hSw); go_simp; try (with_reducible rfl))
                          try simp only [sA, sB, sC, Act.put, sD, sE, sF]
                          refine wpAnyH_take (i := 18) (v := ?_) rfl (by kernel_rfl) (by kernel_rfl) (by kernel_rfl) (fun _ _ _ h => h) (Or.inl ⟨by kernel_rfl, ?_⟩) (by assumption) ?_
                          rotate_left
                          · (intro w hSw; (try dsimp only at hSw); go_simp; try (with_reducible rfl))
                          try simp only [sA, sB, sC, Act.put, sD, sE, sF]
                          refine wpAnyH_ready (rs := [19]) (by kernel_rfl) (by simp) ?_
                          refine (AllReadyH.cons rfl (fun K hK => ?_) AllReadyH.nil)
                          go_simp
                          refine (specFilOk_any A2 24 c2 bits2 B2 24 d2 data2 z2 E2 q2 r2 l2 _ (H.rd 0 rfl) (H.rd 1 rfl) (H.rd 2 rfl) h24b HZ2.out hqb2).mono ?_
                          rintro e u1 ⟨rfl, f9⟩
                          replace H := H.go f9
                          clear f9
                          rw [HFO.out]
                          go_wp2_with fail
                          refine hK.out _ _ ?_ (fun hHeld => ?_)
                          · exact ⟨H.bat 3 rfl (j := 0) rfl, H.bat 3 rfl (j := 1) rfl, H.bat 4 rfl (j := 0) rfl, H.bat 4 rfl (j := 1) rfl⟩
                          clear hK K
                          try simp only [sA, sB, sC, Act.put, sD, sE, sF]
                          refine wpAnyH_take (i := 20) (v := ?_) rfl (by kernel_rfl) (by kernel_rfl) (by kernel_rfl) (fun _ _ _ h => h) (Or.inl ⟨by kernel_rfl, ?_⟩) (by assumption) ?_
                          rotate_left
                          · (intro w hSw; (try dsimp only at hSw); go_simp; try (with_reducible rfl))
                          try simp only [sA, sB, sC, Act.put, sD, sE, sF]
                          refine wpAnyH_take (i := 21) (v := ?_) rfl (by kernel_rfl) (by kernel_rfl) (by kernel_rfl) (fun _ _ _ h => h) (Or.inl ⟨by kernel_rfl, ?_⟩) (by assumption) ?_
                          rotate_left
                          · (intro w hSw; (try dsimp only at hSw); go_simp; try (with_reducible rfl))
                          try simp only [sA, sB, sC, Act.put, sD, sE, sF]
                          refine wpAnyH_take (i := 22) (v := ?_) rfl (by kernel_rfl) (by kernel_rfl) (by kernel_rfl) (fun _ _ _ h => h) (Or.inl ⟨by kernel_rfl, ?_⟩) (by assumption) ?_
                          rotate_left
                          · (intro w hSw; (try dsimp only at hSw); go_simp; try (with_reducible rfl))
                          try simp only [sA, sB, sC, Act.put, sD, sE, sF]
                          refine wpAnyH_take (i := 23) (v := ?_) rfl (by kernel_rfl) (by kernel_rfl) (by kernel_rfl) (fun _ _ _ h => h) (Or.inl ⟨by kernel_rfl, ?_⟩) (by assumption) ?_
                          rotate_left
                          · (intro w hSw; (try dsimp only at hSw); go_simp; try (with_reducible rfl))
                          try simp only [sA, sB, sC, Act.put, sD, sE, sF]
                          refine wpAnyH_take (i := 24) (v := ?_) rfl (by kernel_rfl) (by kernel_rfl) (by kernel_rfl) (fun _ _ _ h => h) (Or.inl ⟨by kernel_rfl, ?_⟩) (by assumption) ?_
                          rotate_left
                          · (intro w hSw; (try dsimp only at hSw); go_simp; try (with_reducible rfl))
                          try simp only [sA, sB, sC, Act.put, sD, sE, sF]
                          refine wpAnyH_take (i := 26) (v := ?_) rfl (by kernel_rfl) (by kernel_rfl) (by kernel_rfl) (fun _ _ _ h => h) (Or.inl ⟨by kernel_rfl, ?_⟩) (by assumption) ?_
                          rotate_left
                          · (intro w hSw; (try dsimp only at hSw); go_simp; try (with_reducible rfl))
                          try simp only [sA, sB, sC, Act.put, sD, sE, sF]
                          refine wpAnyH_take (i := 27) (v := ?_) rfl (by kernel_rfl) (by kernel_rfl) (by kernel_rfl) (fun _ _ _ h => h) (Or.inl ⟨by kernel_rfl, ?_⟩) (by assumption) ?_
                          rotate_left
                          · (intro w hSw; (try dsimp only at hSw); go_simp; try (with_reducible rfl))
                          try simp only [sA, sB, sC, Act.put, sD, sE, sF]
                          refine wpAnyH_ready (rs := [25]) (by kernel_rfl) (by simp) ?_
                          refine (AllReadyH.cons rfl (fun K hK => ?_) AllReadyH.nil)
                          go_simp
                          refine (specFreeOf_any A2 24 c2 bits2 _ (H.rd 0 rfl)).mono ?_
                          rintro e u2 ⟨rfl, f9⟩
                          replace H := H.go f9
                          clear f9
                          rw [HFR.out]
                          go_wp2_with fail
                          refine hK.out _ _ ?_ (fun hHeld => ?_)
                          · exact ⟨H.bat 3 rfl (j := 0) rfl, H.bat 3 rfl (j := 1) rfl, H.bat 4 rfl (j := 0) rfl, H.bat 4 rfl (j := 1) rfl⟩
                          clear hK K
                          try simp only [sA, sB, sC, Act.put, sD, sE, sF]
                          refine wpAnyH_ready (rs := [28]) (by kernel_rfl) (by simp) ?_
                          refine (AllReadyH.cons rfl (fun K hK => ?_) AllReadyH.nil)
                          go_simp
                          refine (specBlocksOf_any E2 q2 r2 l2 _ (H.rd 2 rfl) hqb2).mono ?_
                          rintro e u3 ⟨AO, cO, rfl, oO, fO⟩
                          replace H := H.made oO fO
                          clear oO fO
                          rw [HKB.out]
                          go_wp2_with fail
                          refine hK.out _ _ ?_ (fun hHeld => ?_)
                          · exact ⟨H.bat 4 rfl (j := 0) rfl, H.bat 4 rfl (j := 1) rfl, H.bat 5 rfl (j := 0) rfl, H.bat 5 rfl (j := 1) rfl⟩
                          clear hK K
                          try simp only [sA, sB, sC, Act.put, sD, sE, sF]
                          refine wpAnyH_take (i := 29) (v := ?_) rfl (by kernel_rfl) (by kernel_rfl) (by kernel_rfl) (fun _ _ _ h => h) (Or.inl ⟨by kernel_rfl, ?_⟩) (by assumption) ?_
                          rotate_left
                          · (intro w hSw; (try dsimp only at hSw); go_simp; try (with_reducible rfl))
                          try simp only [sA, sB, sC, Act.put, sD, sE, sF]
                          refine wpAnyH_take (i := 30) (v := ?_) rfl (by kernel_rfl) (by kernel_rfl) (by kernel_rfl) (fun _ _ _ h => h) (Or.inl ⟨by kernel_rfl, ?_⟩) (by assumption) ?_
                          rotate_left
                          · (intro w hSw; (try dsimp only at hSw); go_simp; try (with_reducible rfl))
                          try simp only [sA, sB, sC, Act.put, sD, sE, sF]
                          refine wpAnyH_take (i := 31) (v := ?_) rfl (by kernel_rfl) (by kernel_rfl) (by kernel_rfl) (fun _ _ _ h => h) (Or.inl ⟨by kernel_rfl, ?_⟩) (by assumption) ?_
                          rotate_left
                          · (intro w hSw; (try dsimp only at hSw); go_simp; try (with_reducible rfl))
                          try simp only [sA, sB, sC, Act.put, sD, sE, sF]
                          refine wpAnyH_take (i := 32) (v := ?_) rfl (by kernel_rfl) (by kernel_rfl) (by kernel_rfl) (fun _ _ _ h => h) (Or.inl ⟨by kernel_rfl, ?_⟩) (by assumption) ?_
                          rotate_left
                          · (intro w hSw; (try dsimp only at hSw); go_simp; try (with_reducible rfl))
                          try simp only [sA, sB, sC, Act.put, sD, sE, sF]
                          refine wpAnyH_done (by kernel_rfl) ?_ _
                          have H9 := Lib.hid H.tail
                          clear H
                          go_wp2_with fail
                          go_roundw
                          case rel => exact ⟨k + 1, want2, bits2, data2, z2, l2, A2, c2, B2, d2, E2, q2, r2, by rw [HW2.out], by go_num, by omega, HSIM2.out, HL2.out, hq12, H9.out⟩
                          case measure => simp [intOf]; omega
                      · have hXe : W2.extract o m2 = P2 := by
                          rw [HW2.out, HP2.out, extract_ofB, List.take_of_length_le (by rw [List.length_drop, HM2.out]; omega), List.take_of_length_le (by rw [List.length_drop, ← HM2.out]; omega)]
                        have hPs : P2.size = m2 - o := by rw [← hXe, ByteArray.size_extract, hWs]; omega
                        have hX3 : ¬ ((3 : Int) < ((m2 - o : Nat) : Int)) := by omega
                        go_wp2_with fail
                        as_aux_lemma =>
                          -- what was read, and what is counted
                          have hss1 : (W2.toList != W2.toList) = false := bne_self_eq_false _
                          have hss2 : (P2.toList != P2.toList) = false := bne_self_eq_false _
                          have hff := filOk_iff.2 HSIM2.out.fi
                          have HFO := Lib.hid hff
                          obtain ⟨fr, hfr⟩ : ∃ x, sumLen (runs bits2) = x := ⟨_, rfl⟩
                          obtain ⟨kB, hkB⟩ : ∃ x, (blocksOfL l2).length = x := ⟨_, rfl⟩
                          have h24 := HSIM2.out.free
                          rw [hfr, hkB] at h24
                          have HFR := Lib.hid hfr
                          have HKB := Lib.hid hkB
                          have hws : IntKind.i64.wrap (fr + (kB : Int)) = 24 := by rw [h24]; decide
                          have hw24 : IntKind.i64.wrap 24 = 24 := by decide
                          clear hff hfr hkB
                          replace H := H.drew
                          have z0 := H.bat 3 rfl (j := 0) rfl
                          have z1 := H.bat 3 rfl (j := 1) rfl
                          have z2_ := H.bat 4 rfl (j := 0) rfl
                          have z3 := H.bat 4 rfl (j := 1) rfl
                          refine wp_region_held_drew (S := fun w' => w'.cell? ⟨g3, 0, none⟩ = some (.slice A2 24 c2) ∧ w'.cell? ⟨g3, 1, none⟩ = some (.slice B2 24 d2) ∧ w'.cell? ⟨g4, 0, none⟩ = some (.int .i64 z2) ∧ w'.cell? ⟨g4, 1, none⟩ = some (.slice E2 q2 r2)) (by kernel_rfl) ?_ (fun hHeld => ?_)
                          · exact ⟨z0, z1, z2_, z3⟩
                          obtain ⟨u0, hu0⟩ : ∃ uu : World, uu = w8.drew := ⟨_, rfl⟩
                          rw [← hu0] at H hHeld ⊢
                          clear hu0
                          refine wpAnyH_take (i := 0) (v := ?_) rfl (by kernel_rfl) (by kernel_rfl) (by kernel_rfl) (fun _ _ _ h => h) (Or.inl ⟨by kernel_rfl, ?_⟩) (by assumption) ?_
                          rotate_left
                          · (intro w hSw; (try dsimp only at hSw); go_simp; try (with_reducible rfl))
                          try simp only [sA, sB, sC, Act.put, sD, sE, sF]
                          refine wpAnyH_take (i := 1) (v := ?_) rfl (by kernel_rfl) (by kernel_rfl) (by kernel_rfl) (fun _ _ _ h => h) (Or.inl ⟨by kernel_rfl, ?_⟩) (by assumption) ?_
                          rotate_left
                          · (intro w hSw; (try dsimp only at hSw); go_simp; try (with_reducible rfl))
                          try simp only [sA, sB, sC, Act.put, sD, sE, sF]
                          refine wpAnyH_take (i := 2) (v := ?_) rfl (by kernel_rfl) (by kernel_rfl) (by kernel_rfl) (fun _ _ _ h => h) (Or.inl ⟨by kernel_rfl, ?_⟩) (by assumption) ?_
                          rotate_left
                          · (intro w hSw; (try dsimp only at hSw); go_simp; try (with_reducible rfl))
                          try simp only [sA, sB, sC, Act.put, sD, sE, sF]
                          refine wpAnyH_take (i := 3) (v := ?_) rfl (by kernel_rfl) (by kernel_rfl) (by kernel_rfl) (fun _ _ _ h => h) (Or.inl ⟨by kernel_rfl, ?_⟩) (by assumption) ?_
                          rotate_left
                          · (intro w hSw; (try dsimp only at hSw); go_simp; try (with_reducible rfl))
                          try simp only [sA, sB, sC, Act.put, sD, sE, sF]
                          refine wpAnyH_take (i := 4) (v := ?_) rfl (by kernel_rfl) (by kernel_rfl) (by kernel_rfl) (fun _ _ _ h => h) (Or.inl ⟨by kernel_rfl, ?_⟩) (by assumption) ?_
                          rotate_left
                          · (intro w hSw; (try dsimp only at hSw); go_simp; try (with_reducible rfl))
                          try simp only [sA, sB, sC, Act.put, sD, sE, sF]
                          refine wpAnyH_take (i := 5) (v := ?_) rfl (by kernel_rfl) (by kernel_rfl) (by kernel_rfl) (fun _ _ _ h => h) (Or.inl ⟨by kernel_rfl, ?_⟩) (by assumption) ?_
                          rotate_left
                          · (intro w hSw; (try dsimp only at hSw); go_simp; try (with_reducible rfl))
                          try simp only [sA, sB, sC, Act.put, sD, sE, sF]
                          refine wpAnyH_take (i := 6) (v := ?_) rfl (by kernel_rfl) (by kernel_rfl) (by kernel_rfl) (fun _ _ _ h => h) (Or.inl ⟨by kernel_rfl, ?_⟩) (by assumption) ?_
                          rotate_left
                          · (intro w hSw; (try dsimp only at hSw); go_simp; try (with_reducible rfl))
                          try simp only [sA, sB, sC, Act.put, sD, sE, sF]
                          refine wpAnyH_take (i := 7) (v := ?_) rfl (by kernel_rfl) (by kernel_rfl) (by kernel_rfl) (fun _ _ _ h => h) (Or.inl ⟨by kernel_rfl, ?_⟩) (by assumption) ?_
                          rotate_left
                          · (intro w hSw; (try dsimp only at hSw); go_simp; try (with_reducible rfl))
                          try simp only [sA, sB, sC, Act.put, sD, sE, sF]
                          refine wpAnyH_take (i := 8) (v := ?_) rfl (by kernel_rfl) (by kernel_rfl) (by kernel_rfl) (fun _ _ _ h => h) (Or.inl ⟨by kernel_rfl, ?_⟩) (by assumption) ?_
                          rotate_left
                          · (intro w hSw; (try dsimp only at hSw); go_simp; try (with_reducible rfl))
                          try simp only [sA, sB, sC, Act.put, sD, sE, sF]
                          refine wpAnyH_take (i := 9) (v := ?_) rfl (by kernel_rfl) (by kernel_rfl) (by kernel_rfl) (fun _ _ _ h => h) (Or.inl ⟨by kernel_rfl, ?_⟩) (by assumption) ?_
                          rotate_left
                          · (intro w hSw; (try dsimp only at hSw); go_simp; try (with_reducible rfl))
                          try simp only [sA, sB, sC, Act.put, sD, sE, sF]
                          refine wpAnyH_take (i := 10) (v := ?_) rfl (by kernel_rfl) (by kernel_rfl) (by kernel_rfl) (fun _ _ _ h => h) (Or.inl ⟨by kernel_rfl, ?_⟩) (by assumption) ?_
                          rotate_left
                          · (intro w hSw; (try dsimp only at hSw); go_simp; try (with_reducible rfl))
                          try simp only [sA, sB, sC, Act.put, sD, sE, sF]
                          refine wpAnyH_take (i := 11) (v := ?_) rfl (by kernel_rfl) (by kernel_rfl) (by kernel_rfl) (fun _ _ _ h => h) (Or.inl ⟨by kernel_rfl, ?_⟩) (by assumption) ?_
                          rotate_left
                          · (intro w hSw; (try dsimp only at hSw); go_simp; try (with_reducible rfl))
                          try simp only [sA, sB, sC, Act.put, sD, sE, sF]
                          refine wpAnyH_take (i := 12) (v := ?_) rfl (by kernel_rfl) (by kernel_rfl) (by kernel_rfl) (fun _ _ _ h => h) (Or.inl ⟨by kernel_rfl, ?_⟩) (by assumption) ?_
                          rotate_left
                          · (intro w hSw; (try dsimp only at hSw); go_simp; try (with_reducible rfl))
                          try simp only [sA, sB, sC, Act.put, sD, sE, sF]
                          refine wpAnyH_take (i := 13) (v := ?_) rfl (by kernel_rfl) (by kernel_rfl) (by kernel_rfl) (fun _ _ _ h => h) (Or.inl ⟨by kernel_rfl, ?_⟩) (by assumption) ?_
                          rotate_left
                          · (intro w hSw; (try dsimp only at hSw); go_simp; try (with_reducible rfl))
                          try simp only [sA, sB, sC, Act.put, sD, sE, sF]
                          refine wpAnyH_take (i := 14) (v := ?_) rfl (by kernel_rfl) (by kernel_rfl) (by kernel_rfl) (fun _ _ _ h => h) (Or.inl ⟨by kernel_rfl, ?_⟩) (by assumption) ?_
                          rotate_left
                          · (intro w hSw; (try dsimp only at hSw); go_simp; try (with_reducible rfl))
                          try simp only [sA, sB, sC, Act.put, sD, sE, sF]
                          refine wpAnyH_take (i := 15) (v := ?_) rfl (by kernel_rfl) (by kernel_rfl) (by kernel_rfl) (fun _ _ _ h => h) (Or.inl ⟨by kernel_rfl, ?_⟩) (by assumption) ?_
                          rotate_left
                          · (intro w hSw; (try dsimp only at hSw); go_simp; try (with_reducible rfl))
                          try simp only [sA, sB, sC, Act.put, sD, sE, sF]
                          refine wpAnyH_take (i := 16) (v := ?_) rfl (by kernel_rfl) (by kernel_rfl) (by kernel_rfl) (fun _ _ _ h => h) (Or.inl ⟨by kernel_rfl, ?_⟩) (by assumption) ?_
                          rotate_left
                          · (intro w hSw; (try dsimp only at hSw); go_simp; try (with_reducible rfl))
                          try simp only [sA, sB, sC, Act.put, sD, sE, sF]
                          refine wpAnyH_take (i := 17) (v := ?_) rfl (by kernel_rfl) (by kernel_rfl) (by kernel_rfl) (fun _ _ _ h => h) (Or.inl ⟨by kernel_rfl, ?_⟩) (by assumption) ?_
                          rotate_left
                          · (intro w hSw; (try dsimp only at hSw); go_simp; try (with_reducible rfl))
                          try simp only [sA, sB, sC, Act.put, sD, sE, sF]
                          refine wpAnyH_take (i := 18) (v := ?_) rfl (by kernel_rfl) (by kernel_rfl) (by kernel_rfl) (fun _ _ _ h => h) (Or.inl ⟨by kernel_rfl, ?_⟩) (by assumption) ?_
                          rotate_left
                          · (intro w hSw; (try dsimp only at hSw); go_simp; try (with_reducible rfl))
                          try simp only [sA, sB, sC, Act.put, sD, sE, sF]
                          refine wpAnyH_ready (rs := [19]) (by kernel_rfl) (by simp) ?_
                          refine (AllReadyH.cons rfl (fun K hK => ?_) AllReadyH.nil)
                          go_simp
                          refine (specFilOk_any A2 24 c2 bits2 B2 24 d2 data2 z2 E2 q2 r2 l2 _ (H.rd 0 rfl) (H.rd 1 rfl) (H.rd 2 rfl) h24b HZ2.out hqb2).mono ?_
                          rintro e u1 ⟨rfl, f9⟩
                          replace H := H.go f9
                          clear f9
                          rw [HFO.out]
                          go_wp2_with fail
                          refine hK.out _ _ ?_ (fun hHeld => ?_)
                          · exact ⟨H.bat 3 rfl (j := 0) rfl, H.bat 3 rfl (j := 1) rfl, H.bat 4 rfl (j := 0) rfl, H.bat 4 rfl (j := 1) rfl⟩
                          clear hK K
                          try simp only [sA, sB, sC, Act.put, sD, sE, sF]
                          refine wpAnyH_take (i := 20) (v := ?_) rfl (by kernel_rfl) (by kernel_rfl) (by kernel_rfl) (fun _ _ _ h => h) (Or.inl ⟨by kernel_rfl, ?_⟩) (by assumption) ?_
                          rotate_left
                          · (intro w hSw; (try dsimp only at hSw); go_simp; try (with_reducible rfl))
                          try simp only [sA, sB, sC, Act.put, sD, sE, sF]
                          refine wpAnyH_take (i := 21) (v := ?_) rfl (by kernel_rfl) (by kernel_rfl) (by kernel_rfl) (fun _ _ _ h => h) (Or.inl ⟨by kernel_rfl, ?_⟩) (by assumption) ?_
                          rotate_left
                          · (intro w hSw; (try dsimp only at hSw); go_simp; try (with_reducible rfl))
                          try simp only [sA, sB, sC, Act.put, sD, sE, sF]
                          refine wpAnyH_take (i := 22) (v := ?_) rfl (by kernel_rfl) (by kernel_rfl) (by kernel_rfl) (fun _ _ _ h => h) (Or.inl ⟨by kernel_rfl, ?_⟩) (by assumption) ?_
                          rotate_left
                          · (intro w hSw; (try dsimp only at hSw); go_simp; try (with_reducible rfl))
                          try simp only [sA, sB, sC, Act.put, sD, sE, sF]
                          refine wpAnyH_take (i := 23) (v := ?_) rfl (by kernel_rfl) (by kernel_rfl) (by kernel_rfl) (fun _ _ _ h => h) (Or.inl ⟨by kernel_rfl, ?_⟩) (by assumption) ?_
                          rotate_left
                          · (intro w hSw; (try dsimp only at hSw); go_simp; try (with_reducible rfl))
                          try simp only [sA, sB, sC, Act.put, sD, sE, sF]
                          refine wpAnyH_take (i := 24) (v := ?_) rfl (by kernel_rfl) (by kernel_rfl) (by kernel_rfl) (fun _ _ _ h => h) (Or.inl ⟨by kernel_rfl, ?_⟩) (by assumption) ?_
                          rotate_left
                          · (intro w hSw; (try dsimp only at hSw); go_simp; try (with_reducible rfl))
                          try simp only [sA, sB, sC, Act.put, sD, sE, sF]
                          refine wpAnyH_take (i := 26) (v := ?_) rfl (by kernel_rfl) (by kernel_rfl) (by kernel_rfl) (fun _ _ _ h => h) (Or.inl ⟨by kernel_rfl, ?_⟩) (by assumption) ?_
                          rotate_left
                          · (intro w hSw; (try dsimp only at hSw); go_simp; try (with_reducible rfl))
                          try simp only [sA, sB, sC, Act.put, sD, sE, sF]
                          refine wpAnyH_take (i := 27) (v := ?_) rfl (by kernel_rfl) (by kernel_rfl) (by kernel_rfl) (fun _ _ _ h => h) (Or.inl ⟨by kernel_rfl, ?_⟩) (by assumption) ?_
                          rotate_left
                          · (intro w hSw; (try dsimp only at hSw); go_simp; try (with_reducible rfl))
                          try simp only [sA, sB, sC, Act.put, sD, sE, sF]
                          refine wpAnyH_ready (rs := [25]) (by kernel_rfl) (by simp) ?_
                          refine (AllReadyH.cons rfl (fun K hK => ?_) AllReadyH.nil)
                          go_simp
                          refine (specFreeOf_any A2 24 c2 bits2 _ (H.rd 0 rfl)).mono ?_
                          rintro e u2 ⟨rfl, f9⟩
                          replace H := H.go f9
                          clear f9
                          rw [HFR.out]
                          go_wp2_with fail
                          refine hK.out _ _ ?_ (fun hHeld => ?_)
                          · exact ⟨H.bat 3 rfl (j := 0) rfl, H.bat 3 rfl (j := 1) rfl, H.bat 4 rfl (j := 0) rfl, H.bat 4 rfl (j := 1) rfl⟩
                          clear hK K
                          try simp only [sA, sB, sC, Act.put, sD, sE, sF]
                          refine wpAnyH_ready (rs := [28]) (by kernel_rfl) (by simp) ?_
                          refine (AllReadyH.cons rfl (fun K hK => ?_) AllReadyH.nil)
                          go_simp
                          refine (specBlocksOf_any E2 q2 r2 l2 _ (H.rd 2 rfl) hqb2).mono ?_
                          rintro e u3 ⟨AO, cO, rfl, oO, fO⟩
                          replace H := H.made oO fO
                          clear oO fO
                          rw [HKB.out]
                          go_wp2_with fail
                          refine hK.out _ _ ?_ (fun hHeld => ?_)
                          · exact ⟨H.bat 4 rfl (j := 0) rfl, H.bat 4 rfl (j := 1) rfl, H.bat 5 rfl (j := 0) rfl, H.bat 5 rfl (j := 1) rfl⟩
                          clear hK K
                          try simp only [sA, sB, sC, Act.put, sD, sE, sF]
                          refine wpAnyH_take (i := 29) (v := ?_) rfl (by kernel_rfl) (by kernel_rfl) (by kernel_rfl) (fun _ _ _ h => h) (Or.inl ⟨by kernel_rfl, ?_⟩) (by assumption) ?_
                          rotate_left
                          · (intro w hSw; (try dsimp only at hSw); go_simp; try (with_reducible rfl))
                          try simp only [sA, sB, sC, Act.put, sD, sE, sF]
                          refine wpAnyH_take (i := 30) (v := ?_) rfl (by kernel_rfl) (by kernel_rfl) (by kernel_rfl) (fun _ _ _ h => h) (Or.inl ⟨by kernel_rfl, ?_⟩) (by assumption) ?_
                          rotate_left
                          · (intro w hSw; (try dsimp only at hSw); go_simp; try (with_reducible rfl))
                          try simp only [sA, sB, sC, Act.put, sD, sE, sF]
                          refine wpAnyH_take (i := 31) (v := ?_) rfl (by kernel_rfl) (by kernel_rfl) (by kernel_rfl) (fun _ _ _ h => h) (Or.inl ⟨by kernel_rfl, ?_⟩) (by assumption) ?_
                          rotate_left
                          · (intro w hSw; (try dsimp only at hSw); go_simp; try (with_reducible rfl))
                          try simp only [sA, sB, sC, Act.put, sD, sE, sF]
                          refine wpAnyH_take (i := 32) (v := ?_) rfl (by kernel_rfl) (by kernel_rfl) (by kernel_rfl) (fun _ _ _ h => h) (Or.inl ⟨by kernel_rfl, ?_⟩) (by assumption) ?_
                          rotate_left
                          · (intro w hSw; (try dsimp only at hSw); go_simp; try (with_reducible rfl))
                          try simp only [sA, sB, sC, Act.put, sD, sE, sF]
                          refine wpAnyH_done (by kernel_rfl) ?_ _
                          have H9 := Lib.hid H.tail
                          clear H
                          go_wp2_with fail
                          go_roundw
                          case rel => exact ⟨k + 1, want2, bits2, data2, z2, l2, A2, c2, B2, d2, E2, q2, r2, by rw [HW2.out], by go_num, by omega, HSIM2.out, HL2.out, hq12, H9.out⟩
                          case measure => simp [intOf]; omega
                    · have hom3 : ¬ ((o : Int) < (m2 : Int)) := by omega
                      have hPn : P2 = ByteArray.mk #[] := by
                        rw [HP2.out, List.drop_of_length_le (by rw [← HM2.out]; omega)]; rfl
                      subst hPn
                      obtain ⟨P2, hPP⟩ : ∃ x, x = ByteArray.mk #[] := ⟨_, rfl⟩
                      go_wp2_with fail
                      as_aux_lemma =>
                        -- what was read, and what is counted
                        have hss1 : (W2.toList != W2.toList) = false := bne_self_eq_false _
                        have hss2 : (P2.toList != P2.toList) = false := bne_self_eq_false _
                        have hff := filOk_iff.2 HSIM2.out.fi
                        have HFO := Lib.hid hff
                        obtain ⟨fr, hfr⟩ : ∃ x, sumLen (runs bits2) = x := ⟨_, rfl⟩
                        obtain ⟨kB, hkB⟩ : ∃ x, (blocksOfL l2).length = x := ⟨_, rfl⟩
                        have h24 := HSIM2.out.free
                        rw [hfr, hkB] at h24
                        have HFR := Lib.hid hfr
                        have HKB := Lib.hid hkB
                        have hws : IntKind.i64.wrap (fr + (kB : Int)) = 24 := by rw [h24]; decide
                        have hw24 : IntKind.i64.wrap 24 = 24 := by decide
                        clear hff hfr hkB
                        replace H := H.drew
                        have z0 := H.bat 3 rfl (j := 0) rfl
                        have z1 := H.bat 3 rfl (j := 1) rfl
                        have z2_ := H.bat 4 rfl (j := 0) rfl
                        have z3 := H.bat 4 rfl (j := 1) rfl
                        refine wp_region_held_drew (S := fun w' => w'.cell? ⟨g3, 0, none⟩ = some (.slice A2 24 c2) ∧ w'.cell? ⟨g3, 1, none⟩ = some (.slice B2 24 d2) ∧ w'.cell? ⟨g4, 0, none⟩ = some (.int .i64 z2) ∧ w'.cell? ⟨g4, 1, none⟩ = some (.slice E2 q2 r2)) (by kernel_rfl) ?_ (fun hHeld => ?_)
                        · exact ⟨z0, z1, z2_, z3⟩
                        obtain ⟨u0, hu0⟩ : ∃ uu : World, uu = w8.drew := ⟨_, rfl⟩
                        rw [← hu0] at H hHeld ⊢
                        clear hu0
                        refine wpAnyH_take (i := 0) (v := ?_) rfl (by kernel_rfl) (by kernel_rfl) (by kernel_rfl) (fun _ _ _ h => h) (Or.inl ⟨by kernel_rfl, ?_⟩) (by assumption) ?_
                        rotate_left
                        · (intro w hSw; (try dsimp only at hSw); go_simp; try (with_reducible rfl))
                        try simp only [sA, sB, sC, Act.put, sD, sE, sF]
                        refine wpAnyH_take (i := 1) (v := ?_) rfl (by kernel_rfl) (by kernel_rfl) (by kernel_rfl) (fun _ _ _ h => h) (Or.inl ⟨by kernel_rfl, ?_⟩) (by assumption) ?_
                        rotate_left
                        · (intro w hSw; (try dsimp only at hSw); go_simp; try (with_reducible rfl))
                        try simp only [sA, sB, sC, Act.put, sD, sE, sF]
                        refine wpAnyH_take (i := 2) (v := ?_) rfl (by kernel_rfl) (by kernel_rfl) (by kernel_rfl) (fun _ _ _ h => h) (Or.inl ⟨by kernel_rfl, ?_⟩) (by assumption) ?_
                        rotate_left
                        · (intro w hSw; (try dsimp only at hSw); go_simp; try (with_reducible rfl))
                        try simp only [sA, sB, sC, Act.put, sD, sE, sF]
                        refine wpAnyH_take (i := 3) (v := ?_) rfl (by kernel_rfl) (by kernel_rfl) (by kernel_rfl) (fun _ _ _ h => h) (Or.inl ⟨by kernel_rfl, ?_⟩) (by assumption) ?_
                        rotate_left
                        · (intro w hSw; (try dsimp only at hSw); go_simp; try (with_reducible rfl))
                        try simp only [sA, sB, sC, Act.put, sD, sE, sF]
                        refine wpAnyH_take (i := 4) (v := ?_) rfl (by kernel_rfl) (by kernel_rfl) (by kernel_rfl) (fun _ _ _ h => h) (Or.inl ⟨by kernel_rfl, ?_⟩) (by assumption) ?_
                        rotate_left
                        · (intro w hSw; (try dsimp only at hSw); go_simp; try (with_reducible rfl))
                        try simp only [sA, sB, sC, Act.put, sD, sE, sF]
                        refine wpAnyH_take (i := 5) (v := ?_) rfl (by kernel_rfl) (by kernel_rfl) (by kernel_rfl) (fun _ _ _ h => h) (Or.inl ⟨by kernel_rfl, ?_⟩) (by assumption) ?_
                        rotate_left
                        · (intro w hSw; (try dsimp only at hSw); go_simp; try (with_reducible rfl))
                        try simp only [sA, sB, sC, Act.put, sD, sE, sF]
                        refine wpAnyH_take (i := 6) (v := ?_) rfl (by kernel_rfl) (by kernel_rfl) (by kernel_rfl) (fun _ _ _ h => h) (Or.inl ⟨by kernel_rfl, ?_⟩) (by assumption) ?_
                        rotate_left
                        · (intro w hSw; (try dsimp only at hSw); go_simp; try (with_reducible rfl))
                        try simp only [sA, sB, sC, Act.put, sD, sE, sF]
                        refine wpAnyH_take (i := 7) (v := ?_) rfl (by kernel_rfl) (by kernel_rfl) (by kernel_rfl) (fun _ _ _ h => h) (Or.inl ⟨by kernel_rfl, ?_⟩) (by assumption) ?_
                        rotate_left
                        · (intro w hSw; (try dsimp only at hSw); go_simp; try (with_reducible rfl))
                        try simp only [sA, sB, sC, Act.put, sD, sE, sF]
                        refine wpAnyH_take (i := 8) (v := ?_) rfl (by kernel_rfl) (by kernel_rfl) (by kernel_rfl) (fun _ _ _ h => h) (Or.inl ⟨by kernel_rfl, ?_⟩) (by assumption) ?_
                        rotate_left
                        · (intro w hSw; (try dsimp only at hSw); go_simp; try (with_reducible rfl))
                        try simp only [sA, sB, sC, Act.put, sD, sE, sF]
                        refine wpAnyH_take (i := 9) (v := ?_) rfl (by kernel_rfl) (by kernel_rfl) (by kernel_rfl) (fun _ _ _ h => h) (Or.inl ⟨by kernel_rfl, ?_⟩) (by assumption) ?_
                        rotate_left
                        · (intro w hSw; (try dsimp only at hSw); go_simp; try (with_reducible rfl))
                        try simp only [sA, sB, sC, Act.put, sD, sE, sF]
                        refine wpAnyH_take (i := 10) (v := ?_) rfl (by kernel_rfl) (by kernel_rfl) (by kernel_rfl) (fun _ _ _ h => h) (Or.inl ⟨by kernel_rfl, ?_⟩) (by assumption) ?_
                        rotate_left
                        · (intro w hSw; (try dsimp only at hSw); go_simp; try (with_reducible rfl))
                        try simp only [sA, sB, sC, Act.put, sD, sE, sF]
                        refine wpAnyH_take (i := 11) (v := ?_) rfl (by kernel_rfl) (by kernel_rfl) (by kernel_rfl) (fun _ _ _ h => h) (Or.inl ⟨by kernel_rfl, ?_⟩) (by assumption) ?_
                        rotate_left
                        · (intro w hSw; (try dsimp only at hSw); go_simp; try (with_reducible rfl))
                        try simp only [sA, sB, sC, Act.put, sD, sE, sF]
                        refine wpAnyH_take (i := 12) (v := ?_) rfl (by kernel_rfl) (by kernel_rfl) (by kernel_rfl) (fun _ _ _ h => h) (Or.inl ⟨by kernel_rfl, ?_⟩) (by assumption) ?_
                        rotate_left
                        · (intro w hSw; (try dsimp only at hSw); go_simp; try (with_reducible rfl))
                        try simp only [sA, sB, sC, Act.put, sD, sE, sF]
                        refine wpAnyH_take (i := 13) (v := ?_) rfl (by kernel_rfl) (by kernel_rfl) (by kernel_rfl) (fun _ _ _ h => h) (Or.inl ⟨by kernel_rfl, ?_⟩) (by assumption) ?_
                        rotate_left
                        · (intro w hSw; (try dsimp only at hSw); go_simp; try (with_reducible rfl))
                        try simp only [sA, sB, sC, Act.put, sD, sE, sF]
                        refine wpAnyH_take (i := 14) (v := ?_) rfl (by kernel_rfl) (by kernel_rfl) (by kernel_rfl) (fun _ _ _ h => h) (Or.inl ⟨by kernel_rfl, ?_⟩) (by assumption) ?_
                        rotate_left
                        · (intro w hSw; (try dsimp only at hSw); go_simp; try (with_reducible rfl))
                        try simp only [sA, sB, sC, Act.put, sD, sE, sF]
                        refine wpAnyH_take (i := 15) (v := ?_) rfl (by kernel_rfl) (by kernel_rfl) (by kernel_rfl) (fun _ _ _ h => h) (Or.inl ⟨by kernel_rfl, ?_⟩) (by assumption) ?_
                        rotate_left
                        · (intro w hSw; (try dsimp only at hSw); go_simp; try (with_reducible rfl))
                        try simp only [sA, sB, sC, Act.put, sD, sE, sF]
                        refine wpAnyH_take (i := 16) (v := ?_) rfl (by kernel_rfl) (by kernel_rfl) (by kernel_rfl) (fun _ _ _ h => h) (Or.inl ⟨by kernel_rfl, ?_⟩) (by assumption) ?_
                        rotate_left
                        · (intro w hSw; (try dsimp only at hSw); go_simp; try (with_reducible rfl))
                        try simp only [sA, sB, sC, Act.put, sD, sE, sF]
                        refine wpAnyH_take (i := 17) (v := ?_) rfl (by kernel_rfl) (by kernel_rfl) (by kernel_rfl) (fun _ _ _ h => h) (Or.inl ⟨by kernel_rfl, ?_⟩) (by assumption) ?_
                        rotate_left
                        · (intro w hSw; (try dsimp only at hSw); go_simp; try (with_reducible rfl))
                        try simp only [sA, sB, sC, Act.put, sD, sE, sF]
                        refine wpAnyH_take (i := 18) (v := ?_) rfl (by kernel_rfl) (by kernel_rfl) (by kernel_rfl) (fun _ _ _ h => h) (Or.inl ⟨by kernel_rfl, ?_⟩) (by assumption) ?_
                        rotate_left
                        · (intro w hSw; (try dsimp only at hSw); go_simp; try (with_reducible rfl))
                        try simp only [sA, sB, sC, Act.put, sD, sE, sF]
                        refine wpAnyH_ready (rs := [19]) (by kernel_rfl) (by simp) ?_
                        refine (AllReadyH.cons rfl (fun K hK => ?_) AllReadyH.nil)
                        go_simp
                        refine (specFilOk_any A2 24 c2 bits2 B2 24 d2 data2 z2 E2 q2 r2 l2 _ (H.rd 0 rfl) (H.rd 1 rfl) (H.rd 2 rfl) h24b HZ2.out hqb2).mono ?_
                        rintro e u1 ⟨rfl, f9⟩
                        replace H := H.go f9
                        clear f9
                        rw [HFO.out]
                        go_wp2_with fail
                        refine hK.out _ _ ?_ (fun hHeld => ?_)
                        · exact ⟨H.bat 3 rfl (j := 0) rfl, H.bat 3 rfl (j := 1) rfl, H.bat 4 rfl (j := 0) rfl, H.bat 4 rfl (j := 1) rfl⟩
                        clear hK K
                        try simp only [sA, sB, sC, Act.put, sD, sE, sF]
                        refine wpAnyH_take (i := 20) (v := ?_) rfl (by kernel_rfl) (by kernel_rfl) (by kernel_rfl) (fun _ _ _ h => h) (Or.inl ⟨by kernel_rfl, ?_⟩) (by assumption) ?_
                        rotate_left
                        · (intro w hSw; (try dsimp only at hSw); go_simp; try (with_reducible rfl))
                        try simp only [sA, sB, sC, Act.put, sD, sE, sF]
                        refine wpAnyH_take (i := 21) (v := ?_) rfl (by kernel_rfl) (by kernel_rfl) (by kernel_rfl) (fun _ _ _ h => h) (Or.inl ⟨by kernel_rfl, ?_⟩) (by assumption) ?_
                        rotate_left
                        · (intro w hSw; (try dsimp only at hSw); go_simp; try (with_reducible rfl))
                        try simp only [sA, sB, sC, Act.put, sD, sE, sF]
                        refine wpAnyH_take (i := 22) (v := ?_) rfl (by kernel_rfl) (by kernel_rfl) (by kernel_rfl) (fun _ _ _ h => h) (Or.inl ⟨by kernel_rfl, ?_⟩) (by assumption) ?_
                        rotate_left
                        · (intro w hSw; (try dsimp only at hSw); go_simp; try (with_reducible rfl))
                        try simp only [sA, sB, sC, Act.put, sD, sE, sF]
                        refine wpAnyH_take (i := 23) (v := ?_) rfl (by kernel_rfl) (by kernel_rfl) (by kernel_rfl) (fun _ _ _ h => h) (Or.inl ⟨by kernel_rfl, ?_⟩) (by assumption) ?_
                        rotate_left
                        · (intro w hSw; (try dsimp only at hSw); go_simp; try (with_reducible rfl))
                        try simp only [sA, sB, sC, Act.put, sD, sE, sF]
                        refine wpAnyH_take (i := 24) (v := ?_) rfl (by kernel_rfl) (by kernel_rfl) (by kernel_rfl) (fun _ _ _ h => h) (Or.inl ⟨by kernel_rfl, ?_⟩) (by assumption) ?_
                        rotate_left
                        · (intro w hSw; (try dsimp only at hSw); go_simp; try (with_reducible rfl))
                        try simp only [sA, sB, sC, Act.put, sD, sE, sF]
                        refine wpAnyH_take (i := 26) (v := ?_) rfl (by kernel_rfl) (by kernel_rfl) (by kernel_rfl) (fun _ _ _ h => h) (Or.inl ⟨by kernel_rfl, ?_⟩) (by assumption) ?_
                        rotate_left
                        · (intro w hSw; (try dsimp only at hSw); go_simp; try (with_reducible rfl))
                        try simp only [sA, sB, sC, Act.put, sD, sE, sF]
                        refine wpAnyH_take (i := 27) (v := ?_) rfl (by kernel_rfl) (by kernel_rfl) (by kernel_rfl) (fun _ _ _ h => h) (Or.inl ⟨by kernel_rfl, ?_⟩) (by assumption) ?_
                        rotate_left
                        · (intro w hSw; (try dsimp only at hSw); go_simp; try (with_reducible rfl))
                        try simp only [sA, sB, sC, Act.put, sD, sE, sF]
                        refine wpAnyH_ready (rs := [25]) (by kernel_rfl) (by simp) ?_
                        refine (AllReadyH.cons rfl (fun K hK => ?_) AllReadyH.nil)
                        go_simp
                        refine (specFreeOf_any A2 24 c2 bits2 _ (H.rd 0 rfl)).mono ?_
                        rintro e u2 ⟨rfl, f9⟩
                        replace H := H.go f9
                        clear f9
                        rw [HFR.out]
                        go_wp2_with fail
                        refine hK.out _ _ ?_ (fun hHeld => ?_)
                        · exact ⟨H.bat 3 rfl (j := 0) rfl, H.bat 3 rfl (j := 1) rfl, H.bat 4 rfl (j := 0) rfl, H.bat 4 rfl (j := 1) rfl⟩
                        clear hK K
                        try simp only [sA, sB, sC, Act.put, sD, sE, sF]
                        refine wpAnyH_ready (rs := [28]) (by kernel_rfl) (by simp) ?_
                        refine (AllReadyH.cons rfl (fun K hK => ?_) AllReadyH.nil)
                        go_simp
                        refine (specBlocksOf_any E2 q2 r2 l2 _ (H.rd 2 rfl) hqb2).mono ?_
                        rintro e u3 ⟨AO, cO, rfl, oO, fO⟩
                        replace H := H.made oO fO
                        clear oO fO
                        rw [HKB.out]
                        go_wp2_with fail
                        refine hK.out _ _ ?_ (fun hHeld => ?_)
                        · exact ⟨H.bat 4 rfl (j := 0) rfl, H.bat 4 rfl (j := 1) rfl, H.bat 5 rfl (j := 0) rfl, H.bat 5 rfl (j := 1) rfl⟩
                        clear hK K
                        try simp only [sA, sB, sC, Act.put, sD, sE, sF]
                        refine wpAnyH_take (i := 29) (v := ?_) rfl (by kernel_rfl) (by kernel_rfl) (by kernel_rfl) (fun _ _ _ h => h) (Or.inl ⟨by kernel_rfl, ?_⟩) (by assumption) ?_
                        rotate_left
                        · (intro w hSw; (try dsimp only at hSw); go_simp; try (with_reducible rfl))
                        try simp only [sA, sB, sC, Act.put, sD, sE, sF]
                        refine wpAnyH_take (i := 30) (v := ?_) rfl (by kernel_rfl) (by kernel_rfl) (by kernel_rfl) (fun _ _ _ h => h) (Or.inl ⟨by kernel_rfl, ?_⟩) (by assumption) ?_
                        rotate_left
                        · (intro w hSw; (try dsimp only at hSw); go_simp; try (with_reducible rfl))
                        try simp only [sA, sB, sC, Act.put, sD, sE, sF]
                        refine wpAnyH_take (i := 31) (v := ?_) rfl (by kernel_rfl) (by kernel_rfl) (by kernel_rfl) (fun _ _ _ h => h) (Or.inl ⟨by kernel_rfl, ?_⟩) (by assumption) ?_
                        rotate_left
                        · (intro w hSw; (try dsimp only at hSw); go_simp; try (with_reducible rfl))
                        try simp only [sA, sB, sC, Act.put, sD, sE, sF]
                        refine wpAnyH_take (i := 32) (v := ?_) rfl (by kernel_rfl) (by kernel_rfl) (by kernel_rfl) (fun _ _ _ h => h) (Or.inl ⟨by kernel_rfl, ?_⟩) (by assumption) ?_
                        rotate_left
                        · (intro w hSw; (try dsimp only at hSw); go_simp; try (with_reducible rfl))
                        try simp only [sA, sB, sC, Act.put, sD, sE, sF]
                        refine wpAnyH_done (by kernel_rfl) ?_ _
                        have H9 := Lib.hid H.tail
                        clear H
                        go_wp2_with fail
                        go_roundw
                        case rel => exact ⟨k + 1, want2, bits2, data2, z2, l2, A2, c2, B2, d2, E2, q2, r2, by rw [HW2.out], by go_num, by omega, HSIM2.out, HL2.out, hq12, H9.out⟩
                        case measure => simp [intOf]; omega
    · have hk1 : ¬ ((k : Int) < 14) := by omega
      have H9 := Lib.hid H
      clear H
      go_wp2_with fail
      go_ret
      exact ⟨rfl, H9.out.fr⟩
end Go.Proofs.Ytbmoolmgfpcnkaa
