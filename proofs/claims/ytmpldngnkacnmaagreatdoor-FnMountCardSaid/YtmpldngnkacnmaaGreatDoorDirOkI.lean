/-
DirOk of the program.
-/
import Derived.Test.YtmpldngnkacnmaaGreatDoorGe
import Derived.Test.YtmpldngnkacnmaaGreatDoorGh
import Derived.Test.YtmpldngnkacnmaaGreatDoorGf
import Derived.Test.YtmpldngnkacnmaaGreatDoorGg
namespace Go.Proofs.YtmpldngnkacnmaaGreatDoor
open Go.RowKit
set_option linter.unusedVariables false
set_option linter.unusedSimpArgs false
set_option maxRecDepth 100000 in
theorem implIsBehind_any (x0 x1 : Int) (x2 : ByteArray) (x3 h i : Int) (w : World) :
 Calls Tryz.prog 121 #[.agg #[.int .i64 x0, .int .i64 x1, .string x2, .int .i64 x3], .int .i64 h, .int .i64 i] w fun e w' => e = .returned (.bool (behB (x0, x1, x2, x3) h i)) ∧ Fr w w' := by
 have H := (Hp.start w).lay_ 90 [.int .i64 x0, .int .i64 x1, .string x2, .int .i64 x3] rfl;have F := Lib.hid H.fr
 by_cases h1 : h < x0
 ·have HE := Lib.hid (show behB (x0, x1, x2, x3) h i = true by simp [behB, h1])
  go_enter Tryz.func121, Tryz.ntmps121
  go_wp2
  go_ret;rw [HE.out];exact ⟨rfl, F.out⟩
 ·by_cases h2 : x0 = h
  ·subst h2
   by_cases h3 : i < x1
   ·have HE := Lib.hid (show behB (x0, x1, x2, x3) x0 i = true by simp [behB, h3])
    go_enter Tryz.func121, Tryz.ntmps121
    go_wp2
    go_ret;rw [HE.out];exact ⟨rfl, F.out⟩
   ·have HE := Lib.hid (show behB (x0, x1, x2, x3) x0 i = false by simp [behB, h3])
    go_enter Tryz.func121, Tryz.ntmps121
    go_wp2
    go_ret;rw [HE.out];exact ⟨rfl, F.out⟩
  ·have h2' : (x0 == h) = false := by simpa using h2
   have HE := Lib.hid (show behB (x0, x1, x2, x3) h i = false by simp [behB, h1, h2]);go_enter Tryz.func121, Tryz.ntmps121
   go_wp2
   go_ret;rw [HE.out];exact ⟨rfl, F.out⟩
theorem implIsId_any (x : Int) (w : World) :
 Calls Tryz.prog 120 #[.int .i64 x] w fun e w' => e = .returned (.bool (inB x 1 100000)) ∧ w' = w := by
 go_enter Tryz.func120, Tryz.ntmps120;go_wp2_with fail;refine (within_any _ _ _ _).mono ?_;rintro e w2 ⟨rfl, rfl⟩;go_wp2_with fail;go_ret;exact ⟨rfl, rfl⟩
set_option maxRecDepth 100000 in
set_option maxHeartbeats 4000000 in
theorem implDirOk_any (A : Option Addr) (n c : Nat) (d : List EntT) (w : World) (h : Rd w A n 4 (d.flatMap cEnt)) (hn : n ≤ 1048576) (hz : ∀ e ∈ d, e.2.2.1.size ≤ 16777216) (hk : KT w) :
 Calls Tryz.prog 102 #[.slice A n c] w fun e w' => e = .returned (.bool (dirB d)) ∧ Fr w w' := by
 have HL := Lib.hid (show d.length = n from h.lenk cEnt_len (by omega));obtain ⟨q0, hq0⟩ : ∃ q, q = dirB d := ⟨_, rfl⟩;rw [← hq0];have HQ := Lib.hid hq0;have HR := Lib.hid h;have HSZ := Lib.hid hz;have HK := Lib.hid hk;clear hq0 h hz hk;go_enter Tryz.func102, Tryz.ntmps102
 by_cases h12 : 12 < n
 ·have h12' : (12 : Int) < (n : Int) := by omega
  have HE := Lib.hid (HQ.out.trans (dirB_long (by rw [HL.out]; exact h12)));go_wp2_with fail;go_ret;rw [HE.out];exact ⟨rfl, Below.refl _ _⟩
 have h12' : ¬ (12 : Int) < (n : Int) := by omega
 have H0 := (Hp.start w).lit0 9 1;go_wp2_with fail
 go_loopw [3, 14] (fun kv iv wr => ∃ i : Nat, iv = .int .i64 i ∧ i ≤ n ∧ dirTo d i = true ∧ Hp [] w wr [.row 9 1 kv (keysE (d.take i)).length ((keysE (d.take i)).map Value.string)]) (fun _ iv _ => n - (intOf iv).toNat)
 case atStart => exact ⟨0, rfl, by omega, rfl, H0⟩
 case round =>
  clear H0;obtain ⟨i, rfl, hi, hto, H⟩ := hrel;have HT := Lib.hid hto;clear hto;have hi0 : (0 : Int) ≤ (i : Int) := by omega
  by_cases hlt : i < n
  ·have hlt1 : (i : Int) < (n : Int) := by omega
   obtain ⟨KL, hKL⟩ : ∃ x, x = keysE (d.take i) := ⟨_, rfl⟩;rw [← hKL] at H;have HKL := Lib.hid hKL;have hkl : KL.length ≤ 1048576 := by rw [hKL, keysE_len, List.length_take]; omega
   clear hKL;obtain ⟨C, q, rfl⟩ := H.shape 0 rfl;obtain ⟨⟨e0, e1, e2, e3⟩, hx⟩ := some_at HL.out hlt;have he2 := HSZ.out _ (List.mem_of_getElem? hx);simp only at he2;obtain ⟨bk, of, rfl, hcell⟩ := (HR.out.fr H.fr).elem cEnt_len hx (by omega);have ca0 := hcell 0 _ rfl; simp only [Nat.add_zero] at ca0;have ca1 := hcell 1 _ rfl;have ca2 := hcell 2 _ rfl;have ca3 := hcell 3 _ rfl;have HX := Lib.hid hx;clear hx hcell;go_wp2_with fail;refine (implKeyOf_any e2 _ he2 (HK.out.fr (H.lay_ 90 [.int .i64 e0, .int .i64 e1, .string e2, .int .i64 e3] rfl).fr)).mono ?_;rintro e w1 ⟨rfl, f1⟩;have H2 := ((H.lay_ 90 [.int .i64 e0, .int .i64 e1, .string e2, .int .i64 e3] rfl).go f1).drew;obtain ⟨g2, hg2⟩ : ∃ x, x = wr.heap.size := ⟨_, rfl⟩;rw [← hg2] at H2 ⊢;have HG2 := Lib.hid hg2;clear hg2 H ca0 ca1 ca2 ca3 f1;have H := H2;clear H2;have y0 := H.fa 0 0 rfl rfl;have y1 := H.fa 0 1 rfl rfl;have y3 := H.fa 0 3 rfl rfl;have HKN := Lib.hid (keyR_len (toB e2));obtain ⟨K, hK⟩ : ∃ K, K = keyR (toB e2) := ⟨_, rfl⟩;have HKR := Lib.hid hK;clear hK;obtain ⟨kk, kb⟩ := K;rw [← HKR.out];have hl : (ofB kk).size ≤ 1099511627776 := by
    have := HKN.out;rw [← HKR.out] at this;rw [ofB_size];exact Nat.le_trans this (by decide)
   obtain ⟨z, hz⟩ : ∃ z, z = crcZ kk := ⟨_, rfl⟩;have HZ := Lib.hid hz;have hz0 : 0 ≤ z := by rw [hz]; exact (crcZ_in kk).1
   have hz1 : z ≤ 4294967295 := by rw [hz]; exact (crcZ_in kk).2
   clear hz
   cases kb with
   | false =>
     have HE := Lib.hid (HQ.out.trans (dirB_no HX.out (ent2_no1 (by show (keyR (toB e2)).2 = false; rw [← HKR.out]))));go_wp2_with fail;refine wp_region_held_drew (S := fun w' => w'.cell? ⟨g2, 0, none⟩ = some (.int .i64 e0) ∧ w'.cell? ⟨g2, 1, none⟩ = some (.int .i64 e1) ∧ w'.cell? ⟨g2, 3, none⟩ = some (.int .i64 e3)) (by kernel_rfl) ?_ (fun hHeld => ?_)
     ·exact ⟨y0, y1, y3⟩
     obtain ⟨u0, hu0⟩ : ∃ uu : World, uu = w1.drew := ⟨_, rfl⟩;rw [← hu0] at H hHeld ⊢;clear hu0;refine wpT 0 ?_;refine wpT 1 ?_;refine wpT 2 ?_;refine wpS 3 ?_;refine wpS 4 ?_;refine wpS 5 ?_;refine wpS 6 ?_;refine wpS 7 ?_;refine wpS 8 ?_;refine wpT 9 ?_;refine wpT 10 ?_;refine wpS 11 ?_;refine wpS 12 ?_;refine wpS 13 ?_;refine wpT 14 ?_;refine wpT 15 ?_;refine wpS 16 ?_;refine wpS 17 ?_;refine wpS 18 ?_;refine wpS 19 ?_;refine wpT 20 ?_;refine wpT 21 ?_;refine wpS 22 ?_;refine wpS 23 ?_;refine wpS 24 ?_;refine wpS 25 ?_;refine wpT 26 ?_;refine wpAnyH_done (by kernel_rfl) ?_ _;go_wp2_with fail;go_ret;rw [HE.out];exact ⟨rfl, H.fr⟩
   | true =>
     have HK2 := Lib.hid (show (keyR (toB e2)).2 = true by rw [← HKR.out]);have HKE := Lib.hid (show keyB (e0, e1, e2, e3) = ofB kk by rw [keyB]; show ofB (keyR (toB e2)).1 = _; rw [← HKR.out]);have HH := Lib.hid (show hashN (toB e2) = z.tmod 16 by rw [Int.tmod_eq_emod_of_nonneg hz0, hashN_of HK2.out, HZ.out, ← HKR.out]);obtain ⟨y, hy⟩ : ∃ y, y = z.tmod 16 := ⟨_, rfl⟩;have hy2 : z.tmod 16 = y := hy.symm;have HH := Lib.hid (show hashN (toB e2) = y by rw [HH.out, hy]);have hy0 : 0 ≤ y ∧ y < 16 := by rw [hy, Int.tmod_eq_emod_of_nonneg hz0]; omega
     have hyw : IntKind.i64.wrap y = y := IntWalk.i64_in _ (by omega);clear hy
     by_cases h2 : y = e0
     ·subst h2
      by_cases h3 : ofB kk ∈ KL
      ·have HE := Lib.hid (HQ.out.trans (dirB_no HX.out (ent2_no3 (keys_yes (dirTo_names (by rw [HL.out]; exact hi) HT.out) HK2.out (by rw [HKE.out, ← HKL.out]; exact h3)))))
       have HB := Lib.hid (show ofB kk ∈ KL ↔ true = true from ⟨fun _ => rfl, fun _ => h3⟩);clear h3;go_wp2_with fail;refine wp_region_held_drew (S := fun w' => w'.cell? ⟨g2, 0, none⟩ = some (.int .i64 y) ∧ w'.cell? ⟨g2, 1, none⟩ = some (.int .i64 e1) ∧ w'.cell? ⟨g2, 3, none⟩ = some (.int .i64 e3)) (by kernel_rfl) ?_ (fun hHeld => ?_)
       ·exact ⟨y0, y1, y3⟩
       obtain ⟨u0, hu0⟩ : ∃ uu : World, uu = w1.drew := ⟨_, rfl⟩;rw [← hu0] at H hHeld ⊢;clear hu0;refine wpT 0 ?_;refine wpT 1 ?_;refine wpT 2 ?_;refine wpT 3 ?_;refine wpT 6 ?_;refine wpT 7 ?_;refine wpC 4 fun K hK => ?_;go_simp;refine (implCrc_any (ofB kk) _ hl).mono ?_;rintro e u1 ⟨rfl, hw9⟩;replace H := H.go (show Fr u0 u1 by rw [hw9]; exact Below.refl _ _);clear hw9;rw [toB_ofB, ← HZ.out];go_wp2_with fail;refine hK.out _ _ ?_ fun hHeld => ?_
       ·exact ⟨H.fa 0 0 rfl rfl, H.fa 0 1 rfl rfl, H.fa 0 3 rfl rfl⟩
       clear hK K;(try simp only [sX, Act.put]);refine wpT 5 ?_;refine wpT 8 ?_;refine wpT 9 ?_;refine wpT 10 ?_;refine wpT 11 ?_;refine wpT 12 ?_;refine wpC 13 fun K hK => ?_;go_simp;refine (containsS_any C _ q KL (ofB kk) _ (H.rd 1 rfl) hkl).mono ?_;rintro e u2 ⟨b9, rfl, hb9, hw9⟩;replace H := H.go (show Fr u1 u2 by rw [hw9]; exact Below.refl _ _);clear hw9;obtain rfl : b9 = true := by rw [Bool.eq_iff_iff, hb9]; simpa using HB.out
       clear hb9;go_wp2_with fail;refine hK.out _ _ ?_ fun hHeld => ?_
       ·exact ⟨H.fa 0 0 rfl rfl, H.fa 0 1 rfl rfl, H.fa 0 3 rfl rfl⟩
       clear hK K;(try simp only [sX, Act.put]);refine wpT 14 ?_;refine wpT 15 ?_;refine wpS 16 ?_;refine wpS 17 ?_;refine wpS 18 ?_;refine wpS 19 ?_;refine wpT 20 ?_;refine wpT 21 ?_;refine wpS 22 ?_;refine wpS 23 ?_;refine wpS 24 ?_;refine wpS 25 ?_;refine wpT 26 ?_;refine wpAnyH_done (by kernel_rfl) ?_ _;go_wp2_with fail;go_ret;rw [HE.out];exact ⟨rfl, H.fr⟩
      ·have HNO := Lib.hid (keys_no (d := d.take i) (e := (y, e1, e2, e3)) (by rw [HKE.out, ← HKL.out]; exact h3))
       have HB := Lib.hid (show ofB kk ∈ KL ↔ false = true from ⟨fun h => absurd h h3, fun h => by cases h⟩);clear h3
       rcases bool_or (inB e1 0 12) with h4 | h4
       ·rcases bool_or (inB e3 1 100000) with h5 | h5
        ·have HI := Lib.hid h4
         have HD := Lib.hid h5;clear h4 h5;go_wp2_with fail;refine wp_region_held_drew (S := fun w' => w'.cell? ⟨g2, 0, none⟩ = some (.int .i64 y) ∧ w'.cell? ⟨g2, 1, none⟩ = some (.int .i64 e1) ∧ w'.cell? ⟨g2, 3, none⟩ = some (.int .i64 e3)) (by kernel_rfl) ?_ (fun hHeld => ?_)
         ·exact ⟨y0, y1, y3⟩
         obtain ⟨u0, hu0⟩ : ∃ uu : World, uu = w1.drew := ⟨_, rfl⟩;rw [← hu0] at H hHeld ⊢;clear hu0;refine wpT 0 ?_;refine wpT 1 ?_;refine wpT 2 ?_;refine wpT 3 ?_;refine wpT 6 ?_;refine wpT 7 ?_;refine wpC 4 fun K hK => ?_;go_simp;refine (implCrc_any (ofB kk) _ hl).mono ?_;rintro e u1 ⟨rfl, hw9⟩;replace H := H.go (show Fr u0 u1 by rw [hw9]; exact Below.refl _ _);clear hw9;rw [toB_ofB, ← HZ.out];go_wp2_with fail;refine hK.out _ _ ?_ fun hHeld => ?_
         ·exact ⟨H.fa 0 0 rfl rfl, H.fa 0 1 rfl rfl, H.fa 0 3 rfl rfl⟩
         clear hK K;(try simp only [sX, Act.put]);refine wpT 5 ?_;refine wpT 8 ?_;refine wpT 9 ?_;refine wpT 10 ?_;refine wpT 11 ?_;refine wpT 12 ?_;refine wpC 13 fun K hK => ?_;go_simp;refine (containsS_any C _ q KL (ofB kk) _ (H.rd 1 rfl) hkl).mono ?_;rintro e u2 ⟨b9, rfl, hb9, hw9⟩;replace H := H.go (show Fr u1 u2 by rw [hw9]; exact Below.refl _ _);clear hw9;obtain rfl : b9 = false := by rw [Bool.eq_iff_iff, hb9]; simpa using HB.out
         clear hb9;go_wp2_with fail;refine hK.out _ _ ?_ fun hHeld => ?_
         ·exact ⟨H.fa 0 0 rfl rfl, H.fa 0 1 rfl rfl, H.fa 0 3 rfl rfl⟩
         clear hK K;(try simp only [sX, Act.put]);refine wpT 14 ?_;refine wpT 15 ?_;refine wpT 16 ?_;refine wpT 17 ?_;refine wpC 18 fun K hK => ?_;go_simp;refine (within_any e1 0 12 _).mono ?_;rintro e u3 ⟨rfl, hw9⟩;replace H := H.go (show Fr u2 u3 by rw [hw9]; exact Below.refl _ _);clear hw9;rw [HI.out];go_wp2_with fail;refine hK.out _ _ ?_ fun hHeld => ?_
         ·exact ⟨H.fa 0 0 rfl rfl, H.fa 0 1 rfl rfl, H.fa 0 3 rfl rfl⟩
         clear hK K;(try simp only [sX, Act.put]);refine wpT 19 ?_;refine wpT 20 ?_;refine wpT 21 ?_;refine wpT 22 ?_;refine wpT 23 ?_;refine wpC 24 fun K hK => ?_;go_simp;refine (implIsId_any e3 _).mono ?_;rintro e u4 ⟨rfl, hw9⟩;replace H := H.go (show Fr u3 u4 by rw [hw9]; exact Below.refl _ _);clear hw9;rw [HD.out];go_wp2_with fail;refine hK.out _ _ ?_ fun hHeld => ?_
         ·exact ⟨H.fa 0 0 rfl rfl, H.fa 0 1 rfl rfl, H.fa 0 3 rfl rfl⟩
         clear hK K;(try simp only [sX, Act.put]);refine wpT 25 ?_;refine wpT 26 ?_;refine wpAnyH_done (by kernel_rfl) ?_ _;go_wp2_with fail
         by_cases hi1 : 0 < i
         ·have hi2 : (0 : Int) < (i : Int) := by omega
          obtain ⟨r, hr1, hr2⟩ : ∃ r : Nat, r + 1 ≤ i ∧ i ≤ r + 1 := ⟨i - 1, by omega, by omega⟩;have hr3 : (i : Int) - 1 = (r : Int) := by omega
          have hr4 : IntKind.i64.wrap ((i : Int) - 1) = (r : Int) := by rw [hr3]; exact IntWalk.i64_in _ (by omega)
          have hr5 : IntKind.i64.wrap (r : Int) = (r : Int) := IntWalk.i64_in _ (by omega);have hr6 : (0 : Int) ≤ (r : Int) := by omega
          have hr7 : (r : Int) < (n : Int) := by omega
          obtain ⟨⟨p0, p1, p2, p3⟩, hp⟩ := some_at HL.out (show r < n by omega);have HPX := Lib.hid hp;have HRI := Lib.hid (show i = r + 1 by omega);have HP := Lib.hid (show ∀ w', Fr w w' → w'.cell? ⟨bk, of + r * 4, none⟩ = some (.int .i64 p0) ∧ w'.cell? ⟨bk, of + r * 4 + 1, none⟩ = some (.int .i64 p1) from fun w' f => by
           obtain ⟨b', o', e, hc⟩ := (HR.out.fr f).elem cEnt_len hp (by omega);injection e with e; injection e with e1 e2; subst e1 e2;exact ⟨hc 0 _ rfl, hc 1 _ rfl⟩)
          clear hp;replace H := H.drew;obtain ⟨ub, hub⟩ : ∃ x, x = u4.drew := ⟨_, rfl⟩;rw [← hub] at H;have y0 := H.fa 0 0 rfl rfl;have y1 := H.fa 0 1 rfl rfl;have y2 := H.fa 0 2 rfl rfl;have y3 := H.fa 0 3 rfl rfl;have z0 := (HP.out _ H.fr).1;have z1 := (HP.out _ H.fr).2;rw [hub] at H y0 y1 y2 y3 z0 z1;clear hub ub;refine wp_region_held_drew (S := fun w' => w'.cell? ⟨g2, 0, none⟩ = some (.int .i64 y) ∧ w'.cell? ⟨g2, 1, none⟩ = some (.int .i64 e1) ∧ w'.cell? ⟨g2, 2, none⟩ = some (.string e2) ∧ w'.cell? ⟨g2, 3, none⟩ = some (.int .i64 e3) ∧ w'.cell? ⟨bk, of + r * 4, none⟩ = some (.int .i64 p0) ∧ w'.cell? ⟨bk, of + r * 4 + 1, none⟩ = some (.int .i64 p1)) (by kernel_rfl) ?_ (fun hHeld => ?_)
          ·exact ⟨y0, y1, y2, y3, z0, z1⟩
          obtain ⟨u0, hu0⟩ : ∃ uu : World, uu = u4.drew := ⟨_, rfl⟩;rw [← hu0] at H hHeld ⊢;clear hu0;refine wpT 0 ?_;refine wpT 1 ?_;refine wpT 2 ?_;refine wpT 3 ?_;refine wpT 4 ?_;refine wpT 5 ?_;refine wpT 6 ?_;refine wpT 7 ?_;refine wpT 8 ?_;refine wpT 9 ?_;refine wpT 10 ?_;refine wpT 11 ?_;refine wpT 12 ?_;refine wpT 13 ?_;refine wpT 14 ?_;refine wpT 15 ?_;refine wpC 16 fun K hK => ?_;go_simp;refine (implIsBehind_any y e1 e2 e3 p0 p1 _).mono ?_;rintro e u1 ⟨rfl, f9⟩;replace H := H.go f9;clear f9;go_wp2_with fail;refine hK.out _ _ ?_ fun hHeld => ?_
          ·exact ⟨H.fa 0 0 rfl rfl, H.fa 0 1 rfl rfl, H.fa 0 2 rfl rfl, H.fa 0 3 rfl rfl, (HP.out _ H.fr).1, (HP.out _ H.fr).2⟩
          clear hK K;(try simp only [sX, Act.put]);refine wpT 17 ?_;refine wpT 18 ?_;refine wpAnyH_done (by kernel_rfl) ?_ _;clear y0 y1 y2 y3 z0 z1;obtain ⟨bb, hbb⟩ : ∃ bb, bb = behB (y, e1, e2, e3) p0 p1 := ⟨_, rfl⟩;rw [← hbb];have HBB := Lib.hid (show lesB (p0, p1, p2, p3) y e1 = bb by rw [hbb]; exact les_beh (p0, p1, p2, p3) (y, e1, e2, e3));clear hbb
          cases bb with
          | false =>
            have HE := Lib.hid (HQ.out.trans (dirB_no HX.out (by rw [HRI.out]; exact ent2_no6 HPX.out HBB.out)));go_wp2_with fail;go_ret;rw [HE.out];exact ⟨rfl, H.fr⟩
          | true =>
            have HT2 := Lib.hid (dirTo_succ HX.out HT.out (ent2_yes HK2.out HH.out.symm HNO.out HI.out HD.out (fun p hp => by
             rw [HRI.out, last_take HPX.out] at hp;injection hp with hp; subst hp; exact HBB.out)))
            have HKS := Lib.hid (show keysE (d.take (i + 1)) = KL ++ [ofB kk] by rw [keysE_take HX.out, HKE.out, HKL.out]);have H5 := H;clear H;go_wp2_with (at_builtin; refine wp_appM (f := Value.string) (H5) rfl _ _ _ rfl Tryz.underlying24 infoString rfl 1 _ _ rfl rfl _ _ (ofB kk) rfl (by simp) rfl (by first | (simp only [maxLen]; omega) | (simp [maxLen]; done) | (simp [maxLen]; omega)) (by first | omega | (simp; done) | (simp; omega)) ?_)
            intro v' w6 H6;have H7 := Lib.hid (show Hp [] w w6 [.row 9 1 v' (keysE (d.take (i + 1))).length ((keysE (d.take (i + 1))).map Value.string)] from H6.tail.recast (by rw [HKS.out]; simp));clear H5 H6;go_wp2_with fail;go_roundw
            case rel => exact ⟨i + 1, by go_num, by omega, HT2.out, H7.out⟩
            case measure => simp [intOf]; omega
         ·have hi2 : ¬ (0 : Int) < (i : Int) := by omega
          have HRI := Lib.hid (show i = 0 by omega);replace H := H.drew;refine wp_region_held_drew (S := fun w' => True) (by kernel_rfl) ?_ (fun hHeld => ?_)
          ·exact trivial
          obtain ⟨u0, hu0⟩ : ∃ uu : World, uu = u4.drew := ⟨_, rfl⟩;rw [← hu0] at H ⊢;clear hu0;refine wpT 0 ?_;refine wpT 1 ?_;refine wpT 2 ?_;refine wpS 3 ?_;refine wpS 4 ?_;refine wpS 5 ?_;refine wpS 6 ?_;refine wpS 7 ?_;refine wpS 8 ?_;refine wpS 9 ?_;refine wpS 10 ?_;refine wpS 11 ?_;refine wpS 12 ?_;refine wpS 13 ?_;refine wpS 14 ?_;refine wpS 15 ?_;refine wpS 16 ?_;refine wpS 17 ?_;refine wpT 18 ?_;refine wpAnyH_done (by kernel_rfl) ?_ _;have HT2 := Lib.hid (dirTo_succ HX.out HT.out (ent2_yes HK2.out HH.out.symm HNO.out HI.out HD.out (fun p hp => by
           rw [HRI.out] at hp; simp at hp)))
          have HKS := Lib.hid (show keysE (d.take (i + 1)) = KL ++ [ofB kk] by rw [keysE_take HX.out, HKE.out, HKL.out]);have H5 := H;clear H;go_wp2_with (at_builtin; refine wp_appM (f := Value.string) (H5) rfl _ _ _ rfl Tryz.underlying24 infoString rfl 1 _ _ rfl rfl _ _ (ofB kk) rfl (by simp) rfl (by first | (simp only [maxLen]; omega) | (simp [maxLen]; done) | (simp [maxLen]; omega)) (by first | omega | (simp; done) | (simp; omega)) ?_)
          intro v' w6 H6;have H7 := Lib.hid (show Hp [] w w6 [.row 9 1 v' (keysE (d.take (i + 1))).length ((keysE (d.take (i + 1))).map Value.string)] from H6.tail.recast (by rw [HKS.out]; simp));clear H5 H6;go_wp2_with fail;go_roundw
          case rel => exact ⟨i + 1, by go_num, by omega, HT2.out, H7.out⟩
          case measure => simp [intOf]; omega
        ·have HE := Lib.hid (HQ.out.trans (dirB_no HX.out (ent2_no5 h5)))
         have HI := Lib.hid h4;have HD := Lib.hid h5;clear h4 h5;go_wp2_with fail;refine wp_region_held_drew (S := fun w' => w'.cell? ⟨g2, 0, none⟩ = some (.int .i64 y) ∧ w'.cell? ⟨g2, 1, none⟩ = some (.int .i64 e1) ∧ w'.cell? ⟨g2, 3, none⟩ = some (.int .i64 e3)) (by kernel_rfl) ?_ (fun hHeld => ?_)
         ·exact ⟨y0, y1, y3⟩
         obtain ⟨u0, hu0⟩ : ∃ uu : World, uu = w1.drew := ⟨_, rfl⟩;rw [← hu0] at H hHeld ⊢;clear hu0;refine wpT 0 ?_;refine wpT 1 ?_;refine wpT 2 ?_;refine wpT 3 ?_;refine wpT 6 ?_;refine wpT 7 ?_;refine wpC 4 fun K hK => ?_;go_simp;refine (implCrc_any (ofB kk) _ hl).mono ?_;rintro e u1 ⟨rfl, hw9⟩;replace H := H.go (show Fr u0 u1 by rw [hw9]; exact Below.refl _ _);clear hw9;rw [toB_ofB, ← HZ.out];go_wp2_with fail;refine hK.out _ _ ?_ fun hHeld => ?_
         ·exact ⟨H.fa 0 0 rfl rfl, H.fa 0 1 rfl rfl, H.fa 0 3 rfl rfl⟩
         clear hK K;(try simp only [sX, Act.put]);refine wpT 5 ?_;refine wpT 8 ?_;refine wpT 9 ?_;refine wpT 10 ?_;refine wpT 11 ?_;refine wpT 12 ?_;refine wpC 13 fun K hK => ?_;go_simp;refine (containsS_any C _ q KL (ofB kk) _ (H.rd 1 rfl) hkl).mono ?_;rintro e u2 ⟨b9, rfl, hb9, hw9⟩;replace H := H.go (show Fr u1 u2 by rw [hw9]; exact Below.refl _ _);clear hw9;obtain rfl : b9 = false := by rw [Bool.eq_iff_iff, hb9]; simpa using HB.out
         clear hb9;go_wp2_with fail;refine hK.out _ _ ?_ fun hHeld => ?_
         ·exact ⟨H.fa 0 0 rfl rfl, H.fa 0 1 rfl rfl, H.fa 0 3 rfl rfl⟩
         clear hK K;(try simp only [sX, Act.put]);refine wpT 14 ?_;refine wpT 15 ?_;refine wpT 16 ?_;refine wpT 17 ?_;refine wpC 18 fun K hK => ?_;go_simp;refine (within_any e1 0 12 _).mono ?_;rintro e u3 ⟨rfl, hw9⟩;replace H := H.go (show Fr u2 u3 by rw [hw9]; exact Below.refl _ _);clear hw9;rw [HI.out];go_wp2_with fail;refine hK.out _ _ ?_ fun hHeld => ?_
         ·exact ⟨H.fa 0 0 rfl rfl, H.fa 0 1 rfl rfl, H.fa 0 3 rfl rfl⟩
         clear hK K;(try simp only [sX, Act.put]);refine wpT 19 ?_;refine wpT 20 ?_;refine wpT 21 ?_;refine wpT 22 ?_;refine wpT 23 ?_;refine wpC 24 fun K hK => ?_;go_simp;refine (implIsId_any e3 _).mono ?_;rintro e u4 ⟨rfl, hw9⟩;replace H := H.go (show Fr u3 u4 by rw [hw9]; exact Below.refl _ _);clear hw9;rw [HD.out];go_wp2_with fail;refine hK.out _ _ ?_ fun hHeld => ?_
         ·exact ⟨H.fa 0 0 rfl rfl, H.fa 0 1 rfl rfl, H.fa 0 3 rfl rfl⟩
         clear hK K;(try simp only [sX, Act.put]);refine wpT 25 ?_;refine wpT 26 ?_;refine wpAnyH_done (by kernel_rfl) ?_ _;go_wp2_with fail;go_ret;rw [HE.out];exact ⟨rfl, H.fr⟩
       ·have HE := Lib.hid (HQ.out.trans (dirB_no HX.out (ent2_no4 h4)))
        have HI := Lib.hid h4;clear h4;go_wp2_with fail;refine wp_region_held_drew (S := fun w' => w'.cell? ⟨g2, 0, none⟩ = some (.int .i64 y) ∧ w'.cell? ⟨g2, 1, none⟩ = some (.int .i64 e1) ∧ w'.cell? ⟨g2, 3, none⟩ = some (.int .i64 e3)) (by kernel_rfl) ?_ (fun hHeld => ?_)
        ·exact ⟨y0, y1, y3⟩
        obtain ⟨u0, hu0⟩ : ∃ uu : World, uu = w1.drew := ⟨_, rfl⟩;rw [← hu0] at H hHeld ⊢;clear hu0;refine wpT 0 ?_;refine wpT 1 ?_;refine wpT 2 ?_;refine wpT 3 ?_;refine wpT 6 ?_;refine wpT 7 ?_;refine wpC 4 fun K hK => ?_;go_simp;refine (implCrc_any (ofB kk) _ hl).mono ?_;rintro e u1 ⟨rfl, hw9⟩;replace H := H.go (show Fr u0 u1 by rw [hw9]; exact Below.refl _ _);clear hw9;rw [toB_ofB, ← HZ.out];go_wp2_with fail;refine hK.out _ _ ?_ fun hHeld => ?_
        ·exact ⟨H.fa 0 0 rfl rfl, H.fa 0 1 rfl rfl, H.fa 0 3 rfl rfl⟩
        clear hK K;(try simp only [sX, Act.put]);refine wpT 5 ?_;refine wpT 8 ?_;refine wpT 9 ?_;refine wpT 10 ?_;refine wpT 11 ?_;refine wpT 12 ?_;refine wpC 13 fun K hK => ?_;go_simp;refine (containsS_any C _ q KL (ofB kk) _ (H.rd 1 rfl) hkl).mono ?_;rintro e u2 ⟨b9, rfl, hb9, hw9⟩;replace H := H.go (show Fr u1 u2 by rw [hw9]; exact Below.refl _ _);clear hw9;obtain rfl : b9 = false := by rw [Bool.eq_iff_iff, hb9]; simpa using HB.out
        clear hb9;go_wp2_with fail;refine hK.out _ _ ?_ fun hHeld => ?_
        ·exact ⟨H.fa 0 0 rfl rfl, H.fa 0 1 rfl rfl, H.fa 0 3 rfl rfl⟩
        clear hK K;(try simp only [sX, Act.put]);refine wpT 14 ?_;refine wpT 15 ?_;refine wpT 16 ?_;refine wpT 17 ?_;refine wpC 18 fun K hK => ?_;go_simp;refine (within_any e1 0 12 _).mono ?_;rintro e u3 ⟨rfl, hw9⟩;replace H := H.go (show Fr u2 u3 by rw [hw9]; exact Below.refl _ _);clear hw9;rw [HI.out];go_wp2_with fail;refine hK.out _ _ ?_ fun hHeld => ?_
        ·exact ⟨H.fa 0 0 rfl rfl, H.fa 0 1 rfl rfl, H.fa 0 3 rfl rfl⟩
        clear hK K;(try simp only [sX, Act.put]);refine wpT 19 ?_;refine wpT 20 ?_;refine wpT 21 ?_;refine wpS 22 ?_;refine wpS 23 ?_;refine wpS 24 ?_;refine wpS 25 ?_;refine wpT 26 ?_;refine wpAnyH_done (by kernel_rfl) ?_ _;go_wp2_with fail;go_ret;rw [HE.out];exact ⟨rfl, H.fr⟩
     ·have HE := Lib.hid (HQ.out.trans (dirB_no HX.out (ent2_no2 (by show e0 ≠ hashN (toB e2); rw [HH.out]; exact fun h => h2 h.symm))))
      have h2' : (y != e0) = true := by simpa using h2
      have h2'' : ¬ e0 = y := fun h => h2 h.symm;go_wp2_with fail;refine wp_region_held_drew (S := fun w' => w'.cell? ⟨g2, 0, none⟩ = some (.int .i64 e0) ∧ w'.cell? ⟨g2, 1, none⟩ = some (.int .i64 e1) ∧ w'.cell? ⟨g2, 3, none⟩ = some (.int .i64 e3)) (by kernel_rfl) ?_ (fun hHeld => ?_)
      ·exact ⟨y0, y1, y3⟩
      obtain ⟨u0, hu0⟩ : ∃ uu : World, uu = w1.drew := ⟨_, rfl⟩;rw [← hu0] at H hHeld ⊢;clear hu0;refine wpT 0 ?_;refine wpT 1 ?_;refine wpT 2 ?_;refine wpT 3 ?_;refine wpT 6 ?_;refine wpT 7 ?_;refine wpC 4 fun K hK => ?_;go_simp;refine (implCrc_any (ofB kk) _ hl).mono ?_;rintro e u1 ⟨rfl, hw9⟩;replace H := H.go (show Fr u0 u1 by rw [hw9]; exact Below.refl _ _);clear hw9;rw [toB_ofB, ← HZ.out];go_wp2_with fail;refine hK.out _ _ ?_ fun hHeld => ?_
      ·exact ⟨H.fa 0 0 rfl rfl, H.fa 0 1 rfl rfl, H.fa 0 3 rfl rfl⟩
      clear hK K;(try simp only [sX, Act.put]);refine wpT 5 ?_;refine wpT 8 ?_;refine wpT 9 ?_;refine wpT 10 ?_;refine wpS 11 ?_;refine wpS 12 ?_;refine wpS 13 ?_;refine wpT 14 ?_;refine wpT 15 ?_;refine wpS 16 ?_;refine wpS 17 ?_;refine wpS 18 ?_;refine wpS 19 ?_;refine wpT 20 ?_;refine wpT 21 ?_;refine wpS 22 ?_;refine wpS 23 ?_;refine wpS 24 ?_;refine wpS 25 ?_;refine wpT 26 ?_;refine wpAnyH_done (by kernel_rfl) ?_ _;go_wp2_with fail;go_ret;rw [HE.out];exact ⟨rfl, H.fr⟩
  ·have hlt1 : ¬ (i : Int) < (n : Int) := by omega
   have HE := Lib.hid (HQ.out.trans (dirB_yes (by rw [HL.out]; omega) (by
    have := HT.out
    rwa [show i = d.length by rw [HL.out]; omega] at this)))
   go_wp2_with fail;go_ret;rw [HE.out];exact ⟨rfl, H.fr⟩
end Go.Proofs.YtmpldngnkacnmaaGreatDoor
