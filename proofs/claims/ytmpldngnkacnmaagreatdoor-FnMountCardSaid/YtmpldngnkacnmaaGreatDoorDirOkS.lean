/-
DirOk of the reference.
-/
import Derived.Test.YtmpldngnkacnmaaGreatDoorGe
import Derived.Test.YtmpldngnkacnmaaGreatDoorGh
import Derived.Test.YtmpldngnkacnmaaGreatDoorGg
import Derived.Test.YtmpldngnkacnmaaGreatDoorGf
namespace Go.Proofs.YtmpldngnkacnmaaGreatDoor
open Go.RowKit
set_option linter.unusedVariables false
set_option linter.unusedSimpArgs false
set_option maxRecDepth 100000 in
theorem specLess_any (x0 x1 : Int) (x2 : ByteArray) (x3 h i : Int) (w : World) :
 Calls Tryz.prog 85 #[.agg #[.int .i64 x0, .int .i64 x1, .string x2, .int .i64 x3], .int .i64 h, .int .i64 i] w fun e w' => e = .returned (.bool (lesB (x0, x1, x2, x3) h i)) ∧ Fr w w' := by
 have H := (Hp.start w).lay_ 90 [.int .i64 x0, .int .i64 x1, .string x2, .int .i64 x3] rfl;have F := Lib.hid H.fr
 by_cases h1 : x0 < h
 ·have HE := Lib.hid (show lesB (x0, x1, x2, x3) h i = true by simp [lesB, h1])
  go_enter Tryz.func85, Tryz.ntmps85
  go_wp2
  go_ret;rw [HE.out];exact ⟨rfl, F.out⟩
 ·by_cases h2 : x0 = h
  ·subst h2
   by_cases h3 : x1 < i
   ·have HE := Lib.hid (show lesB (x0, x1, x2, x3) x0 i = true by simp [lesB, h3])
    go_enter Tryz.func85, Tryz.ntmps85
    go_wp2
    go_ret;rw [HE.out];exact ⟨rfl, F.out⟩
   ·have HE := Lib.hid (show lesB (x0, x1, x2, x3) x0 i = false by simp [lesB, h3])
    go_enter Tryz.func85, Tryz.ntmps85
    go_wp2
    go_ret;rw [HE.out];exact ⟨rfl, F.out⟩
  ·have h2' : (x0 == h) = false := by simpa using h2
   have HE := Lib.hid (show lesB (x0, x1, x2, x3) h i = false by simp [lesB, h1, h2]);go_enter Tryz.func85, Tryz.ntmps85
   go_wp2
   go_ret;rw [HE.out];exact ⟨rfl, F.out⟩
set_option maxRecDepth 100000 in
set_option maxHeartbeats 8000000 in
theorem specDirOk_any (A : Option Addr) (n c : Nat) (d : List EntT) (w : World) (h : Rd w A n 4 (d.flatMap cEnt)) (hn : n ≤ 1048576) (hz : ∀ e ∈ d, e.2.2.1.size ≤ 16777216) :
 Calls Tryz.prog 52 #[.slice A n c] w fun e w' => e = .returned (.bool (dirB d)) ∧ Fr w w' := by
 have HL := Lib.hid (show d.length = n from h.lenk cEnt_len (by omega));obtain ⟨q0, hq0⟩ : ∃ q, q = dirB d := ⟨_, rfl⟩;rw [← hq0];have HQ := Lib.hid hq0;have HR := Lib.hid h;have HSZ := Lib.hid hz;clear hq0 h hz;go_enter Tryz.func52, Tryz.ntmps52
 by_cases h12 : 12 < n
 ·have h12' : (12 : Int) < (n : Int) := by omega
  have HE := Lib.hid (HQ.out.trans (dirB_long (by rw [HL.out]; exact h12)));go_wp2_with fail;go_ret;rw [HE.out];exact ⟨rfl, Below.refl _ _⟩
 have h12' : ¬ (12 : Int) < (n : Int) := by omega
 go_wp2_with fail
 go_loopw [3] (fun iv wr => ∃ i : Nat, iv = .int .i64 i ∧ i ≤ n ∧ dirTo d i = true ∧ Fr w wr) (fun iv _ => n - (intOf iv).toNat)
 case atStart => exact ⟨0, rfl, by omega, rfl, Below.refl _ _⟩
 case round =>
  obtain ⟨i, rfl, hi, hto, hf⟩ := hrel;have HT := Lib.hid hto;have HF := Lib.hid hf;clear hto hf;have hi0 : (0 : Int) ≤ (i : Int) := by omega
  by_cases hlt : i < n
  ·have hlt1 : (i : Int) < (n : Int) := by omega
   obtain ⟨⟨e0, e1, e2, e3⟩, hx⟩ := some_at HL.out hlt;have he2 := HSZ.out _ (List.mem_of_getElem? hx);simp only at he2;obtain ⟨bk, of, rfl, hcell⟩ := (HR.out.fr HF.out).elem cEnt_len hx (by omega);have ca0 := hcell 0 _ rfl; simp only [Nat.add_zero] at ca0;have ca1 := hcell 1 _ rfl;have ca2 := hcell 2 _ rfl;have ca3 := hcell 3 _ rfl;have HX := Lib.hid hx;clear hx hcell;have H := (((Hp.start w).go HF.out).lay_ 90 [.int .i64 e0, .int .i64 e1, .string e2, .int .i64 e3] rfl).drew;obtain ⟨g2, hg2⟩ : ∃ x, x = wr.heap.size := ⟨_, rfl⟩;rw [← hg2] at H;have HG2 := Lib.hid hg2;clear hg2;have y0 := H.fa 0 0 rfl rfl;have y1 := H.fa 0 1 rfl rfl;have y2 := H.fa 0 2 rfl rfl;have y3 := H.fa 0 3 rfl rfl;obtain ⟨nm, hnm⟩ : ∃ b, nameB (toB e2) = b := ⟨_, rfl⟩;have HNM := Lib.hid hnm;obtain ⟨y, hy⟩ : ∃ y, y = hashN (toB e2) := ⟨_, rfl⟩;have HY := Lib.hid hy;clear hy hnm
   cases nm with
   | false =>
     have HE := Lib.hid (HQ.out.trans (dirB_no HX.out (ent2_no1 (by show (keyR (toB e2)).2 = false; rw [keyR_no HNM.out]))));go_wp2_with fail;rw [← HG2.out];refine wp_region_held_drew (S := fun w' => w'.cell? ⟨g2, 0, none⟩ = some (.int .i64 e0) ∧ w'.cell? ⟨g2, 1, none⟩ = some (.int .i64 e1) ∧ w'.cell? ⟨g2, 2, none⟩ = some (.string e2) ∧ w'.cell? ⟨g2, 3, none⟩ = some (.int .i64 e3)) (by kernel_rfl) ?_ (fun hHeld => ?_)
     ·exact ⟨y0, y1, y2, y3⟩
     obtain ⟨u0, hu0⟩ : ∃ uu : World, uu = (wr.alloc (.cells #[.int .i64 e0, .int .i64 e1, .string e2, .int .i64 e3] 90)).drew := ⟨_, rfl⟩;rw [← hu0] at H hHeld ⊢;clear hu0;refine wpT 0 ?_;refine wpT 1 ?_;refine wpC 2 fun K hK => ?_;go_simp;refine (specNameOk_any e2 _ he2).mono ?_;rintro e u1 ⟨rfl, f9⟩;replace H := H.go f9;clear f9;rw [HNM.out];go_wp2_with fail;refine hK.out _ _ ?_ fun hHeld => ?_
     ·exact ⟨H.fa 0 0 rfl rfl, H.fa 0 1 rfl rfl, H.fa 0 2 rfl rfl, H.fa 0 3 rfl rfl⟩
     clear hK K;(try simp only [sX, Act.put]);refine wpT 3 ?_;refine wpT 4 ?_;refine wpS 5 ?_;refine wpS 6 ?_;refine wpS 7 ?_;refine wpS 8 ?_;refine wpS 9 ?_;refine wpS 10 ?_;refine wpT 11 ?_;refine wpT 12 ?_;refine wpS 13 ?_;refine wpS 14 ?_;refine wpS 15 ?_;refine wpS 16 ?_;refine wpT 17 ?_;refine wpT 18 ?_;refine wpS 19 ?_;refine wpS 20 ?_;refine wpS 21 ?_;refine wpS 22 ?_;refine wpT 23 ?_;refine wpT 24 ?_;refine wpS 25 ?_;refine wpS 26 ?_;refine wpS 27 ?_;refine wpS 28 ?_;refine wpS 29 ?_;refine wpS 30 ?_;refine wpS 31 ?_;refine wpS 32 ?_;refine wpS 33 ?_;refine wpS 34 ?_;refine wpS 35 ?_;refine wpS 36 ?_;refine wpS 37 ?_;refine wpS 38 ?_;refine wpS 39 ?_;refine wpT 40 ?_;refine wpAnyH_done (by kernel_rfl) ?_ _;go_wp2_with fail;go_ret;rw [HE.out];exact ⟨rfl, H.fr⟩
   | true =>
     have HK2 := Lib.hid (show (keyR (toB e2)).2 = true by rw [keyR_yes HNM.out])
     by_cases h2 : y = e0
     ·subst h2
      have HH := HY
      rcases bool_or (inB e1 0 12) with h4 | h4
      ·have HI := Lib.hid h4
       clear h4
       rcases bool_or (inB e3 1 100000) with h5 | h5
       ·have HD := Lib.hid h5
        clear h5;go_wp2_with fail;rw [← HG2.out]
        by_cases hi1 : 0 < i
        ·have hi2 : (0 : Int) < (i : Int) := by omega
         obtain ⟨r, hr1, hr2⟩ : ∃ r : Nat, r + 1 ≤ i ∧ i ≤ r + 1 := ⟨i - 1, by omega, by omega⟩;have hr3 : (i : Int) - 1 = (r : Int) := by omega
         have hr4 : IntKind.i64.wrap ((i : Int) - 1) = (r : Int) := by rw [hr3]; exact IntWalk.i64_in _ (by omega)
         have hr5 : IntKind.i64.wrap (r : Int) = (r : Int) := IntWalk.i64_in _ (by omega);have hr6 : (0 : Int) ≤ (r : Int) := by omega
         have hr7 : (r : Int) < (n : Int) := by omega
         obtain ⟨⟨p0, p1, p2, p3⟩, hp⟩ := some_at HL.out (show r < n by omega);have HPX := Lib.hid hp;have HRI := Lib.hid (show i = r + 1 by omega);have HP := Lib.hid (show ∀ w', Fr w w' → w'.cell? ⟨bk, of + r * 4, none⟩ = some (.int .i64 p0) ∧ w'.cell? ⟨bk, of + r * 4 + 1, none⟩ = some (.int .i64 p1) ∧ w'.cell? ⟨bk, of + r * 4 + 2, none⟩ = some (.string p2) ∧ w'.cell? ⟨bk, of + r * 4 + 3, none⟩ = some (.int .i64 p3) from fun w' f => by
          obtain ⟨b', o', e, hc⟩ := (HR.out.fr f).elem cEnt_len hp (by omega);injection e with e; injection e with e1 e2; subst e1 e2;exact ⟨hc 0 _ rfl, hc 1 _ rfl, hc 2 _ rfl, hc 3 _ rfl⟩)
         clear hp;have z0 := (HP.out _ H.fr).1;have z1 := (HP.out _ H.fr).2.1;have z2 := (HP.out _ H.fr).2.2.1;have z3 := (HP.out _ H.fr).2.2.2;obtain ⟨bb, hbb⟩ : ∃ bb, bb = lesB (p0, p1, p2, p3) y e1 := ⟨_, rfl⟩;have HBB := Lib.hid hbb.symm;clear hbb
         cases bb with
         | false =>
           have HE := Lib.hid (HQ.out.trans (dirB_no HX.out (by rw [HRI.out]; exact ent2_no6 HPX.out HBB.out)));refine wp_region_held_drew (S := fun w' => w'.cell? ⟨g2, 0, none⟩ = some (.int .i64 y) ∧ w'.cell? ⟨g2, 1, none⟩ = some (.int .i64 e1) ∧ w'.cell? ⟨g2, 2, none⟩ = some (.string e2) ∧ w'.cell? ⟨g2, 3, none⟩ = some (.int .i64 e3) ∧ w'.cell? ⟨bk, of + r * 4, none⟩ = some (.int .i64 p0) ∧ w'.cell? ⟨bk, of + r * 4 + 1, none⟩ = some (.int .i64 p1) ∧ w'.cell? ⟨bk, of + r * 4 + 2, none⟩ = some (.string p2) ∧ w'.cell? ⟨bk, of + r * 4 + 3, none⟩ = some (.int .i64 p3)) (by kernel_rfl) ?_ (fun hHeld => ?_)
           ·exact ⟨y0, y1, y2, y3, z0, z1, z2, z3⟩
           obtain ⟨u0, hu0⟩ : ∃ uu : World, uu = (wr.alloc (.cells #[.int .i64 y, .int .i64 e1, .string e2, .int .i64 e3] 90)).drew := ⟨_, rfl⟩;rw [← hu0] at H hHeld ⊢;clear hu0;refine wpT 0 ?_;refine wpT 1 ?_;refine wpC 2 fun K hK => ?_;go_simp;refine (specNameOk_any e2 _ he2).mono ?_;rintro e u1 ⟨rfl, f9⟩;replace H := H.go f9;clear f9;rw [HNM.out];go_wp2_with fail;refine hK.out _ _ ?_ fun hHeld => ?_
           ·exact ⟨H.fa 0 0 rfl rfl, H.fa 0 1 rfl rfl, H.fa 0 2 rfl rfl, H.fa 0 3 rfl rfl, (HP.out _ H.fr).1, (HP.out _ H.fr).2.1, (HP.out _ H.fr).2.2.1, (HP.out _ H.fr).2.2.2⟩
           clear hK K;(try simp only [sX, Act.put]);refine wpT 3 ?_;refine wpT 4 ?_;refine wpT 5 ?_;refine wpT 6 ?_;refine wpT 7 ?_;refine wpT 8 ?_;refine wpC 9 fun K hK => ?_;go_simp;refine (specHashOf_any e2 _ he2).mono ?_;rintro e u2 ⟨rfl, f9⟩;replace H := H.go f9;clear f9;rw [← HY.out];go_wp2_with fail;refine hK.out _ _ ?_ fun hHeld => ?_
           ·exact ⟨H.fa 0 0 rfl rfl, H.fa 0 1 rfl rfl, H.fa 0 2 rfl rfl, H.fa 0 3 rfl rfl, (HP.out _ H.fr).1, (HP.out _ H.fr).2.1, (HP.out _ H.fr).2.2.1, (HP.out _ H.fr).2.2.2⟩
           clear hK K;(try simp only [sX, Act.put]);refine wpT 10 ?_;refine wpT 11 ?_;refine wpT 12 ?_;refine wpT 13 ?_;refine wpT 14 ?_;refine wpC 15 fun K hK => ?_;go_simp;refine (l1In_any e1 0 12 _).mono ?_;rintro e u3 ⟨rfl, hw9⟩;replace H := H.go (show Fr u2 u3 by rw [hw9]; exact Below.refl _ _);clear hw9;rw [HI.out];go_wp2_with fail;refine hK.out _ _ ?_ fun hHeld => ?_
           ·exact ⟨H.fa 0 0 rfl rfl, H.fa 0 1 rfl rfl, H.fa 0 2 rfl rfl, H.fa 0 3 rfl rfl, (HP.out _ H.fr).1, (HP.out _ H.fr).2.1, (HP.out _ H.fr).2.2.1, (HP.out _ H.fr).2.2.2⟩
           clear hK K;(try simp only [sX, Act.put]);refine wpT 16 ?_;refine wpT 17 ?_;refine wpT 18 ?_;refine wpT 19 ?_;refine wpT 20 ?_;refine wpC 21 fun K hK => ?_;go_simp;refine (l1In_any e3 1 100000 _).mono ?_;rintro e u4 ⟨rfl, hw9⟩;replace H := H.go (show Fr u3 u4 by rw [hw9]; exact Below.refl _ _);clear hw9;rw [HD.out];go_wp2_with fail;refine hK.out _ _ ?_ fun hHeld => ?_
           ·exact ⟨H.fa 0 0 rfl rfl, H.fa 0 1 rfl rfl, H.fa 0 2 rfl rfl, H.fa 0 3 rfl rfl, (HP.out _ H.fr).1, (HP.out _ H.fr).2.1, (HP.out _ H.fr).2.2.1, (HP.out _ H.fr).2.2.2⟩
           clear hK K;(try simp only [sX, Act.put]);refine wpT 22 ?_;refine wpT 23 ?_;refine wpT 24 ?_;refine wpT 25 ?_;refine wpT 26 ?_;refine wpT 27 ?_;refine wpT 28 ?_;refine wpT 29 ?_;refine wpT 30 ?_;refine wpT 31 ?_;refine wpT 32 ?_;refine wpT 33 ?_;refine wpT 34 ?_;refine wpT 35 ?_;refine wpT 36 ?_;refine wpC 37 fun K hK => ?_;go_simp;refine (specLess_any p0 p1 p2 p3 y e1 _).mono ?_;rintro e u5 ⟨rfl, f9⟩;replace H := H.go f9;clear f9;rw [HBB.out];go_wp2_with fail;refine hK.out _ _ ?_ fun hHeld => ?_
           ·exact ⟨H.fa 0 0 rfl rfl, H.fa 0 1 rfl rfl, H.fa 0 2 rfl rfl, H.fa 0 3 rfl rfl, (HP.out _ H.fr).1, (HP.out _ H.fr).2.1, (HP.out _ H.fr).2.2.1, (HP.out _ H.fr).2.2.2⟩
           clear hK K;(try simp only [sX, Act.put]);refine wpT 38 ?_;refine wpT 39 ?_;refine wpT 40 ?_;refine wpAnyH_done (by kernel_rfl) ?_ _;go_wp2_with fail;go_ret;rw [HE.out];exact ⟨rfl, H.fr⟩
         | true =>
           have HLAST := Lib.hid (show ∀ p, (d.take i).getLast? = some p → lesB p y e1 = true from fun p hp => by
            rw [HRI.out, last_take HPX.out] at hp;injection hp with hp; subst hp; exact HBB.out)
           refine wp_region_held_drew (S := fun w' => w'.cell? ⟨g2, 0, none⟩ = some (.int .i64 y) ∧ w'.cell? ⟨g2, 1, none⟩ = some (.int .i64 e1) ∧ w'.cell? ⟨g2, 2, none⟩ = some (.string e2) ∧ w'.cell? ⟨g2, 3, none⟩ = some (.int .i64 e3) ∧ w'.cell? ⟨bk, of + r * 4, none⟩ = some (.int .i64 p0) ∧ w'.cell? ⟨bk, of + r * 4 + 1, none⟩ = some (.int .i64 p1) ∧ w'.cell? ⟨bk, of + r * 4 + 2, none⟩ = some (.string p2) ∧ w'.cell? ⟨bk, of + r * 4 + 3, none⟩ = some (.int .i64 p3)) (by kernel_rfl) ?_ (fun hHeld => ?_)
           ·exact ⟨y0, y1, y2, y3, z0, z1, z2, z3⟩
           obtain ⟨u0, hu0⟩ : ∃ uu : World, uu = (wr.alloc (.cells #[.int .i64 y, .int .i64 e1, .string e2, .int .i64 e3] 90)).drew := ⟨_, rfl⟩;rw [← hu0] at H hHeld ⊢;clear hu0;refine wpT 0 ?_;refine wpT 1 ?_;refine wpC 2 fun K hK => ?_;go_simp;refine (specNameOk_any e2 _ he2).mono ?_;rintro e u1 ⟨rfl, f9⟩;replace H := H.go f9;clear f9;rw [HNM.out];go_wp2_with fail;refine hK.out _ _ ?_ fun hHeld => ?_
           ·exact ⟨H.fa 0 0 rfl rfl, H.fa 0 1 rfl rfl, H.fa 0 2 rfl rfl, H.fa 0 3 rfl rfl, (HP.out _ H.fr).1, (HP.out _ H.fr).2.1, (HP.out _ H.fr).2.2.1, (HP.out _ H.fr).2.2.2⟩
           clear hK K;(try simp only [sX, Act.put]);refine wpT 3 ?_;refine wpT 4 ?_;refine wpT 5 ?_;refine wpT 6 ?_;refine wpT 7 ?_;refine wpT 8 ?_;refine wpC 9 fun K hK => ?_;go_simp;refine (specHashOf_any e2 _ he2).mono ?_;rintro e u2 ⟨rfl, f9⟩;replace H := H.go f9;clear f9;rw [← HY.out];go_wp2_with fail;refine hK.out _ _ ?_ fun hHeld => ?_
           ·exact ⟨H.fa 0 0 rfl rfl, H.fa 0 1 rfl rfl, H.fa 0 2 rfl rfl, H.fa 0 3 rfl rfl, (HP.out _ H.fr).1, (HP.out _ H.fr).2.1, (HP.out _ H.fr).2.2.1, (HP.out _ H.fr).2.2.2⟩
           clear hK K;(try simp only [sX, Act.put]);refine wpT 10 ?_;refine wpT 11 ?_;refine wpT 12 ?_;refine wpT 13 ?_;refine wpT 14 ?_;refine wpC 15 fun K hK => ?_;go_simp;refine (l1In_any e1 0 12 _).mono ?_;rintro e u3 ⟨rfl, hw9⟩;replace H := H.go (show Fr u2 u3 by rw [hw9]; exact Below.refl _ _);clear hw9;rw [HI.out];go_wp2_with fail;refine hK.out _ _ ?_ fun hHeld => ?_
           ·exact ⟨H.fa 0 0 rfl rfl, H.fa 0 1 rfl rfl, H.fa 0 2 rfl rfl, H.fa 0 3 rfl rfl, (HP.out _ H.fr).1, (HP.out _ H.fr).2.1, (HP.out _ H.fr).2.2.1, (HP.out _ H.fr).2.2.2⟩
           clear hK K;(try simp only [sX, Act.put]);refine wpT 16 ?_;refine wpT 17 ?_;refine wpT 18 ?_;refine wpT 19 ?_;refine wpT 20 ?_;refine wpC 21 fun K hK => ?_;go_simp;refine (l1In_any e3 1 100000 _).mono ?_;rintro e u4 ⟨rfl, hw9⟩;replace H := H.go (show Fr u3 u4 by rw [hw9]; exact Below.refl _ _);clear hw9;rw [HD.out];go_wp2_with fail;refine hK.out _ _ ?_ fun hHeld => ?_
           ·exact ⟨H.fa 0 0 rfl rfl, H.fa 0 1 rfl rfl, H.fa 0 2 rfl rfl, H.fa 0 3 rfl rfl, (HP.out _ H.fr).1, (HP.out _ H.fr).2.1, (HP.out _ H.fr).2.2.1, (HP.out _ H.fr).2.2.2⟩
           clear hK K;(try simp only [sX, Act.put]);refine wpT 22 ?_;refine wpT 23 ?_;refine wpT 24 ?_;refine wpT 25 ?_;refine wpT 26 ?_;refine wpT 27 ?_;refine wpT 28 ?_;refine wpT 29 ?_;refine wpT 30 ?_;refine wpT 31 ?_;refine wpT 32 ?_;refine wpT 33 ?_;refine wpT 34 ?_;refine wpT 35 ?_;refine wpT 36 ?_;refine wpC 37 fun K hK => ?_;go_simp;refine (specLess_any p0 p1 p2 p3 y e1 _).mono ?_;rintro e u5 ⟨rfl, f9⟩;replace H := H.go f9;clear f9;rw [HBB.out];go_wp2_with fail;refine hK.out _ _ ?_ fun hHeld => ?_
           ·exact ⟨H.fa 0 0 rfl rfl, H.fa 0 1 rfl rfl, H.fa 0 2 rfl rfl, H.fa 0 3 rfl rfl, (HP.out _ H.fr).1, (HP.out _ H.fr).2.1, (HP.out _ H.fr).2.2.1, (HP.out _ H.fr).2.2.2⟩
           clear hK K;(try simp only [sX, Act.put]);refine wpT 38 ?_;refine wpT 39 ?_;refine wpT 40 ?_;refine wpAnyH_done (by kernel_rfl) ?_ _;clear y0 y1 y2 y3 z0 z1 z2 z3;go_wp2_with fail;have H1 := H;clear H
           go_loopw [5] (fun kv wr => ∃ k : Nat, kv = .int .i64 k ∧ k ≤ i ∧ (∀ p ∈ d.take k, aliB (toB p.2.2.1) (toB e2) = false) ∧ Hp [] w wr [.blk g2 90 [.int .i64 y, .int .i64 e1, .string e2, .int .i64 e3]]) (fun kv _ => i - (intOf kv).toNat)
           case atStart => exact ⟨0, rfl, by omega, by simp, H1⟩
           case round =>
            clear H1;obtain ⟨k, rfl, hk, hno, H⟩ := hrel;have HNO := Lib.hid hno;clear hno;have hk0 : (0 : Int) ≤ (k : Int) := by omega
            by_cases hki : k < i
            ·have hki1 : (k : Int) < (i : Int) := by omega
             have hkn1 : (k : Int) < (n : Int) := by omega
             obtain ⟨⟨k0, k1, k2, k3⟩, hkx⟩ := some_at HL.out (show k < n by omega);have hk2 := HSZ.out _ (List.mem_of_getElem? hkx);simp only at hk2;have HKX := Lib.hid hkx;have HC := Lib.hid (show ∀ w', Fr w w' → w'.cell? ⟨bk, of + k * 4 + 2, none⟩ = some (.string k2) from fun w' f => by
              obtain ⟨b', o', e, hc⟩ := (HR.out.fr f).elem cEnt_len hkx (by omega);injection e with e; injection e with e1 e2; subst e1 e2;exact hc 2 _ rfl)
             clear hkx;go_wp2_with fail;replace H := H.drew;have z0 := HC.out _ H.fr;have y2 := H.fa 0 2 rfl rfl;obtain ⟨bb, hbb⟩ : ∃ bb, bb = aliB (toB k2) (toB e2) := ⟨_, rfl⟩;have HBB := Lib.hid hbb.symm;clear hbb;refine wp_region_held_drew (S := fun w' => w'.cell? ⟨bk, of + k * 4 + 2, none⟩ = some (.string k2) ∧ w'.cell? ⟨g2, 2, none⟩ = some (.string e2)) (by kernel_rfl) ?_ (fun hHeld => ?_)
             ·exact ⟨z0, y2⟩
             obtain ⟨u0, hu0⟩ : ∃ uu : World, uu = wr.drew := ⟨_, rfl⟩;rw [← hu0] at H hHeld ⊢;clear hu0;refine wpT 0 ?_;refine wpT 1 ?_;refine wpT 2 ?_;refine wpT 3 ?_;refine wpT 4 ?_;refine wpT 5 ?_;refine wpT 6 ?_;refine wpC 7 fun K hK => ?_;go_simp;refine (specAlike_any k2 e2 _ hk2 he2).mono ?_;rintro e u1 ⟨rfl, f9⟩;replace H := H.go f9;clear f9;rw [HBB.out];go_wp2_with fail;refine hK.out _ _ ?_ fun hHeld => ?_
             ·exact ⟨HC.out _ H.fr, H.fa 0 2 rfl rfl⟩
             clear hK K;(try simp only [sX, Act.put]);refine wpAnyH_done (by kernel_rfl) ?_ _;clear z0 y2
             cases bb with
             | true =>
               have HE := Lib.hid (HQ.out.trans (dirB_no HX.out (ent2_no3 ⟨_, List.mem_of_getElem? (show (d.take i)[k]? = some (k0, k1, k2, k3) by rw [List.getElem?_take_of_lt hki]; exact HKX.out), HBB.out⟩)));go_wp2_with fail;go_ret;rw [HE.out];exact ⟨rfl, H.fr⟩
             | false =>
               have HNO2 := Lib.hid (show ∀ p ∈ d.take (k + 1), aliB (toB p.2.2.1) (toB e2) = false from fun p hp => by
                rw [List.take_add_one, HKX.out] at hp
                rcases List.mem_append.1 hp with h | h
                ·exact HNO.out p h
                ·simp only [Option.toList_some, List.mem_singleton] at h
                 rw [h]; exact HBB.out)
               go_wp2_with fail;go_roundw
               case rel => exact ⟨k + 1, by go_num, by omega, HNO2.out, H⟩
               case measure => simp [intOf]; omega
            ·have hki1 : ¬ (k : Int) < (i : Int) := by omega
             have HT2 := Lib.hid (dirTo_succ HX.out HT.out (ent2_yes HK2.out HH.out (by
              have := HNO.out
              rwa [show k = i by omega] at this) HI.out HD.out HLAST.out))
             have H9 := Lib.hid H.fr;clear H;go_wp2_with fail;go_roundw
             case rel => exact ⟨i + 1, by go_num, by omega, HT2.out, H9.out⟩
             case measure => simp [intOf]; omega
        ·have hi2 : ¬ (0 : Int) < (i : Int) := by omega
         have HRI := Lib.hid (show i = 0 by omega);have HLAST := Lib.hid (show ∀ p, (d.take i).getLast? = some p → lesB p y e1 = true from fun p hp => by
          rw [HRI.out] at hp; simp at hp)
         refine wp_region_held_drew (S := fun w' => w'.cell? ⟨g2, 0, none⟩ = some (.int .i64 y) ∧ w'.cell? ⟨g2, 1, none⟩ = some (.int .i64 e1) ∧ w'.cell? ⟨g2, 2, none⟩ = some (.string e2) ∧ w'.cell? ⟨g2, 3, none⟩ = some (.int .i64 e3)) (by kernel_rfl) ?_ (fun hHeld => ?_)
         ·exact ⟨y0, y1, y2, y3⟩
         obtain ⟨u0, hu0⟩ : ∃ uu : World, uu = (wr.alloc (.cells #[.int .i64 y, .int .i64 e1, .string e2, .int .i64 e3] 90)).drew := ⟨_, rfl⟩;rw [← hu0] at H hHeld ⊢;clear hu0;refine wpT 0 ?_;refine wpT 1 ?_;refine wpC 2 fun K hK => ?_;go_simp;refine (specNameOk_any e2 _ he2).mono ?_;rintro e u1 ⟨rfl, f9⟩;replace H := H.go f9;clear f9;rw [HNM.out];go_wp2_with fail;refine hK.out _ _ ?_ fun hHeld => ?_
         ·exact ⟨H.fa 0 0 rfl rfl, H.fa 0 1 rfl rfl, H.fa 0 2 rfl rfl, H.fa 0 3 rfl rfl⟩
         clear hK K;(try simp only [sX, Act.put]);refine wpT 3 ?_;refine wpT 4 ?_;refine wpT 5 ?_;refine wpT 6 ?_;refine wpT 7 ?_;refine wpT 8 ?_;refine wpC 9 fun K hK => ?_;go_simp;refine (specHashOf_any e2 _ he2).mono ?_;rintro e u2 ⟨rfl, f9⟩;replace H := H.go f9;clear f9;rw [← HY.out];go_wp2_with fail;refine hK.out _ _ ?_ fun hHeld => ?_
         ·exact ⟨H.fa 0 0 rfl rfl, H.fa 0 1 rfl rfl, H.fa 0 2 rfl rfl, H.fa 0 3 rfl rfl⟩
         clear hK K;(try simp only [sX, Act.put]);refine wpT 10 ?_;refine wpT 11 ?_;refine wpT 12 ?_;refine wpT 13 ?_;refine wpT 14 ?_;refine wpC 15 fun K hK => ?_;go_simp;refine (l1In_any e1 0 12 _).mono ?_;rintro e u3 ⟨rfl, hw9⟩;replace H := H.go (show Fr u2 u3 by rw [hw9]; exact Below.refl _ _);clear hw9;rw [HI.out];go_wp2_with fail;refine hK.out _ _ ?_ fun hHeld => ?_
         ·exact ⟨H.fa 0 0 rfl rfl, H.fa 0 1 rfl rfl, H.fa 0 2 rfl rfl, H.fa 0 3 rfl rfl⟩
         clear hK K;(try simp only [sX, Act.put]);refine wpT 16 ?_;refine wpT 17 ?_;refine wpT 18 ?_;refine wpT 19 ?_;refine wpT 20 ?_;refine wpC 21 fun K hK => ?_;go_simp;refine (l1In_any e3 1 100000 _).mono ?_;rintro e u4 ⟨rfl, hw9⟩;replace H := H.go (show Fr u3 u4 by rw [hw9]; exact Below.refl _ _);clear hw9;rw [HD.out];go_wp2_with fail;refine hK.out _ _ ?_ fun hHeld => ?_
         ·exact ⟨H.fa 0 0 rfl rfl, H.fa 0 1 rfl rfl, H.fa 0 2 rfl rfl, H.fa 0 3 rfl rfl⟩
         clear hK K;(try simp only [sX, Act.put]);refine wpT 22 ?_;refine wpT 23 ?_;refine wpT 24 ?_;refine wpT 25 ?_;refine wpT 26 ?_;refine wpT 27 ?_;refine wpS 28 ?_;refine wpS 29 ?_;refine wpS 30 ?_;refine wpS 31 ?_;refine wpS 32 ?_;refine wpS 33 ?_;refine wpS 34 ?_;refine wpS 35 ?_;refine wpS 36 ?_;refine wpS 37 ?_;refine wpS 38 ?_;refine wpT 39 ?_;refine wpT 40 ?_;refine wpAnyH_done (by kernel_rfl) ?_ _;clear y0 y1 y2 y3;go_wp2_with fail;have H1 := H;clear H
         go_loopw [5] (fun kv wr => ∃ k : Nat, kv = .int .i64 k ∧ k ≤ i ∧ (∀ p ∈ d.take k, aliB (toB p.2.2.1) (toB e2) = false) ∧ Hp [] w wr [.blk g2 90 [.int .i64 y, .int .i64 e1, .string e2, .int .i64 e3]]) (fun kv _ => i - (intOf kv).toNat)
         case atStart => exact ⟨0, rfl, by omega, by simp, H1⟩
         case round =>
          clear H1;obtain ⟨k, rfl, hk, hno, H⟩ := hrel;have HNO := Lib.hid hno;clear hno;have hk0 : (0 : Int) ≤ (k : Int) := by omega
          by_cases hki : k < i
          ·have hki1 : (k : Int) < (i : Int) := by omega
           have hkn1 : (k : Int) < (n : Int) := by omega
           obtain ⟨⟨k0, k1, k2, k3⟩, hkx⟩ := some_at HL.out (show k < n by omega);have hk2 := HSZ.out _ (List.mem_of_getElem? hkx);simp only at hk2;have HKX := Lib.hid hkx;have HC := Lib.hid (show ∀ w', Fr w w' → w'.cell? ⟨bk, of + k * 4 + 2, none⟩ = some (.string k2) from fun w' f => by
            obtain ⟨b', o', e, hc⟩ := (HR.out.fr f).elem cEnt_len hkx (by omega);injection e with e; injection e with e1 e2; subst e1 e2;exact hc 2 _ rfl)
           clear hkx;go_wp2_with fail;replace H := H.drew;have z0 := HC.out _ H.fr;have y2 := H.fa 0 2 rfl rfl;obtain ⟨bb, hbb⟩ : ∃ bb, bb = aliB (toB k2) (toB e2) := ⟨_, rfl⟩;have HBB := Lib.hid hbb.symm;clear hbb;refine wp_region_held_drew (S := fun w' => w'.cell? ⟨bk, of + k * 4 + 2, none⟩ = some (.string k2) ∧ w'.cell? ⟨g2, 2, none⟩ = some (.string e2)) (by kernel_rfl) ?_ (fun hHeld => ?_)
           ·exact ⟨z0, y2⟩
           obtain ⟨u0, hu0⟩ : ∃ uu : World, uu = wr.drew := ⟨_, rfl⟩;rw [← hu0] at H hHeld ⊢;clear hu0;refine wpT 0 ?_;refine wpT 1 ?_;refine wpT 2 ?_;refine wpT 3 ?_;refine wpT 4 ?_;refine wpT 5 ?_;refine wpT 6 ?_;refine wpC 7 fun K hK => ?_;go_simp;refine (specAlike_any k2 e2 _ hk2 he2).mono ?_;rintro e u1 ⟨rfl, f9⟩;replace H := H.go f9;clear f9;rw [HBB.out];go_wp2_with fail;refine hK.out _ _ ?_ fun hHeld => ?_
           ·exact ⟨HC.out _ H.fr, H.fa 0 2 rfl rfl⟩
           clear hK K;(try simp only [sX, Act.put]);refine wpAnyH_done (by kernel_rfl) ?_ _;clear z0 y2
           cases bb with
           | true =>
             have HE := Lib.hid (HQ.out.trans (dirB_no HX.out (ent2_no3 ⟨_, List.mem_of_getElem? (show (d.take i)[k]? = some (k0, k1, k2, k3) by rw [List.getElem?_take_of_lt hki]; exact HKX.out), HBB.out⟩)));go_wp2_with fail;go_ret;rw [HE.out];exact ⟨rfl, H.fr⟩
           | false =>
             have HNO2 := Lib.hid (show ∀ p ∈ d.take (k + 1), aliB (toB p.2.2.1) (toB e2) = false from fun p hp => by
              rw [List.take_add_one, HKX.out] at hp
              rcases List.mem_append.1 hp with h | h
              ·exact HNO.out p h
              ·simp only [Option.toList_some, List.mem_singleton] at h
               rw [h]; exact HBB.out)
             go_wp2_with fail;go_roundw
             case rel => exact ⟨k + 1, by go_num, by omega, HNO2.out, H⟩
             case measure => simp [intOf]; omega
          ·have hki1 : ¬ (k : Int) < (i : Int) := by omega
           have HT2 := Lib.hid (dirTo_succ HX.out HT.out (ent2_yes HK2.out HH.out (by
            have := HNO.out
            rwa [show k = i by omega] at this) HI.out HD.out HLAST.out))
           have H9 := Lib.hid H.fr;clear H;go_wp2_with fail;go_roundw
           case rel => exact ⟨i + 1, by go_num, by omega, HT2.out, H9.out⟩
           case measure => simp [intOf]; omega
       ·have HE := Lib.hid (HQ.out.trans (dirB_no HX.out (ent2_no5 h5)))
        have HD := Lib.hid h5;clear h5;go_wp2_with fail;rw [← HG2.out];refine wp_region_held_drew (S := fun w' => w'.cell? ⟨g2, 0, none⟩ = some (.int .i64 y) ∧ w'.cell? ⟨g2, 1, none⟩ = some (.int .i64 e1) ∧ w'.cell? ⟨g2, 2, none⟩ = some (.string e2) ∧ w'.cell? ⟨g2, 3, none⟩ = some (.int .i64 e3)) (by kernel_rfl) ?_ (fun hHeld => ?_)
        ·exact ⟨y0, y1, y2, y3⟩
        obtain ⟨u0, hu0⟩ : ∃ uu : World, uu = (wr.alloc (.cells #[.int .i64 y, .int .i64 e1, .string e2, .int .i64 e3] 90)).drew := ⟨_, rfl⟩;rw [← hu0] at H hHeld ⊢;clear hu0;refine wpT 0 ?_;refine wpT 1 ?_;refine wpC 2 fun K hK => ?_;go_simp;refine (specNameOk_any e2 _ he2).mono ?_;rintro e u1 ⟨rfl, f9⟩;replace H := H.go f9;clear f9;rw [HNM.out];go_wp2_with fail;refine hK.out _ _ ?_ fun hHeld => ?_
        ·exact ⟨H.fa 0 0 rfl rfl, H.fa 0 1 rfl rfl, H.fa 0 2 rfl rfl, H.fa 0 3 rfl rfl⟩
        clear hK K;(try simp only [sX, Act.put]);refine wpT 3 ?_;refine wpT 4 ?_;refine wpT 5 ?_;refine wpT 6 ?_;refine wpT 7 ?_;refine wpT 8 ?_;refine wpC 9 fun K hK => ?_;go_simp;refine (specHashOf_any e2 _ he2).mono ?_;rintro e u2 ⟨rfl, f9⟩;replace H := H.go f9;clear f9;rw [← HY.out];go_wp2_with fail;refine hK.out _ _ ?_ fun hHeld => ?_
        ·exact ⟨H.fa 0 0 rfl rfl, H.fa 0 1 rfl rfl, H.fa 0 2 rfl rfl, H.fa 0 3 rfl rfl⟩
        clear hK K;(try simp only [sX, Act.put]);refine wpT 10 ?_;refine wpT 11 ?_;refine wpT 12 ?_;refine wpT 13 ?_;refine wpT 14 ?_;refine wpC 15 fun K hK => ?_;go_simp;refine (l1In_any e1 0 12 _).mono ?_;rintro e u3 ⟨rfl, hw9⟩;replace H := H.go (show Fr u2 u3 by rw [hw9]; exact Below.refl _ _);clear hw9;rw [HI.out];go_wp2_with fail;refine hK.out _ _ ?_ fun hHeld => ?_
        ·exact ⟨H.fa 0 0 rfl rfl, H.fa 0 1 rfl rfl, H.fa 0 2 rfl rfl, H.fa 0 3 rfl rfl⟩
        clear hK K;(try simp only [sX, Act.put]);refine wpT 16 ?_;refine wpT 17 ?_;refine wpT 18 ?_;refine wpT 19 ?_;refine wpT 20 ?_;refine wpC 21 fun K hK => ?_;go_simp;refine (l1In_any e3 1 100000 _).mono ?_;rintro e u4 ⟨rfl, hw9⟩;replace H := H.go (show Fr u3 u4 by rw [hw9]; exact Below.refl _ _);clear hw9;rw [HD.out];go_wp2_with fail;refine hK.out _ _ ?_ fun hHeld => ?_
        ·exact ⟨H.fa 0 0 rfl rfl, H.fa 0 1 rfl rfl, H.fa 0 2 rfl rfl, H.fa 0 3 rfl rfl⟩
        clear hK K;(try simp only [sX, Act.put]);refine wpT 22 ?_;refine wpT 23 ?_;refine wpT 24 ?_;refine wpS 25 ?_;refine wpS 26 ?_;refine wpS 27 ?_;refine wpS 28 ?_;refine wpS 29 ?_;refine wpS 30 ?_;refine wpS 31 ?_;refine wpS 32 ?_;refine wpS 33 ?_;refine wpS 34 ?_;refine wpS 35 ?_;refine wpS 36 ?_;refine wpS 37 ?_;refine wpS 38 ?_;refine wpS 39 ?_;refine wpT 40 ?_;refine wpAnyH_done (by kernel_rfl) ?_ _;go_wp2_with fail;go_ret;rw [HE.out];exact ⟨rfl, H.fr⟩
      ·have HE := Lib.hid (HQ.out.trans (dirB_no HX.out (ent2_no4 h4)))
       have HI := Lib.hid h4;clear h4;go_wp2_with fail;rw [← HG2.out];refine wp_region_held_drew (S := fun w' => w'.cell? ⟨g2, 0, none⟩ = some (.int .i64 y) ∧ w'.cell? ⟨g2, 1, none⟩ = some (.int .i64 e1) ∧ w'.cell? ⟨g2, 2, none⟩ = some (.string e2) ∧ w'.cell? ⟨g2, 3, none⟩ = some (.int .i64 e3)) (by kernel_rfl) ?_ (fun hHeld => ?_)
       ·exact ⟨y0, y1, y2, y3⟩
       obtain ⟨u0, hu0⟩ : ∃ uu : World, uu = (wr.alloc (.cells #[.int .i64 y, .int .i64 e1, .string e2, .int .i64 e3] 90)).drew := ⟨_, rfl⟩;rw [← hu0] at H hHeld ⊢;clear hu0;refine wpT 0 ?_;refine wpT 1 ?_;refine wpC 2 fun K hK => ?_;go_simp;refine (specNameOk_any e2 _ he2).mono ?_;rintro e u1 ⟨rfl, f9⟩;replace H := H.go f9;clear f9;rw [HNM.out];go_wp2_with fail;refine hK.out _ _ ?_ fun hHeld => ?_
       ·exact ⟨H.fa 0 0 rfl rfl, H.fa 0 1 rfl rfl, H.fa 0 2 rfl rfl, H.fa 0 3 rfl rfl⟩
       clear hK K;(try simp only [sX, Act.put]);refine wpT 3 ?_;refine wpT 4 ?_;refine wpT 5 ?_;refine wpT 6 ?_;refine wpT 7 ?_;refine wpT 8 ?_;refine wpC 9 fun K hK => ?_;go_simp;refine (specHashOf_any e2 _ he2).mono ?_;rintro e u2 ⟨rfl, f9⟩;replace H := H.go f9;clear f9;rw [← HY.out];go_wp2_with fail;refine hK.out _ _ ?_ fun hHeld => ?_
       ·exact ⟨H.fa 0 0 rfl rfl, H.fa 0 1 rfl rfl, H.fa 0 2 rfl rfl, H.fa 0 3 rfl rfl⟩
       clear hK K;(try simp only [sX, Act.put]);refine wpT 10 ?_;refine wpT 11 ?_;refine wpT 12 ?_;refine wpT 13 ?_;refine wpT 14 ?_;refine wpC 15 fun K hK => ?_;go_simp;refine (l1In_any e1 0 12 _).mono ?_;rintro e u3 ⟨rfl, hw9⟩;replace H := H.go (show Fr u2 u3 by rw [hw9]; exact Below.refl _ _);clear hw9;rw [HI.out];go_wp2_with fail;refine hK.out _ _ ?_ fun hHeld => ?_
       ·exact ⟨H.fa 0 0 rfl rfl, H.fa 0 1 rfl rfl, H.fa 0 2 rfl rfl, H.fa 0 3 rfl rfl⟩
       clear hK K;(try simp only [sX, Act.put]);refine wpT 16 ?_;refine wpT 17 ?_;refine wpT 18 ?_;refine wpS 19 ?_;refine wpS 20 ?_;refine wpS 21 ?_;refine wpS 22 ?_;refine wpT 23 ?_;refine wpT 24 ?_;refine wpS 25 ?_;refine wpS 26 ?_;refine wpS 27 ?_;refine wpS 28 ?_;refine wpS 29 ?_;refine wpS 30 ?_;refine wpS 31 ?_;refine wpS 32 ?_;refine wpS 33 ?_;refine wpS 34 ?_;refine wpS 35 ?_;refine wpS 36 ?_;refine wpS 37 ?_;refine wpS 38 ?_;refine wpS 39 ?_;refine wpT 40 ?_;refine wpAnyH_done (by kernel_rfl) ?_ _;go_wp2_with fail;go_ret;rw [HE.out];exact ⟨rfl, H.fr⟩
     ·have HE := Lib.hid (HQ.out.trans (dirB_no HX.out (ent2_no2 (by show e0 ≠ hashN (toB e2); rw [← HY.out]; exact fun h => h2 h.symm))))
      have h2' : (e0 != y) = true := by simpa using fun h => h2 h.symm
      go_wp2_with fail;rw [← HG2.out];refine wp_region_held_drew (S := fun w' => w'.cell? ⟨g2, 0, none⟩ = some (.int .i64 e0) ∧ w'.cell? ⟨g2, 1, none⟩ = some (.int .i64 e1) ∧ w'.cell? ⟨g2, 2, none⟩ = some (.string e2) ∧ w'.cell? ⟨g2, 3, none⟩ = some (.int .i64 e3)) (by kernel_rfl) ?_ (fun hHeld => ?_)
      ·exact ⟨y0, y1, y2, y3⟩
      obtain ⟨u0, hu0⟩ : ∃ uu : World, uu = (wr.alloc (.cells #[.int .i64 e0, .int .i64 e1, .string e2, .int .i64 e3] 90)).drew := ⟨_, rfl⟩;rw [← hu0] at H hHeld ⊢;clear hu0;refine wpT 0 ?_;refine wpT 1 ?_;refine wpC 2 fun K hK => ?_;go_simp;refine (specNameOk_any e2 _ he2).mono ?_;rintro e u1 ⟨rfl, f9⟩;replace H := H.go f9;clear f9;rw [HNM.out];go_wp2_with fail;refine hK.out _ _ ?_ fun hHeld => ?_
      ·exact ⟨H.fa 0 0 rfl rfl, H.fa 0 1 rfl rfl, H.fa 0 2 rfl rfl, H.fa 0 3 rfl rfl⟩
      clear hK K;(try simp only [sX, Act.put]);refine wpT 3 ?_;refine wpT 4 ?_;refine wpT 5 ?_;refine wpT 6 ?_;refine wpT 7 ?_;refine wpT 8 ?_;refine wpC 9 fun K hK => ?_;go_simp;refine (specHashOf_any e2 _ he2).mono ?_;rintro e u2 ⟨rfl, f9⟩;replace H := H.go f9;clear f9;rw [← HY.out];go_wp2_with fail;refine hK.out _ _ ?_ fun hHeld => ?_
      ·exact ⟨H.fa 0 0 rfl rfl, H.fa 0 1 rfl rfl, H.fa 0 2 rfl rfl, H.fa 0 3 rfl rfl⟩
      clear hK K;(try simp only [sX, Act.put]);refine wpT 10 ?_;refine wpT 11 ?_;refine wpT 12 ?_;refine wpS 13 ?_;refine wpS 14 ?_;refine wpS 15 ?_;refine wpS 16 ?_;refine wpT 17 ?_;refine wpT 18 ?_;refine wpS 19 ?_;refine wpS 20 ?_;refine wpS 21 ?_;refine wpS 22 ?_;refine wpT 23 ?_;refine wpT 24 ?_;refine wpS 25 ?_;refine wpS 26 ?_;refine wpS 27 ?_;refine wpS 28 ?_;refine wpS 29 ?_;refine wpS 30 ?_;refine wpS 31 ?_;refine wpS 32 ?_;refine wpS 33 ?_;refine wpS 34 ?_;refine wpS 35 ?_;refine wpS 36 ?_;refine wpS 37 ?_;refine wpS 38 ?_;refine wpS 39 ?_;refine wpT 40 ?_;refine wpAnyH_done (by kernel_rfl) ?_ _;go_wp2_with fail;go_ret;rw [HE.out];exact ⟨rfl, H.fr⟩
  ·have hlt1 : ¬ (i : Int) < (n : Int) := by omega
   have HE := Lib.hid (HQ.out.trans (dirB_yes (by rw [HL.out]; omega) (by
    have := HT.out
    rwa [show i = d.length by rw [HL.out]; omega] at this)))
   go_wp2_with fail;go_ret;rw [HE.out];exact ⟨rfl, HF.out⟩
end Go.Proofs.YtmpldngnkacnmaaGreatDoor
