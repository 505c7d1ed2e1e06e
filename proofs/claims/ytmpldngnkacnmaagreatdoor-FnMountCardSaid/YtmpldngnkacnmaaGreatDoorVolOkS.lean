/-
VolOk of the reference.
-/
import Derived.Test.YtmpldngnkacnmaaGreatDoorGh
import Derived.Test.YtmpldngnkacnmaaGreatDoorInodeOk
import Derived.Test.YtmpldngnkacnmaaGreatDoorGm
namespace Go.Proofs.YtmpldngnkacnmaaGreatDoor
open Go.RowKit
set_option linter.unusedVariables false
set_option linter.unusedSimpArgs false
set_option maxRecDepth 100000 in
set_option maxHeartbeats 8000000 in
theorem specVolOk_any (next : Int) (A : Option Addr) (n c : Nat) (L : List (Value × Nod)) (w : World) (h : RdN w A n L) (hn : n ≤ 1048576) (hnc : n ≤ c) (hfew : FewE L) (hsz : ∀ p ∈ L, ∀ e ∈ p.2.2.2.2.2, e.2.2.1.size ≤ 16777216) :
 Calls Tryz.prog 11 #[.agg #[.int .i64 next, .slice A n c]] w fun e w' => e = .returned (.bool (volB next (nodes L))) ∧ Fr w w' := by
 have HL := Lib.hid h.len;have HNL := Lib.hid (show (nodes L).length = n by rw [nodes_len]; exact h.len);have HR := Lib.hid h;have HFE := Lib.hid hfew;have HSZ := Lib.hid hsz;obtain ⟨q0, hq0⟩ : ∃ q, q = volB next (nodes L) := ⟨_, rfl⟩;rw [← hq0];have HQ := Lib.hid hq0;have H := (Hp.start w).lay_ 28 [.int .i64 next, .slice A n c] rfl;clear hq0 h hfew hsz;have y0 := H.fa 0 0 rfl rfl;have y1 := H.fa 0 1 rfl rfl
 rcases bool_or (inB next 2 100000) with k1 | k1
 case inr =>
  have HE := Lib.hid (HQ.out.trans (volB_no1 (head_no1 k1)));go_enter Tryz.func11, Tryz.ntmps11;go_wp2_with fail;refine (l1In_any next 2 100000 _).mono ?_;rintro e wz ⟨rfl, hw⟩;subst hw;rw [k1];go_wp2_with fail;go_ret;rw [HE.out];exact ⟨rfl, H.fr⟩
 rcases bool_or (inB (n : Int) 1 16) with k2 | k2
 case inr =>
  have HE := Lib.hid (HQ.out.trans (volB_no1 (head_no2 (by rw [HNL.out]; exact k2))));go_enter Tryz.func11, Tryz.ntmps11;go_wp2_with fail;refine (l1In_any next 2 100000 _).mono ?_;rintro e wz ⟨rfl, hw⟩;subst hw;rw [k1];go_wp2_with fail;refine (l1In_any (n : Int) 1 16 _).mono ?_;rintro e wz ⟨rfl, hw⟩;subst hw;rw [k2];go_wp2_with fail;go_ret;rw [HE.out];exact ⟨rfl, H.fr⟩
 have kn := inB_iff.1 k2;have kx := inB_iff.1 k1;have hn0 : 0 < n := by omega
 have hn1 : (0 : Int) < (n : Int) := by omega
 have hn2 : n ≤ 16 := by omega
 obtain ⟨⟨v0, z0, z1, z2, z3, ez⟩, hx0⟩ := some_at HL.out hn0;obtain ⟨bk, of, B0, d0, rfl, e0, _, _⟩ := HR.out.elem hx0;simp only at e0;subst e0;have HN0 := Lib.hid (nodes_at hx0);simp only at HN0;have HC0 := Lib.hid (show ∀ w', Fr w w' → w'.cell? ⟨bk, of, none⟩ = some (.int .i64 z0) ∧ w'.cell? ⟨bk, of + 1, none⟩ = some (.int .i64 z1) from fun w' f => by
  obtain ⟨b', o', _, _, ea, _, _, cc⟩ := (HR.out.fr f).elem hx0;injection ea with ea; injection ea with ea eb; subst ea eb;have c0 := cc 0 _ rfl;have c1 := cc 1 _ rfl;simp only [Nat.zero_mul, Nat.add_zero] at c0 c1;exact ⟨c0, c1⟩)
 clear hx0;have q0' := (HC0.out _ H.fr).1;have q1' := (HC0.out _ H.fr).2;go_enter Tryz.func11, Tryz.ntmps11;go_wp2_with fail;refine (l1In_any next 2 100000 _).mono ?_;rintro e wz ⟨rfl, hw⟩;subst hw;rw [k1];go_wp2_with fail;refine (l1In_any (n : Int) 1 16 _).mono ?_;rintro e wz ⟨rfl, hw⟩;subst hw;rw [k2];have HK1 := Lib.hid k1;have HK2 := Lib.hid k2;clear k1 k2
 by_cases m1 : z0 = 1
 case neg =>
  have m2 : (z0 != 1) = true := by simpa using m1
  have HE := Lib.hid (HQ.out.trans (volB_no1 (head_no3 HN0.out (fun h => m1 h.1))));go_wp2_with fail;go_ret;rw [HE.out];exact ⟨rfl, H.fr⟩
 by_cases m2 : z1 = 2
 case neg =>
  have m3 : (z0 != 1) = false := by simpa using m1
  have m4 : (z1 != 2) = true := by simpa using m2
  have HE := Lib.hid (HQ.out.trans (volB_no1 (head_no3 HN0.out (fun h => m2 h.2))));go_wp2_with fail;go_ret;rw [HE.out];exact ⟨rfl, H.fr⟩
 have HH := Lib.hid (head_yes HK1.out (by rw [HNL.out]; exact HK2.out) HN0.out m1 m2);subst m1 m2;obtain ⟨nx, hnx⟩ : ∃ nx, nx = next - 1 := ⟨_, rfl⟩;have hx1 : next - 1 = nx := hnx.symm;have hx2 : IntKind.i64.wrap (next - 1) = nx := by rw [hnx]; exact IntWalk.i64_in _ (by omega)
 have hx3 : IntKind.i64.wrap nx = nx := IntWalk.i64_in _ (by omega);have HNX := Lib.hid hnx;clear hnx;go_wp2_with fail
 go_loopw [3] (fun iv wr => ∃ i : Nat, iv = .int .i64 i ∧ i ≤ n ∧ nodsTo next (nodes L) i = true ∧ Hp [] w wr [.blk w.heap.size 28 [.int .i64 next, .slice (some ⟨bk, of, none⟩) n c]]) (fun iv _ => n - (intOf iv).toNat)
 case atStart => exact ⟨0, rfl, by omega, rfl, H⟩
 case round =>
  clear H y0 y1 q0' q1';obtain ⟨i, rfl, hi, hto, H⟩ := hrel;have HT := Lib.hid hto;clear hto;have hi0 : (0 : Int) ≤ (i : Int) := by omega
  by_cases hlt : i < n
  ·have hlt1 : (i : Int) < (n : Int) := by omega
   obtain ⟨⟨v, x0, x1, x2, x3, es⟩, hx⟩ := some_at HL.out hlt;have hm := HFE.out _ (List.mem_of_getElem? hx);have HSX := Lib.hid (HSZ.out _ (List.mem_of_getElem? hx));obtain ⟨b', o', B1, d1, ea, e1, rr1, c1⟩ := (HR.out.fr H.fr).elem hx;injection ea with ea; injection ea with ea eb; subst ea eb;simp only at e1 rr1 hm HSX;subst e1;have ca0 := c1 0 _ rfl; simp only [Nat.add_zero] at ca0;have ca1 := c1 1 _ rfl;have ca2 := c1 2 _ rfl;have ca3 := c1 3 _ rfl;have ca4 := c1 4 _ rfl;have HX := Lib.hid (nodes_at hx);simp only at HX;have HRE := Lib.hid (show ∀ w', Fr w w' → Rd w' B1 es.length 4 (es.flatMap cEnt) from fun w' f => by
    obtain ⟨_, _, B2, d2, _, e2, r2, _⟩ := (HR.out.fr f).elem hx;simp only at e2 r2;injection e2 with e2 _ _;subst e2;exact r2)
   have HCE := Lib.hid (show ∀ w', Fr w w' → w'.cell? ⟨bk, of + i * 5, none⟩ = some (.int .i64 x0) ∧ w'.cell? ⟨bk, of + i * 5 + 1, none⟩ = some (.int .i64 x1) ∧ w'.cell? ⟨bk, of + i * 5 + 2, none⟩ = some (.int .i64 x2) ∧ w'.cell? ⟨bk, of + i * 5 + 3, none⟩ = some (.string x3) ∧ w'.cell? ⟨bk, of + i * 5 + 4, none⟩ = some (.slice B1 es.length d1) from fun w' f => by
    obtain ⟨b', o', B2, d2, ea, e2, _, cc⟩ := (HR.out.fr f).elem hx;injection ea with ea; injection ea with ea eb; subst ea eb;simp only at e2;have c4 := cc 4 _ rfl;injection e2 with e2 _ e3;subst e2 e3;exact ⟨cc 0 _ rfl, cc 1 _ rfl, cc 2 _ rfl, cc 3 _ rfl, c4⟩)
   obtain ⟨m, hmm⟩ : ∃ m, m = es.length := ⟨_, rfl⟩;rw [← hmm] at hm ca4 HRE HCE;clear hx c1 rr1 hmm;clear ca0 ca1 ca2 ca3 ca4;have y1 := H.fa 0 1 rfl rfl;go_wp2_with fail;clear y1;replace H := H.drew;have y0 := H.fa 0 0 rfl rfl;have y1 := H.fa 0 1 rfl rfl;have x0y := (HCE.out _ H.fr).1;have x1y := (HCE.out _ H.fr).2.1;have x2y := (HCE.out _ H.fr).2.2.1;have x3y := (HCE.out _ H.fr).2.2.2.1;have x4y := (HCE.out _ H.fr).2.2.2.2;obtain ⟨ob, hob⟩ : ∃ b, nodOk (nodes L) (x0, x1, x2, x3, es) = b := ⟨_, rfl⟩;have HOK := Lib.hid hob;clear hob
   rcases bool_or (inB x0 1 nx) with h4 | h4
   ·have HI := Lib.hid h4
    have HI2 := Lib.hid (show inB x0 1 (next - 1) = true by rw [show next - 1 = nx from HNX.out.symm]; exact h4);clear h4
    by_cases hi1 : 0 < i
    ·have hi2 : (0 : Int) < (i : Int) := by omega
     have hi3 : decide ((0 : Int) < (i : Int)) = true := decide_eq_true hi2;obtain ⟨r, hr1, hr2⟩ : ∃ r : Nat, r + 1 ≤ i ∧ i ≤ r + 1 := ⟨i - 1, by omega, by omega⟩;have hr3 : (i : Int) - 1 = (r : Int) := by omega
     have hr4 : IntKind.i64.wrap ((i : Int) - 1) = (r : Int) := by rw [hr3]; exact IntWalk.i64_in _ (by omega)
     have hr5 : IntKind.i64.wrap (r : Int) = (r : Int) := IntWalk.i64_in _ (by omega);have hr6 : (0 : Int) ≤ (r : Int) := by omega
     have hr7 : (r : Int) < (n : Int) := by omega
     obtain ⟨⟨pv, p0, p1, p2, p3, pe⟩, hp⟩ := some_at HL.out (show r < n by omega);have HPX := Lib.hid (nodes_at hp);simp only at HPX;have HRI := Lib.hid (show i = r + 1 by omega);have HP := Lib.hid (show ∀ w', Fr w w' → w'.cell? ⟨bk, of + r * 5, none⟩ = some (.int .i64 p0) from fun w' f => by
      obtain ⟨b', o', _, _, ea, _, _, cc⟩ := (HR.out.fr f).elem hp;injection ea with ea; injection ea with ea eb; subst ea eb;exact cc 0 _ rfl)
     clear hp
     by_cases hpx : x0 ≤ p0
     ·have hpx1 : decide (x0 ≤ p0) = true := decide_eq_true hpx
      have HE := Lib.hid (HQ.out.trans (volB_no2 (nodsTo_not HX.out (by rw [HRI.out]; exact nodAt_no2 HPX.out hpx))));have zz := HP.out _ H.fr;refine wp_region_held_drew (S := fun w' => w'.cell? ⟨w.heap.size, 0, none⟩ = some (.int .i64 next) ∧ w'.cell? ⟨w.heap.size, 1, none⟩ = some (.slice (some ⟨bk, of, none⟩) n c) ∧ w'.cell? ⟨bk, of + i * 5, none⟩ = some (.int .i64 x0) ∧ w'.cell? ⟨bk, of + i * 5 + 1, none⟩ = some (.int .i64 x1) ∧ w'.cell? ⟨bk, of + i * 5 + 2, none⟩ = some (.int .i64 x2) ∧ w'.cell? ⟨bk, of + i * 5 + 3, none⟩ = some (.string x3) ∧ w'.cell? ⟨bk, of + i * 5 + 4, none⟩ = some (.slice B1 m d1) ∧ w'.cell? ⟨bk, of + r * 5, none⟩ = some (.int .i64 p0)) (by kernel_rfl) ?_ (fun hHeld => ?_)
      ·exact ⟨y0, y1, x0y, x1y, x2y, x3y, x4y, zz⟩
      obtain ⟨u0, hu0⟩ : ∃ uu : World, uu = wr.drew := ⟨_, rfl⟩;rw [← hu0] at H hHeld ⊢;clear hu0;refine wpT 0 ?_;refine wpT 1 ?_;refine wpT 2 ?_;refine wpT 3 ?_;refine wpT 4 ?_;refine wpT 5 ?_;refine wpT 6 ?_;refine wpT 7 ?_;refine wpT 8 ?_;refine wpC 9 fun K hK => ?_;go_simp;refine (l1In_any x0 1 nx _).mono ?_;rintro e u1 ⟨rfl, hw9⟩;replace H := H.go (show Fr u0 u1 by rw [hw9]; exact Below.refl _ _);clear hw9;rw [HI.out];go_wp2_with fail;refine hK.out _ _ ?_ fun hHeld => ?_
      ·exact ⟨H.fa 0 0 rfl rfl, H.fa 0 1 rfl rfl, (HCE.out _ H.fr).1, (HCE.out _ H.fr).2.1, (HCE.out _ H.fr).2.2.1, (HCE.out _ H.fr).2.2.2.1, (HCE.out _ H.fr).2.2.2.2, HP.out _ H.fr⟩
      clear hK K;(try simp only [sX, Act.put]);refine wpT 10 ?_;refine wpT 11 ?_;refine wpT 12 ?_;refine wpT 13 ?_;refine wpT 14 ?_;refine wpT 15 ?_;refine wpT 16 ?_;refine wpT 17 ?_;refine wpT 18 ?_;refine wpT 19 ?_;refine wpT 20 ?_;refine wpT 21 ?_;refine wpT 22 ?_;refine wpT 23 ?_;refine wpT 24 ?_;refine wpT 25 ?_;refine wpT 26 ?_;refine wpT 27 ?_;refine wpT 28 ?_;refine wpT 29 ?_;refine wpT 30 ?_;refine wpT 31 ?_;refine wpS 32 ?_;refine wpS 33 ?_;refine wpS 34 ?_;refine wpS 35 ?_;refine wpS 36 ?_;refine wpS 37 ?_;refine wpS 38 ?_;refine wpS 39 ?_;refine wpT 40 ?_;refine wpAnyH_done (by kernel_rfl) ?_ _;go_wp2_with fail;go_ret;rw [HE.out];exact ⟨rfl, H.fr⟩
     ·have hpx1 : decide (x0 ≤ p0) = false := decide_eq_false hpx
      have HNA := Lib.hid (show nodAt next (nodes L) i (x0, x1, x2, x3, es) = ob by rw [HRI.out, nodAt_s HI2.out HPX.out (by show p0 < x0; omega)]; exact HOK.out);have zz := HP.out _ H.fr;refine wp_region_held_drew (S := fun w' => w'.cell? ⟨w.heap.size, 0, none⟩ = some (.int .i64 next) ∧ w'.cell? ⟨w.heap.size, 1, none⟩ = some (.slice (some ⟨bk, of, none⟩) n c) ∧ w'.cell? ⟨bk, of + i * 5, none⟩ = some (.int .i64 x0) ∧ w'.cell? ⟨bk, of + i * 5 + 1, none⟩ = some (.int .i64 x1) ∧ w'.cell? ⟨bk, of + i * 5 + 2, none⟩ = some (.int .i64 x2) ∧ w'.cell? ⟨bk, of + i * 5 + 3, none⟩ = some (.string x3) ∧ w'.cell? ⟨bk, of + i * 5 + 4, none⟩ = some (.slice B1 m d1) ∧ w'.cell? ⟨bk, of + r * 5, none⟩ = some (.int .i64 p0)) (by kernel_rfl) ?_ (fun hHeld => ?_)
      ·exact ⟨y0, y1, x0y, x1y, x2y, x3y, x4y, zz⟩
      obtain ⟨u0, hu0⟩ : ∃ uu : World, uu = wr.drew := ⟨_, rfl⟩;rw [← hu0] at H hHeld ⊢;clear hu0;refine wpT 0 ?_;refine wpT 1 ?_;refine wpT 2 ?_;refine wpT 3 ?_;refine wpT 4 ?_;refine wpT 5 ?_;refine wpT 6 ?_;refine wpT 7 ?_;refine wpT 8 ?_;refine wpC 9 fun K hK => ?_;go_simp;refine (l1In_any x0 1 nx _).mono ?_;rintro e u1 ⟨rfl, hw9⟩;replace H := H.go (show Fr u0 u1 by rw [hw9]; exact Below.refl _ _);clear hw9;rw [HI.out];go_wp2_with fail;refine hK.out _ _ ?_ fun hHeld => ?_
      ·exact ⟨H.fa 0 0 rfl rfl, H.fa 0 1 rfl rfl, (HCE.out _ H.fr).1, (HCE.out _ H.fr).2.1, (HCE.out _ H.fr).2.2.1, (HCE.out _ H.fr).2.2.2.1, (HCE.out _ H.fr).2.2.2.2, HP.out _ H.fr⟩
      clear hK K;(try simp only [sX, Act.put]);refine wpT 10 ?_;refine wpT 11 ?_;refine wpT 12 ?_;refine wpT 13 ?_;refine wpT 14 ?_;refine wpT 15 ?_;refine wpT 16 ?_;refine wpT 17 ?_;refine wpT 18 ?_;refine wpT 19 ?_;refine wpT 20 ?_;refine wpT 21 ?_;refine wpT 22 ?_;refine wpT 23 ?_;refine wpT 24 ?_;refine wpT 25 ?_;refine wpT 26 ?_;refine wpT 27 ?_;refine wpT 28 ?_;refine wpT 29 ?_;refine wpT 30 ?_;refine wpT 31 ?_;refine wpT 32 ?_;refine wpT 33 ?_;refine wpT 34 ?_;refine wpT 35 ?_;refine wpT 36 ?_;refine wpT 37 ?_;refine wpC 38 fun K hK => ?_;go_simp;refine (specInodeOk_any next (some ⟨bk, of, none⟩) n c L x0 x1 x2 x3 B1 m d1 es _ (HR.out.fr H.fr) hn HFE.out (HRE.out _ H.fr) hm HSX.out).mono ?_;rintro e u2 ⟨rfl, f9⟩;replace H := H.go f9;clear f9;rw [HOK.out];go_wp2_with fail;refine hK.out _ _ ?_ fun hHeld => ?_
      ·exact ⟨H.fa 0 0 rfl rfl, H.fa 0 1 rfl rfl, (HCE.out _ H.fr).1, (HCE.out _ H.fr).2.1, (HCE.out _ H.fr).2.2.1, (HCE.out _ H.fr).2.2.2.1, (HCE.out _ H.fr).2.2.2.2, HP.out _ H.fr⟩
      clear hK K;(try simp only [sX, Act.put]);refine wpT 39 ?_;refine wpT 40 ?_;refine wpAnyH_done (by kernel_rfl) ?_ _;clear zz
      cases ob with
      | false =>
        have HE := Lib.hid (HQ.out.trans (volB_no2 (nodsTo_not HX.out HNA.out)));go_wp2_with fail;go_ret;rw [HE.out];exact ⟨rfl, H.fr⟩
      | true =>
        have HT2 := Lib.hid (nodsTo_succ HX.out HT.out HNA.out);have H9 := Lib.hid H;clear H y0 y1 x0y x1y x2y x3y x4y;go_wp2_with fail;go_roundw
        case rel => exact ⟨i + 1, by go_num, by omega, HT2.out, H9.out⟩
        case measure => simp [intOf]; omega
    ·have hi2 : ¬ (0 : Int) < (i : Int) := by omega
     have hi3 : decide ((0 : Int) < (i : Int)) = false := decide_eq_false hi2;have HNA := Lib.hid (show nodAt next (nodes L) i (x0, x1, x2, x3, es) = ob by rw [show i = 0 by omega, nodAt_0 HI2.out]; exact HOK.out);refine wp_region_held_drew (S := fun w' => w'.cell? ⟨w.heap.size, 0, none⟩ = some (.int .i64 next) ∧ w'.cell? ⟨w.heap.size, 1, none⟩ = some (.slice (some ⟨bk, of, none⟩) n c) ∧ w'.cell? ⟨bk, of + i * 5, none⟩ = some (.int .i64 x0) ∧ w'.cell? ⟨bk, of + i * 5 + 1, none⟩ = some (.int .i64 x1) ∧ w'.cell? ⟨bk, of + i * 5 + 2, none⟩ = some (.int .i64 x2) ∧ w'.cell? ⟨bk, of + i * 5 + 3, none⟩ = some (.string x3) ∧ w'.cell? ⟨bk, of + i * 5 + 4, none⟩ = some (.slice B1 m d1)) (by kernel_rfl) ?_ (fun hHeld => ?_)
     ·exact ⟨y0, y1, x0y, x1y, x2y, x3y, x4y⟩
     obtain ⟨u0, hu0⟩ : ∃ uu : World, uu = wr.drew := ⟨_, rfl⟩;rw [← hu0] at H hHeld ⊢;clear hu0;refine wpT 0 ?_;refine wpT 1 ?_;refine wpT 2 ?_;refine wpT 3 ?_;refine wpT 4 ?_;refine wpT 5 ?_;refine wpT 6 ?_;refine wpT 7 ?_;refine wpT 8 ?_;refine wpC 9 fun K hK => ?_;go_simp;refine (l1In_any x0 1 nx _).mono ?_;rintro e u1 ⟨rfl, hw9⟩;replace H := H.go (show Fr u0 u1 by rw [hw9]; exact Below.refl _ _);clear hw9;rw [HI.out];go_wp2_with fail;refine hK.out _ _ ?_ fun hHeld => ?_
     ·exact ⟨H.fa 0 0 rfl rfl, H.fa 0 1 rfl rfl, (HCE.out _ H.fr).1, (HCE.out _ H.fr).2.1, (HCE.out _ H.fr).2.2.1, (HCE.out _ H.fr).2.2.2.1, (HCE.out _ H.fr).2.2.2.2⟩
     clear hK K;(try simp only [sX, Act.put]);refine wpT 10 ?_;refine wpT 11 ?_;refine wpT 12 ?_;refine wpT 13 ?_;refine wpT 14 ?_;refine wpS 15 ?_;refine wpS 16 ?_;refine wpS 17 ?_;refine wpS 18 ?_;refine wpS 19 ?_;refine wpS 20 ?_;refine wpS 21 ?_;refine wpS 22 ?_;refine wpS 23 ?_;refine wpS 24 ?_;refine wpS 25 ?_;refine wpS 26 ?_;refine wpS 27 ?_;refine wpS 28 ?_;refine wpT 29 ?_;refine wpT 30 ?_;refine wpT 31 ?_;refine wpT 32 ?_;refine wpT 33 ?_;refine wpT 34 ?_;refine wpT 35 ?_;refine wpT 36 ?_;refine wpT 37 ?_;refine wpC 38 fun K hK => ?_;go_simp;refine (specInodeOk_any next (some ⟨bk, of, none⟩) n c L x0 x1 x2 x3 B1 m d1 es _ (HR.out.fr H.fr) hn HFE.out (HRE.out _ H.fr) hm HSX.out).mono ?_;rintro e u2 ⟨rfl, f9⟩;replace H := H.go f9;clear f9;rw [HOK.out];go_wp2_with fail;refine hK.out _ _ ?_ fun hHeld => ?_
     ·exact ⟨H.fa 0 0 rfl rfl, H.fa 0 1 rfl rfl, (HCE.out _ H.fr).1, (HCE.out _ H.fr).2.1, (HCE.out _ H.fr).2.2.1, (HCE.out _ H.fr).2.2.2.1, (HCE.out _ H.fr).2.2.2.2⟩
     clear hK K;(try simp only [sX, Act.put]);refine wpT 39 ?_;refine wpT 40 ?_;refine wpAnyH_done (by kernel_rfl) ?_ _
     cases ob with
     | false =>
       have HE := Lib.hid (HQ.out.trans (volB_no2 (nodsTo_not HX.out HNA.out)));go_wp2_with fail;go_ret;rw [HE.out];exact ⟨rfl, H.fr⟩
     | true =>
       have HT2 := Lib.hid (nodsTo_succ HX.out HT.out HNA.out);have H9 := Lib.hid H;clear H y0 y1 x0y x1y x2y x3y x4y;go_wp2_with fail;go_roundw
       case rel => exact ⟨i + 1, by go_num, by omega, HT2.out, H9.out⟩
       case measure => simp [intOf]; omega
   ·have HI := Lib.hid h4
    have HE := Lib.hid (HQ.out.trans (volB_no2 (nodsTo_not HX.out (nodAt_no1 (by rw [show next - 1 = nx from HNX.out.symm]; exact h4)))));clear h4;refine wp_region_held_drew (S := fun w' => w'.cell? ⟨w.heap.size, 0, none⟩ = some (.int .i64 next) ∧ w'.cell? ⟨w.heap.size, 1, none⟩ = some (.slice (some ⟨bk, of, none⟩) n c) ∧ w'.cell? ⟨bk, of + i * 5, none⟩ = some (.int .i64 x0) ∧ w'.cell? ⟨bk, of + i * 5 + 1, none⟩ = some (.int .i64 x1) ∧ w'.cell? ⟨bk, of + i * 5 + 2, none⟩ = some (.int .i64 x2) ∧ w'.cell? ⟨bk, of + i * 5 + 3, none⟩ = some (.string x3) ∧ w'.cell? ⟨bk, of + i * 5 + 4, none⟩ = some (.slice B1 m d1)) (by kernel_rfl) ?_ (fun hHeld => ?_)
    ·exact ⟨y0, y1, x0y, x1y, x2y, x3y, x4y⟩
    obtain ⟨u0, hu0⟩ : ∃ uu : World, uu = wr.drew := ⟨_, rfl⟩;rw [← hu0] at H hHeld ⊢;clear hu0;refine wpT 0 ?_;refine wpT 1 ?_;refine wpT 2 ?_;refine wpT 3 ?_;refine wpT 4 ?_;refine wpT 5 ?_;refine wpT 6 ?_;refine wpT 7 ?_;refine wpT 8 ?_;refine wpC 9 fun K hK => ?_;go_simp;refine (l1In_any x0 1 nx _).mono ?_;rintro e u1 ⟨rfl, hw9⟩;replace H := H.go (show Fr u0 u1 by rw [hw9]; exact Below.refl _ _);clear hw9;rw [HI.out];go_wp2_with fail;refine hK.out _ _ ?_ fun hHeld => ?_
    ·exact ⟨H.fa 0 0 rfl rfl, H.fa 0 1 rfl rfl, (HCE.out _ H.fr).1, (HCE.out _ H.fr).2.1, (HCE.out _ H.fr).2.2.1, (HCE.out _ H.fr).2.2.2.1, (HCE.out _ H.fr).2.2.2.2⟩
    clear hK K;(try simp only [sX, Act.put]);refine wpT 10 ?_;refine wpT 11 ?_;refine wpS 12 ?_;refine wpS 13 ?_;refine wpS 14 ?_;refine wpS 15 ?_;refine wpS 16 ?_;refine wpS 17 ?_;refine wpS 18 ?_;refine wpS 19 ?_;refine wpS 20 ?_;refine wpS 21 ?_;refine wpS 22 ?_;refine wpS 23 ?_;refine wpS 24 ?_;refine wpS 25 ?_;refine wpS 26 ?_;refine wpS 27 ?_;refine wpS 28 ?_;refine wpS 29 ?_;refine wpT 30 ?_;refine wpT 31 ?_;refine wpS 32 ?_;refine wpS 33 ?_;refine wpS 34 ?_;refine wpS 35 ?_;refine wpS 36 ?_;refine wpS 37 ?_;refine wpS 38 ?_;refine wpS 39 ?_;refine wpT 40 ?_;refine wpAnyH_done (by kernel_rfl) ?_ _;go_wp2_with fail;go_ret;rw [HE.out];exact ⟨rfl, H.fr⟩
  ·have hlt1 : ¬ (i : Int) < (n : Int) := by omega
   have y1 := H.fa 0 1 rfl rfl;clear y1;have HNT := Lib.hid (show nodsTo next (nodes L) (nodes L).length = true by
    have := HT.out
    rwa [show i = (nodes L).length by rw [HNL.out]; omega] at this)
   have HD := Lib.hid (HQ.out.trans (volB_end HH.out HNT.out));have HRN := Lib.hid (fun (i : Nat) (x : Nod) (hx : (nodes L)[i]? = some x) => rounds_no (nodsTo_sorted HNT.out) (a := 1) hx);have y0 := H.fa 0 0 rfl rfl;have y1 := H.fa 0 1 rfl rfl;go_wp2_with fail;refine (specBelow_any next (some ⟨bk, of, none⟩) n c L 1 _ (HR.out.fr H.fr) hn HFE.out).mono ?_;rintro e wb ⟨B, d, rfl, ho, fb⟩;obtain ⟨bs, hbs⟩ : ∃ x, x = belowS (nodes L) 1 := ⟨_, rfl⟩;rw [← hbs] at ho HRN;have HRB := Lib.hid (Rd.of_own ho);have HFB := Lib.hid (H.fr.then fb);clear H ho fb y0 y1 hbs;go_wp2_with fail
   go_loopw [5] (fun kv wr => ∃ k : Nat, kv = .int .i64 k ∧ 1 ≤ k ∧ k ≤ n ∧ (∀ x ∈ ((nodes L).take k).drop 1, blwB (nodes L) 1 x.1 = true) ∧ wr = wb) (fun kv _ => n - (intOf kv).toNat)
   case atStart => exact ⟨1, rfl, by omega, by omega, by simp, rfl⟩
   case round =>
    obtain ⟨k, rfl, hk1, hkn, hall, rfl⟩ := hrel;have HA := Lib.hid hall;clear hall;have hk0 : (0 : Int) ≤ (k : Int) := by omega
    by_cases hkt : k < n
    ·have hk2 : (k : Int) < (n : Int) := by omega
     obtain ⟨x, hx⟩ : ∃ x, (nodes L)[k]? = some x := ⟨_, List.getElem?_eq_getElem (by rw [HNL.out]; exact hkt)⟩;have hb := HRN.out k x hx;obtain ⟨bb, hbb⟩ : ∃ b, b = blwB (nodes L) 1 x.1 := ⟨_, rfl⟩;rw [← hbb] at hb;obtain ⟨bq, oq, rfl, cb⟩ := HRB.out.get1 hb;have HX := Lib.hid hx;have HBB := Lib.hid hbb;clear hx hb hbb
     cases bb with
     | false =>
       have HE := Lib.hid (HD.out.trans (show _ = false by
        rw [List.all_eq_false];refine ⟨x, ?_, by rw [← HBB.out]; simp⟩;rw [List.mem_drop_iff_getElem];obtain ⟨hkl, hxe⟩ := List.getElem?_eq_some_iff.1 HX.out;exact ⟨k - 1, by omega, by simpa [show 1 + (k - 1) = k by omega] using hxe⟩))
       go_wp2_with fail;go_ret;rw [HE.out];exact ⟨rfl, HFB.out⟩
     | true =>
       have HA2 := Lib.hid (show ∀ y ∈ ((nodes L).take (k + 1)).drop 1, blwB (nodes L) 1 y.1 = true from fun y hy => by
        rw [List.take_add_one, HX.out, List.drop_append_of_le_length (by rw [List.length_take, HNL.out]; omega)] at hy
        rcases List.mem_append.1 hy with h | h
        ·exact HA.out y h
        ·simp only [Option.toList_some, List.mem_singleton] at h
         rw [h, ← HBB.out])
       go_wp2_with fail;go_roundw
       case rel => exact ⟨k + 1, by go_num, by omega, by omega, HA2.out, by trivial⟩
       case measure => simp [intOf]; omega
    ·have hk2 : ¬ (k : Int) < (n : Int) := by omega
     have HE := Lib.hid (HD.out.trans (show _ = true by
      rw [List.all_eq_true];have := HA.out
      rwa [List.take_of_length_le (by rw [HNL.out]; omega)] at this))
     go_wp2_with fail;go_ret;rw [HE.out];exact ⟨rfl, HFB.out⟩
end Go.Proofs.YtmpldngnkacnmaaGreatDoor
