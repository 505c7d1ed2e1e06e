/-
VolOk of the program.
-/
import Derived.Test.YtmpldngnkacnmaaGreatDoorInodeOk
import Derived.Test.YtmpldngnkacnmaaGreatDoorGk
import Derived.Test.YtmpldngnkacnmaaGreatDoorGh
namespace Go.Proofs.YtmpldngnkacnmaaGreatDoor
open Go.RowKit
set_option linter.unusedVariables false
set_option linter.unusedSimpArgs false
theorem drop_nodes (L : List (Value × Nod)) : (nodes L).drop 1 = (L.drop 1).map (·.2) := by rw [nodes, List.map_drop]
theorem RdN.tail1 {w : World} {bk of n : Nat} {L : List (Value × Nod)} (h : RdN w (some ⟨bk, of, none⟩) n L) : RdN w (some ⟨bk, of + 5, none⟩) (n - 1) (L.drop 1) := by
 have hl := h.len;refine ⟨⟨?_, fun hn => ⟨bk, of + 5, rfl, fun j u hu => ?_⟩⟩, fun p hp => h.inn p (List.mem_of_mem_drop hp)⟩
 ·rw [List.length_flatMap]
  have : ((L.drop 1).map fun a => (cNV a).length) = List.replicate (n - 1) 5 := by
   rw [List.eq_replicate_iff];refine ⟨by simp; omega, fun b hb => ?_⟩;obtain ⟨a, _, e⟩ := List.mem_map.1 hb;rw [← e]; rfl
  rw [this]; simp
 ·cases L with
  | nil => simp at hu
  | cons p L =>
    obtain ⟨b, o, e, hc⟩ := h.out.2 (by omega);injection e with e; injection e with e1 e2; subst e1 e2;have hu2 : (List.flatMap cNV (p :: L))[5 + j]? = some u := by
     rw [List.flatMap_cons, List.getElem?_append_right (by rw [cNV_len]; omega), cNV_len];simpa using hu
    have := hc _ _ hu2
    rwa [← Nat.add_assoc] at this
set_option maxRecDepth 100000 in
set_option maxHeartbeats 1000000 in
theorem volC_any (x0 x1 x2 : Int) (x3 : ByteArray) (v : Value) (B : Option Addr) (d : Nat) (out : List Int) (gb : Nat) (w : World) (hv : v.oneCell' = true) (hr : Rd w B out.length 1 (out.map (Value.int .i64))) (hc : w.cell? ⟨gb, 0, none⟩ = some (.slice B out.length d)) (hl : out.length ≤ 1048576) :
 Calls Tryz.prog 81 #[.agg #[.int .i64 x0, .int .i64 x1, .int .i64 x2, .string x3, v], .pointer (some ⟨gb, 0, none⟩)] w fun e w' => e = .returned (.bool (!decide (x0 ∈ out))) ∧ Fr w w' := by
 have H := (Hp.start w).lay_ 53 [.int .i64 x0, .int .i64 x1, .int .i64 x2, .string x3, v] rfl;have F := Lib.hid H.fr;have k0 := fr_cellM F.out hc;have HR := Lib.hid (hr.fr F.out);obtain ⟨b, hb⟩ : ∃ b, b = decide (x0 ∈ out) := ⟨_, rfl⟩;rw [← hb];have HB := Lib.hid hb;clear hr hc H hb;go_enter Tryz.func81, Tryz.ntmps81;go_wp2_with fail;refine (containsI_any B out.length d out x0 _ HR.out hl).mono ?_;rintro e w2 ⟨rfl, hw⟩;subst hw;rw [← HB.out];go_wp2_with fail;go_ret;exact ⟨rfl, F.out⟩
set_option maxRecDepth 100000 in
set_option maxHeartbeats 8000000 in
theorem implVolOk_any (next : Int) (A : Option Addr) (n c : Nat) (L : List (Value × Nod)) (w : World) (h : RdN w A n L) (hn : n ≤ 1048576) (hnc : n ≤ c) (hfew : FewE L) (hsz : ∀ p ∈ L, ∀ e ∈ p.2.2.2.2.2, e.2.2.1.size ≤ 16777216) (hk : KT w) :
 Calls Tryz.prog 42 #[.agg #[.int .i64 next, .slice A n c]] w fun e w' => e = .returned (.bool (volB next (nodes L))) ∧ Fr w w' := by
 have HL := Lib.hid h.len;have HNL := Lib.hid (show (nodes L).length = n by rw [nodes_len]; exact h.len);have HR := Lib.hid h;have HFE := Lib.hid hfew;have HSZ := Lib.hid hsz;have HK := Lib.hid hk;clear hk;obtain ⟨q0, hq0⟩ : ∃ q, q = volB next (nodes L) := ⟨_, rfl⟩;rw [← hq0];have HQ := Lib.hid hq0;have H := (Hp.start w).lay_ 28 [.int .i64 next, .slice A n c] rfl;clear hq0 h hfew hsz;have y0 := H.fa 0 0 rfl rfl;have y1 := H.fa 0 1 rfl rfl
 rcases bool_or (inB next 2 100000) with k1 | k1
 case inr =>
  have HE := Lib.hid (HQ.out.trans (volB_no1 (head_no1 k1)));go_enter Tryz.func42, Tryz.ntmps42;go_wp2_with fail;refine (within_any next 2 100000 _).mono ?_;rintro e wz ⟨rfl, hw⟩;subst hw;rw [k1];go_wp2_with fail;go_ret;rw [HE.out];exact ⟨rfl, H.fr⟩
 rcases bool_or (inB (n : Int) 1 16) with k2 | k2
 case inr =>
  have HE := Lib.hid (HQ.out.trans (volB_no1 (head_no2 (by rw [HNL.out]; exact k2))));go_enter Tryz.func42, Tryz.ntmps42;go_wp2_with fail;refine (within_any next 2 100000 _).mono ?_;rintro e wz ⟨rfl, hw⟩;subst hw;rw [k1];go_wp2_with fail;refine (within_any (n : Int) 1 16 _).mono ?_;rintro e wz ⟨rfl, hw⟩;subst hw;rw [k2];go_wp2_with fail;go_ret;rw [HE.out];exact ⟨rfl, H.fr⟩
 have kn := inB_iff.1 k2;have kx := inB_iff.1 k1;have hn0 : 0 < n := by omega
 have hn1 : (0 : Int) < (n : Int) := by omega
 have hn2 : n ≤ 16 := by omega
 obtain ⟨⟨v0, z0, z1, z2, z3, ez⟩, hx0⟩ := some_at HL.out hn0;obtain ⟨bk, of, B0, d0, rfl, e0, _, _⟩ := HR.out.elem hx0;simp only at e0;subst e0;have HN0 := Lib.hid (nodes_at hx0);simp only at HN0;have HC0 := Lib.hid (show ∀ w', Fr w w' → w'.cell? ⟨bk, of, none⟩ = some (.int .i64 z0) ∧ w'.cell? ⟨bk, of + 1, none⟩ = some (.int .i64 z1) from fun w' f => by
  obtain ⟨b', o', _, _, ea, _, _, cc⟩ := (HR.out.fr f).elem hx0;injection ea with ea; injection ea with ea eb; subst ea eb;have c0 := cc 0 _ rfl;have c1 := cc 1 _ rfl;simp only [Nat.zero_mul, Nat.add_zero] at c0 c1;exact ⟨c0, c1⟩)
 clear hx0;have q0' := (HC0.out _ H.fr).1;have q1' := (HC0.out _ H.fr).2;go_enter Tryz.func42, Tryz.ntmps42;go_wp2_with fail;refine (within_any next 2 100000 _).mono ?_;rintro e wz ⟨rfl, hw⟩;subst hw;rw [k1];go_wp2_with fail;refine (within_any (n : Int) 1 16 _).mono ?_;rintro e wz ⟨rfl, hw⟩;subst hw;rw [k2];have HK1 := Lib.hid k1;have HK2 := Lib.hid k2;clear k1 k2
 by_cases m1 : z0 = 1
 case neg =>
  have m2 : (z0 != 1) = true := by simpa using m1
  have HE := Lib.hid (HQ.out.trans (volB_no1 (head_no3 HN0.out (fun h => m1 h.1))));go_wp2_with fail;go_ret;rw [HE.out];exact ⟨rfl, H.fr⟩
 by_cases m2 : z1 = 2
 case neg =>
  have m3 : (z0 != 1) = false := by simpa using m1
  have m4 : (z1 != 2) = true := by simpa using m2
  have HE := Lib.hid (HQ.out.trans (volB_no1 (head_no3 HN0.out (fun h => m2 h.2))));go_wp2_with fail;go_ret;rw [HE.out];exact ⟨rfl, H.fr⟩
 have HH := Lib.hid (head_yes HK1.out (by rw [HNL.out]; exact HK2.out) HN0.out m1 m2);subst m1 m2;obtain ⟨nx, hnx⟩ : ∃ nx, nx = next - 1 := ⟨_, rfl⟩;have hx1 : next - 1 = nx := hnx.symm;have hx2 : IntKind.i64.wrap (next - 1) = nx := by rw [hnx]; exact IntWalk.i64_in _ (by omega)
 have hx3 : IntKind.i64.wrap nx = nx := IntWalk.i64_in _ (by omega);have HNX := Lib.hid hnx;clear hnx;go_wp2_with fail
 go_loopw [38] (fun iv wr => ∃ i : Nat, iv = .int .i64 i ∧ i ≤ n ∧ nodsTo next (nodes L) i = true ∧ Hp [] w wr [.blk w.heap.size 28 [.int .i64 next, .slice (some ⟨bk, of, none⟩) n c]]) (fun iv _ => n - (intOf iv).toNat)
 case atStart => exact ⟨0, rfl, by omega, rfl, H⟩
 case round =>
  clear H y0 y1 q0' q1';obtain ⟨i, rfl, hi, hto, H⟩ := hrel;have HT := Lib.hid hto;clear hto;have hi0 : (0 : Int) ≤ (i : Int) := by omega
  by_cases hlt : i < n
  ·have hlt1 : (i : Int) < (n : Int) := by omega
   obtain ⟨⟨v, x0, x1, x2, x3, es⟩, hx⟩ := some_at HL.out hlt;have hm := HFE.out _ (List.mem_of_getElem? hx);have HSX := Lib.hid (HSZ.out _ (List.mem_of_getElem? hx));obtain ⟨b', o', B1, d1, ea, e1, rr1, c1⟩ := (HR.out.fr H.fr).elem hx;injection ea with ea; injection ea with ea eb; subst ea eb;simp only at e1 rr1 hm HSX;subst e1;have ca0 := c1 0 _ rfl; simp only [Nat.add_zero] at ca0;have ca1 := c1 1 _ rfl;have ca2 := c1 2 _ rfl;have ca3 := c1 3 _ rfl;have ca4 := c1 4 _ rfl;have HX := Lib.hid (nodes_at hx);simp only at HX;have HRE := Lib.hid (show ∀ w', Fr w w' → Rd w' B1 es.length 4 (es.flatMap cEnt) from fun w' f => by
    obtain ⟨_, _, B2, d2, _, e2, r2, _⟩ := (HR.out.fr f).elem hx;simp only at e2 r2;injection e2 with e2 _ _;subst e2;exact r2)
   have HCE := Lib.hid (show ∀ w', Fr w w' → w'.cell? ⟨bk, of + i * 5, none⟩ = some (.int .i64 x0) ∧ w'.cell? ⟨bk, of + i * 5 + 1, none⟩ = some (.int .i64 x1) ∧ w'.cell? ⟨bk, of + i * 5 + 2, none⟩ = some (.int .i64 x2) ∧ w'.cell? ⟨bk, of + i * 5 + 3, none⟩ = some (.string x3) ∧ w'.cell? ⟨bk, of + i * 5 + 4, none⟩ = some (.slice B1 es.length d1) from fun w' f => by
    obtain ⟨b', o', B2, d2, ea, e2, _, cc⟩ := (HR.out.fr f).elem hx;injection ea with ea; injection ea with ea eb; subst ea eb;simp only at e2;have c4 := cc 4 _ rfl;injection e2 with e2 _ e3;subst e2 e3;exact ⟨cc 0 _ rfl, cc 1 _ rfl, cc 2 _ rfl, cc 3 _ rfl, c4⟩)
   obtain ⟨m, hmm⟩ : ∃ m, m = es.length := ⟨_, rfl⟩;rw [← hmm] at hm ca4 HRE HCE;clear hx c1 rr1 hmm;go_wp2_with fail;have H2 := (H.lay_ 53 [.int .i64 x0, .int .i64 x1, .int .i64 x2, .string x3, .slice B1 m d1] rfl).drew;obtain ⟨gx, hgx⟩ : ∃ x, x = wr.heap.size := ⟨_, rfl⟩;rw [← hgx] at H2 ⊢;have HGX := Lib.hid hgx;clear hgx H ca0 ca1 ca2 ca3 ca4;have H := H2;clear H2;have y0 := H.fa 1 0 rfl rfl;have y1 := H.fa 1 1 rfl rfl;have x0y := H.fa 0 0 rfl rfl;have x1y := H.fa 0 1 rfl rfl;have x2y := H.fa 0 2 rfl rfl;have x3y := H.fa 0 3 rfl rfl;have x4y := H.fa 0 4 rfl rfl;obtain ⟨ob, hob⟩ : ∃ b, nodOk (nodes L) (x0, x1, x2, x3, es) = b := ⟨_, rfl⟩;have HOK := Lib.hid hob;clear hob
   rcases bool_or (inB x0 1 nx) with h4 | h4
   ·have HI := Lib.hid h4
    have HI2 := Lib.hid (show inB x0 1 (next - 1) = true by rw [show next - 1 = nx from HNX.out.symm]; exact h4);clear h4
    by_cases hi1 : 0 < i
    ·have hi2 : (0 : Int) < (i : Int) := by omega
     have hi3 : decide ((0 : Int) < (i : Int)) = true := decide_eq_true hi2;obtain ⟨r, hr1, hr2⟩ : ∃ r : Nat, r + 1 ≤ i ∧ i ≤ r + 1 := ⟨i - 1, by omega, by omega⟩;have hr3 : (i : Int) - 1 = (r : Int) := by omega
     have hr4 : IntKind.i64.wrap ((i : Int) - 1) = (r : Int) := by rw [hr3]; exact IntWalk.i64_in _ (by omega)
     have hr5 : IntKind.i64.wrap (r : Int) = (r : Int) := IntWalk.i64_in _ (by omega);have hr6 : (0 : Int) ≤ (r : Int) := by omega
     have hr7 : (r : Int) < (n : Int) := by omega
     obtain ⟨⟨pv, p0, p1, p2, p3, pe⟩, hp⟩ := some_at HL.out (show r < n by omega);have HPX := Lib.hid (nodes_at hp);simp only at HPX;have HRI := Lib.hid (show i = r + 1 by omega);have HP := Lib.hid (show ∀ w', Fr w w' → w'.cell? ⟨bk, of + r * 5, none⟩ = some (.int .i64 p0) from fun w' f => by
      obtain ⟨b', o', _, _, ea, _, _, cc⟩ := (HR.out.fr f).elem hp;injection ea with ea; injection ea with ea eb; subst ea eb;exact cc 0 _ rfl)
     clear hp
     by_cases hpx : x0 ≤ p0
     ·have hpx1 : decide (x0 ≤ p0) = true := decide_eq_true hpx
      have HE := Lib.hid (HQ.out.trans (volB_no2 (nodsTo_not HX.out (by rw [HRI.out]; exact nodAt_no2 HPX.out hpx))));have zz := HP.out _ H.fr;refine wp_region_held_drew (S := fun w' => w'.cell? ⟨w.heap.size, 0, none⟩ = some (.int .i64 next) ∧ w'.cell? ⟨w.heap.size, 1, none⟩ = some (.slice (some ⟨bk, of, none⟩) n c) ∧ w'.cell? ⟨gx, 0, none⟩ = some (.int .i64 x0) ∧ w'.cell? ⟨gx, 1, none⟩ = some (.int .i64 x1) ∧ w'.cell? ⟨gx, 2, none⟩ = some (.int .i64 x2) ∧ w'.cell? ⟨gx, 3, none⟩ = some (.string x3) ∧ w'.cell? ⟨gx, 4, none⟩ = some (.slice B1 m d1) ∧ w'.cell? ⟨bk, of + r * 5, none⟩ = some (.int .i64 p0)) (by kernel_rfl) ?_ (fun hHeld => ?_)
      ·exact ⟨y0, y1, x0y, x1y, x2y, x3y, x4y, zz⟩
      obtain ⟨u0, hu0⟩ : ∃ uu : World, uu = (wr.alloc (.cells #[.int .i64 x0, .int .i64 x1, .int .i64 x2, .string x3, .slice B1 m d1] 53)).drew := ⟨_, rfl⟩;rw [← hu0] at H hHeld ⊢;clear hu0;refine wpT 0 ?_;refine wpT 1 ?_;refine wpT 2 ?_;refine wpT 3 ?_;refine wpT 4 ?_;refine wpC 5 fun K hK => ?_;go_simp;refine (within_any x0 1 nx _).mono ?_;rintro e u1 ⟨rfl, hw9⟩;replace H := H.go (show Fr u0 u1 by rw [hw9]; exact Below.refl _ _);clear hw9;rw [HI.out];go_wp2_with fail;refine hK.out _ _ ?_ fun hHeld => ?_
      ·exact ⟨H.fa 1 0 rfl rfl, H.fa 1 1 rfl rfl, H.fa 0 0 rfl rfl, H.fa 0 1 rfl rfl, H.fa 0 2 rfl rfl, H.fa 0 3 rfl rfl, H.fa 0 4 rfl rfl, HP.out _ H.fr⟩
      clear hK K;(try simp only [sX, Act.put]);refine wpT 6 ?_;refine wpT 7 ?_;refine wpT 8 ?_;refine wpT 9 ?_;refine wpT 10 ?_;refine wpT 11 ?_;refine wpT 12 ?_;refine wpT 13 ?_;refine wpT 14 ?_;refine wpT 15 ?_;refine wpT 16 ?_;refine wpT 17 ?_;refine wpT 18 ?_;refine wpT 19 ?_;refine wpT 20 ?_;refine wpT 21 ?_;refine wpT 22 ?_;refine wpT 23 ?_;refine wpS 24 ?_;refine wpS 25 ?_;refine wpS 26 ?_;refine wpS 27 ?_;refine wpT 28 ?_;refine wpAnyH_done (by kernel_rfl) ?_ _;go_wp2_with fail;go_ret;rw [HE.out];exact ⟨rfl, H.fr⟩
     ·have hpx1 : decide (x0 ≤ p0) = false := decide_eq_false hpx
      have HNA := Lib.hid (show nodAt next (nodes L) i (x0, x1, x2, x3, es) = ob by rw [HRI.out, nodAt_s HI2.out HPX.out (by show p0 < x0; omega)]; exact HOK.out);have zz := HP.out _ H.fr;refine wp_region_held_drew (S := fun w' => w'.cell? ⟨w.heap.size, 0, none⟩ = some (.int .i64 next) ∧ w'.cell? ⟨w.heap.size, 1, none⟩ = some (.slice (some ⟨bk, of, none⟩) n c) ∧ w'.cell? ⟨gx, 0, none⟩ = some (.int .i64 x0) ∧ w'.cell? ⟨gx, 1, none⟩ = some (.int .i64 x1) ∧ w'.cell? ⟨gx, 2, none⟩ = some (.int .i64 x2) ∧ w'.cell? ⟨gx, 3, none⟩ = some (.string x3) ∧ w'.cell? ⟨gx, 4, none⟩ = some (.slice B1 m d1) ∧ w'.cell? ⟨bk, of + r * 5, none⟩ = some (.int .i64 p0)) (by kernel_rfl) ?_ (fun hHeld => ?_)
      ·exact ⟨y0, y1, x0y, x1y, x2y, x3y, x4y, zz⟩
      obtain ⟨u0, hu0⟩ : ∃ uu : World, uu = (wr.alloc (.cells #[.int .i64 x0, .int .i64 x1, .int .i64 x2, .string x3, .slice B1 m d1] 53)).drew := ⟨_, rfl⟩;rw [← hu0] at H hHeld ⊢;clear hu0;refine wpT 0 ?_;refine wpT 1 ?_;refine wpT 2 ?_;refine wpT 3 ?_;refine wpT 4 ?_;refine wpC 5 fun K hK => ?_;go_simp;refine (within_any x0 1 nx _).mono ?_;rintro e u1 ⟨rfl, hw9⟩;replace H := H.go (show Fr u0 u1 by rw [hw9]; exact Below.refl _ _);clear hw9;rw [HI.out];go_wp2_with fail;refine hK.out _ _ ?_ fun hHeld => ?_
      ·exact ⟨H.fa 1 0 rfl rfl, H.fa 1 1 rfl rfl, H.fa 0 0 rfl rfl, H.fa 0 1 rfl rfl, H.fa 0 2 rfl rfl, H.fa 0 3 rfl rfl, H.fa 0 4 rfl rfl, HP.out _ H.fr⟩
      clear hK K;(try simp only [sX, Act.put]);refine wpT 6 ?_;refine wpT 7 ?_;refine wpT 8 ?_;refine wpT 9 ?_;refine wpT 10 ?_;refine wpT 11 ?_;refine wpT 12 ?_;refine wpT 13 ?_;refine wpT 14 ?_;refine wpT 15 ?_;refine wpT 16 ?_;refine wpT 17 ?_;refine wpT 18 ?_;refine wpT 19 ?_;refine wpT 20 ?_;refine wpT 21 ?_;refine wpT 22 ?_;refine wpT 23 ?_;refine wpT 24 ?_;refine wpT 25 ?_;refine wpC 26 fun K hK => ?_;go_simp;refine (implInodeOk_any next (some ⟨bk, of, none⟩) n c L x0 x1 x2 x3 B1 m d1 es _ (HR.out.fr H.fr) hn HFE.out (HRE.out _ H.fr) hm HSX.out (HK.out.fr H.fr)).mono ?_;rintro e u2 ⟨rfl, f9⟩;replace H := H.go f9;clear f9;rw [HOK.out];go_wp2_with fail;refine hK.out _ _ ?_ fun hHeld => ?_
      ·exact ⟨H.fa 1 0 rfl rfl, H.fa 1 1 rfl rfl, H.fa 0 0 rfl rfl, H.fa 0 1 rfl rfl, H.fa 0 2 rfl rfl, H.fa 0 3 rfl rfl, H.fa 0 4 rfl rfl, HP.out _ H.fr⟩
      clear hK K;(try simp only [sX, Act.put]);refine wpT 27 ?_;refine wpT 28 ?_;refine wpAnyH_done (by kernel_rfl) ?_ _;clear zz
      cases ob with
      | false =>
        have HE := Lib.hid (HQ.out.trans (volB_no2 (nodsTo_not HX.out HNA.out)));go_wp2_with fail;go_ret;rw [HE.out];exact ⟨rfl, H.fr⟩
      | true =>
        have HT2 := Lib.hid (nodsTo_succ HX.out HT.out HNA.out);have H9 := Lib.hid H.tail;clear H y0 y1 x0y x1y x2y x3y x4y;go_wp2_with fail;go_roundw
        case rel => exact ⟨i + 1, by go_num, by omega, HT2.out, H9.out⟩
        case measure => simp [intOf]; omega
    ·have hi2 : ¬ (0 : Int) < (i : Int) := by omega
     have hi3 : decide ((0 : Int) < (i : Int)) = false := decide_eq_false hi2;have HNA := Lib.hid (show nodAt next (nodes L) i (x0, x1, x2, x3, es) = ob by rw [show i = 0 by omega, nodAt_0 HI2.out]; exact HOK.out);refine wp_region_held_drew (S := fun w' => w'.cell? ⟨w.heap.size, 0, none⟩ = some (.int .i64 next) ∧ w'.cell? ⟨w.heap.size, 1, none⟩ = some (.slice (some ⟨bk, of, none⟩) n c) ∧ w'.cell? ⟨gx, 0, none⟩ = some (.int .i64 x0) ∧ w'.cell? ⟨gx, 1, none⟩ = some (.int .i64 x1) ∧ w'.cell? ⟨gx, 2, none⟩ = some (.int .i64 x2) ∧ w'.cell? ⟨gx, 3, none⟩ = some (.string x3) ∧ w'.cell? ⟨gx, 4, none⟩ = some (.slice B1 m d1)) (by kernel_rfl) ?_ (fun hHeld => ?_)
     ·exact ⟨y0, y1, x0y, x1y, x2y, x3y, x4y⟩
     obtain ⟨u0, hu0⟩ : ∃ uu : World, uu = (wr.alloc (.cells #[.int .i64 x0, .int .i64 x1, .int .i64 x2, .string x3, .slice B1 m d1] 53)).drew := ⟨_, rfl⟩;rw [← hu0] at H hHeld ⊢;clear hu0;refine wpT 0 ?_;refine wpT 1 ?_;refine wpT 2 ?_;refine wpT 3 ?_;refine wpT 4 ?_;refine wpC 5 fun K hK => ?_;go_simp;refine (within_any x0 1 nx _).mono ?_;rintro e u1 ⟨rfl, hw9⟩;replace H := H.go (show Fr u0 u1 by rw [hw9]; exact Below.refl _ _);clear hw9;rw [HI.out];go_wp2_with fail;refine hK.out _ _ ?_ fun hHeld => ?_
     ·exact ⟨H.fa 1 0 rfl rfl, H.fa 1 1 rfl rfl, H.fa 0 0 rfl rfl, H.fa 0 1 rfl rfl, H.fa 0 2 rfl rfl, H.fa 0 3 rfl rfl, H.fa 0 4 rfl rfl⟩
     clear hK K;(try simp only [sX, Act.put]);refine wpT 6 ?_;refine wpT 7 ?_;refine wpT 8 ?_;refine wpT 9 ?_;refine wpT 10 ?_;refine wpS 11 ?_;refine wpS 12 ?_;refine wpS 13 ?_;refine wpS 14 ?_;refine wpS 15 ?_;refine wpS 16 ?_;refine wpS 17 ?_;refine wpS 18 ?_;refine wpS 19 ?_;refine wpS 20 ?_;refine wpT 21 ?_;refine wpT 22 ?_;refine wpT 23 ?_;refine wpT 24 ?_;refine wpT 25 ?_;refine wpC 26 fun K hK => ?_;go_simp;refine (implInodeOk_any next (some ⟨bk, of, none⟩) n c L x0 x1 x2 x3 B1 m d1 es _ (HR.out.fr H.fr) hn HFE.out (HRE.out _ H.fr) hm HSX.out (HK.out.fr H.fr)).mono ?_;rintro e u2 ⟨rfl, f9⟩;replace H := H.go f9;clear f9;rw [HOK.out];go_wp2_with fail;refine hK.out _ _ ?_ fun hHeld => ?_
     ·exact ⟨H.fa 1 0 rfl rfl, H.fa 1 1 rfl rfl, H.fa 0 0 rfl rfl, H.fa 0 1 rfl rfl, H.fa 0 2 rfl rfl, H.fa 0 3 rfl rfl, H.fa 0 4 rfl rfl⟩
     clear hK K;(try simp only [sX, Act.put]);refine wpT 27 ?_;refine wpT 28 ?_;refine wpAnyH_done (by kernel_rfl) ?_ _
     cases ob with
     | false =>
       have HE := Lib.hid (HQ.out.trans (volB_no2 (nodsTo_not HX.out HNA.out)));go_wp2_with fail;go_ret;rw [HE.out];exact ⟨rfl, H.fr⟩
     | true =>
       have HT2 := Lib.hid (nodsTo_succ HX.out HT.out HNA.out);have H9 := Lib.hid H.tail;clear H y0 y1 x0y x1y x2y x3y x4y;go_wp2_with fail;go_roundw
       case rel => exact ⟨i + 1, by go_num, by omega, HT2.out, H9.out⟩
       case measure => simp [intOf]; omega
   ·have HI := Lib.hid h4
    have HE := Lib.hid (HQ.out.trans (volB_no2 (nodsTo_not HX.out (nodAt_no1 (by rw [show next - 1 = nx from HNX.out.symm]; exact h4)))));clear h4;refine wp_region_held_drew (S := fun w' => w'.cell? ⟨w.heap.size, 0, none⟩ = some (.int .i64 next) ∧ w'.cell? ⟨w.heap.size, 1, none⟩ = some (.slice (some ⟨bk, of, none⟩) n c) ∧ w'.cell? ⟨gx, 0, none⟩ = some (.int .i64 x0) ∧ w'.cell? ⟨gx, 1, none⟩ = some (.int .i64 x1) ∧ w'.cell? ⟨gx, 2, none⟩ = some (.int .i64 x2) ∧ w'.cell? ⟨gx, 3, none⟩ = some (.string x3) ∧ w'.cell? ⟨gx, 4, none⟩ = some (.slice B1 m d1)) (by kernel_rfl) ?_ (fun hHeld => ?_)
    ·exact ⟨y0, y1, x0y, x1y, x2y, x3y, x4y⟩
    obtain ⟨u0, hu0⟩ : ∃ uu : World, uu = (wr.alloc (.cells #[.int .i64 x0, .int .i64 x1, .int .i64 x2, .string x3, .slice B1 m d1] 53)).drew := ⟨_, rfl⟩;rw [← hu0] at H hHeld ⊢;clear hu0;refine wpT 0 ?_;refine wpT 1 ?_;refine wpT 2 ?_;refine wpT 3 ?_;refine wpT 4 ?_;refine wpC 5 fun K hK => ?_;go_simp;refine (within_any x0 1 nx _).mono ?_;rintro e u1 ⟨rfl, hw9⟩;replace H := H.go (show Fr u0 u1 by rw [hw9]; exact Below.refl _ _);clear hw9;rw [HI.out];go_wp2_with fail;refine hK.out _ _ ?_ fun hHeld => ?_
    ·exact ⟨H.fa 1 0 rfl rfl, H.fa 1 1 rfl rfl, H.fa 0 0 rfl rfl, H.fa 0 1 rfl rfl, H.fa 0 2 rfl rfl, H.fa 0 3 rfl rfl, H.fa 0 4 rfl rfl⟩
    clear hK K;(try simp only [sX, Act.put]);refine wpT 6 ?_;refine wpT 7 ?_;refine wpS 8 ?_;refine wpS 9 ?_;refine wpS 10 ?_;refine wpS 11 ?_;refine wpS 12 ?_;refine wpS 13 ?_;refine wpS 14 ?_;refine wpS 15 ?_;refine wpS 16 ?_;refine wpS 17 ?_;refine wpS 18 ?_;refine wpS 19 ?_;refine wpS 20 ?_;refine wpS 21 ?_;refine wpT 22 ?_;refine wpT 23 ?_;refine wpS 24 ?_;refine wpS 25 ?_;refine wpS 26 ?_;refine wpS 27 ?_;refine wpT 28 ?_;refine wpAnyH_done (by kernel_rfl) ?_ _;go_wp2_with fail;go_ret;rw [HE.out];exact ⟨rfl, H.fr⟩
  ·have hlt1 : ¬ (i : Int) < (n : Int) := by omega
   have HNT := Lib.hid (show nodsTo next (nodes L) (nodes L).length = true by
    have := HT.out
    rwa [show i = (nodes L).length by rw [HNL.out]; omega] at this)
   have hall : (allIds (nodes L)).length ≤ 1000000 := by
    have h1 := allIds_le (nodes L) (nodsTo_few HNT.out);rw [HNL.out] at h1;omega
   have HD := Lib.hid (HQ.out.trans (volB_end HH.out HNT.out));have y0 := H.fa 0 0 rfl rfl;have y1 := H.fa 0 1 rfl rfl;go_wp2_with fail;refine (implBelow_any next (some ⟨bk, of, none⟩) n c L 1 _ (HR.out.fr H.fr) hn HFE.out hall).mono ?_;rintro e wb ⟨B, d, out, rfl, hiff, hol, ho, fb⟩;have HD2 := Lib.hid (HD.out.trans (drop_all hiff));have H3 := (H.made ho fb).lay_ 83 [.slice B out.length d] rfl;obtain ⟨gb, hgb⟩ : ∃ x, x = wb.heap.size := ⟨_, rfl⟩;rw [← hgb] at H3;have HGB := Lib.hid hgb;clear hgb H ho fb y0 y1 hiff;obtain ⟨wX, hwX⟩ : ∃ x, x = wb.alloc (.cells #[.slice B out.length d] 83) := ⟨_, rfl⟩;have H := H3.castW hwX.symm;have HWX := Lib.hid hwX;clear H3 hwX;have yb := H.fa 0 0 rfl rfl;have HF3 := Lib.hid H.fr;have HRO := Lib.hid (show ∀ w', Fr wX w' → Rd w' B out.length 1 (out.map (Value.int .i64)) from fun w' f => (H.rd 1 rfl).fr f);have HYB := Lib.hid (show ∀ w', Fr wX w' → w'.cell? ⟨gb, 0, none⟩ = some (.slice B out.length d) from fun w' f => fr_cellM f yb);have HV := Lib.hid (show ∀ p ∈ L, p.1.oneCell' = true from fun p hp => by
    obtain ⟨_, _, _, e, _⟩ := HR.out.inn p hp;rw [e]; rfl)
   have y1 := H.fa 2 1 rfl rfl;rw [HWX.out] at y1;clear yb H
   by_cases hc1 : c = 1
   ·have hc2 : (c = 1) = True := eq_true hc1
    have hn3 : n = 1 := by omega
    have HLD := Lib.hid (show L.drop 1 = [] from List.drop_eq_nil_of_le (by rw [HL.out]; omega));have HC := Lib.hid (hasN_volOk (.pointer (some ⟨gb, 0, none⟩)) (fun p => !decide (p.2.1 ∈ out)) (some ⟨bk, of, none⟩) 0 0 (L.drop 1) wX (by rw [HLD.out]; exact ⟨Rd.nil_, by simp⟩) (by omega) (fun p hp w9 f9 => volC_any p.2.1 p.2.2.1 p.2.2.2.1 p.2.2.2.2.1 p.1 B d out gb w9 (HV.out p (List.mem_of_mem_drop hp)) (HRO.out _ f9) (HYB.out _ f9) (by omega)));go_wp2_with fail;rw [← HGB.out, ← HWX.out];refine HC.out.mono ?_;rintro e wc ⟨rfl, fc⟩;obtain ⟨ab, hab⟩ : ∃ b, b = (L.drop 1).any (fun p => !decide (p.2.1 ∈ out)) := ⟨_, rfl⟩;rw [← hab];have HE := Lib.hid (show q0 = !ab by
     rw [hab, HD2.out, drop_nodes, List.all_map, List.not_any_eq_all_not]
     congr 1
     funext p
     simp)
    clear hab;go_wp2_with fail;go_ret;rw [HE.out];exact ⟨rfl, HF3.out.then fc⟩
   ·have hc2 : (c = 1) = False := eq_false hc1
    have HC := Lib.hid (hasN_volOk (.pointer (some ⟨gb, 0, none⟩)) (fun p => !decide (p.2.1 ∈ out)) (some ⟨bk, of + 5, none⟩) (n - 1) (c - 1) (L.drop 1) wX (HR.out.fr HF3.out).tail1 (by omega) (fun p hp w9 f9 => volC_any p.2.1 p.2.2.1 p.2.2.2.1 p.2.2.2.2.1 p.1 B d out gb w9 (HV.out p (List.mem_of_mem_drop hp)) (HRO.out _ f9) (HYB.out _ f9) (by omega)));go_wp2_with fail;rw [← HGB.out, ← HWX.out];refine HC.out.mono ?_;rintro e wc ⟨rfl, fc⟩;obtain ⟨ab, hab⟩ : ∃ b, b = (L.drop 1).any (fun p => !decide (p.2.1 ∈ out)) := ⟨_, rfl⟩;rw [← hab];have HE := Lib.hid (show q0 = !ab by
     rw [hab, HD2.out, drop_nodes, List.all_map, List.not_any_eq_all_not]
     congr 1
     funext p
     simp)
    clear hab;go_wp2_with fail;go_ret;rw [HE.out];exact ⟨rfl, HF3.out.then fc⟩
end Go.Proofs.YtmpldngnkacnmaaGreatDoor
