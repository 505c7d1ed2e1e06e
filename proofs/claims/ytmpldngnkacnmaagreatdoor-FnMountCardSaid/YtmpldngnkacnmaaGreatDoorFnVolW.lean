/-
Words for the laws on volumes: calls on a drawn volume, and what is the same.
-/
import Derived.Test.YtmpldngnkacnmaaGreatDoorDrawVol
namespace Go.Proofs.YtmpldngnkacnmaaGreatDoor
open Go.RowKit
set_option linter.unusedVariables false
set_option linter.unusedSimpArgs false
theorem big_any (A : Option Addr) (n c : Nat) (w : World) (_hn : n ≤ 9223372036854775807) :
 Calls Tryz.prog 4 #[.slice A n c] w fun e w' => e = .returned (.bool (decide (1048576 < n))) ∧ w = w' := by
 go_enter Tryz.func4, Tryz.ntmps4
 go_wp2
 go_ret;exact ⟨ret_bool (by simp; omega), rfl⟩
set_option maxRecDepth 100000 in
set_option maxHeartbeats 2000000 in
theorem sameDir_yes (A B : Option Addr) (n c d : Nat) (l : List EntT) (w : World) (h : Rd w A n 4 (l.flatMap cEnt)) (h' : Rd w B n 4 (l.flatMap cEnt)) (hn : n ≤ 1048576) :
 Calls Tryz.prog 24 #[.slice A n c, .slice B n d] w fun e w' => e = .returned (.bool true) ∧ Fr w w' := by
 have HL := Lib.hid (h.lenk cEnt_len (by omega));have G := Lib.hid h;have G' := Lib.hid h';clear h h';go_enter Tryz.func24, Tryz.ntmps24;go_wp2_with fail
 go_loopw [5] (fun i wr => ∃ k : Nat, k ≤ n ∧ i = .int .i64 k ∧ Fr w wr) (fun i _ => n - (intOf i).toNat)
 case atStart => exact ⟨0, by omega, rfl, Below.refl _ _⟩
 case round =>
  obtain ⟨k, hk, rfl, hfr⟩ := hrel
  by_cases hlt : k < n
  ·obtain ⟨⟨u0, u1, u2, u3⟩, hx⟩ := some_at HL.out hlt
   obtain ⟨b1, o1, rfl, hcell⟩ := (G.out.fr hfr).elem cEnt_len hx (by omega);have c0 := hcell 0 _ rfl; simp only [Nat.add_zero] at c0;have c1 := hcell 1 _ rfl;have c2 := hcell 2 _ rfl;have c3 := hcell 3 _ rfl;obtain ⟨b2, o2, rfl, hcell'⟩ := (G'.out.fr hfr).elem cEnt_len hx (by omega);have d0 := hcell' 0 _ rfl; simp only [Nat.add_zero] at d0;have d1 := hcell' 1 _ rfl;have d2 := hcell' 2 _ rfl;have d3 := hcell' 3 _ rfl;have hk0 : (0 : Int) ≤ (k : Int) := by omega
   have hk1 : (k : Int) < (n : Int) := by omega
   clear hcell hcell';go_wp2_with fail;refine wp_region_quiet_lit (by kernel_rfl) (by kernel_rfl) ?_
   repeat (any_goals (first | go_big_quiet_step ((fail)) | quiet_step ((fail)) | (refine wpQuiet_step (fun K hK => ?_); go_simp; split <;> (refine hK _ ?_; clear hK K))))
   all_goals (refine wpQuiet_nil ?_; intro _ hw_; obtain ⟨nq, hw__⟩ := hw_; subst hw__)
   go_wp2_with fail;go_roundw
   case rel => exact ⟨k + 1, by omega, by go_num, hfr.on _⟩
   case measure => simp [intOf]; omega
  ·go_wp2_with fail
   go_ret;exact ⟨rfl, hfr⟩
set_option maxRecDepth 100000 in
set_option maxHeartbeats 8000000 in
theorem sameVol_yes (x : Int) (A B : Option Addr) (n m c d : Nat) (L M : List (Value × Nod)) (w : World) (h : RdN w A n L) (h' : RdN w B m M) (he : nodes L = nodes M) (hS : ∀ p ∈ L, p.2.2.2.2.2.length ≤ 1048576) (hn : n ≤ 1048576) :
 Calls Tryz.prog 10 #[.agg #[.int .i64 x, .slice A n c], .agg #[.int .i64 x, .slice B m d]] w fun e w' => e = .returned (.bool true) ∧ Fr w w' := by
 have HL := Lib.hid h.len;have HM := Lib.hid h'.len;obtain rfl : n = m := by rw [← HL.out, ← HM.out, ← nodes_len, he, nodes_len]
 have HE := Lib.hid he;have HS := Lib.hid hS;have G := Lib.hid h;have G' := Lib.hid h';clear h h' he hS;have H := ((Hp.start w).lay_ 28 [.int .i64 x, .slice A n c] rfl).lay_ 28 [.int .i64 x, .slice B n d] (g := w.heap.size + 1) (by simp);have HH := Lib.hid H;have p0 := H.fa 1 0 rfl rfl;have p1 := H.fa 1 1 rfl rfl;have q0 := H.fa 0 0 rfl rfl;have q1 := H.fa 0 1 rfl rfl;have hxx : (x != x) = false := bne_self_eq_false _;clear H;go_enter Tryz.func10, Tryz.ntmps10;go_wp2_with fail
 go_loopw [5] (fun i wr => ∃ k : Nat, k ≤ n ∧ i = .int .i64 k ∧ Hp [] w wr [.blk (w.heap.size + 1) 28 [.int .i64 x, .slice B n d], .blk w.heap.size 28 [.int .i64 x, .slice A n c]]) (fun i _ => n - (intOf i).toNat)
 case atStart => exact ⟨0, by omega, rfl, HH.out⟩
 case round =>
  clear p0 p1 q0 q1 HH;obtain ⟨k, hk, rfl, H⟩ := hrel;have p1 := H.fa 1 1 rfl rfl;have q1 := H.fa 0 1 rfl rfl
  by_cases hlt : k < n
  ·obtain ⟨⟨vx, x0, x1, x2, x3, xs⟩, hx⟩ := some_at HL.out hlt
   have hy0 := nodes_at hx;rw [HE.out] at hy0;obtain ⟨vy, hy⟩ := nodes_get hy0;obtain ⟨b1, o1, B1, d1, rfl, e1, r1, c1⟩ := (G.out.fr H.fr).elem hx;obtain ⟨b2, o2, B2, d2, rfl, e2, r2, c2⟩ := (G'.out.fr H.fr).elem hy;simp only at e1 e2 r1 r2;subst e1 e2;have ca0 := c1 0 _ rfl; simp only [Nat.add_zero] at ca0;have ca1 := c1 1 _ rfl;have ca2 := c1 2 _ rfl;have ca3 := c1 3 _ rfl;have ca4 := c1 4 _ rfl;have ya := fun (q : Nat) (u : Value) (hq : (cNV ((.slice B2 xs.length d2, x0, x1, x2, x3, xs) : Value × Nod))[q]? = some u) => (World.cell?_alloc_lt wr (.cells #[.int .i64 x0, .int .i64 x1, .int .i64 x2, .string x3, .slice B1 xs.length d1] 53) _ (World.block_lt_of_cell? wr _ (c2 q u hq))).trans (c2 q u hq);have cb0 := ya 0 _ rfl; simp only [Nat.add_zero] at cb0;have cb1 := ya 1 _ rfl;have cb2 := ya 2 _ rfl;have cb3 := ya 3 _ rfl;have cb4 := ya 4 _ rfl;clear ya;have hxl : xs.length ≤ 1048576 := HS.out _ (List.mem_of_getElem? hx);have hk0 : (0 : Int) ≤ (k : Int) := by omega
   have hk1 : (k : Int) < (n : Int) := by omega
   have n0 : (x0 != x0) = false := bne_self_eq_false _;have n1 : (x1 != x1) = false := bne_self_eq_false _;have n2 : (x2 != x2) = false := bne_self_eq_false _;have R1 := Lib.hid r1;have R2 := Lib.hid r2;clear c1 c2 hx hy hy0 r1 r2;have H2 := (H.lay_ 53 [.int .i64 x0, .int .i64 x1, .int .i64 x2, .string x3, .slice B1 xs.length d1] rfl).lay_ 53 [.int .i64 x0, .int .i64 x1, .int .i64 x2, .string x3, .slice B2 xs.length d2] (g := wr.heap.size + 1) (by simp);have F2 := (((Hp.start wr).lay_ 53 [.int .i64 x0, .int .i64 x1, .int .i64 x2, .string x3, .slice B1 xs.length d1] rfl).lay_ 53 [.int .i64 x0, .int .i64 x1, .int .i64 x2, .string x3, .slice B2 xs.length d2] (g := wr.heap.size + 1) (by simp)).fr;have q2 := (H.lay_ 53 [.int .i64 x0, .int .i64 x1, .int .i64 x2, .string x3, .slice B1 xs.length d1] rfl).fa 1 1 rfl rfl;have cd0 := H2.fa 0 0 rfl rfl;go_wp2_with fail;refine (sameDir_yes B1 B2 xs.length d1 d2 xs _ (R1.out.fr F2) (R2.out.fr F2) hxl).mono ?_;rintro e w5 ⟨rfl, f5⟩;have H5 := Lib.hid ((H2.go f5).tail.tail);clear H H2 f5 F2 p1 q1 q2 cd0 ca0 ca1 ca2 ca3 ca4 cb0 cb1 cb2 cb3 cb4;go_wp2_with fail;go_roundw
   case rel => exact ⟨k + 1, by omega, by go_num, H5.out⟩
   case measure => simp [intOf]; omega
  ·have HF := Lib.hid H.fr
   clear H;go_wp2_with fail;go_ret;exact ⟨rfl, HF.out⟩
set_option maxRecDepth 100000 in
theorem at_anyV (A : Option Addr) (n c : Nat) (bs : List UInt8) (i : Int) (w : World) (hA : Rd w A n 1 (bs.map cU8)) (hn : n ≤ 1048576) (h0 : 0 ≤ i) (h1 : i ≤ 100000) :
 Calls Tryz.prog 8 #[.slice A n c, .int .i64 i] w fun e w' => ∃ u : UInt8, e = .returned (.int .i64 (u.toNat : Int)) ∧ w' = w := by
 obtain ⟨k, rfl⟩ : ∃ k : Nat, i = k := ⟨i.toNat, by omega⟩;go_enter Tryz.func8, Tryz.ntmps8
 by_cases hlt : k < n
 ·obtain ⟨u, hu⟩ := at_some hA.len1 hlt
  obtain ⟨b0, o0, rfl, cb⟩ := hA.get1 hu;have hbb := u.toNat_lt;obtain ⟨y, hy⟩ : ∃ y : Int, y = (u.toNat : Int) := ⟨_, rfl⟩;rw [show cU8 u = .int .u8 y by rw [hy]; rfl] at cb;have hy0 : 0 ≤ y := by omega
  have hy1 : y ≤ 255 := by omega
  have HY := Lib.hid hy;have hk1 : (k : Int) < (n : Int) := by omega
  clear hu hA hy hbb
  go_wp2
  go_ret
  first
   | exact ⟨u, by rw [← HY.out]; rfl, rfl⟩
   | exact ⟨u, by rw [← HY.out]; rfl⟩
 ·have hk1 : ¬ ((k : Int) < (n : Int)) := by omega
  obtain ⟨u, hu⟩ := byte_of (y := ((k : Int) * 37 + (n : Int) * 11) % 256) (by omega) (by omega);have hw1 : IntKind.i64.wrap ((k : Int) * 37) = (k : Int) * 37 := IntWalk.i64_in _ (by omega);have hw2 : IntKind.i64.wrap ((n : Int) * 11) = (n : Int) * 11 := IntWalk.i64_in _ (by omega);have hw3 : IntKind.i64.wrap ((k : Int) * 37 + (n : Int) * 11) = (k : Int) * 37 + (n : Int) * 11 := IntWalk.i64_in _ (by omega);have HU := Lib.hid hu;clear hA hu
  go_wp2
  go_ret;have h := HU.out
  first
   | exact ⟨u, by rw [← h]; rfl, rfl⟩
   | exact ⟨⟨u, by rw [← h]; rfl⟩, rfl⟩
   | exact ⟨u, by rw [← h]; rfl⟩
end Go.Proofs.YtmpldngnkacnmaaGreatDoor
