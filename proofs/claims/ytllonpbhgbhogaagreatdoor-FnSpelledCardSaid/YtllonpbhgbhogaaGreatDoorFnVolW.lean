/-
Words for the laws on volumes: calls on a drawn volume, and what is the same.
-/
import Derived.Test.YtllonpbhgbhogaaGreatDoorDrawVol
import Derived.Test.YtllonpbhgbhogaaGreatDoorGk
namespace Go.Proofs.YtllonpbhgbhogaaGreatDoor
open Go.RowKit
set_option linter.unusedVariables false
set_option linter.unusedSimpArgs false
theorem big_any (A : Option Addr) (n c : Nat) (w : World) (_hn : n ≤ 9223372036854775807) :
 Calls Tryz.prog 18 #[.slice A n c] w fun e w' => e = .returned (.bool (decide (1048576 < n))) ∧ w = w' := by
 go_enter Tryz.func18, Tryz.ntmps18
 go_wp2
 go_ret;exact ⟨ret_bool (by simp; omega), rfl⟩
set_option maxRecDepth 100000 in
set_option maxHeartbeats 2000000 in
theorem sameDir_yes (A B : Option Addr) (n c d : Nat) (l : List EntT) (w : World) (h : Rd w A n 4 (l.flatMap cEnt)) (h' : Rd w B n 4 (l.flatMap cEnt)) (hn : n ≤ 1048576) :
 Calls Tryz.prog 56 #[.slice A n c, .slice B n d] w fun e w' => e = .returned (.bool true) ∧ Fr w w' := by
 have HL := Lib.hid (h.lenk cEnt_len (by omega));have G := Lib.hid h;have G' := Lib.hid h';clear h h';go_enter Tryz.func56, Tryz.ntmps56;go_wp2_with fail
 go_loopw [5] (fun i wr => ∃ k : Nat, k ≤ n ∧ i = .int .i64 k ∧ Fr w wr) (fun i _ => n - (intOf i).toNat)
 case atStart => exact ⟨0, by omega, rfl, Below.refl _ _⟩
 case round =>
  obtain ⟨k, hk, rfl, hfr⟩ := hrel
  by_cases hlt : k < n
  ·obtain ⟨⟨u0, u1, u2, u3⟩, hx⟩ := some_at HL.out hlt
   obtain ⟨b1, o1, rfl, hcell⟩ := (G.out.fr hfr).elem cEnt_len hx (by omega);have c0 := hcell 0 _ rfl; simp only [Nat.add_zero] at c0;have c1 := hcell 1 _ rfl;have c2 := hcell 2 _ rfl;have c3 := hcell 3 _ rfl;obtain ⟨b2, o2, rfl, hcell'⟩ := (G'.out.fr hfr).elem cEnt_len hx (by omega);have d0 := hcell' 0 _ rfl; simp only [Nat.add_zero] at d0;have d1 := hcell' 1 _ rfl;have d2 := hcell' 2 _ rfl;have d3 := hcell' 3 _ rfl;have hk0 : (0 : Int) ≤ (k : Int) := by omega
   have hk1 : (k : Int) < (n : Int) := by omega
   clear hcell hcell';go_wp2_with fail;refine wp_region_quiet_lit (by kernel_rfl) (by kernel_rfl) ?_
   repeat (any_goals (first | go_big_quiet_step ((fail)) | quiet_step ((fail)) | (refine wpQuiet_step (fun K hK => ?_); go_simp; split <;> (refine hK _ ?_; clear hK K))))
   all_goals (refine wpQuiet_nil ?_; intro _ hw_; obtain ⟨nq, hw__⟩ := hw_; subst hw__)
   go_wp2_with fail;go_roundw
   case rel => exact ⟨k + 1, by omega, by go_num, hfr.on _⟩
   case measure => simp [intOf]; omega
  ·go_wp2_with fail
   go_ret;exact ⟨rfl, hfr⟩
set_option maxRecDepth 100000 in
set_option maxHeartbeats 8000000 in
theorem sameVol_yes (x : Int) (A B : Option Addr) (n m c d : Nat) (L M : List (Value × Nod)) (w : World) (h : RdN w A n L) (h' : RdN w B m M) (he : nodes L = nodes M) (hS : ∀ p ∈ L, p.2.2.2.2.2.length ≤ 1048576) (hn : n ≤ 1048576) :
 Calls Tryz.prog 22 #[.agg #[.int .i64 x, .slice A n c], .agg #[.int .i64 x, .slice B m d]] w fun e w' => e = .returned (.bool true) ∧ Fr w w' := by
 have HL := Lib.hid h.len;have HM := Lib.hid h'.len;obtain rfl : n = m := by rw [← HL.out, ← HM.out, ← nodes_len, he, nodes_len]
 have HE := Lib.hid he;have HS := Lib.hid hS;have G := Lib.hid h;have G' := Lib.hid h';clear h h' he hS;have H := ((Hp.start w).lay_ 31 [.int .i64 x, .slice A n c] rfl).lay_ 31 [.int .i64 x, .slice B n d] (g := w.heap.size + 1) (by simp);have HH := Lib.hid H;have p0 := H.fa 1 0 rfl rfl;have p1 := H.fa 1 1 rfl rfl;have q0 := H.fa 0 0 rfl rfl;have q1 := H.fa 0 1 rfl rfl;have hxx : (x != x) = false := bne_self_eq_false _;clear H;go_enter Tryz.func22, Tryz.ntmps22;go_wp2_with fail
 go_loopw [5] (fun i wr => ∃ k : Nat, k ≤ n ∧ i = .int .i64 k ∧ Hp [] w wr [.blk (w.heap.size + 1) 31 [.int .i64 x, .slice B n d], .blk w.heap.size 31 [.int .i64 x, .slice A n c]]) (fun i _ => n - (intOf i).toNat)
 case atStart => exact ⟨0, by omega, rfl, HH.out⟩
 case round =>
  clear p0 p1 q0 q1 HH;obtain ⟨k, hk, rfl, H⟩ := hrel;have p1 := H.fa 1 1 rfl rfl;have q1 := H.fa 0 1 rfl rfl
  by_cases hlt : k < n
  ·obtain ⟨⟨vx, x0, x1, x2, x3, xs⟩, hx⟩ := some_at HL.out hlt
   have hy0 := nodes_at hx;rw [HE.out] at hy0;obtain ⟨vy, hy⟩ := nodes_get hy0;obtain ⟨b1, o1, B1, d1, rfl, e1, r1, c1⟩ := (G.out.fr H.fr).elem hx;obtain ⟨b2, o2, B2, d2, rfl, e2, r2, c2⟩ := (G'.out.fr H.fr).elem hy;simp only at e1 e2 r1 r2;subst e1 e2;have ca0 := c1 0 _ rfl; simp only [Nat.add_zero] at ca0;have ca1 := c1 1 _ rfl;have ca2 := c1 2 _ rfl;have ca3 := c1 3 _ rfl;have ca4 := c1 4 _ rfl;have ya := fun (q : Nat) (u : Value) (hq : (cNV ((.slice B2 xs.length d2, x0, x1, x2, x3, xs) : Value × Nod))[q]? = some u) => (World.cell?_alloc_lt wr (.cells #[.int .i64 x0, .int .i64 x1, .int .i64 x2, .string x3, .slice B1 xs.length d1] 76) _ (World.block_lt_of_cell? wr _ (c2 q u hq))).trans (c2 q u hq);have cb0 := ya 0 _ rfl; simp only [Nat.add_zero] at cb0;have cb1 := ya 1 _ rfl;have cb2 := ya 2 _ rfl;have cb3 := ya 3 _ rfl;have cb4 := ya 4 _ rfl;clear ya;have hxl : xs.length ≤ 1048576 := HS.out _ (List.mem_of_getElem? hx);have hk0 : (0 : Int) ≤ (k : Int) := by omega
   have hk1 : (k : Int) < (n : Int) := by omega
   have n0 : (x0 != x0) = false := bne_self_eq_false _;have n1 : (x1 != x1) = false := bne_self_eq_false _;have n2 : (x2 != x2) = false := bne_self_eq_false _;have R1 := Lib.hid r1;have R2 := Lib.hid r2;clear c1 c2 hx hy hy0 r1 r2;have H2 := (H.lay_ 76 [.int .i64 x0, .int .i64 x1, .int .i64 x2, .string x3, .slice B1 xs.length d1] rfl).lay_ 76 [.int .i64 x0, .int .i64 x1, .int .i64 x2, .string x3, .slice B2 xs.length d2] (g := wr.heap.size + 1) (by simp);have F2 := (((Hp.start wr).lay_ 76 [.int .i64 x0, .int .i64 x1, .int .i64 x2, .string x3, .slice B1 xs.length d1] rfl).lay_ 76 [.int .i64 x0, .int .i64 x1, .int .i64 x2, .string x3, .slice B2 xs.length d2] (g := wr.heap.size + 1) (by simp)).fr;have q2 := (H.lay_ 76 [.int .i64 x0, .int .i64 x1, .int .i64 x2, .string x3, .slice B1 xs.length d1] rfl).fa 1 1 rfl rfl;have cd0 := H2.fa 0 0 rfl rfl;go_wp2_with fail;refine (sameDir_yes B1 B2 xs.length d1 d2 xs _ (R1.out.fr F2) (R2.out.fr F2) hxl).mono ?_;rintro e w5 ⟨rfl, f5⟩;have H5 := Lib.hid ((H2.go f5).tail.tail);clear H H2 f5 F2 p1 q1 q2 cd0 ca0 ca1 ca2 ca3 ca4 cb0 cb1 cb2 cb3 cb4;go_wp2_with fail;go_roundw
   case rel => exact ⟨k + 1, by omega, by go_num, H5.out⟩
   case measure => simp [intOf]; omega
  ·have HF := Lib.hid H.fr
   clear H;go_wp2_with fail;go_ret;exact ⟨rfl, HF.out⟩
def DrewVC (w : World) (e : Ending) (w' : World) : Prop := ∃ (nx : Int) (B : Option Addr) (m d : Nat) (L : List (Value × Nod)) (z0 z1 : Int) (s2 : ByteArray) (z3 : Int) (s4 s5 : ByteArray), e = .returned (.tuple #[.agg #[.int .i64 nx, .slice B m d], .agg #[.int .i64 z0, .int .i64 z1, .string s2, .int .i64 z3, .string s4, .string s5]]) ∧ SmallV m L ∧ Hp [] w w' [obN (.slice B m d) m L]
set_option maxRecDepth 100000 in
set_option maxHeartbeats 8000000 in
theorem drawVolDo_any (A : Option Addr) (n c : Nat) (bs : List UInt8) (w : World) (hA : Rd w A n 1 (bs.map cU8)) (hn : n ≤ 1048576) :
 Calls Tryz.prog 19 #[.slice A n c] w (DrewVC w) := by
 have H := ((Hp.start w).lay_ 31 [.int .i64 0, .slice none 0 0] rfl).lay_ 37 [.int .i64 0, .int .i64 0, .string ⟨#[]⟩, .int .i64 0, .string ⟨#[]⟩, .string ⟨#[]⟩] (g := w.heap.size + 1) (by simp);have HA := Lib.hid hA;clear hA;go_enter Tryz.func19, Tryz.ntmps19;go_wp2_with fail;refine (l1New_any A n c bs _ (HA.out.fr H.fr) hn).mono ?_;rintro e w1 ⟨g, h, rfl, K⟩;have hne := old_ne (HA.out.fr H.fr) (own_new K);replace H := H.join K;clear K;have QQ := Lib.hid (show CurP [] w g A n from ⟨⟨bs, HA.out⟩, fun h0 ad he => ⟨by simp, hne h0 ad he⟩, hn⟩);have HC1 : HC [] w w1 g A n c _ := ⟨0, h, by omega, by omega, H⟩;clear H hne;go_wp2_with fail;refine (l1Size_any A n c 50 _ hn (by omega)).mono ?_;rintro e w2 ⟨mo, rfl, m0, m1, f2⟩;replace HC1 := HC1.go f2;clear f2;go_wp2_with fail;refine (l6Any_any HC1 QQ.out mo (by omega)).mono ?_;rintro e w3 ⟨nx, B, m, d, L, rfl, hS, HC2⟩;have HS := Lib.hid hS;clear HC1 hS m0 m1;replace HC2 := HC2.lay 31 [.int .i64 nx, .slice B m d] rfl;obtain ⟨gv, hgv⟩ : ∃ z, z = w3.heap.size := ⟨_, rfl⟩;rw [← hgv] at HC2;have HGV := Lib.hid hgv;clear hgv;go_wp2_with fail;simp only [← HGV.out];obtain ⟨i3, h3, a3, b3, H⟩ := HC2;replace H := H.drew;have b0 := H.fa 1 0 rfl rfl;have b1 := H.fa 1 1 rfl rfl
 -- tree {
 refine wp_joint (fun a a' w' => ∃ v12 v13 v14 v15 : Value, ∃ (i5 h5 z0 z1 : Int) (s2 : ByteArray) (z3 : Int) (s4 s5 : ByteArray), a' = ((((a.put (some 12) v12).put (some 13) v13).put (some 14) v14).put (some 15) v15) ∧ Hp [] w w' [.blk g TCUR [.slice A n c, .int .i64 i5, .int .i64 h5], .blk gv 31 [.int .i64 nx, .slice B m d], obN (.slice B m d) m L, .blk (w.heap.size + 1) 37 [.int .i64 z0, .int .i64 z1, .string s2, .int .i64 z3, .string s4, .string s5], .blk w.heap.size 31 [.int .i64 nx, .slice B m d]]) ?_ ?_
 ·skip
  refine wp_region_held_drew (S := fun w' => w'.cell? ⟨gv, 0, none⟩ = some (.int .i64 nx) ∧ w'.cell? ⟨gv, 1, none⟩ = some (.slice B m d)) (by kernel_rfl) ?_ (fun hHeld => ?_)
  ·exact ⟨b0, b1⟩
  obtain ⟨u0, hu0⟩ : ∃ uu : World, uu = (w3.alloc (.cells #[.int .i64 nx, .slice B m d] 31)).drew := ⟨_, rfl⟩;rw [← hu0] at H hHeld ⊢;clear hu0;refine wpT 0 ?_;refine wpT 1 ?_;refine wpT 2 ?_;refine wpC 3 fun K hK => ?_;go_simp;refine (l6Call_any (⟨i3, h3, a3, b3, H⟩ : HC [] w _ g A n c _) QQ.out nx B m d L 1 rfl HS.out).mono ?_;rintro e u1 ⟨z0, z1, s2, z3, s4, s5, rfl, _, _, _, i3, h3, a3, b3, H⟩;go_wp2_with fail;refine hK.out _ _ ?_ fun hHeld => ?_
  ·exact ⟨H.fa 1 0 rfl rfl, H.fa 1 1 rfl rfl⟩
  clear hK K;(try simp only [sX, Act.put]);refine wpC 4 fun K hK => ?_;refine putVol H 4 rfl rfl rfl (fun u2 H => ?_);refine hK.out _ _ ?_ fun hHeld => ?_
  ·exact ⟨H.fa 1 0 rfl rfl, H.fa 1 1 rfl rfl⟩
  clear hK K;(try simp only [sX, Act.put]);refine wpC 5 fun K hK => ?_;obtain ⟨e0, e1, e2, e3, e4, e5⟩ := And.intro (H.bfree 3 rfl 0) (And.intro (H.bfree 3 rfl 1) (And.intro (H.bfree 3 rfl 2) (And.intro (H.bfree 3 rfl 3) (And.intro (H.bfree 3 rfl 4) (H.bfree 3 rfl 5)))));obtain ⟨s0, s1, s2', s3, s4', s5'⟩ := And.intro (H.fa 3 0 rfl rfl) (And.intro (H.fa 3 1 rfl rfl) (And.intro (H.fa 3 2 rfl rfl) (And.intro (H.fa 3 3 rfl rfl) (And.intro (H.fa 3 4 rfl rfl) (H.fa 3 5 rfl rfl)))));replace H := H.blays 3 rfl [.int .i64 z0, .int .i64 z1, .string s2, .int .i64 z3, .string s4, .string s5] rfl;simp only [layW, Nat.zero_add, Nat.reduceAdd] at H;go_simp;clear e0 e1 e2 e3 e4 e5 s0 s1 s2' s3 s4' s5';refine hK.out _ _ ?_ fun hHeld => ?_
  ·exact ⟨H.fa 1 0 rfl rfl, H.fa 1 1 rfl rfl⟩
  clear hK K;(try simp only [sX, Act.put]);refine wpAnyH_done (by kernel_rfl) ?_ _;exact ⟨rfl, _, _, _, _, _, _, _, _, _, _, _, _, rfl, H⟩
 clear b0 b1 H;rintro a' w5 ⟨v12, v13, v14, v15, i5, h5, z0, z1, s2, z3, s4, s5, rfl, H⟩;simp only [List.getElem_toArray, List.getElem_cons_succ, List.getElem_cons_zero, Act.put, List.setIfInBounds_toArray, List.set_cons_zero, List.set_cons_succ]
 -- tree }
 have HB4 := Lib.hid (H.blk 4 rfl);have HB3 := Lib.hid (H.blk 3 rfl);have HH := Lib.hid (H.sub (l' := [obN (.slice B m d) m L]) (.cons _ (.cons _ (.cons_cons _ (.cons _ (.cons _ .slnil))))));clear H;go_wp2_with fail;(try simp only [Exit.inBlock, Exit.then]); refine bodyPost_ret (results_cells_row rfl _ _ _ _ _ _ _ _ _ _ _ _ rfl HB4.out Tryz.underlying31 rfl (by kernel_rfl) rfl HB3.out Tryz.underlying37 rfl (by kernel_rfl)) rfl ?_;exact ⟨_, _, _, _, _, _, _, _, _, _, _, rfl, HS.out, HH.out⟩
set_option maxRecDepth 100000 in
theorem at_anyV (A : Option Addr) (n c : Nat) (bs : List UInt8) (i : Int) (w : World) (hA : Rd w A n 1 (bs.map cU8)) (hn : n ≤ 1048576) (h0 : 0 ≤ i) (h1 : i ≤ 100000) :
 Calls Tryz.prog 25 #[.slice A n c, .int .i64 i] w fun e w' => ∃ u : UInt8, e = .returned (.int .i64 (u.toNat : Int)) ∧ w' = w := by
 obtain ⟨k, rfl⟩ : ∃ k : Nat, i = k := ⟨i.toNat, by omega⟩;go_enter Tryz.func25, Tryz.ntmps25
 by_cases hlt : k < n
 ·obtain ⟨u, hu⟩ := at_some hA.len1 hlt
  obtain ⟨b0, o0, rfl, cb⟩ := hA.get1 hu;have hbb := u.toNat_lt;obtain ⟨y, hy⟩ : ∃ y : Int, y = (u.toNat : Int) := ⟨_, rfl⟩;rw [show cU8 u = .int .u8 y by rw [hy]; rfl] at cb;have hy0 : 0 ≤ y := by omega
  have hy1 : y ≤ 255 := by omega
  have HY := Lib.hid hy;have hk1 : (k : Int) < (n : Int) := by omega
  clear hu hA hy hbb
  go_wp2
  go_ret
  first
   | exact ⟨u, by rw [← HY.out]; rfl, rfl⟩
   | exact ⟨u, by rw [← HY.out]; rfl⟩
 ·have hk1 : ¬ ((k : Int) < (n : Int)) := by omega
  obtain ⟨u, hu⟩ := byte_of (y := ((k : Int) * 37 + (n : Int) * 11) % 256) (by omega) (by omega);have hw1 : IntKind.i64.wrap ((k : Int) * 37) = (k : Int) * 37 := IntWalk.i64_in _ (by omega);have hw2 : IntKind.i64.wrap ((n : Int) * 11) = (n : Int) * 11 := IntWalk.i64_in _ (by omega);have hw3 : IntKind.i64.wrap ((k : Int) * 37 + (n : Int) * 11) = (k : Int) * 37 + (n : Int) * 11 := IntWalk.i64_in _ (by omega);have HU := Lib.hid hu;clear hA hu
  go_wp2
  go_ret;have h := HU.out
  first
   | exact ⟨u, by rw [← h]; rfl, rfl⟩
   | exact ⟨⟨u, by rw [← h]; rfl⟩, rfl⟩
   | exact ⟨u, by rw [← h]; rfl⟩
section
variable {w0 w : World} {l : List Ob} {B : Option Addr} {m d : Nat} {L : List (Value × Nod)} {nx : Int}
def GaveV (w0 : World) (l : List Ob) (O : OutT) (e : Ending) (w' : World) : Prop := ∃ (nx' : Int) (B' : Option Addr) (m' d' : Nat) (L' : List (Value × Nod)) (r0 r1 : Int) (r2 r3 : ByteArray), e = .returned (.tuple #[.agg #[.int .i64 nx', .slice B' m' d'], .agg #[.int .i64 r0, .int .i64 r1, .string r2, .string r3]]) ∧ ((nx', nodes L'), r0, r1, r2, r3) = O ∧ Hp [] w0 w' (obN (.slice B' m' d') m' L' :: l)
theorem NewV.gave {O : OutT} {e : Ending} {w' : World} (H : Hp [] w0 w l) (h : NewV w O e w') : GaveV w0 l O e w' := by
 obtain ⟨⟨nx1, lx⟩, r0, r1, r2, r3⟩ := O;obtain ⟨A1, n1, q1, L1, rfl, hL, K⟩ := h;exact ⟨nx1, A1, n1, q1, L1, r0, r1, r2, r3, rfl, by rw [hL], H.join K⟩
theorem implDo (H : Hp [] w0 w l) (i : Nat) (hi : l[i]? = some (obN (.slice B m d) m L)) (hS : SmallV m L) (c0 c1 : Int) (c2 : ByteArray) (c3 : Int) (c4 c5 : ByteArray) (hk : KT w0) :
 Calls Tryz.prog 13 #[.agg #[.int .i64 nx, .slice B m d], .agg #[.int .i64 c0, .int .i64 c1, .string c2, .int .i64 c3, .string c4, .string c5]] w (GaveV w0 l (volAll nx (nodes L) (c0, c1, c2, c3, c4, c5))) :=
 (implVolDo_any nx B m d L c0 c1 c2 c3 c4 c5 _ (VRd.of H i hi) (by have := hS.2.1; omega) (H.nnc i hi) (fun p hp => by have := (hS.2.2 p hp).1; omega) (fun p hp => (hS.2.2 p hp).2.2) (hk.fr H.fr)).mono fun e w' h => h.gave H
theorem specDo (H : Hp [] w0 w l) (i : Nat) (hi : l[i]? = some (obN (.slice B m d) m L)) (hS : SmallV m L) (c0 c1 : Int) (c2 : ByteArray) (c3 : Int) (c4 c5 : ByteArray) :
 Calls Tryz.prog 10 #[.agg #[.int .i64 nx, .slice B m d], .agg #[.int .i64 c0, .int .i64 c1, .string c2, .int .i64 c3, .string c4, .string c5]] w (GaveV w0 l (volAll nx (nodes L) (c0, c1, c2, c3, c4, c5))) :=
 (specVolDo_any nx B m d L c0 c1 c2 c3 c4 c5 _ (VRd.of H i hi) (by have := hS.2.1; omega) (H.nnc i hi) (fun p hp => by have := (hS.2.2 p hp).1; omega) (fun p hp => (hS.2.2 p hp).2.2)).mono fun e w' h => h.gave H
end
end Go.Proofs.YtllonpbhgbhogaaGreatDoor
