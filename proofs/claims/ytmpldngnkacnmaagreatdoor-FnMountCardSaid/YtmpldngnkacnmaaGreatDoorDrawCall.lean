/-
The reference draws calls on a volume.
-/
import Derived.Test.YtmpldngnkacnmaaGreatDoorGq
import Derived.Test.YtmpldngnkacnmaaGreatDoorGr
namespace Go.Proofs.YtmpldngnkacnmaaGreatDoor
open Go.RowKit
set_option linter.unusedVariables false
set_option linter.unusedSimpArgs false
section
variable {W : List Nat} {w0 w w' : World} {g gb gv : Nat} {A : Option Addr} {n c : Nat} {l : List Ob} {B : Option Addr} {m d : Nat} {L : List (Value × Nod)} {nx : Int}
theorem HC.go (K : HC W w0 w g A n c l) (f : Fr w w') : HC W w0 w' g A n c l := by
 obtain ⟨i, h, a, b, H⟩ := K; exact ⟨i, h, a, b, H.go f⟩
theorem HC.drew (K : HC W w0 w g A n c l) : HC W w0 w.drew g A n c l := by
 obtain ⟨i, h, a, b, H⟩ := K; exact ⟨i, h, a, b, H.drew⟩
theorem HC.bat {t : TypeId} {cs : List Value} (K : HC W w0 w g A n c l) (i : Nat) (hi : l[i]? = some (.blk gb t cs)) {j : Nat} {v : Value} (hj : cs[j]? = some v) : w.cell? ⟨gb, j, none⟩ = some v := by
 obtain ⟨_, _, _, _, H⟩ := K; exact H.bat (i + 1) hi hj
theorem HC.fa {t : TypeId} {cs : List Value} (K : HC W w0 w g A n c l) (i j : Nat) (hi : l[i]? = some (.blk gb t cs)) {v : Value} (hj : cs[j]? = some v) : w.cell? ⟨gb, j, none⟩ = some v := K.bat i hi hj
theorem HC.bfree {t : TypeId} {cs : List Value} (K : HC W w0 w g A n c l) (i : Nat) (hi : l[i]? = some (.blk gb t cs)) (j : Nat) : w.frozen? ⟨gb, j, none⟩ = false := by
 obtain ⟨_, _, _, _, H⟩ := K; exact H.bfree (i + 1) hi j
theorem HC.bput {t : TypeId} {cs : List Value} (K : HC W w0 w g A n c l) (i : Nat) (hi : l[i]? = some (.blk gb t cs)) (j : Nat) (v : Value) : HC W w0 (w.setCell ⟨gb, j, none⟩ v) g A n c (l.set i (.blk gb t (cs.set j v))) := by
 obtain ⟨i1, h, a, b, H⟩ := K; exact ⟨i1, h, a, b, H.bput (i + 1) hi j v⟩
theorem HC.lay (K : HC W w0 w g A n c l) (t : TypeId) (cs : List Value) (hg : gb = w.heap.size) : HC W w0 (w.alloc (.cells cs.toArray t)) g A n c (.blk gb t cs :: l) := by
 obtain ⟨i1, h, a, b, H⟩ := K; exact ⟨i1, h, a, b, (H.lay_ t cs hg).swap⟩
theorem HC.sub {l' : List Ob} (K : HC W w0 w g A n c l) (h : l'.Sublist l) : HC W w0 w g A n c l' := by
 obtain ⟨i1, h1, a, b, H⟩ := K; exact ⟨i1, h1, a, b, H.sub (.cons_cons _ h)⟩
theorem HC.rdN (K : HC W w0 w g A n c l) (i : Nat) (hi : l[i]? = some (obN (.slice B m d) m L)) : RdN w B m L := by
 obtain ⟨_, _, _, _, H⟩ := K; exact H.rdN (i + 1) hi
theorem RdN.cells {zb zo k : Nat} {p : Value × Nod} (h : RdN w (some ⟨zb, zo, none⟩) m L) (hp : L[k]? = some p) : ∃ (B : Option Addr) (d : Nat), p.1 = .slice B p.2.2.2.2.2.length d ∧ Rd w B p.2.2.2.2.2.length 4 (p.2.2.2.2.2.flatMap cEnt) ∧ ∀ j u, (cNV p)[j]? = some u → w.cell? ⟨zb, zo + k * 5 + j, none⟩ = some u := by
 obtain ⟨b, o, B, d, e, h1, h2, h3⟩ := h.elem hp;injection e with e; injection e with e1 e2; subst e1 e2;exact ⟨B, d, h1, h2, h3⟩
end
theorem at_ge {l : List Nod} {q z : Int} (h : z = atZ l q) (h0 : 0 ≤ z) : ∃ k : Nat, z = k ∧ k < l.length := by
 rw [atZ] at h
 cases h1 : atN l q with
 | none => rw [h1] at h; simp only at h; omega
 | some k => rw [h1] at h; exact ⟨k, h, atN_lt h1⟩
def SmallV (m : Nat) (L : List (Value × Nod)) : Prop := 0 < m ∧ m ≤ 100 ∧ ∀ p ∈ L, p.2.2.2.2.2.length ≤ 100 ∧ p.2.2.2.2.1.size ≤ 16777216 ∧ ∀ e ∈ p.2.2.2.2.2, e.2.2.1.size ≤ 16777216
set_option maxRecDepth 100000 in
set_option maxHeartbeats 32000000 in
theorem l6Where_any {W : List Nat} {w0 w : World} {g : Nat} {A : Option Addr} {n c : Nat} {l : List Ob} (K : HC W w0 w g A n c l) (Q : CurP W w0 g A n) (nx : Int) (B : Option Addr) (m d : Nat) (L : List (Value × Nod)) (j : Nat) (hj : l[j]? = some (obN (.slice B m d) m L)) (hS : SmallV m L) :
 Calls Tryz.prog 62 #[.pointer (some ⟨g, 0, none⟩), .agg #[.int .i64 nx, .slice B m d]] w fun e w' => ∃ (id : Int) (s : ByteArray), e = .returned (.tuple #[.int .i64 id, .string s]) ∧ s.size ≤ 16777216 ∧ HC W w0 w' g A n c l := by
 have QQ := Lib.hid Q;have HLN := Lib.hid (K.rdN j hj).len;have hm0 := hS.1;have hm1 := hS.2.1;have HE := Lib.hid hS.2.2;obtain ⟨p0, hp0⟩ := some_at HLN.out hm0;obtain ⟨zb, zo, B0, d0, rfl, _⟩ := (K.rdN j hj).elem hp0;have HJ := Lib.hid hj;have H := K.lay 28 [.int .i64 nx, .slice (some ⟨zb, zo, none⟩) m d] rfl;clear K Q hj hp0 hS;have hm0i : (0 : Int) < (m : Int) := by omega
 have b0 := H.fa 0 0 rfl rfl;have b1 := H.fa 0 1 rfl rfl;go_enter Tryz.func62, Tryz.ntmps62;go_wp2_with fail;replace H := H.drew;refine wp_region_held_drew (S := fun w' => w'.cell? ⟨w.heap.size, 0, none⟩ = some (.int .i64 nx) ∧ w'.cell? ⟨w.heap.size, 1, none⟩ = some (.slice (some ⟨zb, zo, none⟩) m d)) (by kernel_rfl) ?_ (fun hHeld => ?_)
 ·exact ⟨b0, b1⟩
 obtain ⟨u0, hu0⟩ : ∃ uu : World, uu = (w.alloc (.cells #[.int .i64 nx, .slice (some ⟨zb, zo, none⟩) m d] 28)).drew := ⟨_, rfl⟩;rw [← hu0] at H hHeld ⊢;clear hu0;refine wpT 0 ?_;refine wpT 1 ?_;refine wpT 2 ?_;refine wpT 3 ?_;refine wpT 4 ?_;refine wpT 5 ?_;refine wpC 6 fun K hK => ?_;go_simp;refine (H.below QQ.out (m : Int) (by omega)).mono ?_;rintro e u1 ⟨x, rfl, hx0, _, hx1, H⟩;obtain ⟨k, rfl⟩ : ∃ q : Nat, x = q := ⟨x.toNat, by omega⟩;have hk0 : (0 : Int) ≤ (k : Int) := hx0;have hk1 : (k : Int) < (m : Int) := hx1 (by omega);obtain ⟨⟨vk, y0, y1, y2, y3, ys⟩, hy⟩ := some_at HLN.out (show k < m by omega);obtain ⟨B1, d1, e1, r1, c1⟩ := (H.rdN (j + 1) HJ.out).cells hy;have ca0 := c1 0 _ rfl;simp only [Nat.add_zero] at ca0;clear c1 hx1;go_wp2_with fail;refine hK.out _ _ ?_ fun hHeld => ?_
 ·exact ⟨H.fa 0 0 rfl rfl, H.fa 0 1 rfl rfl⟩
 clear hK K;(try simp only [sX, Act.put]);refine wpT 7 ?_;refine wpT 8 ?_;refine wpC 9 fun K hK => ?_;go_simp;refine hK.out _ _ ?_ fun hHeld => ?_
 ·exact ⟨H.fa 0 0 rfl rfl, H.fa 0 1 rfl rfl⟩
 clear hK K;(try simp only [sX, Act.put]);refine wpT 10 ?_;refine wpAnyH_done (by kernel_rfl) ?_ _;clear b0 b1 ca0 r1 e1;obtain ⟨k2, hat⟩ : ∃ k2, atN (nodes L) y0 = some k2 := Option.isSome_iff_exists.1 (atN_is.2 ⟨_, List.mem_of_getElem? (nodes_at hy), rfl⟩);obtain ⟨x2, hx2, _⟩ := atN_some hat;obtain ⟨vx2, hq2⟩ := nodes_get hx2;obtain ⟨z0, z1, z2, z3, zs⟩ := x2;clear hx2 hy;have b0 := H.fa 0 0 rfl rfl;have b1 := H.fa 0 1 rfl rfl;go_wp2_with fail;refine (l6Dir_any nx _ m d L y0 k2 vx2 z0 z1 z2 z3 zs _ (H.rdN (j + 1) HJ.out) (by omega) hat hq2).mono ?_;rintro e w2 ⟨rfl, f2⟩;replace H := H.go f2;clear f2 b0 b1 hat hq2
 cases hzd : (z1 == 2)
 focus
  go_wp2_with fail;refine (H.once QQ.out 8 (by decide)).mono ?_;rintro e w3 ⟨x, rfl, H⟩
  cases x
  focus
   have b0 := H.fa 0 0 rfl rfl;have b1 := H.fa 0 1 rfl rfl;go_wp2_with fail;refine (specAt_any nx _ m d L 1 _ (H.rdN (j + 1) HJ.out) (by omega)).mono ?_;rintro e w6 ⟨rfl, f6⟩;replace H := H.go f6;clear f6 b0 b1;obtain ⟨z, hz⟩ : ∃ z, z = atZ (nodes L) 1 := ⟨_, rfl⟩;rw [← hz];have HZ := Lib.hid (show ∃ q, z = atZ (nodes L) q from ⟨_, hz⟩);clear hz
  rotate_left
  focus
   have b0 := H.fa 0 0 rfl rfl;have b1 := H.fa 0 1 rfl rfl;go_wp2_with fail;refine (specAt_any nx _ m d L y0 _ (H.rdN (j + 1) HJ.out) (by omega)).mono ?_;rintro e w6 ⟨rfl, f6⟩;replace H := H.go f6;clear f6 b0 b1;obtain ⟨z, hz⟩ : ∃ z, z = atZ (nodes L) y0 := ⟨_, rfl⟩;rw [← hz];have HZ := Lib.hid (show ∃ q, z = atZ (nodes L) q from ⟨_, hz⟩);clear hz
 rotate_left 2
 focus
  have b0 := H.fa 0 0 rfl rfl;have b1 := H.fa 0 1 rfl rfl;go_wp2_with fail;refine (specAt_any nx _ m d L y0 _ (H.rdN (j + 1) HJ.out) (by omega)).mono ?_;rintro e w6 ⟨rfl, f6⟩;replace H := H.go f6;clear f6 b0 b1;obtain ⟨z, hz⟩ : ∃ z, z = atZ (nodes L) y0 := ⟨_, rfl⟩;rw [← hz];have HZ := Lib.hid (show ∃ q, z = atZ (nodes L) q from ⟨_, hz⟩);clear hz
 all_goals
  by_cases hz0 : 0 ≤ z
  rotate_left
  ·have hzd : decide (z ≥ 0) = false := decide_eq_false hz0
   go_wp2_with fail;refine (H.name QQ.out).mono ?_;rintro e w8 ⟨s, rfl, hs, H⟩;have HH := Lib.hid (H.sub (.cons _ (.refl _)));clear H;go_wp2_with fail;go_ret2;exact ⟨_, _, rfl, by omega, HH.out⟩
  ·obtain ⟨q, hq⟩ := HZ.out
   obtain ⟨k3, rfl, hk3⟩ := at_ge hq hz0;rw [nodes_len, HLN.out] at hk3;clear hq;have hk30 : (0 : Int) ≤ (k3 : Int) := hz0;have hk31 : (k3 : Int) < (m : Int) := by omega
   have hzd : decide ((k3 : Int) ≥ 0) = true := decide_eq_true hz0;obtain ⟨⟨vk3, t0, t1, t2, t3, ts⟩, hy3⟩ := some_at HLN.out hk3;obtain ⟨B3, d3, e3, r3, c3⟩ := (H.rdN (j + 1) HJ.out).cells hy3;simp only at e3 r3;subst e3;have ca4 := c3 4 _ rfl;clear c3;have b0 := H.fa 0 0 rfl rfl;have b1 := H.fa 0 1 rfl rfl
   by_cases hts : ts.length = 0
   ·have ht1 : decide (0 < ts.length) = false := decide_eq_false (by omega)
    have ht2 : decide ((ts.length : Int) > 0) = false := decide_eq_false (by omega);go_wp2_with fail;refine (H.name QQ.out).mono ?_;rintro e w8 ⟨s, rfl, hs, H⟩;have HH := Lib.hid (H.sub (.cons _ (.refl _)));clear H;go_wp2_with fail;go_ret2;exact ⟨_, _, rfl, by omega, HH.out⟩
   ·have ht1 : decide (0 < ts.length) = true := decide_eq_true (by omega)
    have ht2 : decide ((ts.length : Int) > 0) = true := decide_eq_true (by omega);obtain ⟨en0, hen0⟩ := some_at rfl (show 0 < ts.length by omega);obtain ⟨be, oe, rfl, _⟩ := r3.elem cEnt_len hen0 (by omega);clear hen0 r3;have hC4 : ∀ u, RdN u (some ⟨zb, zo, none⟩) m L → u.cell? ⟨zb, zo + k3 * 5 + 4, none⟩ = some (.slice (some ⟨be, oe, none⟩) ts.length d3) := fun u h => by
     obtain ⟨_, _, _, _, cc⟩ := h.cells hy3;exact cc 4 _ rfl
    have hC5 : ∀ u, RdN u (some ⟨zb, zo, none⟩) m L → Rd u (some ⟨be, oe, none⟩) ts.length 4 (ts.flatMap cEnt) := fun u h => by
     obtain ⟨B9, d9, e9, r9, _⟩ := h.cells hy3;simp only at e9 r9;injection e9 with q1 q2 q3;subst q1;exact r9
    go_wp2_with fail;refine (H.once QQ.out 2 (by decide)).mono ?_;rintro e w7 ⟨x, rfl, H⟩;clear b0 b1 ca4
    cases x with
    | false =>
      go_wp2_with fail;refine (H.name QQ.out).mono ?_;rintro e w8 ⟨s, rfl, hs, H⟩;have HH := Lib.hid (H.sub (.cons _ (.refl _)));clear H;go_wp2_with fail;go_ret2;exact ⟨_, _, rfl, by omega, HH.out⟩
    | true =>
      go_wp2_with fail;replace H := H.drew;have b0 := H.fa 0 0 rfl rfl;have b1 := H.fa 0 1 rfl rfl;have ca4 := hC4 _ (H.rdN (j + 1) HJ.out);refine wp_region_held_drew (S := fun w' => w'.cell? ⟨w.heap.size, 0, none⟩ = some (.int .i64 nx) ∧ w'.cell? ⟨w.heap.size, 1, none⟩ = some (.slice (some ⟨zb, zo, none⟩) m d) ∧ w'.cell? ⟨zb, zo + k3 * 5 + 4, none⟩ = some (.slice (some ⟨be, oe, none⟩) ts.length d3)) (by kernel_rfl) ?_ (fun hHeld => ?_)
      ·exact ⟨b0, b1, ca4⟩
      obtain ⟨u0, hu0⟩ : ∃ uu : World, uu = w7.drew := ⟨_, rfl⟩;rw [← hu0] at H hHeld ⊢;clear hu0;refine wpT 0 ?_;refine wpT 1 ?_;refine wpT 2 ?_;refine wpT 3 ?_;refine wpT 4 ?_;refine wpT 5 ?_;refine wpT 6 ?_;refine wpT 7 ?_;refine wpT 8 ?_;refine wpT 9 ?_;refine wpT 10 ?_;refine wpT 11 ?_;refine wpT 12 ?_;refine wpT 13 ?_;refine wpT 14 ?_;refine wpC 15 fun K hK => ?_;go_simp;refine (H.below QQ.out (ts.length : Int) (by have := (HE.out _ (List.mem_of_getElem? hy3)).1; simp only at this; omega)).mono ?_;rintro e u1 ⟨x, rfl, hx0, _, hx1, H⟩;obtain ⟨q, rfl⟩ : ∃ q : Nat, x = q := ⟨x.toNat, by omega⟩;have hq0 : (0 : Int) ≤ (q : Int) := hx0;have hq1 : (q : Int) < (ts.length : Int) := hx1 (by omega);obtain ⟨⟨n0, n1, n2, n3⟩, hen⟩ := some_at rfl (show q < ts.length by omega);obtain ⟨be2, oe2, q9, ce⟩ := (hC5 _ (H.rdN (j + 1) HJ.out)).elem cEnt_len hen (by omega);injection q9 with q9;injection q9 with q9a q9b;subst q9a q9b;have ce2 := ce 2 _ rfl;clear ce hx1;go_wp2_with fail;refine hK.out _ _ ?_ fun hHeld => ?_
      ·exact ⟨H.fa 0 0 rfl rfl, H.fa 0 1 rfl rfl, hC4 _ (H.rdN (j + 1) HJ.out)⟩
      clear hK K;(try simp only [sX, Act.put]);refine wpT 16 ?_;refine wpT 17 ?_;refine wpT 19 ?_;refine wpC 18 fun K hK => ?_;go_simp;refine hK.out _ _ ?_ fun hHeld => ?_
      ·exact ⟨H.fa 0 0 rfl rfl, H.fa 0 1 rfl rfl, hC4 _ (H.rdN (j + 1) HJ.out)⟩
      clear hK K;(try simp only [sX, Act.put]);refine wpT 20 ?_;refine wpAnyH_done (by kernel_rfl) ?_ _;have hs := (HE.out _ (List.mem_of_getElem? hy3)).2.2 _ (List.mem_of_getElem? hen);have HH := Lib.hid (H.sub (.cons _ (.refl _)));clear H;go_wp2_with fail;go_ret2;exact ⟨_, _, rfl, hs, HH.out⟩
set_option maxRecDepth 100000 in
set_option maxHeartbeats 32000000 in
theorem l6Call_any {W : List Nat} {w0 w : World} {g : Nat} {A : Option Addr} {n c : Nat} {l : List Ob} (K : HC W w0 w g A n c l) (Q : CurP W w0 g A n) (nx : Int) (B : Option Addr) (m d : Nat) (L : List (Value × Nod)) (j : Nat) (hj : l[j]? = some (obN (.slice B m d) m L)) (hS : SmallV m L) :
 Calls Tryz.prog 31 #[.pointer (some ⟨g, 0, none⟩), .agg #[.int .i64 nx, .slice B m d]] w fun e w' => ∃ (z0 z1 : Int) (s2 : ByteArray) (z3 : Int) (s4 s5 : ByteArray), e = .returned (.agg #[.int .i64 z0, .int .i64 z1, .string s2, .int .i64 z3, .string s4, .string s5]) ∧ s2.size ≤ 16777216 ∧ s4.size ≤ 16777217 ∧ s5.size ≤ 100 ∧ HC W w0 w' g A n c l := by
 have QQ := Lib.hid Q;have HJ := Lib.hid hj;have HSM := Lib.hid hS;have H := (K.lay 28 [.int .i64 nx, .slice B m d] rfl).lay 68 [.int .i64 0, .int .i64 0, .string ⟨#[]⟩, .int .i64 0, .string ⟨#[]⟩, .string ⟨#[]⟩] (gb := w.heap.size + 1) (by simp);clear K Q hj hS;have b0 := H.fa 1 0 rfl rfl;have b1 := H.fa 1 1 rfl rfl;go_enter Tryz.func31, Tryz.ntmps31;go_wp2_with fail;refine (H.pick QQ.out [1, 1, 1, 2, 2, 3, 4, 5, 6, 6, 6, 7, 7, 8] (m := 14) rfl (by decide) (by decide) (gz := w.heap.size + 1 + 1) (by simp)).mono ?_;rintro e w1 ⟨k, rfl, _, H⟩;replace H := H.lay 68 [.int .i64 k, .int .i64 0, .string ⟨#[]⟩, .int .i64 0, .string ⟨#[]⟩, .string ⟨#[]⟩] rfl;obtain ⟨gx, hgx⟩ : ∃ z, z = w1.heap.size := ⟨_, rfl⟩;rw [← hgx] at H;have HGX := Lib.hid hgx;clear hgx b0 b1;have b0 := H.fa 2 0 rfl rfl;have b1 := H.fa 2 1 rfl rfl;go_wp2_with fail;simp only [← HGX.out];refine (l6Where_any H QQ.out nx B m d L (j + 3) HJ.out HSM.out).mono ?_;rintro e w2 ⟨z1, s2, rfl, hs2, H⟩;clear b0 b1;have fx1 := H.bfree 0 rfl 1;have x1 := H.fa 0 1 rfl rfl;have fx2 := H.bfree 0 rfl 2;have x2 := H.fa 0 2 rfl rfl;replace H := H.bput 0 rfl 1 (.int .i64 z1);simp only [List.set_cons_zero, List.set_cons_succ] at H;replace H := H.bput 0 rfl 2 (.string s2);simp only [List.set_cons_zero, List.set_cons_succ] at H;have x0 := H.fa 0 0 rfl rfl
 by_cases hk5 : k = 5 ∨ k = 6
 focus
  rcases hk5 with rfl | rfl
  all_goals
   have b0 := H.fa 2 0 rfl rfl;have b1 := H.fa 2 1 rfl rfl;go_wp2_with fail;refine (l6Where_any H QQ.out nx B m d L (j + 3) HJ.out HSM.out).mono ?_;rintro e w3 ⟨z3, s4, rfl, hs4, H⟩;clear b0 b1 x0 fx1 fx2 x1 x2;have fx3 := H.bfree 0 rfl 3;have x3 := H.fa 0 3 rfl rfl;have fx4 := H.bfree 0 rfl 4;have x4 := H.fa 0 4 rfl rfl;replace H := H.bput 0 rfl 3 (.int .i64 z3);simp only [List.set_cons_zero, List.set_cons_succ] at H;replace H := H.bput 0 rfl 4 (.string s4);simp only [List.set_cons_zero, List.set_cons_succ] at H;go_wp2_with fail;refine (H.once QQ.out 4 (by decide)).mono ?_;rintro e w4 ⟨x, rfl, H⟩;clear fx3 fx4 x3 x4
   cases x
   focus
    have HH : ∃ (z0 z3 : Int) (s4 s5 : ByteArray), s4.size ≤ 16777216 ∧ s5.size ≤ 8 ∧ HC W w0 _ g A n c (.blk gx 68 [.int .i64 z0, .int .i64 z1, .string s2, .int .i64 z3, .string s4, .string s5] :: _) := ⟨_, _, _, _, hs4, Nat.zero_le _, H⟩;clear H;obtain ⟨z0, z3, s4, s5, h4, h5, H⟩ := HH
   rotate_left
   focus
    have x1 := H.fa 0 1 rfl rfl;have x3 := H.fa 0 3 rfl rfl;have fx3 := H.bfree 0 rfl 3;replace H := H.bput 0 rfl 3 (.int .i64 z1);simp only [List.set_cons_zero, List.set_cons_succ] at H;go_wp2_with fail;refine (H.name QQ.out).mono ?_;rintro e w5 ⟨s4, rfl, hs4, H⟩;clear x1 x3 fx3;have fx4 := H.bfree 0 rfl 4;have x4 := H.fa 0 4 rfl rfl;replace H := H.bput 0 rfl 4 (.string s4);simp only [List.set_cons_zero, List.set_cons_succ] at H;have HH : ∃ (z0 z3 : Int) (s4 s5 : ByteArray), s4.size ≤ 16777216 ∧ s5.size ≤ 8 ∧ HC W w0 _ g A n c (.blk gx 68 [.int .i64 z0, .int .i64 z1, .string s2, .int .i64 z3, .string s4, .string s5] :: _) := ⟨_, _, _, _, (by omega), Nat.zero_le _, H⟩;clear H;obtain ⟨z0, z3, s4, s5, h4, h5, H⟩ := HH
 rotate_left 4
 focus
  have h5 : (k == 5) = false := by simp; omega
  have h6 : (k == 6) = false := by simp; omega
  by_cases hk7 : k = 7
  focus
   subst hk7;go_wp2_with fail;refine (H.text QQ.out 8 (by decide)).mono ?_;rintro e w3 ⟨s5, rfl, hs5, H⟩;clear fx1 fx2 x1 x2 x0 h5 h6;have fx5 := H.bfree 0 rfl 5;have x5 := H.fa 0 5 rfl rfl;replace H := H.bput 0 rfl 5 (.string s5);simp only [List.set_cons_zero, List.set_cons_succ] at H;have HH : ∃ (z0 z3 : Int) (s4 s5 : ByteArray), s4.size ≤ 16777216 ∧ s5.size ≤ 8 ∧ HC W w0 _ g A n c (.blk gx 68 [.int .i64 z0, .int .i64 z1, .string s2, .int .i64 z3, .string s4, .string s5] :: _) := ⟨_, _, _, _, Nat.zero_le _, hs5, H⟩;clear H;obtain ⟨z0, z3, s4, s5, h4, h5, H⟩ := HH
  rotate_left
  focus
   have h7 : (k == 7) = false := by simp; omega
   have HH : ∃ (z0 z3 : Int) (s4 s5 : ByteArray), s4.size ≤ 16777216 ∧ s5.size ≤ 8 ∧ HC W w0 _ g A n c (.blk gx 68 [.int .i64 z0, .int .i64 z1, .string s2, .int .i64 z3, .string s4, .string s5] :: _) := ⟨_, _, _, _, Nat.zero_le _, Nat.zero_le _, H⟩;clear H;obtain ⟨z0, z3, s4, s5, h4, h5, H⟩ := HH
 all_goals
  go_wp2_with fail;refine (H.once QQ.out 25 (by decide)).mono ?_;rintro e w6 ⟨x, rfl, H⟩
  cases x
  focus
   have HH : ∃ (z0 z1 z3 : Int) (s4 s5 : ByteArray), s4.size ≤ 16777217 ∧ s5.size ≤ 100 ∧ HC W w0 _ g A n c (.blk gx 68 [.int .i64 z0, .int .i64 z1, .string s2, .int .i64 z3, .string s4, .string s5] :: _) := ⟨_, _, _, _, _, by omega, by omega, H⟩;clear H;obtain ⟨z0, z1, z3, s4, s5, h4, h5, H⟩ := HH
  rotate_left
  focus
   go_wp2_with fail;refine (H.below QQ.out 5 (by decide)).mono ?_;rintro e w7 ⟨y, rfl, y0, _, y1, H⟩;have y2 := y1 (by decide);clear y1;obtain rfl | rfl | rfl | rfl | rfl : y = 0 ∨ y = 1 ∨ y = 2 ∨ y = 3 ∨ y = 4 := by omega
   focus
    go_wp2_with fail;refine (H.pick QQ.out [0, 9, -1] (m := 3) rfl (by decide) (by decide) rfl).mono ?_;rintro e w8 ⟨zz, rfl, _, H⟩;have fx0 := H.bfree 0 rfl 0;have x0 := H.fa 0 0 rfl rfl;replace H := H.bput 0 rfl 0 (.int .i64 zz);simp only [List.set_cons_zero, List.set_cons_succ] at H;have HH : ∃ (z0 z1 z3 : Int) (s4 s5 : ByteArray), s4.size ≤ 16777217 ∧ s5.size ≤ 100 ∧ HC W w0 _ g A n c (.blk gx 68 [.int .i64 z0, .int .i64 z1, .string s2, .int .i64 z3, .string s4, .string s5] :: _) := ⟨_, _, _, _, _, by omega, by omega, H⟩;clear H;obtain ⟨z0, z1, z3, s4, s5, h4, h5, H⟩ := HH
   rotate_left
   focus
    go_wp2_with fail;refine (H.pick QQ.out [-1, 0, 99, 100001] (m := 4) rfl (by decide) (by decide) rfl).mono ?_;rintro e w8 ⟨zz, rfl, _, H⟩;have fx1 := H.bfree 0 rfl 1;have x1 := H.fa 0 1 rfl rfl;replace H := H.bput 0 rfl 1 (.int .i64 zz);simp only [List.set_cons_zero, List.set_cons_succ] at H;have HH : ∃ (z0 z1 z3 : Int) (s4 s5 : ByteArray), s4.size ≤ 16777217 ∧ s5.size ≤ 100 ∧ HC W w0 _ g A n c (.blk gx 68 [.int .i64 z0, .int .i64 z1, .string s2, .int .i64 z3, .string s4, .string s5] :: _) := ⟨_, _, _, _, _, by omega, by omega, H⟩;clear H;obtain ⟨z0, z1, z3, s4, s5, h4, h5, H⟩ := HH
   rotate_left
   focus
    go_wp2_with fail;refine (H.pick QQ.out [-1, 1, 99] (m := 3) rfl (by decide) (by decide) rfl).mono ?_;rintro e w8 ⟨zz, rfl, _, H⟩;have fx3 := H.bfree 0 rfl 3;have x3 := H.fa 0 3 rfl rfl;replace H := H.bput 0 rfl 3 (.int .i64 zz);simp only [List.set_cons_zero, List.set_cons_succ] at H;have HH : ∃ (z0 z1 z3 : Int) (s4 s5 : ByteArray), s4.size ≤ 16777217 ∧ s5.size ≤ 100 ∧ HC W w0 _ g A n c (.blk gx 68 [.int .i64 z0, .int .i64 z1, .string s2, .int .i64 z3, .string s4, .string s5] :: _) := ⟨_, _, _, _, _, by omega, by omega, H⟩;clear H;obtain ⟨z0, z1, z3, s4, s5, h4, h5, H⟩ := HH
   rotate_left
   focus
    have x4 := H.fa 0 4 rfl rfl;have fx4 := H.bfree 0 rfl 4;have hsz : (9223372036854775807 < s4.size + 1) = False := eq_false (by omega);replace H := H.bput 0 rfl 4 (.string (s4 ++ ⟨#[120]⟩));simp only [List.set_cons_zero, List.set_cons_succ] at H;have HH : ∃ (z0 z1 z3 : Int) (s4 s5 : ByteArray), s4.size ≤ 16777217 ∧ s5.size ≤ 100 ∧ HC W w0 _ g A n c (.blk gx 68 [.int .i64 z0, .int .i64 z1, .string s2, .int .i64 z3, .string s4, .string s5] :: _) := ⟨_, _, _, _, _, by rw [ByteArray.size_append]; show _ + 1 ≤ _; omega, by omega, H⟩;clear H;obtain ⟨z0, z1, z3, s4, s5, h4, h5, H⟩ := HH
   rotate_left
   focus
    have x5 := H.fa 0 5 rfl rfl;have fx5 := H.bfree 0 rfl 5;have hsz : (9223372036854775807 < s5.size + 1) = False := eq_false (by omega);replace H := H.bput 0 rfl 5 (.string (s5 ++ ⟨#[121]⟩));simp only [List.set_cons_zero, List.set_cons_succ] at H;have HH : ∃ (z0 z1 z3 : Int) (s4 s5 : ByteArray), s4.size ≤ 16777217 ∧ s5.size ≤ 100 ∧ HC W w0 _ g A n c (.blk gx 68 [.int .i64 z0, .int .i64 z1, .string s2, .int .i64 z3, .string s4, .string s5] :: _) := ⟨_, _, _, _, _, by omega, by rw [ByteArray.size_append]; show _ + 1 ≤ _; omega, H⟩;clear H;obtain ⟨z0, z1, z3, s4, s5, h4, h5, H⟩ := HH
  all_goals
   have x0 := H.fa 0 0 rfl rfl;have q0 := H.fa 1 0 rfl rfl;have f0 := H.bfree 1 rfl 0;have x1 := H.fa 0 1 rfl rfl;have q1 := H.fa 1 1 rfl rfl;have f1 := H.bfree 1 rfl 1;have x2 := H.fa 0 2 rfl rfl;have q2 := H.fa 1 2 rfl rfl;have f2 := H.bfree 1 rfl 2;have x3 := H.fa 0 3 rfl rfl;have q3 := H.fa 1 3 rfl rfl;have f3 := H.bfree 1 rfl 3;have x4 := H.fa 0 4 rfl rfl;have q4 := H.fa 1 4 rfl rfl;have f4 := H.bfree 1 rfl 4;have x5 := H.fa 0 5 rfl rfl;have q5 := H.fa 1 5 rfl rfl;have f5 := H.bfree 1 rfl 5;obtain ⟨i9, h9, a9, b9, H9⟩ := H;replace H9 := H9.blays 2 rfl [.int .i64 z0, .int .i64 z1, .string s2, .int .i64 z3, .string s4, .string s5] rfl;simp only [layW, Nat.zero_add, Nat.reduceAdd] at H9;go_wp2_with fail
   ((try simp only [Exit.inBlock, Exit.then]); refine bodyPost_ret (results_cell_row rfl _ _ _ _ _ _ _ rfl (H9.blk 2 rfl) Tryz.underlying68 rfl (by kernel_rfl)) rfl ?_)
   exact ⟨_, _, _, _, _, _, rfl, hs2, h4, h5, i9, h9, a9, b9, H9.sub (.cons_cons _ (.cons _ (.cons _ (.cons _ (.refl _)))))⟩
end Go.Proofs.YtmpldngnkacnmaaGreatDoor
