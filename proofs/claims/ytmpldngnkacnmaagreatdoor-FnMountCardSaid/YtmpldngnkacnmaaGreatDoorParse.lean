/-
An inode's text as the reference reads it.
-/
import Derived.Test.YtmpldngnkacnmaaGreatDoorGm
import Derived.Test.YtmpldngnkacnmaaGreatDoorGj
namespace Go.Proofs.YtmpldngnkacnmaaGreatDoor
open Go.RowKit
set_option linter.unusedVariables false
set_option linter.unusedSimpArgs false
theorem vars_some1 {s : List UInt8} {o : Option Nat} {a : Nat} (h : (varsP s o 1).2 = some a) : ∃ b, o = some b := by
 obtain ⟨_, _, b, hb⟩ := vars_in h;exact ⟨b, hb⟩
theorem take_in {s : List UInt8} {o : Option Nat} {b : Nat} (h : (takeP s o).2 = some b) : b ≤ s.length ∧ ∃ k, (varsP s o 1).2 = some k := by
 cases hk : (varsP s o 1).2 with
 | none => rw [takeP_none hk] at h; cases h
 | some k =>
   have h1 := (vars_in hk).1;rw [takeP_some hk rfl] at h
   split at h
   ·cases h
   ·injection h with h
    exact ⟨by omega, k, rfl⟩
theorem list3 {l : List Nat} (h : l.length = 3) : ∃ x0 x1 x2, l = [x0, x1, x2] := by
 match l, h with
 | [a, b, c], _ => exact ⟨a, b, c, rfl⟩
def Parsed (w : World) (r : List UInt8) (e : Ending) (w' : World) : Prop :=
 (∃ (y0 y1 y2 : Int) (y3 : ByteArray) (D : Option Addr) (m q : Nat), e = .returned (.tuple #[.agg #[.int .i64 y0, .int .i64 y1, .int .i64 y2, .string y3, .slice D m q], .bool false]) ∧ (∀ x, FineN x → r ≠ nodeB x) ∧ Fr w w') ∨
 (∃ (A : Option Addr) (c : Nat), e = .returned (.tuple #[.agg #[.int .i64 (prN r).1, .int .i64 (prN r).2.1, .int .i64 (prN r).2.2.1, .string (prN r).2.2.2.1, .slice A (prN r).2.2.2.2.length c], .bool true]) ∧ (prN r).2.2.2.2.length ≤ 12 ∧
  Hp [] w w' [.row 90 4 (.slice A (prN r).2.2.2.2.length c) (prN r).2.2.2.2.length ((prN r).2.2.2.2.flatMap cEnt)])
theorem parsed_no {w w' : World} {r : List UInt8} {y0 y1 y2 : Int} {y3 : ByteArray} {D : Option Addr} {m q : Nat} (h : ∀ x, FineN x → r ≠ nodeB x) (f : Fr w w') : Parsed w r (.returned (.tuple #[.agg #[.int .i64 y0, .int .i64 y1, .int .i64 y2, .string y3, .slice D m q], .bool false])) w' := .inl ⟨y0, y1, y2, y3, D, m, q, rfl, h, f⟩
theorem parse_no1 {r : List UInt8} (h : (prC r).2 = none) : ∀ x, FineN x → r ≠ nodeB x := by
 rintro x hf rfl;obtain ⟨⟨a, h1⟩, _⟩ := prs_app hf;rw [h1] at h; cases h
theorem parse_no2 {r : List UInt8} (h : 12 < num1 (prC r)) : ∀ x, FineN x → r ≠ nodeB x := by
 rintro x hf rfl;have h1 := (prs_app hf).2.1;have h2 := hf.2.2.2.2.2.2.2.1;omega
theorem parse_no3 {r : List UInt8} {k : Nat} (hk : k ≤ num1 (prC r)) (h : (prsEs r (prC r).2 k).2 = none) : ∀ x, FineN x → r ≠ nodeB x := by
 rintro x hf rfl;obtain ⟨c, h1⟩ := (prs_app hf).2.2.1 k (by rw [← (prs_app hf).2.1]; exact hk);rw [h1] at h; cases h
theorem parse_no4 {r : List UInt8} {a : Nat} (h : (prD r).2 = some a) (ha : a ≠ r.length) : ∀ x, FineN x → r ≠ nodeB x := by
 rintro x hf rfl;have h1 := (prs_app hf).2.2.2.1;rw [h1] at h;injection h with h;exact ha h.symm
theorem prsEs_len (s : List UInt8) (o : Option Nat) : ∀ k, (prsEs s o k).1.length = k
 | 0 => rfl
 | k + 1 => by rw [prsEs, List.length_append, prsEs_len s o k]; rfl
theorem prsE_in {s : List UInt8} {o : Option Nat} {a : Nat} (h : (prsE s o).2 = some a) : a ≤ s.length := (vars_in (k := 0) h).1
theorem prsEs_in {s : List UInt8} {c : Nat} : ∀ {k a : Nat}, c ≤ s.length → (prsEs s (some c) k).2 = some a → a ≤ s.length
 | 0, a, hc, h => by injection h with h; omega
 | k + 1, a, hc, h => prsE_in h
theorem take_size {s : List UInt8} {o : Option Nat} : (takeP s o).1.length ≤ s.length := by
 unfold takeP
 split
 ·simp
 ·split
  ·simp
  ·simp only [List.length_take, List.length_drop]; omega
set_option maxRecDepth 100000 in
set_option maxHeartbeats 8000000 in
theorem specParse_any (r : List UInt8) (w : World) (hr : r.length ≤ 16777216) :
 Calls Tryz.prog 46 #[.string (ofB r)] w (Parsed w r) := by
 obtain ⟨A, hA⟩ : ∃ A, prA r = A := ⟨_, rfl⟩;obtain ⟨B, hB⟩ : ∃ B, prB r = B := ⟨_, rfl⟩;obtain ⟨C, hC⟩ : ∃ C, prC r = C := ⟨_, rfl⟩;have EA := Lib.hid (show varsP r (some 1) 3 = A from hA);have EB := Lib.hid (show takeP r A.2 = B by rw [← hB, prB, hA]);have EC := Lib.hid (show varsP r B.2 1 = C by rw [← hC, prC, hB]);have EC' := Lib.hid hC;have EB' := Lib.hid hB;have EA' := Lib.hid hA;clear hA hB hC;obtain ⟨d5, B2⟩ := B;have HTB := Lib.hid (toB_ofB r);have hsz : (ofB r).size ≤ 1099511627776 := by rw [ofB_size]; omega
 have H0 := (Hp.start w).lay_ 53 [.int .i64 0, .int .i64 0, .int .i64 0, .string (ByteArray.mk #[]), .slice none 0 0] rfl;go_enter Tryz.func46, Tryz.ntmps46;go_wp2_with fail;have hc := specVars_any (ofB r) (some 1) 3 (w.alloc (.cells #[.int .i64 0, .int .i64 0, .int .i64 0, .string (ByteArray.mk #[]), .slice none 0 0] 53)) hsz (fun b hb => by injection hb with hb; omega) (by omega);rw [toB_ofB, EA.out, show plZ (some 1) = 1 from rfl, show ((3 : Nat) : Int) = 3 from rfl] at hc;refine hc.mono ?_;rintro e w1 ⟨Aa, ca, rfl, o1, f1⟩;have H := H0.made o1 f1;clear hc o1 f1 H0;go_wp2_with fail;have hc := specTake_any (ofB r) A.2 w1 hsz (fun b hb => by
  have := vars_in (s := r) (o := some 1) (k := 2) (a := b) (by rw [EA.out]; exact hb);omega)
 rw [toB_ofB, EB.out] at hc;simp only at hc;refine hc.mono ?_;rintro e w2 ⟨rfl, f2⟩;replace H := H.go f2;clear hc f2;go_wp2_with fail;have hc := specVars_any (ofB r) B2 1 w2 hsz (fun b hb => by
  have := take_in (s := r) (o := A.2) (b := b) (by rw [EB.out]; exact hb);omega) (by omega)
 have EC2 := EC.out;(try simp only at EC2);rw [toB_ofB, EC2, show ((1 : Nat) : Int) = 1 from rfl] at hc;refine hc.mono ?_;rintro e w3 ⟨Ac, cc, rfl, o3, f3⟩;replace H := H.made o3 f3;clear hc o3 f3;obtain ⟨lc, Co⟩ := C;simp only at H EC2 ⊢
 cases Co with
 | none =>
   have HNO := Lib.hid (parse_no1 (r := r) (by rw [EC'.out]));have hm1 : plZ none = -1 := rfl;rw [hm1];have e0 := H.fa 2 0 rfl rfl;have e1 := H.fa 2 1 rfl rfl;have e2 := H.fa 2 2 rfl rfl;have e3 := H.fa 2 3 rfl rfl;have e4 := H.fa 2 4 rfl rfl;have f0 := H.bfree 2 rfl 0;have f1 := H.bfree 2 rfl 1;have f2 := H.bfree 2 rfl 2;have f3 := H.bfree 2 rfl 3;have f4 := H.bfree 2 rfl 4;have H9 := H.bputs 2 rfl [.int .i64 0, .int .i64 0, .int .i64 0, .string (ByteArray.mk #[]), .slice none 0 0] rfl;simp only [setsW] at H9;clear H;go_wp2_with fail
   ((try simp only [Exit.inBlock, Exit.then]); refine bodyPost_ret (results_cell_tmp_row rfl _ _ w.heap.size 53 #[.int .i64 0, .int .i64 0, .int .i64 0, .string (ByteArray.mk #[]), .slice none 0 0] (0, 0) _ rfl (H9.blk 2 rfl) Tryz.underlying53 rfl (by kernel_rfl)) rfl ?_)
   exact parsed_no HNO.out H9.fr
 | some c0 =>
   obtain ⟨n1, n2, n3⟩ := num1_of (s := r) (o := B2) (a := c0) (by rw [EC2]);rw [EC2] at n1 n2;simp only [num1] at n1 n2;obtain ⟨nn, hnn⟩ : ∃ nn, nn = lc.headD 0 := ⟨_, rfl⟩;rw [← hnn] at n1 n2;have HNN := Lib.hid (show num1 (prC r) = nn by rw [EC'.out, num1, hnn]);subst n1;obtain ⟨b1, hb1⟩ : ∃ b, B2 = some b := vars_some1 (s := r) (o := B2) (by rw [EC2]);obtain ⟨a1, ha1⟩ : ∃ a, A.2 = some a := by
    obtain ⟨_, k, hk⟩ := take_in (s := r) (o := A.2) (b := b1) (by rw [EB.out]; exact hb1);exact vars_some1 (s := r) (o := A.2) hk
   have hal : A.1.length = 3 := by have := vars_len (s := r) (o := some 1) (k := 3) (a := a1) (by rw [EA.out]; exact ha1); rwa [EA.out] at this
   obtain ⟨x0, x1, x2, hax⟩ : ∃ x0 x1 x2, A.1 = [x0, x1, x2] := list3 hal;rw [hax] at H;have HPN := Lib.hid (show prN r = ((x0 : Int), (x1 : Int), (x2 : Int), ofB d5, (prD r).1) by rw [prN, EA'.out, EB'.out, hax]; rfl);have hk : plZ (some c0) = (c0 : Int) := rfl;rw [hk];clear hk hnn hb1 ha1 hal EC2;obtain ⟨gc, cgc, ec, _⟩ := H.form 0 rfl (by simp);injection ec with ec1 _ ec2;subst ec1 ec2;obtain ⟨ga, cga, ea, _⟩ := H.form 1 rfl (by simp);injection ea with ea1 _ ea2;subst ea1 ea2;have z0 := H.atM (f1 := intN) 0 rfl (j := 0) rfl;simp only [intN] at z0;have c00 : (0 : Int) ≤ (c0 : Int) := by omega
   have c01 : ¬ (c0 : Int) < 0 := by omega
   by_cases h12 : 12 < nn
   ·have h121 : (12 : Int) < (nn : Int) := by omega
    have HNO := Lib.hid (parse_no2 (r := r) (by rw [HNN.out]; exact h12));have e0 := H.fa 2 0 rfl rfl;have e1 := H.fa 2 1 rfl rfl;have e2 := H.fa 2 2 rfl rfl;have e3 := H.fa 2 3 rfl rfl;have e4 := H.fa 2 4 rfl rfl;have f0 := H.bfree 2 rfl 0;have f1 := H.bfree 2 rfl 1;have f2 := H.bfree 2 rfl 2;have f3 := H.bfree 2 rfl 3;have f4 := H.bfree 2 rfl 4;have H9 := H.bputs 2 rfl [.int .i64 0, .int .i64 0, .int .i64 0, .string (ByteArray.mk #[]), .slice none 0 0] rfl;simp only [setsW] at H9;clear H;go_wp2_with fail
    ((try simp only [Exit.inBlock, Exit.then]); refine bodyPost_ret (results_cell_tmp_row rfl _ _ w.heap.size 53 #[.int .i64 0, .int .i64 0, .int .i64 0, .string (ByteArray.mk #[]), .slice none 0 0] (0, 0) _ rfl (H9.blk 2 rfl) Tryz.underlying53 rfl (by kernel_rfl)) rfl ?_)
    exact parsed_no HNO.out H9.fr
   ·have h121 : ¬ (12 : Int) < (nn : Int) := by omega
    go_wp2_with fail;replace H := H.drew;have y0 := H.atM (f1 := intN) 1 rfl (j := 0) rfl;have y1 := H.atM (f1 := intN) 1 rfl (j := 1) rfl;have y2 := H.atM (f1 := intN) 1 rfl (j := 2) rfl;clear z0;refine wp_region_held_drew (S := fun w' => w'.cell? ⟨ga, 0, none⟩ = some (.int .i64 (x0 : Int)) ∧ w'.cell? ⟨ga, 1, none⟩ = some (.int .i64 (x1 : Int)) ∧ w'.cell? ⟨ga, 2, none⟩ = some (.int .i64 (x2 : Int))) (by kernel_rfl) ?_ (fun hHeld => ?_)
    ·exact ⟨y0, y1, y2⟩
    obtain ⟨u0, hu0⟩ : ∃ uu : World, uu = w3.drew := ⟨_, rfl⟩;rw [← hu0] at H hHeld ⊢;clear hu0;refine wpT 0 ?_;refine wpT 1 ?_;refine wpT 2 ?_;refine wpT 3 ?_;refine wpT 4 ?_;refine wpT 5 ?_;refine wpT 6 ?_;refine wpT 7 ?_;refine wpT 8 ?_;refine wpT 9 ?_;refine wpT 10 ?_;refine wpC 11 fun K hK => ?_;replace H := H.lay 53 [.int .i64 0, .int .i64 0, .int .i64 0, .string (ByteArray.mk #[]), .slice none 0 0];go_simp;obtain ⟨gx, hgx⟩ : ∃ x, x = u0.heap.size := ⟨_, rfl⟩;rw [← hgx] at H ⊢;clear hgx;obtain ⟨u1, hv⟩ : ∃ uu : World, uu = u0.alloc (.cells #[.int .i64 0, .int .i64 0, .int .i64 0, .string (ByteArray.mk #[]), .slice none 0 0] 53) := ⟨_, rfl⟩;rw [← hv] at H ⊢;clear hv;refine hK.out _ _ ?_ fun hHeld => ?_
    ·exact ⟨H.atM (f1 := intN) 2 rfl (j := 0) rfl, H.atM (f1 := intN) 2 rfl (j := 1) rfl, H.atM (f1 := intN) 2 rfl (j := 2) rfl⟩
    clear hK K;(try simp only [sX, Act.put]);refine wpC 12 fun K hK => ?_;have e0 := H.bfree 0 rfl 0;have e1 := H.bfree 0 rfl 1;have e2 := H.bfree 0 rfl 2;have e3 := H.bfree 0 rfl 3;have e4 := H.bfree 0 rfl 4;have s0 := H.fa 0 0 rfl rfl;have s1 := H.fa 0 1 rfl rfl;have s2 := H.fa 0 2 rfl rfl;have s3 := H.fa 0 3 rfl rfl;have s4 := H.fa 0 4 rfl rfl;replace H := H.bputs 0 rfl [.int .i64 (x0 : Int), .int .i64 (x1 : Int), .int .i64 (x2 : Int), .string (ofB d5), .slice none 0 0] rfl;simp only [setsW] at H;go_simp;refine hK.out _ _ ?_ fun hHeld => ?_
    ·exact ⟨H.atM (f1 := intN) 2 rfl (j := 0) rfl, H.atM (f1 := intN) 2 rfl (j := 1) rfl, H.atM (f1 := intN) 2 rfl (j := 2) rfl⟩
    clear hK K;(try simp only [sX, Act.put]);refine wpAnyH_done (by kernel_rfl) ?_ _;clear y0 y1 y2;have H1 : Hp [] w _ [.row 90 4 (.slice none 0 0) ([] : List EntT).length (([] : List EntT).flatMap cEnt), .blk gx 53 [.int .i64 (x0 : Int), .int .i64 (x1 : Int), .int .i64 (x2 : Int), .string (ofB d5), (.slice none 0 0)], .row 3 1 (.slice (some ⟨gc, 0, none⟩) 1 cc) 1 ([nn].map intN), .row 3 1 (.slice (some ⟨ga, 0, none⟩) 3 ca) 3 ([x0, x1, x2].map intN), .blk w.heap.size 53 [.int .i64 0, .int .i64 0, .int .i64 0, .string (ByteArray.mk #[]), .slice none 0 0]] := H.nil_ 90 4;clear H;have z0 := H1.atM (f1 := intN) 2 rfl (j := 0) rfl;simp only [intN] at z0;go_wp2_with fail
    go_loopw [5, 9] (fun av kv wr => ∃ (k a : Nat) (V : Value) (el : List EntT), kv = .int .i64 k ∧ av = .int .i64 a ∧ k ≤ nn ∧ prsEs r (some c0) k = (el, some a) ∧ Hp [] w wr [.row 90 4 V el.length (el.flatMap cEnt), .blk gx 53 [.int .i64 (x0 : Int), .int .i64 (x1 : Int), .int .i64 (x2 : Int), .string (ofB d5), V], .row 3 1 (.slice (some ⟨gc, 0, none⟩) 1 cc) 1 ([nn].map intN), .row 3 1 (.slice (some ⟨ga, 0, none⟩) 3 ca) 3 ([x0, x1, x2].map intN), .blk w.heap.size 53 [.int .i64 0, .int .i64 0, .int .i64 0, .string (ByteArray.mk #[]), .slice none 0 0]]) (fun _ kv _ => nn - (intOf kv).toNat)
    case atStart => exact ⟨0, c0, _, [], rfl, rfl, by omega, rfl, H1⟩
    case round =>
     clear H1 z0;obtain ⟨k, a, V, el, rfl, rfl, hk, hes, H⟩ := hrel;have HE0 := Lib.hid hes;have hel : el.length ≤ k := by have := prsEs_len r (some c0) k; rw [hes] at this; exact Nat.le_of_eq this
     have hab : a ≤ 16777216 := by have := prsEs_in (s := r) (c := c0) (k := k) (a := a) n3 (by rw [hes]); omega
     clear hes;have hk0 : (0 : Int) ≤ (k : Int) := by omega
     have z0 := H.atM (f1 := intN) 2 rfl (j := 0) rfl;simp only [intN] at z0
     by_cases hkn : k < nn
     ·have hk1 : (k : Int) < (nn : Int) := by omega
      obtain ⟨⟨l1, p1⟩, hV1⟩ : ∃ V, varsP r (some a) 1 = V := ⟨_, rfl⟩;obtain ⟨⟨d2, p2⟩, hT2⟩ : ∃ V, takeP r p1 = V := ⟨_, rfl⟩;obtain ⟨⟨l3, p3⟩, hV3⟩ : ∃ V, varsP r p2 1 = V := ⟨_, rfl⟩;have HPE := Lib.hid (show prsE r (some a) = ((hashN d2, ((num1 (l1, p1) : Nat) : Int), ofB d2, ((num1 (l3, p3) : Nat) : Int)), p3) by
       rw [prsE, hV1];simp only;rw [hT2];simp only;rw [hV3])
      have D2 : (ofB d2).size ≤ 16777216 := by
       rw [ofB_size];have := take_size (s := r) (o := p1);rw [hT2] at this;exact Nat.le_trans this hr
      have B1 := Lib.hid (show ∀ b, p1 = some b → b ≤ 1099511627776 from fun b hb => by
       have := (vars_in (s := r) (o := some a) (k := 0) (a := b) (by rw [hV1]; exact hb)).1;omega)
      have B2' := Lib.hid (show ∀ b, p2 = some b → b ≤ 1099511627776 from fun b hb => by
       have := (take_in (s := r) (o := p1) (b := b) (by rw [hT2]; exact hb)).1;omega)
      have V1 := Lib.hid hV1;have T2 := Lib.hid hT2;have V3 := Lib.hid hV3;clear hV1 hT2 hV3;go_wp2_with fail;have hc := specVars_any (ofB r) (some a) 1 wr hsz (fun b hb => by injection hb with hb; omega) (by omega);rw [toB_ofB, V1.out, show plZ (some a) = (a : Int) from rfl, show ((1 : Nat) : Int) = 1 from rfl] at hc;refine hc.mono ?_;rintro e w1 ⟨A1, c1, rfl, o1, f1⟩;replace H := H.made o1 f1;clear hc o1 f1 z0;simp only at H ⊢;go_wp2_with fail;have hc := specTake_any (ofB r) p1 w1 hsz B1.out;rw [toB_ofB, T2.out] at hc;simp only at hc;refine hc.mono ?_;rintro e w2 ⟨rfl, f2⟩;replace H := H.go f2;clear hc f2;go_wp2_with fail;have hc := specVars_any (ofB r) p2 1 w2 hsz B2'.out (by omega);rw [toB_ofB, V3.out, show ((1 : Nat) : Int) = 1 from rfl] at hc;refine hc.mono ?_;rintro e w3 ⟨A3, c3, rfl, o3, f3⟩;replace H := H.made o3 f3;clear hc o3 f3;simp only at H ⊢
      cases p3 with
      | none =>
        have HNO := Lib.hid (parse_no3 (r := r) (k := k + 1) (by rw [HNN.out]; omega) (by rw [EC'.out, prsEs, HE0.out]; simp only; rw [HPE.out]));have hm1 : plZ none = -1 := rfl;rw [hm1];have e0 := H.fa 6 0 rfl rfl;have e1 := H.fa 6 1 rfl rfl;have e2 := H.fa 6 2 rfl rfl;have e3 := H.fa 6 3 rfl rfl;have e4 := H.fa 6 4 rfl rfl;have f0 := H.bfree 6 rfl 0;have f1 := H.bfree 6 rfl 1;have f2 := H.bfree 6 rfl 2;have f3 := H.bfree 6 rfl 3;have f4 := H.bfree 6 rfl 4;have H9 := H.bputs 6 rfl [.int .i64 0, .int .i64 0, .int .i64 0, .string (ByteArray.mk #[]), .slice none 0 0] rfl;simp only [setsW] at H9;clear H;go_wp2_with fail
        ((try simp only [Exit.inBlock, Exit.then]); refine bodyPost_ret (results_cell_tmp_row rfl _ _ w.heap.size 53 #[.int .i64 0, .int .i64 0, .int .i64 0, .string (ByteArray.mk #[]), .slice none 0 0] (0, 0) _ rfl (H9.blk 6 rfl) Tryz.underlying53 rfl (by kernel_rfl)) rfl ?_)
        exact parsed_no HNO.out H9.fr
      | some b =>
        obtain ⟨n1, n2', n3'⟩ := num1_of (s := r) (o := p2) (a := b) (by rw [V3.out]);rw [V3.out] at n1 n2';simp only [num1] at n1 n2';obtain ⟨b2, hb2⟩ := vars_some1 (s := r) (o := p2) (by rw [V3.out]);obtain ⟨_, b1, hb1⟩ := take_in (s := r) (o := p1) (b := b2) (by rw [T2.out]; exact hb2);obtain ⟨b0, hb0⟩ := vars_some1 (s := r) (o := p1) hb1;obtain ⟨k1, k2, k3⟩ := num1_of (s := r) (o := some a) (a := b0) (by rw [V1.out]; exact hb0);rw [V1.out] at k1 k2;simp only [num1] at k1 k2;obtain ⟨m1, hm1⟩ : ∃ m, m = l1.headD 0 := ⟨_, rfl⟩;obtain ⟨m3, hm3⟩ : ∃ m, m = l3.headD 0 := ⟨_, rfl⟩;rw [← hm1] at k1 k2;rw [← hm3] at n1 n2';have HES := Lib.hid (show prsEs r (some c0) (k + 1) = (el ++ [((hashN d2, (m1 : Int), ofB d2, (m3 : Int)) : EntT)], some b) by
         rw [prsEs, HE0.out];simp only;rw [HPE.out];simp only [num1, ← hm1, ← hm3])
        clear hm1 hm3 hb0 hb1 hb2;subst k1 n1;obtain ⟨g3, cg3, e3, _⟩ := H.form 0 rfl (by simp);injection e3 with e31 _ e32;subst e31 e32;obtain ⟨g1, cg1, e1, _⟩ := H.form 1 rfl (by simp);injection e1 with e11 _ e12;subst e11 e12;have hkb : plZ (some b) = (b : Int) := rfl;rw [hkb];clear hkb;have hb00 : (0 : Int) ≤ (b : Int) := by omega
        have hb01 : ¬ (b : Int) < 0 := by omega
        go_wp2_with fail;replace H := H.drew;have y1 := H.atM (f1 := intN) 1 rfl (j := 0) rfl;have y2 := H.atM (f1 := intN) 0 rfl (j := 0) rfl;refine wp_region_held_drew (S := fun w' => w'.cell? ⟨g1, 0, none⟩ = some (.int .i64 (m1 : Int)) ∧ w'.cell? ⟨g3, 0, none⟩ = some (.int .i64 (m3 : Int))) (by kernel_rfl) ?_ (fun hHeld => ?_)
        ·exact ⟨y1, y2⟩
        obtain ⟨u0, hu0⟩ : ∃ uu : World, uu = w3.drew := ⟨_, rfl⟩;rw [← hu0] at H hHeld ⊢;clear hu0;refine wpT 0 ?_;refine wpT 2 ?_;refine wpT 4 ?_;refine wpT 5 ?_;refine wpT 6 ?_;refine wpT 7 ?_;refine wpT 8 ?_;refine wpT 9 ?_;refine wpT 10 ?_;refine wpAnyH_ready (rs := [1, 3]) (by kernel_rfl) (by simp) ?_;refine (AllReadyH.cons rfl (fun K hK => ?_) (AllReadyH.cons rfl (fun K hK => ?_) AllReadyH.nil))
        ·have zV := H.fa 3 4 rfl rfl
         go_simp;obtain ⟨u1, hv⟩ : ∃ uu : World, uu = u0 := ⟨_, rfl⟩;rw [← hv] at H ⊢;clear hv zV;refine hK.out _ _ ?_ fun hHeld => ?_
         ·exact ⟨H.atM (f1 := intN) 1 rfl (j := 0) rfl, H.atM (f1 := intN) 0 rfl (j := 0) rfl⟩
         clear hK K;(try simp only [sX, Act.put]);refine wpC 3 fun K hK => ?_;go_simp;refine (specHashOf_any (ofB d2) _ D2).mono ?_;rintro e u2 ⟨rfl, f9⟩;replace H := H.go f9;clear f9;rw [toB_ofB];go_wp2_with fail;refine hK.out _ _ ?_ fun hHeld => ?_
         ·exact ⟨H.atM (f1 := intN) 1 rfl (j := 0) rfl, H.atM (f1 := intN) 0 rfl (j := 0) rfl⟩
         clear hK K;(try simp only [sX, Act.put]);refine wpT 11 ?_;refine wpC 12 fun K hK => ?_;replace H := H.lit 90 4 1 [.int .i64 (hashN d2), .int .i64 (m1 : Int), .string (ofB d2), .int .i64 (m3 : Int)] rfl (by simp [maxLen]);go_simp;obtain ⟨h5, hh5⟩ : ∃ x, x = u2.heap.size := ⟨_, rfl⟩;rw [← hh5] at H ⊢;clear hh5;obtain ⟨u3, hv⟩ : ∃ uu : World, uu = u2.alloc (.cells #[.int .i64 (hashN d2), .int .i64 (m1 : Int), .string (ofB d2), .int .i64 (m3 : Int)] 90) := ⟨_, rfl⟩;rw [← hv] at H ⊢;clear hv;refine hK.out _ _ ?_ fun hHeld => ?_
         ·exact ⟨H.atM (f1 := intN) 2 rfl (j := 0) rfl, H.atM (f1 := intN) 1 rfl (j := 0) rfl⟩
         clear hK K;(try simp only [sX, Act.put]);refine wpC 13 fun K hK => ?_;refine step_appRd H rfl _ _ _ rfl Tryz.underlying51 infoEnt rfl (by decide) 3 _ _ _ rfl (by simp [Act.eval]) (some ⟨h5, 0, none⟩) 1 1 _ (by simp [Act.eval]) (fun h => nomatch h) (H.rd 0 rfl) (by simp [Value.oneCell']) (by simp only [maxLen]; omega) (by omega) ?_;intro v' u4 H1;replace H := H1;clear H1;obtain ⟨C9, q9, rfl⟩ := H.shape 3 rfl;refine hK.out _ _ ?_ fun hHeld => ?_
         ·exact ⟨H.atM (f1 := intN) 2 rfl (j := 0) rfl, H.atM (f1 := intN) 1 rfl (j := 0) rfl⟩
         clear hK K;(try simp only [sX, Act.put]);refine wpT 14 ?_;refine wpC 15 fun K hK => ?_;have e0 := H.bfree 4 rfl 4;have s0 := H.fa 4 4 rfl rfl;replace H := H.bput 4 rfl 4 (.slice C9 (el.length + 1) q9);go_simp;refine hK.out _ _ ?_ fun hHeld => ?_
         ·exact ⟨H.atM (f1 := intN) 2 rfl (j := 0) rfl, H.atM (f1 := intN) 1 rfl (j := 0) rfl⟩
         clear hK K;(try simp only [sX, Act.put]);refine wpAnyH_done (by kernel_rfl) ?_ _;have H8 := Lib.hid (show Hp [] w _ [.row 90 4 (.slice C9 (el.length + 1) q9) (el ++ [((hashN d2, (m1 : Int), ofB d2, (m3 : Int)) : EntT)]).length ((el ++ [((hashN d2, (m1 : Int), ofB d2, (m3 : Int)) : EntT)]).flatMap cEnt), .blk gx 53 [.int .i64 (x0 : Int), .int .i64 (x1 : Int), .int .i64 (x2 : Int), .string (ofB d5), (.slice C9 (el.length + 1) q9)], .row 3 1 (.slice (some ⟨gc, 0, none⟩) 1 cc) 1 ([nn].map intN), .row 3 1 (.slice (some ⟨ga, 0, none⟩) 3 ca) 3 ([x0, x1, x2].map intN), .blk w.heap.size 53 [.int .i64 0, .int .i64 0, .int .i64 0, .string (ByteArray.mk #[]), .slice none 0 0]] from H.tail.tail.tail.recast (by simp [cEnt]));clear H;go_wp2_with fail;go_roundw
         case rel => exact ⟨k + 1, b, _, _, by go_num, rfl, by omega, HES.out, H8.out⟩
         case measure => simp [intOf]; omega
        ·go_simp
         refine (specHashOf_any (ofB d2) _ D2).mono ?_;rintro e u1 ⟨rfl, f9⟩;replace H := H.go f9;clear f9;rw [toB_ofB];go_wp2_with fail;refine hK.out _ _ ?_ fun hHeld => ?_
         ·exact ⟨H.atM (f1 := intN) 1 rfl (j := 0) rfl, H.atM (f1 := intN) 0 rfl (j := 0) rfl⟩
         clear hK K;(try simp only [sX, Act.put]);refine wpT 11 ?_;refine wpAnyH_ready (rs := [1, 12]) (by kernel_rfl) (by simp) ?_;refine (AllReadyH.cons rfl (fun K hK => ?_) (AllReadyH.cons rfl (fun K hK => ?_) AllReadyH.nil))
         ·have zV := H.fa 3 4 rfl rfl
          go_simp;obtain ⟨u2, hv⟩ : ∃ uu : World, uu = u1 := ⟨_, rfl⟩;rw [← hv] at H ⊢;clear hv zV;refine hK.out _ _ ?_ fun hHeld => ?_
          ·exact ⟨H.atM (f1 := intN) 1 rfl (j := 0) rfl, H.atM (f1 := intN) 0 rfl (j := 0) rfl⟩
          clear hK K;(try simp only [sX, Act.put]);refine wpC 12 fun K hK => ?_;replace H := H.lit 90 4 1 [.int .i64 (hashN d2), .int .i64 (m1 : Int), .string (ofB d2), .int .i64 (m3 : Int)] rfl (by simp [maxLen]);go_simp;obtain ⟨h5, hh5⟩ : ∃ x, x = u2.heap.size := ⟨_, rfl⟩;rw [← hh5] at H ⊢;clear hh5;obtain ⟨u3, hv⟩ : ∃ uu : World, uu = u2.alloc (.cells #[.int .i64 (hashN d2), .int .i64 (m1 : Int), .string (ofB d2), .int .i64 (m3 : Int)] 90) := ⟨_, rfl⟩;rw [← hv] at H ⊢;clear hv;refine hK.out _ _ ?_ fun hHeld => ?_
          ·exact ⟨H.atM (f1 := intN) 2 rfl (j := 0) rfl, H.atM (f1 := intN) 1 rfl (j := 0) rfl⟩
          clear hK K;(try simp only [sX, Act.put]);refine wpC 13 fun K hK => ?_;refine step_appRd H rfl _ _ _ rfl Tryz.underlying51 infoEnt rfl (by decide) 3 _ _ _ rfl (by simp [Act.eval]) (some ⟨h5, 0, none⟩) 1 1 _ (by simp [Act.eval]) (fun h => nomatch h) (H.rd 0 rfl) (by simp [Value.oneCell']) (by simp only [maxLen]; omega) (by omega) ?_;intro v' u4 H1;replace H := H1;clear H1;obtain ⟨C9, q9, rfl⟩ := H.shape 3 rfl;refine hK.out _ _ ?_ fun hHeld => ?_
          ·exact ⟨H.atM (f1 := intN) 2 rfl (j := 0) rfl, H.atM (f1 := intN) 1 rfl (j := 0) rfl⟩
          clear hK K;(try simp only [sX, Act.put]);refine wpT 14 ?_;refine wpC 15 fun K hK => ?_;have e0 := H.bfree 4 rfl 4;have s0 := H.fa 4 4 rfl rfl;replace H := H.bput 4 rfl 4 (.slice C9 (el.length + 1) q9);go_simp;refine hK.out _ _ ?_ fun hHeld => ?_
          ·exact ⟨H.atM (f1 := intN) 2 rfl (j := 0) rfl, H.atM (f1 := intN) 1 rfl (j := 0) rfl⟩
          clear hK K;(try simp only [sX, Act.put]);refine wpAnyH_done (by kernel_rfl) ?_ _;have H8 := Lib.hid (show Hp [] w _ [.row 90 4 (.slice C9 (el.length + 1) q9) (el ++ [((hashN d2, (m1 : Int), ofB d2, (m3 : Int)) : EntT)]).length ((el ++ [((hashN d2, (m1 : Int), ofB d2, (m3 : Int)) : EntT)]).flatMap cEnt), .blk gx 53 [.int .i64 (x0 : Int), .int .i64 (x1 : Int), .int .i64 (x2 : Int), .string (ofB d5), (.slice C9 (el.length + 1) q9)], .row 3 1 (.slice (some ⟨gc, 0, none⟩) 1 cc) 1 ([nn].map intN), .row 3 1 (.slice (some ⟨ga, 0, none⟩) 3 ca) 3 ([x0, x1, x2].map intN), .blk w.heap.size 53 [.int .i64 0, .int .i64 0, .int .i64 0, .string (ByteArray.mk #[]), .slice none 0 0]] from H.tail.tail.tail.recast (by simp [cEnt]));clear H;go_wp2_with fail;go_roundw
          case rel => exact ⟨k + 1, b, _, _, by go_num, rfl, by omega, HES.out, H8.out⟩
          case measure => simp [intOf]; omega
         ·replace H := H.lit 90 4 1 [.int .i64 (hashN d2), .int .i64 (m1 : Int), .string (ofB d2), .int .i64 (m3 : Int)] rfl (by simp [maxLen])
          go_simp;obtain ⟨h5, hh5⟩ : ∃ x, x = u1.heap.size := ⟨_, rfl⟩;rw [← hh5] at H ⊢;clear hh5;obtain ⟨u2, hv⟩ : ∃ uu : World, uu = u1.alloc (.cells #[.int .i64 (hashN d2), .int .i64 (m1 : Int), .string (ofB d2), .int .i64 (m3 : Int)] 90) := ⟨_, rfl⟩;rw [← hv] at H ⊢;clear hv;refine hK.out _ _ ?_ fun hHeld => ?_
          ·exact ⟨H.atM (f1 := intN) 2 rfl (j := 0) rfl, H.atM (f1 := intN) 1 rfl (j := 0) rfl⟩
          clear hK K;(try simp only [sX, Act.put]);refine wpC 1 fun K hK => ?_;have zV := H.fa 4 4 rfl rfl;go_simp;obtain ⟨u3, hv⟩ : ∃ uu : World, uu = u2 := ⟨_, rfl⟩;rw [← hv] at H ⊢;clear hv zV;refine hK.out _ _ ?_ fun hHeld => ?_
          ·exact ⟨H.atM (f1 := intN) 2 rfl (j := 0) rfl, H.atM (f1 := intN) 1 rfl (j := 0) rfl⟩
          clear hK K;(try simp only [sX, Act.put]);refine wpC 13 fun K hK => ?_;refine step_appRd H rfl _ _ _ rfl Tryz.underlying51 infoEnt rfl (by decide) 3 _ _ _ rfl (by simp [Act.eval]) (some ⟨h5, 0, none⟩) 1 1 _ (by simp [Act.eval]) (fun h => nomatch h) (H.rd 0 rfl) (by simp [Value.oneCell']) (by simp only [maxLen]; omega) (by omega) ?_;intro v' u4 H1;replace H := H1;clear H1;obtain ⟨C9, q9, rfl⟩ := H.shape 3 rfl;refine hK.out _ _ ?_ fun hHeld => ?_
          ·exact ⟨H.atM (f1 := intN) 2 rfl (j := 0) rfl, H.atM (f1 := intN) 1 rfl (j := 0) rfl⟩
          clear hK K;(try simp only [sX, Act.put]);refine wpT 14 ?_;refine wpC 15 fun K hK => ?_;have e0 := H.bfree 4 rfl 4;have s0 := H.fa 4 4 rfl rfl;replace H := H.bput 4 rfl 4 (.slice C9 (el.length + 1) q9);go_simp;refine hK.out _ _ ?_ fun hHeld => ?_
          ·exact ⟨H.atM (f1 := intN) 2 rfl (j := 0) rfl, H.atM (f1 := intN) 1 rfl (j := 0) rfl⟩
          clear hK K;(try simp only [sX, Act.put]);refine wpAnyH_done (by kernel_rfl) ?_ _;have H8 := Lib.hid (show Hp [] w _ [.row 90 4 (.slice C9 (el.length + 1) q9) (el ++ [((hashN d2, (m1 : Int), ofB d2, (m3 : Int)) : EntT)]).length ((el ++ [((hashN d2, (m1 : Int), ofB d2, (m3 : Int)) : EntT)]).flatMap cEnt), .blk gx 53 [.int .i64 (x0 : Int), .int .i64 (x1 : Int), .int .i64 (x2 : Int), .string (ofB d5), (.slice C9 (el.length + 1) q9)], .row 3 1 (.slice (some ⟨gc, 0, none⟩) 1 cc) 1 ([nn].map intN), .row 3 1 (.slice (some ⟨ga, 0, none⟩) 3 ca) 3 ([x0, x1, x2].map intN), .blk w.heap.size 53 [.int .i64 0, .int .i64 0, .int .i64 0, .string (ByteArray.mk #[]), .slice none 0 0]] from H.tail.tail.tail.recast (by simp [cEnt]));clear H;go_wp2_with fail;go_roundw
          case rel => exact ⟨k + 1, b, _, _, by go_num, rfl, by omega, HES.out, H8.out⟩
          case measure => simp [intOf]; omega
     ·have hk1 : ¬ (k : Int) < (nn : Int) := by omega
      have hkk : k = nn := by omega
      obtain ⟨D, q, rfl⟩ := H.shape 0 rfl;have HPD := Lib.hid (show prD r = (el, some a) by rw [prD, EC'.out]; simp only; rw [← EC'.out, HNN.out, ← hkk]; exact HE0.out);have y0 := H.fa 1 0 rfl rfl;have y1 := H.fa 1 1 rfl rfl;have y2 := H.fa 1 2 rfl rfl;have y3 := H.fa 1 3 rfl rfl;have y4 := H.fa 1 4 rfl rfl;have hcap := own_cap (H.row 0 rfl);have HF := Lib.hid (show Hp [] w wr [.row 90 4 (.slice D el.length q) el.length (el.flatMap cEnt)] from H.sub (by simp));have HPF := Lib.hid (show prN r = ((x0 : Int), (x1 : Int), (x2 : Int), ofB d5, el) by rw [HPN.out, HPD.out]);have hel12 : el.length ≤ 12 := by omega
      have e0 := H.fa 4 0 rfl rfl;have e1 := H.fa 4 1 rfl rfl;have e2 := H.fa 4 2 rfl rfl;have e3 := H.fa 4 3 rfl rfl;have e4 := H.fa 4 4 rfl rfl;have f0 := H.bfree 4 rfl 0;have f1 := H.bfree 4 rfl 1;have f2 := H.bfree 4 rfl 2;have f3 := H.bfree 4 rfl 3;have f4 := H.bfree 4 rfl 4;have H9 := H.bputs 4 rfl [.int .i64 (x0 : Int), .int .i64 (x1 : Int), .int .i64 (x2 : Int), .string (ofB d5), .slice D el.length q] rfl;simp only [setsW] at H9;clear H
      by_cases has : a = (ofB r).size
      ·have has1 : ((a : Int) == ((ofB r).size : Int)) = true := by rw [has]; simp
       have HAS := Lib.hid has;clear has;go_wp2_with fail
       ((try simp only [Exit.inBlock, Exit.then]); refine bodyPost_ret (results_cell_tmp_row rfl _ _ w.heap.size 53 #[.int .i64 (x0 : Int), .int .i64 (x1 : Int), .int .i64 (x2 : Int), .string (ofB d5), .slice D el.length q] (0, 0) _ rfl (H9.blk 4 rfl) Tryz.underlying53 rfl (by kernel_rfl)) rfl ?_)
       refine .inr ⟨D, q, ?_⟩;rw [HPF.out];exact ⟨rfl, hel12, H9.sub (by simp)⟩
      ·have has1 : ((a : Int) == ((ofB r).size : Int)) = false := by
        have : ¬ (a : Int) = ((ofB r).size : Int) := by omega
        simpa using this
       have HNO := Lib.hid (parse_no4 (r := r) (a := a) (by rw [HPD.out]) (fun h => has (by rw [ofB_size]; exact h)));clear has;go_wp2_with fail
       ((try simp only [Exit.inBlock, Exit.then]); refine bodyPost_ret (results_cell_tmp_row rfl _ _ w.heap.size 53 #[.int .i64 (x0 : Int), .int .i64 (x1 : Int), .int .i64 (x2 : Int), .string (ofB d5), .slice D el.length q] (0, 0) _ rfl (H9.blk 4 rfl) Tryz.underlying53 rfl (by kernel_rfl)) rfl ?_)
       exact parsed_no HNO.out H9.fr
end Go.Proofs.YtmpldngnkacnmaaGreatDoor
