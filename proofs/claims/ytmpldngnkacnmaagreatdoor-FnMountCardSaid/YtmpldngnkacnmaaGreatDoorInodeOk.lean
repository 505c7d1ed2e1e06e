/-
Is an inode of a volume right by itself: the program's and the reference's function.
-/
import Derived.Test.YtmpldngnkacnmaaGreatDoorGj
import Derived.Test.YtmpldngnkacnmaaGreatDoorGk
import Derived.Test.YtmpldngnkacnmaaGreatDoorDirOkI
import Derived.Test.YtmpldngnkacnmaaGreatDoorDirOkS
namespace Go.Proofs.YtmpldngnkacnmaaGreatDoor
open Go.RowKit
set_option linter.unusedVariables false
set_option linter.unusedSimpArgs false
def nodP (l : List Nod) (e : EntT) : Bool := decide (e.2.2.2 = 1) || (atN l e.2.2.2).isNone
theorem all_nodP (l : List Nod) (es : List EntT) : (es.all fun e => !decide (e.2.2.2 = 1) && (atN l e.2.2.2).isSome) = !es.any (nodP l) := by
 rw [List.not_any_eq_all_not]
 congr 1
 funext e
 simp only [nodP, Bool.not_or]
 cases atN l e.2.2.2 <;> rfl
theorem nodP_yes {l : List Nod} {e : EntT} (h : atZ l e.2.2.2 < 0) : nodP l e = true := by
 rcases atZ_cases l e.2.2.2 with ⟨_, h2⟩ | ⟨k, h1, _⟩
 ·simp [nodP, h2]
 ·omega
theorem nodP_no {l : List Nod} {e : EntT} (h1 : ¬ e.2.2.2 = 1) (h : ¬ atZ l e.2.2.2 < 0) : nodP l e = false := by
 rcases atZ_cases l e.2.2.2 with ⟨h1, _⟩ | ⟨k, _, h2, _⟩
 ·omega
 ·simp [nodP, h2, h1]
theorem nodOk_f {l : List Nod} {x : Nod} (h : x.2.1 = 1) : nodOk l x = (decide (x.2.2.2.2.length = 0) && decide (x.2.2.2.1.size ≤ 20) && decide (x.2.2.1 = (namedN l x.1 : Int))) := by rw [nodOk, if_pos h]
theorem nodOk_d {l : List Nod} {x : Nod} (h : x.2.1 ≠ 1) : nodOk l x = (decide (x.2.1 = 2) && decide (x.2.2.2.1.size = 0) && decide (x.2.2.1 = 1) && dirB x.2.2.2.2 && (decide (x.1 = 1) || decide (namedN l x.1 = 1)) && x.2.2.2.2.all fun e => !decide (e.2.2.2 = 1) && (atN l e.2.2.2).isSome) := by rw [nodOk, if_neg h]
theorem ba_empty {s : ByteArray} (h : s.size = 0) : s = ByteArray.mk #[] := by
 have h1 : toB s = [] := List.eq_nil_of_length_eq_zero (by rw [toB_len]; exact h);rw [← ofB_toB s, h1]; rfl
theorem nonempty_facts {s : ByteArray} (h : ¬ s.size = 0) : (s.toList == []) = false ∧ (s.toList != []) = true ∧ (s.toList == (ByteArray.mk #[]).toList) = false ∧ (s.toList != (ByteArray.mk #[]).toList) = true := by
 have h1 : (s.toList == (ByteArray.mk #[]).toList) = false := str_ne fun e => h (by rw [e]; rfl);have hne : toB s ≠ [] := fun e => h (by rw [← toB_len, e]; rfl);have h2 : (s.toList == []) = false := by rw [toList_B, beq_eq_false_iff_ne]; exact hne
 exact ⟨h2, by simp only [bne, h2]; rfl, h1, by simp only [bne, h1]; rfl⟩
set_option maxRecDepth 100000 in
set_option maxHeartbeats 1000000 in
theorem nodC_any (y0 y1 : Int) (y2 : ByteArray) (y3 next : Int) (A : Option Addr) (n c : Nat) (L : List (Value × Nod)) (gv : Nat) (w : World) (h : RdN w A n L) (h0 : w.cell? ⟨gv, 0, none⟩ = some (.int .i64 next)) (h1 : w.cell? ⟨gv, 1, none⟩ = some (.slice A n c)) (hn : n ≤ 1048576) :
 Calls Tryz.prog 104 #[.agg #[.int .i64 y0, .int .i64 y1, .string y2, .int .i64 y3], .pointer (some ⟨gv, 0, none⟩)] w fun r w' => r = .returned (.bool (nodP (nodes L) (y0, y1, y2, y3))) ∧ Fr w w' := by
 have H := (Hp.start w).lay_ 90 [.int .i64 y0, .int .i64 y1, .string y2, .int .i64 y3] rfl;have F := Lib.hid H.fr;have k0 := fr_cellM F.out h0;have k1 := fr_cellM F.out h1;have HR := Lib.hid (h.fr F.out);obtain ⟨q, hq⟩ : ∃ q, q = nodP (nodes L) (y0, y1, y2, y3) := ⟨_, rfl⟩;rw [← hq];have HQ := Lib.hid hq;clear h h0 h1 H hq;go_enter Tryz.func104, Tryz.ntmps104
 by_cases h2 : y3 = 1
 ·subst h2
  have HE := Lib.hid (HQ.out.trans (show _ = true by simp [nodP]));go_wp2_with fail;go_ret;rw [HE.out];exact ⟨rfl, F.out⟩
 ·have h21 : (y3 == 1) = false := by simpa using h2
  go_wp2_with fail;refine (implAt_any next A n c L y3 _ HR.out hn).mono ?_;rintro e w2 ⟨rfl, f2⟩;obtain ⟨z, hz⟩ : ∃ z, z = atZ (nodes L) y3 := ⟨_, rfl⟩;rw [← hz]
  by_cases h3 : z < 0
  ·have h31 : decide (z < 0) = true := decide_eq_true h3
   have HE := Lib.hid (HQ.out.trans (nodP_yes (by rw [← hz]; exact h3)));clear hz;go_wp2_with fail;go_ret;rw [HE.out];exact ⟨rfl, F.out.then f2⟩
  ·have h31 : decide (z < 0) = false := decide_eq_false h3
   have HE := Lib.hid (HQ.out.trans (nodP_no h2 (by rw [← hz]; exact h3)));clear hz;go_wp2_with fail;go_ret;rw [HE.out];exact ⟨rfl, F.out.then f2⟩
set_option maxRecDepth 100000 in
set_option maxHeartbeats 8000000 in
theorem implInodeOk_any (next : Int) (A : Option Addr) (n c : Nat) (L : List (Value × Nod)) (x0 x1 x2 : Int) (x3 : ByteArray) (B : Option Addr) (m d : Nat) (es : List EntT) (w : World) (h : RdN w A n L) (hn : n ≤ 1048576) (hfew : FewE L) (hb : Rd w B m 4 (es.flatMap cEnt)) (hm : m ≤ 1048576) (hz : ∀ e ∈ es, e.2.2.1.size ≤ 16777216) (hk : KT w) :
 Calls Tryz.prog 78 #[.agg #[.int .i64 next, .slice A n c], .agg #[.int .i64 x0, .int .i64 x1, .int .i64 x2, .string x3, .slice B m d]] w fun e w' => e = .returned (.bool (nodOk (nodes L) (x0, x1, x2, x3, es))) ∧ Fr w w' := by
 have HM := Lib.hid (show es.length = m from hb.lenk cEnt_len (by omega));have HR := Lib.hid h;have HB := Lib.hid hb;have HFE := Lib.hid hfew;have HSZ := Lib.hid hz;have HK := Lib.hid hk;clear hk;obtain ⟨q0, hq0⟩ : ∃ q, q = nodOk (nodes L) (x0, x1, x2, x3, es) := ⟨_, rfl⟩;rw [← hq0];have HQ := Lib.hid hq0;clear hq0 h hb hfew hz;obtain ⟨N, hN⟩ : ∃ N, N = namedN (nodes L) x0 := ⟨_, rfl⟩;have HNE := Lib.hid hN;have hNb : N ≤ 1048576 * 1048576 := by
  have h1 := namedN_le HFE.out x0 L.length (Nat.le_refl _);rw [List.take_of_length_le (by rw [nodes_len]; omega), HR.out.len] at h1;rw [hN];exact Nat.le_trans h1 (Nat.mul_le_mul_right _ hn)
 clear hN;have H := ((Hp.start w).lay_ 28 [.int .i64 next, .slice A n c] rfl).lay_ 53 [.int .i64 x0, .int .i64 x1, .int .i64 x2, .string x3, .slice B m d] (g := w.heap.size + 1) (by simp);have hmf : ∀ (fn : Fn) (first cap : Array Value) (w : World), (Instr.makeFunc fn first cap).run Tryz.prog w = .ok (.func fn first cap) w := fun _ _ _ _ => rfl;go_enter Tryz.func78, Tryz.ntmps78
 by_cases hk1 : x1 = 1
 ·subst hk1
  have HD := Lib.hid (HQ.out.trans (nodOk_f rfl));simp only at HD;replace H := H.drew;have yy0 := H.fa 1 0 rfl rfl;have yy1 := H.fa 1 1 rfl rfl;have yy2 := H.fa 0 0 rfl rfl;have yy3 := H.fa 0 1 rfl rfl;have yy4 := H.fa 0 2 rfl rfl;have yy5 := H.fa 0 3 rfl rfl;have yy6 := H.fa 0 4 rfl rfl;go_wp2_with fail
  by_cases hm0 : m = 0
  ·have hm1 : ((m : Int) == 0) = true := by simpa using hm0
   by_cases hs : x3.size ≤ 20
   ·have hs1 : decide ((x3.size : Int) ≤ 20) = true := decide_eq_true (by omega)
    have hs2 : (x3.size : Int) ≤ 20 := by omega
    have hb : IntKind.i64.wrap (N : Int) = (N : Int) := IntWalk.i64_in _ (by omega)
    by_cases hx : x2 = (N : Int)
    ·have hx1 : (x2 == (N : Int)) = true := by simpa using hx
     have HE := Lib.hid (HD.out.trans (show _ = true by rw [← HNE.out, HM.out]; simp [hm0, hs, hx]));clear hx;refine wp_region_held_drew (S := fun w' => w'.cell? ⟨w.heap.size, 0, none⟩ = some (.int .i64 next) ∧ w'.cell? ⟨w.heap.size, 1, none⟩ = some (.slice A n c) ∧ w'.cell? ⟨w.heap.size + 1, 0, none⟩ = some (.int .i64 x0) ∧ w'.cell? ⟨w.heap.size + 1, 1, none⟩ = some (.int .i64 1) ∧ w'.cell? ⟨w.heap.size + 1, 2, none⟩ = some (.int .i64 x2) ∧ w'.cell? ⟨w.heap.size + 1, 3, none⟩ = some (.string x3) ∧ w'.cell? ⟨w.heap.size + 1, 4, none⟩ = some (.slice B m d)) (by kernel_rfl) ?_ (fun hHeld => ?_)
     ·exact ⟨yy0, yy1, yy2, yy3, yy4, yy5, yy6⟩
     obtain ⟨u0, hu0⟩ : ∃ uu : World, uu = ((w.alloc (.cells #[.int .i64 next, .slice A n c] 28)).alloc (.cells #[.int .i64 x0, .int .i64 1, .int .i64 x2, .string x3, .slice B m d] 53)).drew := ⟨_, rfl⟩;rw [← hu0] at H hHeld ⊢;clear hu0;refine wpT 0 ?_;refine wpT 1 ?_;refine wpT 2 ?_;refine wpT 3 ?_;refine wpT 4 ?_;refine wpT 5 ?_;refine wpT 6 ?_;refine wpT 7 ?_;refine wpT 8 ?_;refine wpT 9 ?_;refine wpT 10 ?_;refine wpT 11 ?_;refine wpT 12 ?_;refine wpT 13 ?_;refine wpT 14 ?_;refine wpT 15 ?_;refine wpC 16 fun K hK => ?_;go_simp;refine (implLinks_any next A n c L x0 _ (HR.out.fr H.fr) hn HFE.out).mono ?_;rintro e u1 ⟨rfl, f9⟩;replace H := H.go f9;clear f9;rw [← HNE.out];go_wp2_with fail;refine hK.out _ _ ?_ fun hHeld => ?_
     ·exact ⟨H.fa 1 0 rfl rfl, H.fa 1 1 rfl rfl, H.fa 0 0 rfl rfl, H.fa 0 1 rfl rfl, H.fa 0 2 rfl rfl, H.fa 0 3 rfl rfl, H.fa 0 4 rfl rfl⟩
     clear hK K;(try simp only [sX, Act.put]);refine wpT 17 ?_;refine wpT 18 ?_;refine wpT 19 ?_;refine wpAnyH_done (by kernel_rfl) ?_ _;go_wp2_with fail;go_ret;rw [HE.out];exact ⟨rfl, H.fr⟩
    ·have hx1 : (x2 == (N : Int)) = false := by simpa using hx
     have HE := Lib.hid (HD.out.trans (show _ = false by rw [← HNE.out, HM.out]; simp [hm0, hs, hx]));clear hx;refine wp_region_held_drew (S := fun w' => w'.cell? ⟨w.heap.size, 0, none⟩ = some (.int .i64 next) ∧ w'.cell? ⟨w.heap.size, 1, none⟩ = some (.slice A n c) ∧ w'.cell? ⟨w.heap.size + 1, 0, none⟩ = some (.int .i64 x0) ∧ w'.cell? ⟨w.heap.size + 1, 1, none⟩ = some (.int .i64 1) ∧ w'.cell? ⟨w.heap.size + 1, 2, none⟩ = some (.int .i64 x2) ∧ w'.cell? ⟨w.heap.size + 1, 3, none⟩ = some (.string x3) ∧ w'.cell? ⟨w.heap.size + 1, 4, none⟩ = some (.slice B m d)) (by kernel_rfl) ?_ (fun hHeld => ?_)
     ·exact ⟨yy0, yy1, yy2, yy3, yy4, yy5, yy6⟩
     obtain ⟨u0, hu0⟩ : ∃ uu : World, uu = ((w.alloc (.cells #[.int .i64 next, .slice A n c] 28)).alloc (.cells #[.int .i64 x0, .int .i64 1, .int .i64 x2, .string x3, .slice B m d] 53)).drew := ⟨_, rfl⟩;rw [← hu0] at H hHeld ⊢;clear hu0;refine wpT 0 ?_;refine wpT 1 ?_;refine wpT 2 ?_;refine wpT 3 ?_;refine wpT 4 ?_;refine wpT 5 ?_;refine wpT 6 ?_;refine wpT 7 ?_;refine wpT 8 ?_;refine wpT 9 ?_;refine wpT 10 ?_;refine wpT 11 ?_;refine wpT 12 ?_;refine wpT 13 ?_;refine wpT 14 ?_;refine wpT 15 ?_;refine wpC 16 fun K hK => ?_;go_simp;refine (implLinks_any next A n c L x0 _ (HR.out.fr H.fr) hn HFE.out).mono ?_;rintro e u1 ⟨rfl, f9⟩;replace H := H.go f9;clear f9;rw [← HNE.out];go_wp2_with fail;refine hK.out _ _ ?_ fun hHeld => ?_
     ·exact ⟨H.fa 1 0 rfl rfl, H.fa 1 1 rfl rfl, H.fa 0 0 rfl rfl, H.fa 0 1 rfl rfl, H.fa 0 2 rfl rfl, H.fa 0 3 rfl rfl, H.fa 0 4 rfl rfl⟩
     clear hK K;(try simp only [sX, Act.put]);refine wpT 17 ?_;refine wpT 18 ?_;refine wpT 19 ?_;refine wpAnyH_done (by kernel_rfl) ?_ _;go_wp2_with fail;go_ret;rw [HE.out];exact ⟨rfl, H.fr⟩
   ·have hs1 : decide ((x3.size : Int) ≤ 20) = false := decide_eq_false (by omega)
    have hs2 : ¬ (x3.size : Int) ≤ 20 := by omega
    have HE := Lib.hid (HD.out.trans (show _ = false by rw [HM.out]; simp [hm0, hs]));refine wp_region_held_drew (S := fun w' => w'.cell? ⟨w.heap.size, 0, none⟩ = some (.int .i64 next) ∧ w'.cell? ⟨w.heap.size, 1, none⟩ = some (.slice A n c) ∧ w'.cell? ⟨w.heap.size + 1, 0, none⟩ = some (.int .i64 x0) ∧ w'.cell? ⟨w.heap.size + 1, 1, none⟩ = some (.int .i64 1) ∧ w'.cell? ⟨w.heap.size + 1, 2, none⟩ = some (.int .i64 x2) ∧ w'.cell? ⟨w.heap.size + 1, 3, none⟩ = some (.string x3) ∧ w'.cell? ⟨w.heap.size + 1, 4, none⟩ = some (.slice B m d)) (by kernel_rfl) ?_ (fun hHeld => ?_)
    ·exact ⟨yy0, yy1, yy2, yy3, yy4, yy5, yy6⟩
    obtain ⟨u0, hu0⟩ : ∃ uu : World, uu = ((w.alloc (.cells #[.int .i64 next, .slice A n c] 28)).alloc (.cells #[.int .i64 x0, .int .i64 1, .int .i64 x2, .string x3, .slice B m d] 53)).drew := ⟨_, rfl⟩;rw [← hu0] at H hHeld ⊢;clear hu0;refine wpT 0 ?_;refine wpT 1 ?_;refine wpT 2 ?_;refine wpT 3 ?_;refine wpT 4 ?_;refine wpT 5 ?_;refine wpT 6 ?_;refine wpT 7 ?_;refine wpT 8 ?_;refine wpT 9 ?_;refine wpT 10 ?_;refine wpS 11 ?_;refine wpS 12 ?_;refine wpS 13 ?_;refine wpS 14 ?_;refine wpS 15 ?_;refine wpS 16 ?_;refine wpS 17 ?_;refine wpT 18 ?_;refine wpT 19 ?_;refine wpAnyH_done (by kernel_rfl) ?_ _;go_wp2_with fail;go_ret;rw [HE.out];exact ⟨rfl, H.fr⟩
  ·have hm1 : ((m : Int) == 0) = false := by simpa using hm0
   have HE := Lib.hid (HD.out.trans (show _ = false by rw [HM.out]; simp [hm0]));refine wp_region_held_drew (S := fun w' => w'.cell? ⟨w.heap.size, 0, none⟩ = some (.int .i64 next) ∧ w'.cell? ⟨w.heap.size, 1, none⟩ = some (.slice A n c) ∧ w'.cell? ⟨w.heap.size + 1, 0, none⟩ = some (.int .i64 x0) ∧ w'.cell? ⟨w.heap.size + 1, 1, none⟩ = some (.int .i64 1) ∧ w'.cell? ⟨w.heap.size + 1, 2, none⟩ = some (.int .i64 x2) ∧ w'.cell? ⟨w.heap.size + 1, 3, none⟩ = some (.string x3) ∧ w'.cell? ⟨w.heap.size + 1, 4, none⟩ = some (.slice B m d)) (by kernel_rfl) ?_ (fun hHeld => ?_)
   ·exact ⟨yy0, yy1, yy2, yy3, yy4, yy5, yy6⟩
   obtain ⟨u0, hu0⟩ : ∃ uu : World, uu = ((w.alloc (.cells #[.int .i64 next, .slice A n c] 28)).alloc (.cells #[.int .i64 x0, .int .i64 1, .int .i64 x2, .string x3, .slice B m d] 53)).drew := ⟨_, rfl⟩;rw [← hu0] at H hHeld ⊢;clear hu0;refine wpT 0 ?_;refine wpT 1 ?_;refine wpT 2 ?_;refine wpT 3 ?_;refine wpT 4 ?_;refine wpS 5 ?_;refine wpS 6 ?_;refine wpS 7 ?_;refine wpS 8 ?_;refine wpT 9 ?_;refine wpT 10 ?_;refine wpS 11 ?_;refine wpS 12 ?_;refine wpS 13 ?_;refine wpS 14 ?_;refine wpS 15 ?_;refine wpS 16 ?_;refine wpS 17 ?_;refine wpT 18 ?_;refine wpT 19 ?_;refine wpAnyH_done (by kernel_rfl) ?_ _;go_wp2_with fail;go_ret;rw [HE.out];exact ⟨rfl, H.fr⟩
 ·have hk2 : (x1 == 1) = false := by simpa using hk1
  have HD := Lib.hid (HQ.out.trans (nodOk_d hk1));simp only at HD
  by_cases hk3 : x1 = 2
  ·subst hk3
   by_cases hs : x3.size = 0
   ·obtain rfl : x3 = ByteArray.mk #[] := ba_empty hs
    clear hs
    by_cases hx : x2 = 1
    ·subst hx
     go_wp2_with fail;refine (implDirOk_any B m d es _ (HB.out.fr H.fr) hm HSZ.out (HK.out.fr H.fr)).mono ?_;rintro e wd ⟨rfl, f9⟩;replace H := H.go f9;clear f9;obtain ⟨db, hdb⟩ : ∃ b, dirB es = b := ⟨_, rfl⟩;have HDB := Lib.hid hdb;rw [hdb];clear hdb
     cases db with
     | false =>
       have HE := Lib.hid (HD.out.trans (show _ = false by rw [HDB.out]; simp));go_wp2_with fail;go_ret;rw [HE.out];exact ⟨rfl, H.fr⟩
     | true =>
       have t0 := H.fa 0 0 rfl rfl
       by_cases h0 : x0 = 1
       ·subst h0
        have HD2 := Lib.hid (HD.out.trans (show _ = !es.any (nodP (nodes L)) by rw [HDB.out, all_nodP, decide_eq_true (show (ByteArray.mk #[]).size = 0 from rfl)]; simp));have t4 := H.fa 0 4 rfl rfl;go_wp2_with fail;refine (hasE_inodeOk (.pointer (some ⟨w.heap.size, 0, none⟩)) (nodP (nodes L)) B m d es _ (HB.out.fr H.fr) hm (fun e _ w9 f9 => nodC_any e.1 e.2.1 e.2.2.1 e.2.2.2 next A n c L w.heap.size w9 ((HR.out.fr H.fr).fr f9) (fr_cellM f9 (H.fa 1 0 rfl rfl)) (fr_cellM f9 (H.fa 1 1 rfl rfl)) hn)).mono ?_;rintro e wc ⟨rfl, f9⟩;replace H := H.go f9;clear f9 t4;go_wp2_with fail;go_ret;rw [HD2.out];exact ⟨rfl, H.fr⟩
       ·have h01 : (x0 != 1) = true := by simpa using h0
        have h02 : (x0 == 1) = false := by simpa using h0
        have hb : IntKind.i64.wrap (N : Int) = (N : Int) := IntWalk.i64_in _ (by omega);have t1 := H.fa 1 0 rfl rfl;have t2 := H.fa 1 1 rfl rfl;go_wp2_with fail;refine (implLinks_any next A n c L x0 _ (HR.out.fr H.fr) hn HFE.out).mono ?_;rintro e wl ⟨rfl, f9⟩;replace H := H.go f9;clear f9 t0 t1 t2;rw [← HNE.out]
        by_cases hN1 : N = 1
        ·have hN2 : ((N : Int) != 1) = false := by simp [hN1]
         have hN3 : ((N : Int) == 1) = true := by simp [hN1]
         have HD2 := Lib.hid (HD.out.trans (show _ = !es.any (nodP (nodes L)) by rw [HDB.out, ← HNE.out, all_nodP, decide_eq_true (show (ByteArray.mk #[]).size = 0 from rfl)]; simp [hN1]));clear hN1;have t4 := H.fa 0 4 rfl rfl;go_wp2_with fail;refine (hasE_inodeOk (.pointer (some ⟨w.heap.size, 0, none⟩)) (nodP (nodes L)) B m d es _ (HB.out.fr H.fr) hm (fun e _ w9 f9 => nodC_any e.1 e.2.1 e.2.2.1 e.2.2.2 next A n c L w.heap.size w9 ((HR.out.fr H.fr).fr f9) (fr_cellM f9 (H.fa 1 0 rfl rfl)) (fr_cellM f9 (H.fa 1 1 rfl rfl)) hn)).mono ?_;rintro e wc ⟨rfl, f9⟩;replace H := H.go f9;clear f9 t4;go_wp2_with fail;go_ret;rw [HD2.out];exact ⟨rfl, H.fr⟩
        ·have hN2 : ((N : Int) != 1) = true := by simp; omega
         have hN3 : ((N : Int) == 1) = false := by simp; omega
         have HE := Lib.hid (HD.out.trans (show _ = false by rw [HDB.out, ← HNE.out]; simp [h0, hN1]));clear hN1;go_wp2_with fail;go_ret;rw [HE.out];exact ⟨rfl, H.fr⟩
    ·have hx1 : (x2 != 1) = true := by simpa using hx
     have HE := Lib.hid (HD.out.trans (show _ = false by simp [hx]));go_wp2_with fail;go_ret;rw [HE.out];exact ⟨rfl, H.fr⟩
   ·have hs1 := nonempty_facts hs
    obtain ⟨hsa, hsb, hsc, hsd⟩ := hs1;have HE := Lib.hid (HD.out.trans (show _ = false by simp [hs]));go_wp2_with fail;go_ret;rw [HE.out];exact ⟨rfl, H.fr⟩
  ·have hk4 : (x1 != 2) = true := by simpa using hk3
   have HE := Lib.hid (HD.out.trans (show _ = false by simp [hk3]));go_wp2_with fail;go_ret;rw [HE.out];exact ⟨rfl, H.fr⟩
set_option maxRecDepth 100000 in
set_option maxHeartbeats 8000000 in
theorem specInodeOk_any (next : Int) (A : Option Addr) (n c : Nat) (L : List (Value × Nod)) (x0 x1 x2 : Int) (x3 : ByteArray) (B : Option Addr) (m d : Nat) (es : List EntT) (w : World) (h : RdN w A n L) (hn : n ≤ 1048576) (hfew : FewE L) (hb : Rd w B m 4 (es.flatMap cEnt)) (hm : m ≤ 1048576) (hz : ∀ e ∈ es, e.2.2.1.size ≤ 16777216) :
 Calls Tryz.prog 26 #[.agg #[.int .i64 next, .slice A n c], .agg #[.int .i64 x0, .int .i64 x1, .int .i64 x2, .string x3, .slice B m d]] w fun e w' => e = .returned (.bool (nodOk (nodes L) (x0, x1, x2, x3, es))) ∧ Fr w w' := by
 have HM := Lib.hid (show es.length = m from hb.lenk cEnt_len (by omega));have HR := Lib.hid h;have HB := Lib.hid hb;have HFE := Lib.hid hfew;have HSZ := Lib.hid hz;obtain ⟨q0, hq0⟩ : ∃ q, q = nodOk (nodes L) (x0, x1, x2, x3, es) := ⟨_, rfl⟩;rw [← hq0];have HQ := Lib.hid hq0;clear hq0 h hb hfew hz;obtain ⟨N, hN⟩ : ∃ N, N = namedN (nodes L) x0 := ⟨_, rfl⟩;have HNE := Lib.hid hN;have hNb : N ≤ 1048576 * 1048576 := by
  have h1 := namedN_le HFE.out x0 L.length (Nat.le_refl _);rw [List.take_of_length_le (by rw [nodes_len]; omega), HR.out.len] at h1;rw [hN];exact Nat.le_trans h1 (Nat.mul_le_mul_right _ hn)
 clear hN;have H := ((Hp.start w).lay_ 28 [.int .i64 next, .slice A n c] rfl).lay_ 53 [.int .i64 x0, .int .i64 x1, .int .i64 x2, .string x3, .slice B m d] (g := w.heap.size + 1) (by simp);have hmf : ∀ (fn : Fn) (first cap : Array Value) (w : World), (Instr.makeFunc fn first cap).run Tryz.prog w = .ok (.func fn first cap) w := fun _ _ _ _ => rfl;go_enter Tryz.func26, Tryz.ntmps26
 by_cases hk1 : x1 = 1
 ·subst hk1
  have HD := Lib.hid (HQ.out.trans (nodOk_f rfl));simp only at HD;replace H := H.drew;have yy0 := H.fa 1 0 rfl rfl;have yy1 := H.fa 1 1 rfl rfl;have yy2 := H.fa 0 0 rfl rfl;have yy3 := H.fa 0 1 rfl rfl;have yy4 := H.fa 0 2 rfl rfl;have yy5 := H.fa 0 3 rfl rfl;have yy6 := H.fa 0 4 rfl rfl;go_wp2_with fail
  by_cases hm0 : m = 0
  ·have hm1 : ((m : Int) == 0) = true := by simpa using hm0
   by_cases hs : x3.size ≤ 20
   ·have hs1 : decide ((x3.size : Int) ≤ 20) = true := decide_eq_true (by omega)
    have hs2 : (x3.size : Int) ≤ 20 := by omega
    have hb : IntKind.i64.wrap (N : Int) = (N : Int) := IntWalk.i64_in _ (by omega)
    by_cases hx : x2 = (N : Int)
    ·have hx1 : (x2 == (N : Int)) = true := by simpa using hx
     have HE := Lib.hid (HD.out.trans (show _ = true by rw [← HNE.out, HM.out]; simp [hm0, hs, hx]));clear hx;refine wp_region_held_drew (S := fun w' => w'.cell? ⟨w.heap.size, 0, none⟩ = some (.int .i64 next) ∧ w'.cell? ⟨w.heap.size, 1, none⟩ = some (.slice A n c) ∧ w'.cell? ⟨w.heap.size + 1, 0, none⟩ = some (.int .i64 x0) ∧ w'.cell? ⟨w.heap.size + 1, 1, none⟩ = some (.int .i64 1) ∧ w'.cell? ⟨w.heap.size + 1, 2, none⟩ = some (.int .i64 x2) ∧ w'.cell? ⟨w.heap.size + 1, 3, none⟩ = some (.string x3) ∧ w'.cell? ⟨w.heap.size + 1, 4, none⟩ = some (.slice B m d)) (by kernel_rfl) ?_ (fun hHeld => ?_)
     ·exact ⟨yy0, yy1, yy2, yy3, yy4, yy5, yy6⟩
     obtain ⟨u0, hu0⟩ : ∃ uu : World, uu = ((w.alloc (.cells #[.int .i64 next, .slice A n c] 28)).alloc (.cells #[.int .i64 x0, .int .i64 1, .int .i64 x2, .string x3, .slice B m d] 53)).drew := ⟨_, rfl⟩;rw [← hu0] at H hHeld ⊢;clear hu0;refine wpT 0 ?_;refine wpT 1 ?_;refine wpT 2 ?_;refine wpT 3 ?_;refine wpT 4 ?_;refine wpT 5 ?_;refine wpT 6 ?_;refine wpT 7 ?_;refine wpT 8 ?_;refine wpT 9 ?_;refine wpT 10 ?_;refine wpT 11 ?_;refine wpT 12 ?_;refine wpT 13 ?_;refine wpT 14 ?_;refine wpT 15 ?_;refine wpC 16 fun K hK => ?_;go_simp;refine (specNamed_any next A n c L x0 _ (HR.out.fr H.fr) hn HFE.out).mono ?_;rintro e u1 ⟨rfl, f9⟩;replace H := H.go f9;clear f9;rw [← HNE.out];go_wp2_with fail;refine hK.out _ _ ?_ fun hHeld => ?_
     ·exact ⟨H.fa 1 0 rfl rfl, H.fa 1 1 rfl rfl, H.fa 0 0 rfl rfl, H.fa 0 1 rfl rfl, H.fa 0 2 rfl rfl, H.fa 0 3 rfl rfl, H.fa 0 4 rfl rfl⟩
     clear hK K;(try simp only [sX, Act.put]);refine wpT 17 ?_;refine wpT 18 ?_;refine wpT 19 ?_;refine wpAnyH_done (by kernel_rfl) ?_ _;go_wp2_with fail;go_ret;rw [HE.out];exact ⟨rfl, H.fr⟩
    ·have hx1 : (x2 == (N : Int)) = false := by simpa using hx
     have HE := Lib.hid (HD.out.trans (show _ = false by rw [← HNE.out, HM.out]; simp [hm0, hs, hx]));clear hx;refine wp_region_held_drew (S := fun w' => w'.cell? ⟨w.heap.size, 0, none⟩ = some (.int .i64 next) ∧ w'.cell? ⟨w.heap.size, 1, none⟩ = some (.slice A n c) ∧ w'.cell? ⟨w.heap.size + 1, 0, none⟩ = some (.int .i64 x0) ∧ w'.cell? ⟨w.heap.size + 1, 1, none⟩ = some (.int .i64 1) ∧ w'.cell? ⟨w.heap.size + 1, 2, none⟩ = some (.int .i64 x2) ∧ w'.cell? ⟨w.heap.size + 1, 3, none⟩ = some (.string x3) ∧ w'.cell? ⟨w.heap.size + 1, 4, none⟩ = some (.slice B m d)) (by kernel_rfl) ?_ (fun hHeld => ?_)
     ·exact ⟨yy0, yy1, yy2, yy3, yy4, yy5, yy6⟩
     obtain ⟨u0, hu0⟩ : ∃ uu : World, uu = ((w.alloc (.cells #[.int .i64 next, .slice A n c] 28)).alloc (.cells #[.int .i64 x0, .int .i64 1, .int .i64 x2, .string x3, .slice B m d] 53)).drew := ⟨_, rfl⟩;rw [← hu0] at H hHeld ⊢;clear hu0;refine wpT 0 ?_;refine wpT 1 ?_;refine wpT 2 ?_;refine wpT 3 ?_;refine wpT 4 ?_;refine wpT 5 ?_;refine wpT 6 ?_;refine wpT 7 ?_;refine wpT 8 ?_;refine wpT 9 ?_;refine wpT 10 ?_;refine wpT 11 ?_;refine wpT 12 ?_;refine wpT 13 ?_;refine wpT 14 ?_;refine wpT 15 ?_;refine wpC 16 fun K hK => ?_;go_simp;refine (specNamed_any next A n c L x0 _ (HR.out.fr H.fr) hn HFE.out).mono ?_;rintro e u1 ⟨rfl, f9⟩;replace H := H.go f9;clear f9;rw [← HNE.out];go_wp2_with fail;refine hK.out _ _ ?_ fun hHeld => ?_
     ·exact ⟨H.fa 1 0 rfl rfl, H.fa 1 1 rfl rfl, H.fa 0 0 rfl rfl, H.fa 0 1 rfl rfl, H.fa 0 2 rfl rfl, H.fa 0 3 rfl rfl, H.fa 0 4 rfl rfl⟩
     clear hK K;(try simp only [sX, Act.put]);refine wpT 17 ?_;refine wpT 18 ?_;refine wpT 19 ?_;refine wpAnyH_done (by kernel_rfl) ?_ _;go_wp2_with fail;go_ret;rw [HE.out];exact ⟨rfl, H.fr⟩
   ·have hs1 : decide ((x3.size : Int) ≤ 20) = false := decide_eq_false (by omega)
    have hs2 : ¬ (x3.size : Int) ≤ 20 := by omega
    have HE := Lib.hid (HD.out.trans (show _ = false by rw [HM.out]; simp [hm0, hs]));refine wp_region_held_drew (S := fun w' => w'.cell? ⟨w.heap.size, 0, none⟩ = some (.int .i64 next) ∧ w'.cell? ⟨w.heap.size, 1, none⟩ = some (.slice A n c) ∧ w'.cell? ⟨w.heap.size + 1, 0, none⟩ = some (.int .i64 x0) ∧ w'.cell? ⟨w.heap.size + 1, 1, none⟩ = some (.int .i64 1) ∧ w'.cell? ⟨w.heap.size + 1, 2, none⟩ = some (.int .i64 x2) ∧ w'.cell? ⟨w.heap.size + 1, 3, none⟩ = some (.string x3) ∧ w'.cell? ⟨w.heap.size + 1, 4, none⟩ = some (.slice B m d)) (by kernel_rfl) ?_ (fun hHeld => ?_)
    ·exact ⟨yy0, yy1, yy2, yy3, yy4, yy5, yy6⟩
    obtain ⟨u0, hu0⟩ : ∃ uu : World, uu = ((w.alloc (.cells #[.int .i64 next, .slice A n c] 28)).alloc (.cells #[.int .i64 x0, .int .i64 1, .int .i64 x2, .string x3, .slice B m d] 53)).drew := ⟨_, rfl⟩;rw [← hu0] at H hHeld ⊢;clear hu0;refine wpT 0 ?_;refine wpT 1 ?_;refine wpT 2 ?_;refine wpT 3 ?_;refine wpT 4 ?_;refine wpT 5 ?_;refine wpT 6 ?_;refine wpT 7 ?_;refine wpT 8 ?_;refine wpT 9 ?_;refine wpT 10 ?_;refine wpS 11 ?_;refine wpS 12 ?_;refine wpS 13 ?_;refine wpS 14 ?_;refine wpS 15 ?_;refine wpS 16 ?_;refine wpS 17 ?_;refine wpT 18 ?_;refine wpT 19 ?_;refine wpAnyH_done (by kernel_rfl) ?_ _;go_wp2_with fail;go_ret;rw [HE.out];exact ⟨rfl, H.fr⟩
  ·have hm1 : ((m : Int) == 0) = false := by simpa using hm0
   have HE := Lib.hid (HD.out.trans (show _ = false by rw [HM.out]; simp [hm0]));refine wp_region_held_drew (S := fun w' => w'.cell? ⟨w.heap.size, 0, none⟩ = some (.int .i64 next) ∧ w'.cell? ⟨w.heap.size, 1, none⟩ = some (.slice A n c) ∧ w'.cell? ⟨w.heap.size + 1, 0, none⟩ = some (.int .i64 x0) ∧ w'.cell? ⟨w.heap.size + 1, 1, none⟩ = some (.int .i64 1) ∧ w'.cell? ⟨w.heap.size + 1, 2, none⟩ = some (.int .i64 x2) ∧ w'.cell? ⟨w.heap.size + 1, 3, none⟩ = some (.string x3) ∧ w'.cell? ⟨w.heap.size + 1, 4, none⟩ = some (.slice B m d)) (by kernel_rfl) ?_ (fun hHeld => ?_)
   ·exact ⟨yy0, yy1, yy2, yy3, yy4, yy5, yy6⟩
   obtain ⟨u0, hu0⟩ : ∃ uu : World, uu = ((w.alloc (.cells #[.int .i64 next, .slice A n c] 28)).alloc (.cells #[.int .i64 x0, .int .i64 1, .int .i64 x2, .string x3, .slice B m d] 53)).drew := ⟨_, rfl⟩;rw [← hu0] at H hHeld ⊢;clear hu0;refine wpT 0 ?_;refine wpT 1 ?_;refine wpT 2 ?_;refine wpT 3 ?_;refine wpT 4 ?_;refine wpS 5 ?_;refine wpS 6 ?_;refine wpS 7 ?_;refine wpS 8 ?_;refine wpT 9 ?_;refine wpT 10 ?_;refine wpS 11 ?_;refine wpS 12 ?_;refine wpS 13 ?_;refine wpS 14 ?_;refine wpS 15 ?_;refine wpS 16 ?_;refine wpS 17 ?_;refine wpT 18 ?_;refine wpT 19 ?_;refine wpAnyH_done (by kernel_rfl) ?_ _;go_wp2_with fail;go_ret;rw [HE.out];exact ⟨rfl, H.fr⟩
 ·have hk2 : (x1 == 1) = false := by simpa using hk1
  have HD := Lib.hid (HQ.out.trans (nodOk_d hk1));simp only at HD
  by_cases hk3 : x1 = 2
  ·subst hk3
   by_cases hs : x3.size = 0
   ·obtain rfl : x3 = ByteArray.mk #[] := ba_empty hs
    clear hs
    by_cases hx : x2 = 1
    ·subst hx
     go_wp2_with fail;refine (specDirOk_any B m d es _ (HB.out.fr H.fr) hm HSZ.out).mono ?_;rintro e wd ⟨rfl, f9⟩;replace H := H.go f9;clear f9;obtain ⟨db, hdb⟩ : ∃ b, dirB es = b := ⟨_, rfl⟩;have HDB := Lib.hid hdb;rw [hdb];clear hdb
     cases db with
     | false =>
       have HE := Lib.hid (HD.out.trans (show _ = false by rw [HDB.out]; simp));go_wp2_with fail;go_ret;rw [HE.out];exact ⟨rfl, H.fr⟩
     | true =>
       have t0 := H.fa 0 0 rfl rfl
       by_cases h0 : x0 = 1
       ·subst h0
        have HD2 := Lib.hid (HD.out.trans (show _ = !es.any (nodP (nodes L)) by rw [HDB.out, all_nodP, decide_eq_true (show (ByteArray.mk #[]).size = 0 from rfl)]; simp));go_wp2_with fail;have H1 := H;clear H
        go_loopw [5] (fun kv wr => ∃ k : Nat, kv = .int .i64 k ∧ k ≤ m ∧ (∀ e ∈ es.take k, nodP (nodes L) e = false) ∧ Hp [] w wr [.blk (w.heap.size + 1) 53 [.int .i64 1, .int .i64 2, .int .i64 1, .string (ByteArray.mk #[]), .slice B m d], .blk w.heap.size 28 [.int .i64 next, .slice A n c]]) (fun kv _ => m - (intOf kv).toNat)
        case atStart => exact ⟨0, rfl, by omega, by simp, H1⟩
        case round =>
         clear H1;obtain ⟨k, rfl, hk, hno, H⟩ := hrel;have HNO := Lib.hid hno;clear hno;have hk0 : (0 : Int) ≤ (k : Int) := by omega
         by_cases hkm : k < m
         ·have hk1 : (k : Int) < (m : Int) := by omega
          obtain ⟨⟨k0, k1, k2, k3⟩, hkx⟩ := some_at HM.out hkm;obtain ⟨bk, of, rfl, _⟩ := (HB.out.fr H.fr).elem cEnt_len hkx (by omega);have HKX := Lib.hid hkx;have HC := Lib.hid (show ∀ w', Fr w w' → w'.cell? ⟨bk, of + k * 4 + 3, none⟩ = some (.int .i64 k3) from fun w' f => by
           obtain ⟨b', o', e, hc⟩ := (HB.out.fr f).elem cEnt_len hkx (by omega);injection e with e; injection e with e1 e2; subst e1 e2;exact hc 3 _ rfl)
          clear hkx;have y4 := H.fa 0 4 rfl rfl;go_wp2_with fail;clear y4;replace H := H.drew;have yy0 := H.fa 1 0 rfl rfl;have yy1 := H.fa 1 1 rfl rfl;have yy2 := H.fa 0 0 rfl rfl;have yy3 := H.fa 0 1 rfl rfl;have yy4 := H.fa 0 2 rfl rfl;have yy5 := H.fa 0 3 rfl rfl;have yy6 := H.fa 0 4 rfl rfl;have zz := HC.out _ H.fr
          by_cases h1 : k3 = 1
          ·subst h1
           have HE := Lib.hid (HD2.out.trans (show _ = false by rw [List.any_eq_true.2 ⟨_, List.mem_of_getElem? HKX.out, by simp [nodP]⟩]; rfl));refine wp_region_held_drew (S := fun w' => w'.cell? ⟨w.heap.size, 0, none⟩ = some (.int .i64 next) ∧ w'.cell? ⟨w.heap.size, 1, none⟩ = some (.slice A n c) ∧ w'.cell? ⟨w.heap.size + 1, 0, none⟩ = some (.int .i64 1) ∧ w'.cell? ⟨w.heap.size + 1, 1, none⟩ = some (.int .i64 2) ∧ w'.cell? ⟨w.heap.size + 1, 2, none⟩ = some (.int .i64 1) ∧ w'.cell? ⟨w.heap.size + 1, 3, none⟩ = some (.string (ByteArray.mk #[])) ∧ w'.cell? ⟨w.heap.size + 1, 4, none⟩ = some (.slice (some ⟨bk, of, none⟩) m d) ∧ w'.cell? ⟨bk, of + k * 4 + 3, none⟩ = some (.int .i64 1)) (by kernel_rfl) ?_ (fun hHeld => ?_)
           ·exact ⟨yy0, yy1, yy2, yy3, yy4, yy5, yy6, zz⟩
           obtain ⟨u0, hu0⟩ : ∃ uu : World, uu = wr.drew := ⟨_, rfl⟩;rw [← hu0] at H hHeld ⊢;clear hu0;refine wpT 0 ?_;refine wpT 1 ?_;refine wpT 2 ?_;refine wpT 3 ?_;refine wpT 4 ?_;refine wpT 5 ?_;refine wpT 6 ?_;refine wpT 7 ?_;refine wpS 8 ?_;refine wpS 9 ?_;refine wpS 10 ?_;refine wpS 11 ?_;refine wpS 12 ?_;refine wpS 13 ?_;refine wpS 14 ?_;refine wpS 15 ?_;refine wpS 16 ?_;refine wpT 17 ?_;refine wpAnyH_done (by kernel_rfl) ?_ _;go_wp2_with fail;go_ret;rw [HE.out];exact ⟨rfl, H.fr⟩
          ·have h11 : (k3 == 1) = false := by simpa using h1
           obtain ⟨z, hz⟩ : ∃ z, z = atZ (nodes L) k3 := ⟨_, rfl⟩;have HZA := Lib.hid hz
           by_cases hz0 : z < 0
           ·have hz1 : decide (z < 0) = true := decide_eq_true hz0
            have HE := Lib.hid (HD2.out.trans (show _ = false by rw [List.any_eq_true.2 ⟨_, List.mem_of_getElem? HKX.out, nodP_yes (by rw [← hz]; exact hz0)⟩]; rfl));clear hz;refine wp_region_held_drew (S := fun w' => w'.cell? ⟨w.heap.size, 0, none⟩ = some (.int .i64 next) ∧ w'.cell? ⟨w.heap.size, 1, none⟩ = some (.slice A n c) ∧ w'.cell? ⟨w.heap.size + 1, 0, none⟩ = some (.int .i64 1) ∧ w'.cell? ⟨w.heap.size + 1, 1, none⟩ = some (.int .i64 2) ∧ w'.cell? ⟨w.heap.size + 1, 2, none⟩ = some (.int .i64 1) ∧ w'.cell? ⟨w.heap.size + 1, 3, none⟩ = some (.string (ByteArray.mk #[])) ∧ w'.cell? ⟨w.heap.size + 1, 4, none⟩ = some (.slice (some ⟨bk, of, none⟩) m d) ∧ w'.cell? ⟨bk, of + k * 4 + 3, none⟩ = some (.int .i64 k3)) (by kernel_rfl) ?_ (fun hHeld => ?_)
            ·exact ⟨yy0, yy1, yy2, yy3, yy4, yy5, yy6, zz⟩
            obtain ⟨u0, hu0⟩ : ∃ uu : World, uu = wr.drew := ⟨_, rfl⟩;rw [← hu0] at H hHeld ⊢;clear hu0;refine wpT 0 ?_;refine wpT 1 ?_;refine wpT 2 ?_;refine wpT 3 ?_;refine wpT 4 ?_;refine wpT 5 ?_;refine wpT 6 ?_;refine wpT 7 ?_;refine wpT 8 ?_;refine wpT 9 ?_;refine wpT 10 ?_;refine wpT 11 ?_;refine wpT 12 ?_;refine wpT 13 ?_;refine wpT 14 ?_;refine wpC 15 fun K hK => ?_;go_simp;refine (specAt_any next A n c L k3 _ (HR.out.fr H.fr) hn).mono ?_;rintro e u1 ⟨rfl, f9⟩;replace H := H.go f9;clear f9;rw [← HZA.out];go_wp2_with fail;refine hK.out _ _ ?_ fun hHeld => ?_
            ·exact ⟨H.fa 1 0 rfl rfl, H.fa 1 1 rfl rfl, H.fa 0 0 rfl rfl, H.fa 0 1 rfl rfl, H.fa 0 2 rfl rfl, H.fa 0 3 rfl rfl, H.fa 0 4 rfl rfl, HC.out _ H.fr⟩
            clear hK K;(try simp only [sX, Act.put]);refine wpT 16 ?_;refine wpT 17 ?_;refine wpAnyH_done (by kernel_rfl) ?_ _;go_wp2_with fail;go_ret;rw [HE.out];exact ⟨rfl, H.fr⟩
           ·have hz1 : decide (z < 0) = false := decide_eq_false hz0
            have HN2 := Lib.hid (take_no HNO.out HKX.out (nodP_no h1 (by rw [← hz]; exact hz0)));clear hz;refine wp_region_held_drew (S := fun w' => w'.cell? ⟨w.heap.size, 0, none⟩ = some (.int .i64 next) ∧ w'.cell? ⟨w.heap.size, 1, none⟩ = some (.slice A n c) ∧ w'.cell? ⟨w.heap.size + 1, 0, none⟩ = some (.int .i64 1) ∧ w'.cell? ⟨w.heap.size + 1, 1, none⟩ = some (.int .i64 2) ∧ w'.cell? ⟨w.heap.size + 1, 2, none⟩ = some (.int .i64 1) ∧ w'.cell? ⟨w.heap.size + 1, 3, none⟩ = some (.string (ByteArray.mk #[])) ∧ w'.cell? ⟨w.heap.size + 1, 4, none⟩ = some (.slice (some ⟨bk, of, none⟩) m d) ∧ w'.cell? ⟨bk, of + k * 4 + 3, none⟩ = some (.int .i64 k3)) (by kernel_rfl) ?_ (fun hHeld => ?_)
            ·exact ⟨yy0, yy1, yy2, yy3, yy4, yy5, yy6, zz⟩
            obtain ⟨u0, hu0⟩ : ∃ uu : World, uu = wr.drew := ⟨_, rfl⟩;rw [← hu0] at H hHeld ⊢;clear hu0;refine wpT 0 ?_;refine wpT 1 ?_;refine wpT 2 ?_;refine wpT 3 ?_;refine wpT 4 ?_;refine wpT 5 ?_;refine wpT 6 ?_;refine wpT 7 ?_;refine wpT 8 ?_;refine wpT 9 ?_;refine wpT 10 ?_;refine wpT 11 ?_;refine wpT 12 ?_;refine wpT 13 ?_;refine wpT 14 ?_;refine wpC 15 fun K hK => ?_;go_simp;refine (specAt_any next A n c L k3 _ (HR.out.fr H.fr) hn).mono ?_;rintro e u1 ⟨rfl, f9⟩;replace H := H.go f9;clear f9;rw [← HZA.out];go_wp2_with fail;refine hK.out _ _ ?_ fun hHeld => ?_
            ·exact ⟨H.fa 1 0 rfl rfl, H.fa 1 1 rfl rfl, H.fa 0 0 rfl rfl, H.fa 0 1 rfl rfl, H.fa 0 2 rfl rfl, H.fa 0 3 rfl rfl, H.fa 0 4 rfl rfl, HC.out _ H.fr⟩
            clear hK K;(try simp only [sX, Act.put]);refine wpT 16 ?_;refine wpT 17 ?_;refine wpAnyH_done (by kernel_rfl) ?_ _;clear yy0 yy1 yy2 yy3 yy4 yy5 yy6 zz;go_wp2_with fail;go_roundw
            case rel => exact ⟨k + 1, by go_num, by omega, HN2.out, H⟩
            case measure => simp [intOf]; omega
         ·have hk1 : ¬ (k : Int) < (m : Int) := by omega
          have y4 := H.fa 0 4 rfl rfl;have HE := Lib.hid (HD2.out.trans (show _ = true by
           have h9 : es.any (nodP (nodes L)) = false := by
            rw [List.any_eq_false];intro x hx;have := HNO.out;rw [List.take_of_length_le (by rw [HM.out]; omega)] at this;simp [this x hx]
           rw [h9]; rfl))
          go_wp2_with fail;go_ret;rw [HE.out];exact ⟨rfl, H.fr⟩
       ·have h01 : (x0 != 1) = true := by simpa using h0
        have h02 : (x0 == 1) = false := by simpa using h0
        have hb : IntKind.i64.wrap (N : Int) = (N : Int) := IntWalk.i64_in _ (by omega);have t1 := H.fa 1 0 rfl rfl;have t2 := H.fa 1 1 rfl rfl;go_wp2_with fail;refine (specNamed_any next A n c L x0 _ (HR.out.fr H.fr) hn HFE.out).mono ?_;rintro e wl ⟨rfl, f9⟩;replace H := H.go f9;clear f9 t0 t1 t2;rw [← HNE.out]
        by_cases hN1 : N = 1
        ·have hN2 : ((N : Int) != 1) = false := by simp [hN1]
         have hN3 : ((N : Int) == 1) = true := by simp [hN1]
         have HD2 := Lib.hid (HD.out.trans (show _ = !es.any (nodP (nodes L)) by rw [HDB.out, ← HNE.out, all_nodP, decide_eq_true (show (ByteArray.mk #[]).size = 0 from rfl)]; simp [hN1]));clear hN1;go_wp2_with fail;have H1 := H;clear H
         go_loopw [5] (fun kv wr => ∃ k : Nat, kv = .int .i64 k ∧ k ≤ m ∧ (∀ e ∈ es.take k, nodP (nodes L) e = false) ∧ Hp [] w wr [.blk (w.heap.size + 1) 53 [.int .i64 x0, .int .i64 2, .int .i64 1, .string (ByteArray.mk #[]), .slice B m d], .blk w.heap.size 28 [.int .i64 next, .slice A n c]]) (fun kv _ => m - (intOf kv).toNat)
         case atStart => exact ⟨0, rfl, by omega, by simp, H1⟩
         case round =>
          clear H1;obtain ⟨k, rfl, hk, hno, H⟩ := hrel;have HNO := Lib.hid hno;clear hno;have hk0 : (0 : Int) ≤ (k : Int) := by omega
          by_cases hkm : k < m
          ·have hk1 : (k : Int) < (m : Int) := by omega
           obtain ⟨⟨k0, k1, k2, k3⟩, hkx⟩ := some_at HM.out hkm;obtain ⟨bk, of, rfl, _⟩ := (HB.out.fr H.fr).elem cEnt_len hkx (by omega);have HKX := Lib.hid hkx;have HC := Lib.hid (show ∀ w', Fr w w' → w'.cell? ⟨bk, of + k * 4 + 3, none⟩ = some (.int .i64 k3) from fun w' f => by
            obtain ⟨b', o', e, hc⟩ := (HB.out.fr f).elem cEnt_len hkx (by omega);injection e with e; injection e with e1 e2; subst e1 e2;exact hc 3 _ rfl)
           clear hkx;have y4 := H.fa 0 4 rfl rfl;go_wp2_with fail;clear y4;replace H := H.drew;have yy0 := H.fa 1 0 rfl rfl;have yy1 := H.fa 1 1 rfl rfl;have yy2 := H.fa 0 0 rfl rfl;have yy3 := H.fa 0 1 rfl rfl;have yy4 := H.fa 0 2 rfl rfl;have yy5 := H.fa 0 3 rfl rfl;have yy6 := H.fa 0 4 rfl rfl;have zz := HC.out _ H.fr
           by_cases h1 : k3 = 1
           ·subst h1
            have HE := Lib.hid (HD2.out.trans (show _ = false by rw [List.any_eq_true.2 ⟨_, List.mem_of_getElem? HKX.out, by simp [nodP]⟩]; rfl));refine wp_region_held_drew (S := fun w' => w'.cell? ⟨w.heap.size, 0, none⟩ = some (.int .i64 next) ∧ w'.cell? ⟨w.heap.size, 1, none⟩ = some (.slice A n c) ∧ w'.cell? ⟨w.heap.size + 1, 0, none⟩ = some (.int .i64 x0) ∧ w'.cell? ⟨w.heap.size + 1, 1, none⟩ = some (.int .i64 2) ∧ w'.cell? ⟨w.heap.size + 1, 2, none⟩ = some (.int .i64 1) ∧ w'.cell? ⟨w.heap.size + 1, 3, none⟩ = some (.string (ByteArray.mk #[])) ∧ w'.cell? ⟨w.heap.size + 1, 4, none⟩ = some (.slice (some ⟨bk, of, none⟩) m d) ∧ w'.cell? ⟨bk, of + k * 4 + 3, none⟩ = some (.int .i64 1)) (by kernel_rfl) ?_ (fun hHeld => ?_)
            ·exact ⟨yy0, yy1, yy2, yy3, yy4, yy5, yy6, zz⟩
            obtain ⟨u0, hu0⟩ : ∃ uu : World, uu = wr.drew := ⟨_, rfl⟩;rw [← hu0] at H hHeld ⊢;clear hu0;refine wpT 0 ?_;refine wpT 1 ?_;refine wpT 2 ?_;refine wpT 3 ?_;refine wpT 4 ?_;refine wpT 5 ?_;refine wpT 6 ?_;refine wpT 7 ?_;refine wpS 8 ?_;refine wpS 9 ?_;refine wpS 10 ?_;refine wpS 11 ?_;refine wpS 12 ?_;refine wpS 13 ?_;refine wpS 14 ?_;refine wpS 15 ?_;refine wpS 16 ?_;refine wpT 17 ?_;refine wpAnyH_done (by kernel_rfl) ?_ _;go_wp2_with fail;go_ret;rw [HE.out];exact ⟨rfl, H.fr⟩
           ·have h11 : (k3 == 1) = false := by simpa using h1
            obtain ⟨z, hz⟩ : ∃ z, z = atZ (nodes L) k3 := ⟨_, rfl⟩;have HZA := Lib.hid hz
            by_cases hz0 : z < 0
            ·have hz1 : decide (z < 0) = true := decide_eq_true hz0
             have HE := Lib.hid (HD2.out.trans (show _ = false by rw [List.any_eq_true.2 ⟨_, List.mem_of_getElem? HKX.out, nodP_yes (by rw [← hz]; exact hz0)⟩]; rfl));clear hz;refine wp_region_held_drew (S := fun w' => w'.cell? ⟨w.heap.size, 0, none⟩ = some (.int .i64 next) ∧ w'.cell? ⟨w.heap.size, 1, none⟩ = some (.slice A n c) ∧ w'.cell? ⟨w.heap.size + 1, 0, none⟩ = some (.int .i64 x0) ∧ w'.cell? ⟨w.heap.size + 1, 1, none⟩ = some (.int .i64 2) ∧ w'.cell? ⟨w.heap.size + 1, 2, none⟩ = some (.int .i64 1) ∧ w'.cell? ⟨w.heap.size + 1, 3, none⟩ = some (.string (ByteArray.mk #[])) ∧ w'.cell? ⟨w.heap.size + 1, 4, none⟩ = some (.slice (some ⟨bk, of, none⟩) m d) ∧ w'.cell? ⟨bk, of + k * 4 + 3, none⟩ = some (.int .i64 k3)) (by kernel_rfl) ?_ (fun hHeld => ?_)
             ·exact ⟨yy0, yy1, yy2, yy3, yy4, yy5, yy6, zz⟩
             obtain ⟨u0, hu0⟩ : ∃ uu : World, uu = wr.drew := ⟨_, rfl⟩;rw [← hu0] at H hHeld ⊢;clear hu0;refine wpT 0 ?_;refine wpT 1 ?_;refine wpT 2 ?_;refine wpT 3 ?_;refine wpT 4 ?_;refine wpT 5 ?_;refine wpT 6 ?_;refine wpT 7 ?_;refine wpT 8 ?_;refine wpT 9 ?_;refine wpT 10 ?_;refine wpT 11 ?_;refine wpT 12 ?_;refine wpT 13 ?_;refine wpT 14 ?_;refine wpC 15 fun K hK => ?_;go_simp;refine (specAt_any next A n c L k3 _ (HR.out.fr H.fr) hn).mono ?_;rintro e u1 ⟨rfl, f9⟩;replace H := H.go f9;clear f9;rw [← HZA.out];go_wp2_with fail;refine hK.out _ _ ?_ fun hHeld => ?_
             ·exact ⟨H.fa 1 0 rfl rfl, H.fa 1 1 rfl rfl, H.fa 0 0 rfl rfl, H.fa 0 1 rfl rfl, H.fa 0 2 rfl rfl, H.fa 0 3 rfl rfl, H.fa 0 4 rfl rfl, HC.out _ H.fr⟩
             clear hK K;(try simp only [sX, Act.put]);refine wpT 16 ?_;refine wpT 17 ?_;refine wpAnyH_done (by kernel_rfl) ?_ _;go_wp2_with fail;go_ret;rw [HE.out];exact ⟨rfl, H.fr⟩
            ·have hz1 : decide (z < 0) = false := decide_eq_false hz0
             have HN2 := Lib.hid (take_no HNO.out HKX.out (nodP_no h1 (by rw [← hz]; exact hz0)));clear hz;refine wp_region_held_drew (S := fun w' => w'.cell? ⟨w.heap.size, 0, none⟩ = some (.int .i64 next) ∧ w'.cell? ⟨w.heap.size, 1, none⟩ = some (.slice A n c) ∧ w'.cell? ⟨w.heap.size + 1, 0, none⟩ = some (.int .i64 x0) ∧ w'.cell? ⟨w.heap.size + 1, 1, none⟩ = some (.int .i64 2) ∧ w'.cell? ⟨w.heap.size + 1, 2, none⟩ = some (.int .i64 1) ∧ w'.cell? ⟨w.heap.size + 1, 3, none⟩ = some (.string (ByteArray.mk #[])) ∧ w'.cell? ⟨w.heap.size + 1, 4, none⟩ = some (.slice (some ⟨bk, of, none⟩) m d) ∧ w'.cell? ⟨bk, of + k * 4 + 3, none⟩ = some (.int .i64 k3)) (by kernel_rfl) ?_ (fun hHeld => ?_)
             ·exact ⟨yy0, yy1, yy2, yy3, yy4, yy5, yy6, zz⟩
             obtain ⟨u0, hu0⟩ : ∃ uu : World, uu = wr.drew := ⟨_, rfl⟩;rw [← hu0] at H hHeld ⊢;clear hu0;refine wpT 0 ?_;refine wpT 1 ?_;refine wpT 2 ?_;refine wpT 3 ?_;refine wpT 4 ?_;refine wpT 5 ?_;refine wpT 6 ?_;refine wpT 7 ?_;refine wpT 8 ?_;refine wpT 9 ?_;refine wpT 10 ?_;refine wpT 11 ?_;refine wpT 12 ?_;refine wpT 13 ?_;refine wpT 14 ?_;refine wpC 15 fun K hK => ?_;go_simp;refine (specAt_any next A n c L k3 _ (HR.out.fr H.fr) hn).mono ?_;rintro e u1 ⟨rfl, f9⟩;replace H := H.go f9;clear f9;rw [← HZA.out];go_wp2_with fail;refine hK.out _ _ ?_ fun hHeld => ?_
             ·exact ⟨H.fa 1 0 rfl rfl, H.fa 1 1 rfl rfl, H.fa 0 0 rfl rfl, H.fa 0 1 rfl rfl, H.fa 0 2 rfl rfl, H.fa 0 3 rfl rfl, H.fa 0 4 rfl rfl, HC.out _ H.fr⟩
             clear hK K;(try simp only [sX, Act.put]);refine wpT 16 ?_;refine wpT 17 ?_;refine wpAnyH_done (by kernel_rfl) ?_ _;clear yy0 yy1 yy2 yy3 yy4 yy5 yy6 zz;go_wp2_with fail;go_roundw
             case rel => exact ⟨k + 1, by go_num, by omega, HN2.out, H⟩
             case measure => simp [intOf]; omega
          ·have hk1 : ¬ (k : Int) < (m : Int) := by omega
           have y4 := H.fa 0 4 rfl rfl;have HE := Lib.hid (HD2.out.trans (show _ = true by
            have h9 : es.any (nodP (nodes L)) = false := by
             rw [List.any_eq_false];intro x hx;have := HNO.out;rw [List.take_of_length_le (by rw [HM.out]; omega)] at this;simp [this x hx]
            rw [h9]; rfl))
           go_wp2_with fail;go_ret;rw [HE.out];exact ⟨rfl, H.fr⟩
        ·have hN2 : ((N : Int) != 1) = true := by simp; omega
         have hN3 : ((N : Int) == 1) = false := by simp; omega
         have HE := Lib.hid (HD.out.trans (show _ = false by rw [HDB.out, ← HNE.out]; simp [h0, hN1]));clear hN1;go_wp2_with fail;go_ret;rw [HE.out];exact ⟨rfl, H.fr⟩
    ·have hx1 : (x2 != 1) = true := by simpa using hx
     have HE := Lib.hid (HD.out.trans (show _ = false by simp [hx]));go_wp2_with fail;go_ret;rw [HE.out];exact ⟨rfl, H.fr⟩
   ·have hs1 := nonempty_facts hs
    obtain ⟨hsa, hsb, hsc, hsd⟩ := hs1;have HE := Lib.hid (HD.out.trans (show _ = false by simp [hs]));go_wp2_with fail;go_ret;rw [HE.out];exact ⟨rfl, H.fr⟩
  ·have hk4 : (x1 == 2) = false := by simpa using hk3
   have HE := Lib.hid (HD.out.trans (show _ = false by simp [hk3]));go_wp2_with fail;go_ret;rw [HE.out];exact ⟨rfl, H.fr⟩
end Go.Proofs.YtmpldngnkacnmaaGreatDoor
