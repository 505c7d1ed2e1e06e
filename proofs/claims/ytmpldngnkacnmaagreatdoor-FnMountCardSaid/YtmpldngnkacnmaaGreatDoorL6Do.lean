/-
l6Do and VolDo of the reference.
-/
import Derived.Test.YtmpldngnkacnmaaGreatDoorL6On
import Derived.Test.YtmpldngnkacnmaaGreatDoorCallOk
import Derived.Test.YtmpldngnkacnmaaGreatDoorGe
import Derived.Test.YtmpldngnkacnmaaGreatDoorGf
import Derived.Test.YtmpldngnkacnmaaGreatDoorGr
namespace Go.Proofs.YtmpldngnkacnmaaGreatDoor
open Go.RowKit
set_option linter.unusedVariables false
set_option linter.unusedSimpArgs false
theorem begun_1 {l : List Nod} {c : CallT} (h : atN l c.2.1 = none) : begunP l c = 2 := by rw [begunP, h]
theorem begun_2 {l : List Nod} {c : CallT} {k : Nat} (h : atN l c.2.1 = some k) (h2 : twoB c.1 = true) (h3 : atN l c.2.2.2.1 = none) : begunP l c = 2 := by rw [begunP, h, if_pos h2, h3]
theorem atZ_neg {l : List Nod} {i : Int} (h : atN l i = none) : atZ l i = -1 := by rw [atZ, h]
theorem atZ_pos {l : List Nod} {i : Int} {k : Nat} (h : atN l i = some k) : atZ l i = (k : Int) := by rw [atZ, h]
set_option maxRecDepth 100000 in
set_option maxHeartbeats 32000000 in
theorem l6Do_any (next : Int) (A : Option Addr) (n c : Nat) (L : List (Value × Nod)) (c0 c1 : Int) (c2 : ByteArray) (c3 : Int) (c4 c5 : ByteArray) (w : World) (h : VRd w A n L) (hnc : n ≤ c) (hv : VOk next (nodes L)) :
 Calls Tryz.prog 30 #[.agg #[.int .i64 next, .slice A n c], .agg #[.int .i64 c0, .int .i64 c1, .string c2, .int .i64 c3, .string c4, .string c5]] w (GotV w A n c L (volDoP next (nodes L) (c0, c1, c2, c3, c4, c5))) := by
 have hL := h.1.len;have hn16 : n ≤ 16 := by rw [← hL]; exact hv.toVW.fit.few.1
 obtain ⟨r0, hr0, hr1, hr2⟩ := hv.toVW.root;obtain ⟨vr, hvr⟩ := nodes_get hr0;have hn0 : 0 < n := by rw [← hL]; exact (List.getElem?_eq_some_iff.1 hvr).1
 obtain ⟨zb, zo, B, d, rfl, e1, r1, zc⟩ := h.1.elem hvr;clear e1 r1 zc hvr hr0 hr1 hr2 r0 vr;have HV := Lib.hid h;have HVO := Lib.hid hv;have HLN := Lib.hid hL;clear h hv hL;have H := (((Hp.start w).lay_ 28 [.int .i64 next, .slice (some ⟨zb, zo, none⟩) n c] rfl).lay_ 68 [.int .i64 c0, .int .i64 c1, .string c2, .int .i64 c3, .string c4, .string c5] (g := w.heap.size + 1) (by simp)).lay_ 28 [.int .i64 0, .slice none 0 0] (g := w.heap.size + 1 + 1) (by simp);replace H := H.lay_ 64 [.int .i64 0, .int .i64 0, .string ⟨#[]⟩, .string ⟨#[]⟩] (g := w.heap.size + 1 + 1 + 1) (by simp);have qc0 := H.fa 2 0 rfl rfl;have qc1 := H.fa 2 1 rfl rfl;have qc2 := H.fa 2 2 rfl rfl;have qc3 := H.fa 2 3 rfl rfl;have qc4 := H.fa 2 4 rfl rfl;have qc5 := H.fa 2 5 rfl rfl;go_enter Tryz.func30, Tryz.ntmps30;go_wp2_with fail;refine (specCallOk_any c0 c1 c2 c3 c4 c5 _).mono ?_;rintro e w5 ⟨rfl, f5⟩;replace H := H.go f5;clear f5;clear qc0 qc1 qc2 qc3 qc4 qc5
 cases hcb : callB (c0, c1, c2, c3, c4, c5) with
 | false =>
   have HCB := Lib.hid hcb;clear hcb;have b0 := H.fa 3 0 rfl rfl;have b1 := H.fa 3 1 rfl rfl;obtain ⟨s0, s1, f0, f1, q0, q1, q2, q3, f2, f3, f4, f5, H9⟩ := H.two 1 0 (.int .i64 next) (.slice (some ⟨zb, zo, none⟩) n c) (.int .i64 1) (.int .i64 0) (.string ⟨#[]⟩) (.string ⟨#[]⟩) rfl rfl;have HM := Lib.hid (show volDoP next (nodes L) (c0, c1, c2, c3, c4, c5) = ((next, nodes L), resC 1) by rw [volDoP, if_neg (by rw [HCB.out]; decide)]);clear H;go_wp2_with fail;(try simp only [Exit.inBlock, Exit.then]); refine bodyPost_ret (results_cells_row rfl _ _ _ _ _ _ _ _ _ _ _ _ rfl (H9.blk 1 rfl) Tryz.underlying28 rfl (by kernel_rfl) rfl (H9.blk 0 rfl) Tryz.underlying64 rfl (by kernel_rfl)) rfl ?_;exact GotV.same HM.out H9.fr
 | true =>
   have HCB := Lib.hid hcb;have hcc := hcb;simp only [callB, Bool.and_eq_true, decide_eq_true_eq] at hcc;have hr0 := inB_iff.1 hcc.1.1.1.1.1.1.1;have hs2 : c2.size ≤ 16777216 := by omega
   have hs4 : c4.size ≤ 16777216 := by omega
   clear hcc hcb;have HVD := Lib.hid (show begunP (nodes L) (c0, c1, c2, c3, c4, c5) ≠ 0 → volDoP next (nodes L) (c0, c1, c2, c3, c4, c5) = ((next, nodes L), resC (begunP (nodes L) (c0, c1, c2, c3, c4, c5))) from fun hb => by rw [volDoP, if_pos HCB.out, if_neg hb])
   by_cases h56 : c0 = 5 ∨ c0 = 6
   ·have HTW := Lib.hid (show twoB c0 = true by rcases h56 with h | h <;> simp [twoB, h])
    have hlo : 3 ≤ c0 := by omega
    rcases h56 with h5 | h6
    focus
     have h5a : (c0 == 5) = true := by simpa using h5
     clear h5
    rotate_left
    focus
     have h5a : (c0 == 5) = false := by simp [h6]
     have h6a : (c0 == 6) = true := by simpa using h6
     clear h6
    all_goals
     have b0 := H.fa 3 0 rfl rfl;have b1 := H.fa 3 1 rfl rfl;have qc0 := H.fa 2 0 rfl rfl;have qc1 := H.fa 2 1 rfl rfl;go_wp2_with fail;refine (specAt_any next _ n c L c1 _ (HV.out.1.fr H.fr) (by omega)).mono ?_;rintro e w6 ⟨rfl, f5⟩;replace H := H.go f5;clear f5;clear b0 b1 qc0 qc1
     cases hk1 : atN (nodes L) c1 with
     | none =>
       rw [atZ_neg hk1];have HN := Lib.hid (begun_1 (c := (c0, c1, c2, c3, c4, c5)) hk1);clear hk1;have b0 := H.fa 3 0 rfl rfl;have b1 := H.fa 3 1 rfl rfl;obtain ⟨s0, s1, f0, f1, q0, q1, q2, q3, f2, f3, f4, f5, H9⟩ := H.two 1 0 (.int .i64 next) (.slice (some ⟨zb, zo, none⟩) n c) (.int .i64 2) (.int .i64 0) (.string ⟨#[]⟩) (.string ⟨#[]⟩) rfl rfl;have HM := Lib.hid (show volDoP next (nodes L) (c0, c1, c2, c3, c4, c5) = ((next, nodes L), resC 2) by rw [HVD.out (by rw [HN.out]; decide), HN.out]);clear H;go_wp2_with fail;(try simp only [Exit.inBlock, Exit.then]); refine bodyPost_ret (results_cells_row rfl _ _ _ _ _ _ _ _ _ _ _ _ rfl (H9.blk 1 rfl) Tryz.underlying28 rfl (by kernel_rfl) rfl (H9.blk 0 rfl) Tryz.underlying64 rfl (by kernel_rfl)) rfl ?_;exact GotV.same HM.out H9.fr
     | some k =>
       rw [atZ_pos hk1];have HK1 := Lib.hid hk1;obtain ⟨yk, hyk, _⟩ := at_of hk1;obtain ⟨vk, hvk⟩ := nodes_get hyk;obtain ⟨k0, k1, k2, k3, ks⟩ := yk;have HPK := Lib.hid hvk;have HKK := Lib.hid (show kindOf (nodes L) k = k1 from kindOf_eq hyk);clear hk1 hyk hvk;have hk0 : ¬ (k : Int) < 0 := by omega
       have hk02 : decide ((k : Int) < 0) = false := by simp
       have b0 := H.fa 3 0 rfl rfl;have b1 := H.fa 3 1 rfl rfl;have qc3 := H.fa 2 3 rfl rfl;go_wp2_with fail;refine (specAt_any next _ n c L c3 _ (HV.out.1.fr H.fr) (by omega)).mono ?_;rintro e w7 ⟨rfl, f5⟩;replace H := H.go f5;clear f5;clear b0 b1 qc3
       cases ht1 : atN (nodes L) c3 with
       | none =>
         rw [atZ_neg ht1];have HN := Lib.hid (begun_2 (c := (c0, c1, c2, c3, c4, c5)) HK1.out HTW.out ht1);clear ht1;have b0 := H.fa 3 0 rfl rfl;have b1 := H.fa 3 1 rfl rfl;obtain ⟨s0, s1, f0, f1, q0, q1, q2, q3, f2, f3, f4, f5, H9⟩ := H.two 1 0 (.int .i64 next) (.slice (some ⟨zb, zo, none⟩) n c) (.int .i64 2) (.int .i64 0) (.string ⟨#[]⟩) (.string ⟨#[]⟩) rfl rfl;have HM := Lib.hid (show volDoP next (nodes L) (c0, c1, c2, c3, c4, c5) = ((next, nodes L), resC 2) by rw [HVD.out (by rw [HN.out]; decide), HN.out]);clear H;go_wp2_with fail;(try simp only [Exit.inBlock, Exit.then]); refine bodyPost_ret (results_cells_row rfl _ _ _ _ _ _ _ _ _ _ _ _ rfl (H9.blk 1 rfl) Tryz.underlying28 rfl (by kernel_rfl) rfl (H9.blk 0 rfl) Tryz.underlying64 rfl (by kernel_rfl)) rfl ?_;exact GotV.same HM.out H9.fr
       | some t =>
         rw [atZ_pos ht1];have HT3 := Lib.hid ht1;have HT2 := Lib.hid (show atN (nodes L) (if twoB c0 = true then c3 else c1) = some t by rw [if_pos HTW.out]; exact ht1);obtain ⟨yt, hyt, _⟩ := at_of ht1;obtain ⟨vt, hvt⟩ := nodes_get hyt;obtain ⟨t0, t1, t2, t3, es⟩ := yt;have HPT := Lib.hid hvt;have HKT := Lib.hid (show kindOf (nodes L) t = t1 from kindOf_eq hyt);clear ht1 hyt hvt;have ht0 : ¬ (t : Int) < 0 := by omega
         have ht02 : decide ((t : Int) < 0) = false := by simp
         have b0 := H.fa 3 0 rfl rfl;have b1 := H.fa 3 1 rfl rfl;have qc1 := H.fa 2 1 rfl rfl;go_wp2_with fail;refine (l6Dir_any next _ n c L c1 k vk k0 k1 k2 k3 ks _ (HV.out.1.fr H.fr) (by omega) HK1.out HPK.out).mono ?_;rintro e wd ⟨rfl, f5⟩;replace H := H.go f5;clear f5;clear b0 b1 qc1
         by_cases hk2 : k1 = 2
         rotate_left
         ·have hka : (k1 == 2) = false := by simpa using hk2
          have HN := Lib.hid (show begunP (nodes L) (c0, c1, c2, c3, c4, c5) = 4 by rw [begunP]; simp only [HK1.out, HT2.out, HKK.out, HKT.out]; rw [if_neg (fun hh => hk2 hh.1)]);clear hk2;rw [hka];have b0 := H.fa 3 0 rfl rfl;have b1 := H.fa 3 1 rfl rfl;obtain ⟨s0, s1, f0, f1, q0, q1, q2, q3, f2, f3, f4, f5, H9⟩ := H.two 1 0 (.int .i64 next) (.slice (some ⟨zb, zo, none⟩) n c) (.int .i64 4) (.int .i64 0) (.string ⟨#[]⟩) (.string ⟨#[]⟩) rfl rfl;have HM := Lib.hid (show volDoP next (nodes L) (c0, c1, c2, c3, c4, c5) = ((next, nodes L), resC 4) by rw [HVD.out (by rw [HN.out]; decide), HN.out]);clear H;go_wp2_with fail;(try simp only [Exit.inBlock, Exit.then]); refine bodyPost_ret (results_cells_row rfl _ _ _ _ _ _ _ _ _ _ _ _ rfl (H9.blk 1 rfl) Tryz.underlying28 rfl (by kernel_rfl) rfl (H9.blk 0 rfl) Tryz.underlying64 rfl (by kernel_rfl)) rfl ?_;exact GotV.same HM.out H9.fr
         have hka : (k1 == 2) = true := by simpa using hk2
         have HK2 := Lib.hid hk2;clear hk2;rw [hka];have b0 := H.fa 3 0 rfl rfl;have b1 := H.fa 3 1 rfl rfl;have qc3 := H.fa 2 3 rfl rfl;go_wp2_with fail;refine (l6Dir_any next _ n c L c3 t vt t0 t1 t2 t3 es _ (HV.out.1.fr H.fr) (by omega) HT3.out HPT.out).mono ?_;rintro e we ⟨rfl, f5⟩;replace H := H.go f5;clear f5;clear b0 b1 qc3
         by_cases ht2 : t1 = 2
         rotate_left
         ·have hta : (t1 == 2) = false := by simpa using ht2
          have HN := Lib.hid (show begunP (nodes L) (c0, c1, c2, c3, c4, c5) = 4 by rw [begunP]; simp only [HK1.out, HT2.out, HKK.out, HKT.out]; rw [if_neg (fun hh => ht2 hh.2)]);clear ht2;rw [hta];have b0 := H.fa 3 0 rfl rfl;have b1 := H.fa 3 1 rfl rfl;obtain ⟨s0, s1, f0, f1, q0, q1, q2, q3, f2, f3, f4, f5, H9⟩ := H.two 1 0 (.int .i64 next) (.slice (some ⟨zb, zo, none⟩) n c) (.int .i64 4) (.int .i64 0) (.string ⟨#[]⟩) (.string ⟨#[]⟩) rfl rfl;have HM := Lib.hid (show volDoP next (nodes L) (c0, c1, c2, c3, c4, c5) = ((next, nodes L), resC 4) by rw [HVD.out (by rw [HN.out]; decide), HN.out]);clear H;go_wp2_with fail;(try simp only [Exit.inBlock, Exit.then]); refine bodyPost_ret (results_cells_row rfl _ _ _ _ _ _ _ _ _ _ _ _ rfl (H9.blk 1 rfl) Tryz.underlying28 rfl (by kernel_rfl) rfl (H9.blk 0 rfl) Tryz.underlying64 rfl (by kernel_rfl)) rfl ?_;exact GotV.same HM.out H9.fr
         have hta : (t1 == 2) = true := by simpa using ht2
         have HT1 := Lib.hid ht2;clear ht2;rw [hta];have HBB := Lib.hid (show begunP (nodes L) (c0, c1, c2, c3, c4, c5) = if nameB (toB c2) = true ∧ nameB (toB c4) = true then 0 else 1 by rw [begunP]; simp only [HK1.out, HT2.out, HKK.out, HKT.out]; rw [if_pos ⟨HK2.out, HT1.out⟩]; simp only [HTW.out, true_implies]);have qc2 := H.fa 2 2 rfl rfl;go_wp2_with fail;refine (specNameOk_any c2 _ hs2).mono ?_;rintro e wf ⟨rfl, f5⟩;replace H := H.go f5;clear f5;clear qc2
         cases hn2 : nameB (toB c2) with
         | false =>
           have HN := Lib.hid (show begunP (nodes L) (c0, c1, c2, c3, c4, c5) = 1 by rw [HBB.out, if_neg (fun hh => by have h1 := hh.1; rw [hn2] at h1; cases h1)]);clear hn2;have b0 := H.fa 3 0 rfl rfl;have b1 := H.fa 3 1 rfl rfl;obtain ⟨s0, s1, f0, f1, q0, q1, q2, q3, f2, f3, f4, f5, H9⟩ := H.two 1 0 (.int .i64 next) (.slice (some ⟨zb, zo, none⟩) n c) (.int .i64 1) (.int .i64 0) (.string ⟨#[]⟩) (.string ⟨#[]⟩) rfl rfl;have HM := Lib.hid (show volDoP next (nodes L) (c0, c1, c2, c3, c4, c5) = ((next, nodes L), resC 1) by rw [HVD.out (by rw [HN.out]; decide), HN.out]);clear H;go_wp2_with fail;(try simp only [Exit.inBlock, Exit.then]); refine bodyPost_ret (results_cells_row rfl _ _ _ _ _ _ _ _ _ _ _ _ rfl (H9.blk 1 rfl) Tryz.underlying28 rfl (by kernel_rfl) rfl (H9.blk 0 rfl) Tryz.underlying64 rfl (by kernel_rfl)) rfl ?_;exact GotV.same HM.out H9.fr
         | true =>
           have HN2 := Lib.hid hn2;clear hn2;have qc4 := H.fa 2 4 rfl rfl;go_wp2_with fail;refine (specNameOk_any c4 _ hs4).mono ?_;rintro e wg ⟨rfl, f5⟩;replace H := H.go f5;clear f5;clear qc4
           cases hn4 : nameB (toB c4) with
           | false =>
             have HN := Lib.hid (show begunP (nodes L) (c0, c1, c2, c3, c4, c5) = 1 by rw [HBB.out, if_neg (fun hh => by have h1 := hh.2; rw [hn4] at h1; cases h1)]);clear hn4;have b0 := H.fa 3 0 rfl rfl;have b1 := H.fa 3 1 rfl rfl;obtain ⟨s0, s1, f0, f1, q0, q1, q2, q3, f2, f3, f4, f5, H9⟩ := H.two 1 0 (.int .i64 next) (.slice (some ⟨zb, zo, none⟩) n c) (.int .i64 1) (.int .i64 0) (.string ⟨#[]⟩) (.string ⟨#[]⟩) rfl rfl;have HM := Lib.hid (show volDoP next (nodes L) (c0, c1, c2, c3, c4, c5) = ((next, nodes L), resC 1) by rw [HVD.out (by rw [HN.out]; decide), HN.out]);clear H;go_wp2_with fail;(try simp only [Exit.inBlock, Exit.then]); refine bodyPost_ret (results_cells_row rfl _ _ _ _ _ _ _ _ _ _ _ _ rfl (H9.blk 1 rfl) Tryz.underlying28 rfl (by kernel_rfl) rfl (H9.blk 0 rfl) Tryz.underlying64 rfl (by kernel_rfl)) rfl ?_;exact GotV.same HM.out H9.fr
           | true =>
             have HN4 := Lib.hid hn4;clear hn4;have HB0 := Lib.hid (show begunP (nodes L) (c0, c1, c2, c3, c4, c5) = 0 by rw [HBB.out, if_pos ⟨HN2.out, HN4.out⟩]);have HDO := Lib.hid (show volDoP next (nodes L) (c0, c1, c2, c3, c4, c5) = (if c0 = 1 ∨ c0 = 2 then makeP next (nodes L) k (c0, c1, c2, c3, c4, c5) else onP next (nodes L) k t (c0, c1, c2, c3, c4, c5)) by rw [volDoP, if_pos HCB.out, if_pos HB0.out]; simp only [HK1.out, HT2.out]);have b0 := H.fa 3 0 rfl rfl;have b1 := H.fa 3 1 rfl rfl;have qc0 := H.fa 2 0 rfl rfl;have qc1 := H.fa 2 1 rfl rfl;have qc2 := H.fa 2 2 rfl rfl;have qc3 := H.fa 2 3 rfl rfl;have qc4 := H.fa 2 4 rfl rfl;have qc5 := H.fa 2 5 rfl rfl;have hc1 : (c0 == 1) = false := by simp; omega
             have hc2 : (c0 == 2) = false := by simp; omega
             have HNC := Lib.hid (show c0 ≠ 1 ∧ c0 ≠ 2 by omega);go_wp2_with fail;refine (l6On_any next _ n c L k t vk k0 k1 k2 k3 ks vt t0 t1 t2 t3 es c0 c1 c2 c3 c4 c5 _ (HV.out.fr H.fr) hnc HVO.out HPK.out HK1.out HT2.out HPT.out HT1.out (by omega) (by omega) hs2 hs4 (fun _ => HN4.out)).mono ?_;obtain ⟨O, hO⟩ : ∃ O, O = onP next (nodes L) k t (c0, c1, c2, c3, c4, c5) := ⟨_, rfl⟩;rw [← hO];have HO := Lib.hid (show volDoP next (nodes L) (c0, c1, c2, c3, c4, c5) = O by rw [HDO.out, if_neg (by have := HNC.out; omega), hO]);clear hO;obtain ⟨⟨nx, lx⟩, r0, r1, r2, r3⟩ := O;rintro e w9r ⟨A9, n9, c9, L9, rfl, hL9, hcase⟩;simp only at hL9;simp only [resL];clear b0 b1 qc0 qc1 qc2 qc3 qc4 qc5;have HO2 := Lib.hid (show volDoP next (nodes L) (c0, c1, c2, c3, c4, c5) = ((nx, nodes L9), (r0, r1, r2, r3)) by rw [HO.out, hL9]);clear hL9
             rcases hcase with ⟨hA9, hn9, hc9, hL9, f9⟩ | KN
             ·replace H := H.go f9
              have hA9 := hA9.symm;have hn9 := hn9.symm;have hc9 := hc9.symm;have hL9 := hL9.symm;subst hA9 hn9 hc9 hL9;obtain ⟨s0, s1, f0, f1, q0, q1, q2, q3, f2, f3, f4, f5, H9⟩ := H.two 1 0 (.int .i64 nx) (.slice (some ⟨zb, zo, none⟩) n c) (.int .i64 r0) (.int .i64 r1) (.string r2) (.string r3) rfl rfl;have HM := Lib.hid (HO2.out);clear H;go_wp2_with fail;(try simp only [Exit.inBlock, Exit.then]); refine bodyPost_ret (results_cells_row rfl _ _ _ _ _ _ _ _ _ _ _ _ rfl (H9.blk 1 rfl) Tryz.underlying28 rfl (by kernel_rfl) rfl (H9.blk 0 rfl) Tryz.underlying64 rfl (by kernel_rfl)) rfl ?_;exact GotV.same HM.out H9.fr
             ·replace H := H.join KN
              clear KN;obtain ⟨s0, s1, f0, f1, q0, q1, q2, q3, f2, f3, f4, f5, H9⟩ := H.two 2 1 (.int .i64 nx) (.slice A9 n9 c9) (.int .i64 r0) (.int .i64 r1) (.string r2) (.string r3) rfl rfl;have HM := Lib.hid (HO2.out);clear H;go_wp2_with fail;(try simp only [Exit.inBlock, Exit.then]); refine bodyPost_ret (results_cells_row rfl _ _ _ _ _ _ _ _ _ _ _ _ rfl (H9.blk 2 rfl) Tryz.underlying28 rfl (by kernel_rfl) rfl (H9.blk 1 rfl) Tryz.underlying64 rfl (by kernel_rfl)) rfl ?_;exact GotV.newN HM.out H9 0 rfl
   have h5a : (c0 == 5) = false := beq_eq_false_iff_ne.2 fun h => h56 (.inl h);have h6a : (c0 == 6) = false := beq_eq_false_iff_ne.2 fun h => h56 (.inr h);have HTW := Lib.hid (show twoB c0 = false by rw [twoB, h5a, h6a]; rfl);clear h56;have b0 := H.fa 3 0 rfl rfl;have b1 := H.fa 3 1 rfl rfl;have qc0 := H.fa 2 0 rfl rfl;have qc1 := H.fa 2 1 rfl rfl;go_wp2_with fail;refine (specAt_any next _ n c L c1 _ (HV.out.1.fr H.fr) (by omega)).mono ?_;rintro e w6 ⟨rfl, f5⟩;replace H := H.go f5;clear f5;clear b0 b1 qc0 qc1
   cases hk1 : atN (nodes L) c1 with
   | none =>
     rw [atZ_neg hk1];have HN := Lib.hid (begun_1 (c := (c0, c1, c2, c3, c4, c5)) hk1);clear hk1;have b0 := H.fa 3 0 rfl rfl;have b1 := H.fa 3 1 rfl rfl;obtain ⟨s0, s1, f0, f1, q0, q1, q2, q3, f2, f3, f4, f5, H9⟩ := H.two 1 0 (.int .i64 next) (.slice (some ⟨zb, zo, none⟩) n c) (.int .i64 2) (.int .i64 0) (.string ⟨#[]⟩) (.string ⟨#[]⟩) rfl rfl;have HM := Lib.hid (show volDoP next (nodes L) (c0, c1, c2, c3, c4, c5) = ((next, nodes L), resC 2) by rw [HVD.out (by rw [HN.out]; decide), HN.out]);clear H;go_wp2_with fail;(try simp only [Exit.inBlock, Exit.then]); refine bodyPost_ret (results_cells_row rfl _ _ _ _ _ _ _ _ _ _ _ _ rfl (H9.blk 1 rfl) Tryz.underlying28 rfl (by kernel_rfl) rfl (H9.blk 0 rfl) Tryz.underlying64 rfl (by kernel_rfl)) rfl ?_;exact GotV.same HM.out H9.fr
   | some k =>
     rw [atZ_pos hk1];have HK1 := Lib.hid hk1;obtain ⟨yk, hyk, _⟩ := at_of hk1;obtain ⟨vk, hvk⟩ := nodes_get hyk;obtain ⟨k0, k1, k2, k3, ks⟩ := yk;have HPK := Lib.hid hvk;have HKK := Lib.hid (show kindOf (nodes L) k = k1 from kindOf_eq hyk);clear hk1 hyk hvk;have hk0 : ¬ (k : Int) < 0 := by omega
     have hk02 : decide ((k : Int) < 0) = false := by simp
     have HT2 := Lib.hid (show atN (nodes L) (if twoB c0 = true then c3 else c1) = some k by rw [if_neg (by rw [HTW.out]; decide)]; exact HK1.out);have HKT := HKK;have b0 := H.fa 3 0 rfl rfl;have b1 := H.fa 3 1 rfl rfl;have qc1 := H.fa 2 1 rfl rfl;go_wp2_with fail;refine (l6Dir_any next _ n c L c1 k vk k0 k1 k2 k3 ks _ (HV.out.1.fr H.fr) (by omega) HK1.out HPK.out).mono ?_;rintro e wd ⟨rfl, f5⟩;replace H := H.go f5;clear f5;clear b0 b1 qc1
     by_cases hk2 : k1 = 2
     rotate_left
     ·have hka : (k1 == 2) = false := by simpa using hk2
      have HN := Lib.hid (show begunP (nodes L) (c0, c1, c2, c3, c4, c5) = 4 by rw [begunP]; simp only [HK1.out, HT2.out, HKK.out, HKT.out]; rw [if_neg (fun hh => hk2 hh.1)]);clear hk2;rw [hka];have b0 := H.fa 3 0 rfl rfl;have b1 := H.fa 3 1 rfl rfl;obtain ⟨s0, s1, f0, f1, q0, q1, q2, q3, f2, f3, f4, f5, H9⟩ := H.two 1 0 (.int .i64 next) (.slice (some ⟨zb, zo, none⟩) n c) (.int .i64 4) (.int .i64 0) (.string ⟨#[]⟩) (.string ⟨#[]⟩) rfl rfl;have HM := Lib.hid (show volDoP next (nodes L) (c0, c1, c2, c3, c4, c5) = ((next, nodes L), resC 4) by rw [HVD.out (by rw [HN.out]; decide), HN.out]);clear H;go_wp2_with fail;(try simp only [Exit.inBlock, Exit.then]); refine bodyPost_ret (results_cells_row rfl _ _ _ _ _ _ _ _ _ _ _ _ rfl (H9.blk 1 rfl) Tryz.underlying28 rfl (by kernel_rfl) rfl (H9.blk 0 rfl) Tryz.underlying64 rfl (by kernel_rfl)) rfl ?_;exact GotV.same HM.out H9.fr
     have hka : (k1 == 2) = true := by simpa using hk2
     have HK2 := Lib.hid hk2;clear hk2;rw [hka];have HT1 := HK2;have HBB := Lib.hid (show begunP (nodes L) (c0, c1, c2, c3, c4, c5) = if nameB (toB c2) = true then 0 else 1 by rw [begunP]; simp only [HK1.out, HT2.out, HKK.out, HKT.out]; rw [if_pos ⟨HK2.out, HK2.out⟩]; simp only [HTW.out, Bool.false_eq_true, false_implies, and_true]);have qc2 := H.fa 2 2 rfl rfl;go_wp2_with fail;refine (specNameOk_any c2 _ hs2).mono ?_;rintro e wf ⟨rfl, f5⟩;replace H := H.go f5;clear f5;clear qc2
     cases hn2 : nameB (toB c2) with
     | false =>
       have HN := Lib.hid (show begunP (nodes L) (c0, c1, c2, c3, c4, c5) = 1 by rw [HBB.out, if_neg (fun hh => by have h1 := hh; rw [hn2] at h1; cases h1)]);clear hn2;have b0 := H.fa 3 0 rfl rfl;have b1 := H.fa 3 1 rfl rfl;obtain ⟨s0, s1, f0, f1, q0, q1, q2, q3, f2, f3, f4, f5, H9⟩ := H.two 1 0 (.int .i64 next) (.slice (some ⟨zb, zo, none⟩) n c) (.int .i64 1) (.int .i64 0) (.string ⟨#[]⟩) (.string ⟨#[]⟩) rfl rfl;have HM := Lib.hid (show volDoP next (nodes L) (c0, c1, c2, c3, c4, c5) = ((next, nodes L), resC 1) by rw [HVD.out (by rw [HN.out]; decide), HN.out]);clear H;go_wp2_with fail;(try simp only [Exit.inBlock, Exit.then]); refine bodyPost_ret (results_cells_row rfl _ _ _ _ _ _ _ _ _ _ _ _ rfl (H9.blk 1 rfl) Tryz.underlying28 rfl (by kernel_rfl) rfl (H9.blk 0 rfl) Tryz.underlying64 rfl (by kernel_rfl)) rfl ?_;exact GotV.same HM.out H9.fr
     | true =>
       have HN2 := Lib.hid hn2;clear hn2;have HB0 := Lib.hid (show begunP (nodes L) (c0, c1, c2, c3, c4, c5) = 0 by rw [HBB.out, if_pos HN2.out]);have HDO := Lib.hid (show volDoP next (nodes L) (c0, c1, c2, c3, c4, c5) = (if c0 = 1 ∨ c0 = 2 then makeP next (nodes L) k (c0, c1, c2, c3, c4, c5) else onP next (nodes L) k k (c0, c1, c2, c3, c4, c5)) by rw [volDoP, if_pos HCB.out, if_pos HB0.out]; simp only [HK1.out, HT2.out]);have b0 := H.fa 3 0 rfl rfl;have b1 := H.fa 3 1 rfl rfl;have qc0 := H.fa 2 0 rfl rfl;have qc1 := H.fa 2 1 rfl rfl;have qc2 := H.fa 2 2 rfl rfl;have qc3 := H.fa 2 3 rfl rfl;have qc4 := H.fa 2 4 rfl rfl;have qc5 := H.fa 2 5 rfl rfl
       by_cases h12 : c0 = 1 ∨ c0 = 2
       ·have HC12 := Lib.hid h12
        rcases h12 with h1 | h2
        focus
         have hc1 : (c0 == 1) = true := by simpa using h1
         clear h1
        rotate_left
        focus
         have hc1 : (c0 == 1) = false := by simp [h2]
         have hc2 : (c0 == 2) = true := by simpa using h2
         clear h2
        all_goals
         go_wp2_with fail;refine (l6Make_any next _ n c L k vk k0 k1 k2 k3 ks c0 c1 c2 c3 c4 c5 _ (HV.out.fr H.fr) hnc HVO.out.toVW HK1.out HPK.out hs2 HN2.out).mono ?_;obtain ⟨O, hO⟩ : ∃ O, O = makeP next (nodes L) k (c0, c1, c2, c3, c4, c5) := ⟨_, rfl⟩;rw [← hO];have HO := Lib.hid (show volDoP next (nodes L) (c0, c1, c2, c3, c4, c5) = O by rw [HDO.out, if_pos HC12.out, hO]);clear hO;obtain ⟨⟨nx, lx⟩, r0, r1, r2, r3⟩ := O;rintro e w9r ⟨A9, n9, c9, L9, rfl, hL9, hcase⟩;simp only at hL9;simp only [resL];clear b0 b1 qc0 qc1 qc2 qc3 qc4 qc5;have HO2 := Lib.hid (show volDoP next (nodes L) (c0, c1, c2, c3, c4, c5) = ((nx, nodes L9), (r0, r1, r2, r3)) by rw [HO.out, hL9]);clear hL9
         rcases hcase with ⟨hA9, hn9, hc9, hL9, f9⟩ | KN
         ·replace H := H.go f9
          have hA9 := hA9.symm;have hn9 := hn9.symm;have hc9 := hc9.symm;have hL9 := hL9.symm;subst hA9 hn9 hc9 hL9;obtain ⟨s0, s1, f0, f1, q0, q1, q2, q3, f2, f3, f4, f5, H9⟩ := H.two 1 0 (.int .i64 nx) (.slice (some ⟨zb, zo, none⟩) n c) (.int .i64 r0) (.int .i64 r1) (.string r2) (.string r3) rfl rfl;have HM := Lib.hid (HO2.out);clear H;go_wp2_with fail;(try simp only [Exit.inBlock, Exit.then]); refine bodyPost_ret (results_cells_row rfl _ _ _ _ _ _ _ _ _ _ _ _ rfl (H9.blk 1 rfl) Tryz.underlying28 rfl (by kernel_rfl) rfl (H9.blk 0 rfl) Tryz.underlying64 rfl (by kernel_rfl)) rfl ?_;exact GotV.same HM.out H9.fr
         ·replace H := H.join KN
          clear KN;obtain ⟨s0, s1, f0, f1, q0, q1, q2, q3, f2, f3, f4, f5, H9⟩ := H.two 2 1 (.int .i64 nx) (.slice A9 n9 c9) (.int .i64 r0) (.int .i64 r1) (.string r2) (.string r3) rfl rfl;have HM := Lib.hid (HO2.out);clear H;go_wp2_with fail;(try simp only [Exit.inBlock, Exit.then]); refine bodyPost_ret (results_cells_row rfl _ _ _ _ _ _ _ _ _ _ _ _ rfl (H9.blk 2 rfl) Tryz.underlying28 rfl (by kernel_rfl) rfl (H9.blk 1 rfl) Tryz.underlying64 rfl (by kernel_rfl)) rfl ?_;exact GotV.newN HM.out H9 0 rfl
       have hc1 : (c0 == 1) = false := beq_eq_false_iff_ne.2 fun h => h12 (.inl h);have hc2 : (c0 == 2) = false := beq_eq_false_iff_ne.2 fun h => h12 (.inr h);have HNC := Lib.hid (show c0 ≠ 1 ∧ c0 ≠ 2 from ⟨fun h => h12 (.inl h), fun h => h12 (.inr h)⟩);have h3 : 3 ≤ c0 := by omega
       clear h12;go_wp2_with fail;refine (l6On_any next _ n c L k k vk k0 k1 k2 k3 ks vk k0 k1 k2 k3 ks c0 c1 c2 c3 c4 c5 _ (HV.out.fr H.fr) hnc HVO.out HPK.out HK1.out HT2.out HPK.out HT1.out (by omega) (by omega) hs2 hs4 (fun hh => by rw [HTW.out] at hh; cases hh)).mono ?_;obtain ⟨O, hO⟩ : ∃ O, O = onP next (nodes L) k k (c0, c1, c2, c3, c4, c5) := ⟨_, rfl⟩;rw [← hO];have HO := Lib.hid (show volDoP next (nodes L) (c0, c1, c2, c3, c4, c5) = O by rw [HDO.out, if_neg (by have := HNC.out; omega), hO]);clear hO;obtain ⟨⟨nx, lx⟩, r0, r1, r2, r3⟩ := O;rintro e w9r ⟨A9, n9, c9, L9, rfl, hL9, hcase⟩;simp only at hL9;simp only [resL];clear b0 b1 qc0 qc1 qc2 qc3 qc4 qc5;have HO2 := Lib.hid (show volDoP next (nodes L) (c0, c1, c2, c3, c4, c5) = ((nx, nodes L9), (r0, r1, r2, r3)) by rw [HO.out, hL9]);clear hL9
       rcases hcase with ⟨hA9, hn9, hc9, hL9, f9⟩ | KN
       ·replace H := H.go f9
        have hA9 := hA9.symm;have hn9 := hn9.symm;have hc9 := hc9.symm;have hL9 := hL9.symm;subst hA9 hn9 hc9 hL9;obtain ⟨s0, s1, f0, f1, q0, q1, q2, q3, f2, f3, f4, f5, H9⟩ := H.two 1 0 (.int .i64 nx) (.slice (some ⟨zb, zo, none⟩) n c) (.int .i64 r0) (.int .i64 r1) (.string r2) (.string r3) rfl rfl;have HM := Lib.hid (HO2.out);clear H;go_wp2_with fail;(try simp only [Exit.inBlock, Exit.then]); refine bodyPost_ret (results_cells_row rfl _ _ _ _ _ _ _ _ _ _ _ _ rfl (H9.blk 1 rfl) Tryz.underlying28 rfl (by kernel_rfl) rfl (H9.blk 0 rfl) Tryz.underlying64 rfl (by kernel_rfl)) rfl ?_;exact GotV.same HM.out H9.fr
       ·replace H := H.join KN
        clear KN;obtain ⟨s0, s1, f0, f1, q0, q1, q2, q3, f2, f3, f4, f5, H9⟩ := H.two 2 1 (.int .i64 nx) (.slice A9 n9 c9) (.int .i64 r0) (.int .i64 r1) (.string r2) (.string r3) rfl rfl;have HM := Lib.hid (HO2.out);clear H;go_wp2_with fail;(try simp only [Exit.inBlock, Exit.then]); refine bodyPost_ret (results_cells_row rfl _ _ _ _ _ _ _ _ _ _ _ _ rfl (H9.blk 2 rfl) Tryz.underlying28 rfl (by kernel_rfl) rfl (H9.blk 1 rfl) Tryz.underlying64 rfl (by kernel_rfl)) rfl ?_;exact GotV.newN HM.out H9 0 rfl
end Go.Proofs.YtmpldngnkacnmaaGreatDoor
