/-
FoldCalls of the reference.
-/
import Derived.Test.YtllonpbhgbhogaaGreatDoorRoot
import Derived.Test.YtllonpbhgbhogaaGreatDoorFoldI
import Derived.Test.YtllonpbhgbhogaaGreatDoorVolDoS
namespace Go.Proofs.YtllonpbhgbhogaaGreatDoor
open Go.RowKit
set_option linter.unusedVariables false
set_option linter.unusedSimpArgs false
set_option maxRecDepth 100000 in
set_option maxHeartbeats 32000000 in
theorem l10Fold_any (A : Option Addr) (n c : Nat) (l : List CallT) (k : Nat) (w : World) (h : Rd w A n 6 (l.flatMap cCall)) (hn : n ≤ 1048576) (hkn : k ≤ n) :
 Calls Tryz.prog 59 #[.slice A n c, .int .i64 (k : Int)] w (NewF w (foldP (l.take k))) := by
 have HL := Lib.hid (h.lenk cCall_len (by omega));have HR := Lib.hid h;clear h;have H := (Hp.start w).lay_ 31 [.int .i64 0, .slice none 0 0] rfl;have hk0 : (0 : Int) ≤ (k : Int) := by omega
 go_enter Tryz.func59, Tryz.ntmps59;go_wp2_with fail;refine (specNewVol_any _).mono ?_;rintro e w2 ⟨g, rfl, K⟩;replace H := (H.join K).lay_ 31 [.int .i64 2, .slice (some ⟨g, 0, none⟩) 1 1] rfl;clear K;obtain ⟨gv, hgv⟩ : ∃ z, z = w2.heap.size := ⟨_, rfl⟩;rw [← hgv] at H;have HGV := Lib.hid hgv;clear hgv;have HS := Lib.hid (H.front 1 rfl);clear H;go_wp2_with fail;simp only [← HGV.out]
 go_loopw [7, 8] (fun bv iv wr => ∃ (i : Nat) (nx : Int) (A' : Option Addr) (n' c' : Nat) (L' : List (Value × Nod)) (b : Bool), iv = .int .i64 i ∧ i ≤ k ∧ bv = .bool b ∧ ((nx, nodes L'), b) = foldP (l.take i) ∧ Hp [] w wr [obN (.slice A' n' c') n' L', .blk gv 31 [.int .i64 nx, .slice A' n' c'], .blk w.heap.size 31 [.int .i64 0, .slice none 0 0]]) (fun _ iv _ => k - (intOf iv).toNat)
 case atStart =>
  exact ⟨0, 2, _, 1, 1, rootL, true, rfl, by omega, rfl, rfl, HS.out⟩
 case round =>
  clear HS;obtain ⟨i, nx, A', n', c', L', b, rfl, hi, hbv, hF, H⟩ := hrel;have HF := Lib.hid hF;have HBV := Lib.hid hbv;clear hF hbv;have HV := Lib.hid (show VOk nx (nodes L') from by have h1 := foldP_V (l.take i); rw [← HF.out] at h1; exact h1);have HN' := Lib.hid (show n' ≤ 16 by have h1 := (VRd.of H 0 rfl).1.len; have h2 := HV.out.len; rw [nodes_len] at h2; omega)
  by_cases hlt : i < k
  ·have hi1 : (i : Int) < (k : Int) := by omega
   have hi0 : (0 : Int) ≤ (i : Int) := by omega
   have hin : (i : Int) < (n : Int) := by omega
   obtain ⟨⟨x0, x1, x2, x3, x4, x5⟩, hx⟩ := some_at HL.out (show i < n by omega);have HX := Lib.hid hx;obtain ⟨bk, of, rfl, hcell⟩ := HR.out.elem cCall_len hx (by omega);have hE : ∀ (u : World), Fr w u → u.cell? ⟨bk, of + i * 6, none⟩ = some (.int .i64 x0) ∧ u.cell? ⟨bk, of + i * 6 + 1, none⟩ = some (.int .i64 x1) ∧ u.cell? ⟨bk, of + i * 6 + 2, none⟩ = some (.string x2) ∧ u.cell? ⟨bk, of + i * 6 + 3, none⟩ = some (.int .i64 x3) ∧ u.cell? ⟨bk, of + i * 6 + 4, none⟩ = some (.string x4) ∧ u.cell? ⟨bk, of + i * 6 + 5, none⟩ = some (.string x5) := by
    have hc : ∀ (u : World), Fr w u → ∀ j v, (cCall (x0, x1, x2, x3, x4, x5))[j]? = some v → u.cell? ⟨bk, of + i * 6 + j, none⟩ = some v := fun u f j v hj => (f.cell (World.block_lt_of_cell? w _ (hcell j v hj))).trans (hcell j v hj);intro u f;exact ⟨by simpa using hc u f 0 _ rfl, hc u f 1 _ rfl, hc u f 2 _ rfl, hc u f 3 _ rfl, hc u f 4 _ rfl, hc u f 5 _ rfl⟩
   clear hcell hx;obtain ⟨O, hO⟩ : ∃ O, O = volDoP nx (nodes L') (x0, x1, x2, x3, x4, x5) := ⟨_, rfl⟩;have HNX := Lib.hid (show (O.1, b && decide (O.2.1 = 0)) = foldP (l.take (i + 1)) by rw [foldP_step HX.out, ← HF.out, foldS, hO]);obtain ⟨⟨nx1, lx⟩, r0, r1, r2, r3⟩ := O;have HO := Lib.hid hO;clear hO;go_wp2_with fail;replace H := H.drew;have hS : ∀ (u : World) (lq : List Ob) (iq : Nat), Hp [] w u lq → lq[iq]? = some (.blk gv 31 [.int .i64 nx, .slice A' n' c']) → u.cell? ⟨gv, 0, none⟩ = some (.int .i64 nx) ∧ u.cell? ⟨gv, 1, none⟩ = some (.slice A' n' c') ∧ u.cell? ⟨bk, of + i * 6, none⟩ = some (.int .i64 x0) ∧ u.cell? ⟨bk, of + i * 6 + 1, none⟩ = some (.int .i64 x1) ∧ u.cell? ⟨bk, of + i * 6 + 2, none⟩ = some (.string x2) ∧ u.cell? ⟨bk, of + i * 6 + 3, none⟩ = some (.int .i64 x3) ∧ u.cell? ⟨bk, of + i * 6 + 4, none⟩ = some (.string x4) ∧ u.cell? ⟨bk, of + i * 6 + 5, none⟩ = some (.string x5) := fun u lq iq H h0 => ⟨H.bat _ h0 rfl, H.bat _ h0 rfl, hE u H.fr⟩;have v0 := H.fa 1 0 rfl rfl;have v1 := H.fa 1 1 rfl rfl;obtain ⟨ca0, ca1, ca2, ca3, ca4, ca5⟩ := hE _ H.fr;refine wp_joint (fun a a' w' => ∃ v18 v19 v20 v21 v22 v23 v17 v24 v25 : Value, ∃ (gy gr : Nat) (A9 : Option Addr) (n9 c9 : Nat) (L9 : List (Value × Nod)), a' = (((((((((((a.put (some 18) v18).put (some 19) v19).put (some 20) v20).put (some 21) v21).put (some 22) v22).put (some 23) v23).put (some 17) v17).put (some 24) v24).put (some 25) v25).put (some 9) (.pointer (some ⟨gy, 0, none⟩))).put (some 10) (.pointer (some ⟨gr, 0, none⟩))) ∧ nodes L9 = lx ∧ Hp [] w w' [.blk gy 31 [.int .i64 nx1, .slice A9 n9 c9], .blk gr 33 [.int .i64 r0, .int .i64 r1, .string r2, .string r3], obN (.slice A9 n9 c9) n9 L9, .blk gv 31 [.int .i64 nx, .slice A' n' c'], .blk w.heap.size 31 [.int .i64 0, .slice none 0 0]]) ?_ ?_
   ·skip
    refine wp_region_held_drew (S := fun w' => w'.cell? ⟨gv, 0, none⟩ = some (.int .i64 nx) ∧ w'.cell? ⟨gv, 1, none⟩ = some (.slice A' n' c') ∧ w'.cell? ⟨bk, of + i * 6, none⟩ = some (.int .i64 x0) ∧ w'.cell? ⟨bk, of + i * 6 + 1, none⟩ = some (.int .i64 x1) ∧ w'.cell? ⟨bk, of + i * 6 + 2, none⟩ = some (.string x2) ∧ w'.cell? ⟨bk, of + i * 6 + 3, none⟩ = some (.int .i64 x3) ∧ w'.cell? ⟨bk, of + i * 6 + 4, none⟩ = some (.string x4) ∧ w'.cell? ⟨bk, of + i * 6 + 5, none⟩ = some (.string x5)) (by kernel_rfl) ?_ (fun hHeld => ?_)
    ·exact ⟨v0, v1, ca0, ca1, ca2, ca3, ca4, ca5⟩
    obtain ⟨u0, hu0⟩ : ∃ uu : World, uu = wr.drew := ⟨_, rfl⟩;rw [← hu0] at H hHeld ⊢;clear hu0;refine wpT 0 ?_;refine wpT 1 ?_;refine wpT 2 ?_;refine wpT 3 ?_;refine wpT 4 ?_;refine wpAnyH_ready (rs := [5, 9, 10]) (by kernel_rfl) (by simp) ?_;refine (AllReadyH.cons rfl (fun K hK => ?_) (AllReadyH.cons rfl (fun K hK => ?_) (AllReadyH.cons rfl (fun K hK => ?_) AllReadyH.nil)))
    ·go_simp
     refine (l6Do_any nx A' n' c' L' x0 x1 x2 x3 x4 x5 _ (VRd.of H 0 rfl) (H.nnc 0 rfl) HV.out).mono ?_;intro e u1 hG;rw [← HO.out] at hG;obtain ⟨A9, n9, c9, L9, rfl, hL9, H0⟩ := hG.held H 0 rfl;clear hG H;have H := H0;clear H0;simp only [resL];simp only at hL9;have HL9 := Lib.hid hL9;clear hL9;go_wp2_with fail;refine hK.out _ _ ?_ fun hHeld => ?_
     ·exact hS _ _ (1) H rfl
     clear hK K;(try simp only [sX, Act.put]);refine wpT 6 ?_;refine wpT 7 ?_;refine wpT 8 ?_;refine wpAnyH_ready (rs := [9, 10]) (by kernel_rfl) (by simp) ?_;refine (AllReadyH.cons rfl (fun K hK => ?_) (AllReadyH.cons rfl (fun K hK => ?_) AllReadyH.nil))
     ·refine layVol H (fun gy u2 H => ?_)
      refine hK.out _ _ ?_ fun hHeld => ?_
      ·exact hS _ _ (2) H rfl
      clear hK K;(try simp only [sX, Act.put]);refine wpC 10 fun K hK => ?_;refine layRes H (fun gr u3 H => ?_);refine hK.out _ _ ?_ fun hHeld => ?_
      ·exact hS _ _ (3) H rfl
      clear hK K;(try simp only [sX, Act.put]);refine wpC 11 fun K hK => ?_;refine putVol H 1 rfl rfl rfl (fun u4 H => ?_);refine hK.out _ _ ?_ fun hHeld => ?_
      ·exact hS _ _ (3) H rfl
      clear hK K;(try simp only [sX, Act.put]);refine wpC 12 fun K hK => ?_;refine putRes H 0 rfl rfl rfl (fun u5 H => ?_);refine hK.out _ _ ?_ fun hHeld => ?_
      ·exact hS _ _ (3) H rfl
      clear hK K;(try simp only [sX, Act.put]);refine wpAnyH_done (by kernel_rfl) ?_ _;replace H := H.reord [1, 0, 2, 3, 4] (n := 5) rfl (by decide);exact ⟨rfl, _, _, _, _, _, _, _, _, _, _, _, _, _, _, _, rfl, HL9.out, H⟩
     ·refine layRes H (fun gr u2 H => ?_)
      refine hK.out _ _ ?_ fun hHeld => ?_
      ·exact hS _ _ (2) H rfl
      clear hK K;(try simp only [sX, Act.put]);refine wpC 9 fun K hK => ?_;refine layVol H (fun gy u3 H => ?_);refine hK.out _ _ ?_ fun hHeld => ?_
      ·exact hS _ _ (3) H rfl
      clear hK K;(try simp only [sX, Act.put]);refine wpC 11 fun K hK => ?_;refine putVol H 0 rfl rfl rfl (fun u4 H => ?_);refine hK.out _ _ ?_ fun hHeld => ?_
      ·exact hS _ _ (3) H rfl
      clear hK K;(try simp only [sX, Act.put]);refine wpC 12 fun K hK => ?_;refine putRes H 1 rfl rfl rfl (fun u5 H => ?_);refine hK.out _ _ ?_ fun hHeld => ?_
      ·exact hS _ _ (3) H rfl
      clear hK K;(try simp only [sX, Act.put]);refine wpAnyH_done (by kernel_rfl) ?_ _;replace H := H.reord [0, 1, 2, 3, 4] (n := 5) rfl (by decide);exact ⟨rfl, _, _, _, _, _, _, _, _, _, _, _, _, _, _, _, rfl, HL9.out, H⟩
    ·refine layVol H (fun gy u1 H => ?_)
     refine hK.out _ _ ?_ fun hHeld => ?_
     ·exact hS _ _ (2) H rfl
     clear hK K;(try simp only [sX, Act.put]);refine wpAnyH_ready (rs := [5, 10]) (by kernel_rfl) (by simp) ?_;refine (AllReadyH.cons rfl (fun K hK => ?_) (AllReadyH.cons rfl (fun K hK => ?_) AllReadyH.nil))
     ·go_simp
      refine (l6Do_any nx A' n' c' L' x0 x1 x2 x3 x4 x5 _ (VRd.of H 1 rfl) (H.nnc 1 rfl) HV.out).mono ?_;intro e u2 hG;rw [← HO.out] at hG;obtain ⟨A9, n9, c9, L9, rfl, hL9, H0⟩ := hG.held H 1 rfl;clear hG H;have H := H0;clear H0;simp only [resL];simp only at hL9;have HL9 := Lib.hid hL9;clear hL9;go_wp2_with fail;refine hK.out _ _ ?_ fun hHeld => ?_
      ·exact hS _ _ (2) H rfl
      clear hK K;(try simp only [sX, Act.put]);refine wpT 6 ?_;refine wpT 7 ?_;refine wpT 8 ?_;refine wpC 10 fun K hK => ?_;refine layRes H (fun gr u3 H => ?_);refine hK.out _ _ ?_ fun hHeld => ?_
      ·exact hS _ _ (3) H rfl
      clear hK K;(try simp only [sX, Act.put]);refine wpC 11 fun K hK => ?_;refine putVol H 1 rfl rfl rfl (fun u4 H => ?_);refine hK.out _ _ ?_ fun hHeld => ?_
      ·exact hS _ _ (3) H rfl
      clear hK K;(try simp only [sX, Act.put]);refine wpC 12 fun K hK => ?_;refine putRes H 0 rfl rfl rfl (fun u5 H => ?_);refine hK.out _ _ ?_ fun hHeld => ?_
      ·exact hS _ _ (3) H rfl
      clear hK K;(try simp only [sX, Act.put]);refine wpAnyH_done (by kernel_rfl) ?_ _;replace H := H.reord [1, 0, 2, 3, 4] (n := 5) rfl (by decide);exact ⟨rfl, _, _, _, _, _, _, _, _, _, _, _, _, _, _, _, rfl, HL9.out, H⟩
     ·refine layRes H (fun gr u2 H => ?_)
      refine hK.out _ _ ?_ fun hHeld => ?_
      ·exact hS _ _ (3) H rfl
      clear hK K;(try simp only [sX, Act.put]);refine wpC 5 fun K hK => ?_;go_simp;refine (l6Do_any nx A' n' c' L' x0 x1 x2 x3 x4 x5 _ (VRd.of H 2 rfl) (H.nnc 2 rfl) HV.out).mono ?_;intro e u3 hG;rw [← HO.out] at hG;obtain ⟨A9, n9, c9, L9, rfl, hL9, H0⟩ := hG.held H 2 rfl;clear hG H;have H := H0;clear H0;simp only [resL];simp only at hL9;have HL9 := Lib.hid hL9;clear hL9;go_wp2_with fail;refine hK.out _ _ ?_ fun hHeld => ?_
      ·exact hS _ _ (3) H rfl
      clear hK K;(try simp only [sX, Act.put]);refine wpT 6 ?_;refine wpT 7 ?_;refine wpT 8 ?_;refine wpC 11 fun K hK => ?_;refine putVol H 1 rfl rfl rfl (fun u4 H => ?_);refine hK.out _ _ ?_ fun hHeld => ?_
      ·exact hS _ _ (3) H rfl
      clear hK K;(try simp only [sX, Act.put]);refine wpC 12 fun K hK => ?_;refine putRes H 0 rfl rfl rfl (fun u5 H => ?_);refine hK.out _ _ ?_ fun hHeld => ?_
      ·exact hS _ _ (3) H rfl
      clear hK K;(try simp only [sX, Act.put]);refine wpAnyH_done (by kernel_rfl) ?_ _;replace H := H.reord [1, 0, 2, 3, 4] (n := 5) rfl (by decide);exact ⟨rfl, _, _, _, _, _, _, _, _, _, _, _, _, _, _, _, rfl, HL9.out, H⟩
    ·refine layRes H (fun gr u1 H => ?_)
     refine hK.out _ _ ?_ fun hHeld => ?_
     ·exact hS _ _ (2) H rfl
     clear hK K;(try simp only [sX, Act.put]);refine wpAnyH_ready (rs := [5, 9]) (by kernel_rfl) (by simp) ?_;refine (AllReadyH.cons rfl (fun K hK => ?_) (AllReadyH.cons rfl (fun K hK => ?_) AllReadyH.nil))
     ·go_simp
      refine (l6Do_any nx A' n' c' L' x0 x1 x2 x3 x4 x5 _ (VRd.of H 1 rfl) (H.nnc 1 rfl) HV.out).mono ?_;intro e u2 hG;rw [← HO.out] at hG;obtain ⟨A9, n9, c9, L9, rfl, hL9, H0⟩ := hG.held H 1 rfl;clear hG H;have H := H0;clear H0;simp only [resL];simp only at hL9;have HL9 := Lib.hid hL9;clear hL9;go_wp2_with fail;refine hK.out _ _ ?_ fun hHeld => ?_
      ·exact hS _ _ (2) H rfl
      clear hK K;(try simp only [sX, Act.put]);refine wpT 6 ?_;refine wpT 7 ?_;refine wpT 8 ?_;refine wpC 9 fun K hK => ?_;refine layVol H (fun gy u3 H => ?_);refine hK.out _ _ ?_ fun hHeld => ?_
      ·exact hS _ _ (3) H rfl
      clear hK K;(try simp only [sX, Act.put]);refine wpC 11 fun K hK => ?_;refine putVol H 0 rfl rfl rfl (fun u4 H => ?_);refine hK.out _ _ ?_ fun hHeld => ?_
      ·exact hS _ _ (3) H rfl
      clear hK K;(try simp only [sX, Act.put]);refine wpC 12 fun K hK => ?_;refine putRes H 1 rfl rfl rfl (fun u5 H => ?_);refine hK.out _ _ ?_ fun hHeld => ?_
      ·exact hS _ _ (3) H rfl
      clear hK K;(try simp only [sX, Act.put]);refine wpAnyH_done (by kernel_rfl) ?_ _;replace H := H.reord [0, 1, 2, 3, 4] (n := 5) rfl (by decide);exact ⟨rfl, _, _, _, _, _, _, _, _, _, _, _, _, _, _, _, rfl, HL9.out, H⟩
     ·refine layVol H (fun gy u2 H => ?_)
      refine hK.out _ _ ?_ fun hHeld => ?_
      ·exact hS _ _ (3) H rfl
      clear hK K;(try simp only [sX, Act.put]);refine wpC 5 fun K hK => ?_;go_simp;refine (l6Do_any nx A' n' c' L' x0 x1 x2 x3 x4 x5 _ (VRd.of H 2 rfl) (H.nnc 2 rfl) HV.out).mono ?_;intro e u3 hG;rw [← HO.out] at hG;obtain ⟨A9, n9, c9, L9, rfl, hL9, H0⟩ := hG.held H 2 rfl;clear hG H;have H := H0;clear H0;simp only [resL];simp only at hL9;have HL9 := Lib.hid hL9;clear hL9;go_wp2_with fail;refine hK.out _ _ ?_ fun hHeld => ?_
      ·exact hS _ _ (3) H rfl
      clear hK K;(try simp only [sX, Act.put]);refine wpT 6 ?_;refine wpT 7 ?_;refine wpT 8 ?_;refine wpC 11 fun K hK => ?_;refine putVol H 0 rfl rfl rfl (fun u4 H => ?_);refine hK.out _ _ ?_ fun hHeld => ?_
      ·exact hS _ _ (3) H rfl
      clear hK K;(try simp only [sX, Act.put]);refine wpC 12 fun K hK => ?_;refine putRes H 1 rfl rfl rfl (fun u5 H => ?_);refine hK.out _ _ ?_ fun hHeld => ?_
      ·exact hS _ _ (3) H rfl
      clear hK K;(try simp only [sX, Act.put]);refine wpAnyH_done (by kernel_rfl) ?_ _;replace H := H.reord [0, 1, 2, 3, 4] (n := 5) rfl (by decide);exact ⟨rfl, _, _, _, _, _, _, _, _, _, _, _, _, _, _, _, rfl, HL9.out, H⟩
   clear H v0 v1 ca0 ca1 ca2 ca3 ca4 ca5;rintro a' w9 ⟨v18, v19, v20, v21, v22, v23, v17, v24, v25, gy, gr, A9, n9, c9, L9, rfl, hL9, H⟩;simp only [List.getElem_toArray, List.getElem_cons_succ, List.getElem_cons_zero, Act.put, List.setIfInBounds_toArray, List.set_cons_zero, List.set_cons_succ];have HL9 := Lib.hid hL9;clear hL9;have y0 := H.fa 0 0 rfl rfl;have y1 := H.fa 0 1 rfl rfl;have rr0 := H.fa 1 0 rfl rfl;have v0 := H.fa 3 0 rfl rfl;have v1 := H.fa 3 1 rfl rfl;have fv0 := H.bfree 3 rfl 0;have fv1 := H.bfree 3 rfl 1;replace H := H.blays 3 rfl [.int .i64 nx1, .slice A9 n9 c9] rfl;simp only [layW, Nat.zero_add, Nat.reduceAdd] at H;have r0' := H.fa 1 0 rfl rfl;have H8 := Lib.hid (H.sub (l' := [obN (.slice A9 n9 c9) n9 L9, .blk gv 31 [.int .i64 nx1, .slice A9 n9 c9], .blk w.heap.size 31 [.int .i64 0, .slice none 0 0]]) (.cons _ (.cons _ (.refl _))));clear H
   cases b with
   | true =>
     obtain rfl := HBV.out;go_wp2_with fail;go_roundw
     case rel => exact ⟨i + 1, nx1, A9, n9, c9, L9, _, by go_num, by omega, rfl, (by rw [← HNX.out, HL9.out]; simp; all_goals rfl), H8.out⟩
     case measure => simp [intOf]; omega
   | false =>
     obtain rfl := HBV.out;go_wp2_with fail;go_roundw
     case rel => exact ⟨i + 1, nx1, A9, n9, c9, L9, _, by go_num, by omega, rfl, (by rw [← HNX.out, HL9.out]; simp; all_goals rfl), H8.out⟩
     case measure => simp [intOf]; omega
  ·have hi1 : ¬ (i : Int) < (k : Int) := by omega
   obtain rfl := HBV.out;have HM := Lib.hid (show foldP (l.take k) = ((nx, nodes L'), b) by rw [HF.out, show i = k by omega]);have v0 := H.fa 1 0 rfl rfl;have v1 := H.fa 1 1 rfl rfl;have z0 := H.fa 2 0 rfl rfl;have z1 := H.fa 2 1 rfl rfl;have fz0 := H.bfree 2 rfl 0;have fz1 := H.bfree 2 rfl 1;have H9 := H.blays 2 rfl [.int .i64 nx, .slice A' n' c'] rfl;simp only [layW, Nat.zero_add, Nat.reduceAdd] at H9;clear H;go_wp2_with fail
   ((try simp only [Exit.inBlock, Exit.then]); refine bodyPost_ret (results_ct rfl _ _ _ _ _ _ _ rfl (H9.blk 2 rfl) Tryz.underlying31 rfl (by kernel_rfl)) rfl ?_)
   exact ⟨A', n', c', L', by rw [HM.out]; rfl, by rw [HM.out], H9.sub (by simp)⟩
set_option maxRecDepth 100000 in
set_option maxHeartbeats 16000000 in
theorem specFoldCalls_any (A : Option Addr) (n c : Nat) (l : List CallT) (kz : Int) (w : World) (h : Rd w A n 6 (l.flatMap cCall)) (hn : n ≤ 1048576) :
 Calls Tryz.prog 28 #[.slice A n c, .int .i64 kz] w (NewF w (foldA l kz)) := by
 have HL := Lib.hid (h.lenk cCall_len (by omega));have HR := Lib.hid h;clear h;have H := (Hp.start w).lay_ 31 [.int .i64 0, .slice none 0 0] rfl
 by_cases h12 : n ≤ 120
 ·have h120 : ¬ (120 : Int) < (n : Int) := by omega
  go_enter Tryz.func28, Tryz.ntmps28;go_wp2_with fail;refine (l1In_any _ _ _ _).mono ?_;rintro e w1 ⟨rfl, rfl⟩
  cases hb : inB kz 0 (n : Int) with
  | false =>
    have HA := Lib.hid (show foldA l kz = ((0, []), false) by rw [foldA, if_neg (by rw [HL.out, hb]; exact fun h => nomatch h.1)]);have H9 := H;clear H;go_wp2_with fail
    ((try simp only [Exit.inBlock, Exit.then]); refine bodyPost_ret (results_ct rfl _ _ _ _ _ _ _ rfl (H9.blk 0 rfl) Tryz.underlying31 rfl (by kernel_rfl)) rfl ?_)
    exact NewF.zero HA.out H9
  | true =>
    obtain ⟨k, hkk⟩ : ∃ k : Nat, kz = k := ⟨kz.toNat, by have := (inB_iff.1 hb).1; omega⟩;subst hkk;have hkn : k ≤ n := by have := (inB_iff.1 hb).2; omega
    have HA := Lib.hid (show foldA l (k : Int) = foldP (l.take k) by rw [foldA, if_pos ⟨by rw [HL.out]; exact hb, by rw [HL.out]; exact h12⟩]; rfl);clear hb;go_wp2_with fail;refine (l10Fold_any A n c l k _ (HR.out.fr H.fr) hn hkn).mono ?_;rintro e w5 ⟨A', n', c', L', rfl, hL, K⟩;rw [← HA.out] at hL;have HL5 := Lib.hid hL;rw [← HA.out];replace H := (H.join K).lay_ 31 [.int .i64 (foldA l (k : Int)).1.1, .slice A' n' c'] rfl;clear K hL;obtain ⟨nx, hnx⟩ : ∃ z, z = (foldA l (k : Int)).1.1 := ⟨_, rfl⟩;have HNX := Lib.hid hnx;rw [← hnx] at H ⊢;clear hnx;obtain ⟨gv, hgv⟩ : ∃ z, z = w5.heap.size := ⟨_, rfl⟩;rw [← hgv] at H;have HGV := Lib.hid hgv;clear hgv;have v0 := H.fa 0 0 rfl rfl;have v1 := H.fa 0 1 rfl rfl;have z0 := H.fa 2 0 rfl rfl;have z1 := H.fa 2 1 rfl rfl;have fz0 := H.bfree 2 rfl 0;have fz1 := H.bfree 2 rfl 1;have H9 := H.blays 2 rfl [.int .i64 nx, .slice A' n' c'] rfl;simp only [layW, Nat.zero_add, Nat.reduceAdd] at H9;clear H;go_wp2_with fail
    ((try simp only [Exit.inBlock, Exit.then]); refine bodyPost_ret (results_ct rfl _ _ _ _ _ _ _ rfl (H9.blk 2 rfl) Tryz.underlying31 rfl (by kernel_rfl)) rfl ?_)
    exact ⟨A', n', c', L', by rw [HNX.out]; rfl, HL5.out, (H9.front 1 rfl).sub (by simp)⟩
 ·have h120 : (120 : Int) < (n : Int) := by omega
  have HA := Lib.hid (show foldA l kz = ((0, []), false) by rw [foldA, if_neg (by rw [HL.out]; exact fun h => h12 h.2)]);go_enter Tryz.func28, Tryz.ntmps28;have H9 := H;clear H;go_wp2_with fail
  ((try simp only [Exit.inBlock, Exit.then]); refine bodyPost_ret (results_ct rfl _ _ _ _ _ _ _ rfl (H9.blk 0 rfl) Tryz.underlying31 rfl (by kernel_rfl)) rfl ?_)
  exact NewF.zero HA.out H9
end Go.Proofs.YtllonpbhgbhogaaGreatDoor
