/-
VolDo of the reference.
-/
import Derived.Test.YtllonpbhgbhogaaGreatDoorL6Do
import Derived.Test.YtllonpbhgbhogaaGreatDoorGh
import Derived.Test.YtllonpbhgbhogaaGreatDoorGj
namespace Go.Proofs.YtllonpbhgbhogaaGreatDoor
open Go.RowKit
set_option linter.unusedVariables false
set_option linter.unusedSimpArgs false
theorem Hp.instead {W : List Nat} {w0 w w' : World} {l : List Ob} {o o' : Ob} (h : Hp W w0 w l) (i : Nat) (hi : l[i]? = some o) (K : Hp [] w w' [o']) : Hp W w0 w' (l.set i o') :=
 Hp.back i (Hp.vlt i hi) ((h.join K).sub (List.Sublist.cons_cons _ (List.eraseIdx_sublist _ _)))
theorem GotV.held {w0 w1 w2 : World} {W : List Nat} {l : List Ob} {A0 : Option Addr} {n0 c0 : Nat} {L0 : List (Value × Nod)} {out : OutT} {e : Ending} (h : GotV w1 A0 n0 c0 L0 out e w2) (H : Hp W w0 w1 l) (i : Nat) (hi : l[i]? = some (obN (.slice A0 n0 c0) n0 L0)) :
 ∃ A n c L, e = .returned (.tuple #[.agg #[.int .i64 out.1.1, .slice A n c], .agg (resL out.2).toArray]) ∧ nodes L = out.1.2 ∧ Hp W w0 w2 (l.set i (obN (.slice A n c) n L)) := by
 obtain ⟨A, n, c, L, h1, h2, h3⟩ := h;refine ⟨A, n, c, L, h1, h2, ?_⟩
 rcases h3 with ⟨rfl, rfl, rfl, rfl, f⟩ | K
 ·rw [set_self' _ _ _ hi]; exact H.go f
 ·exact H.instead i hi K
set_option maxRecDepth 100000 in
set_option maxHeartbeats 32000000 in
theorem specVolDo_any (next : Int) (A : Option Addr) (n c : Nat) (L : List (Value × Nod)) (c0 c1 : Int) (c2 : ByteArray) (c3 : Int) (c4 c5 : ByteArray) (w : World) (h : VRd w A n L) (hn : n ≤ 1048576) (hnc : n ≤ c) (hfew : FewE L) (hsz : ∀ p ∈ L, ∀ e ∈ p.2.2.2.2.2, e.2.2.1.size ≤ 16777216) :
 Calls Tryz.prog 10 #[.agg #[.int .i64 next, .slice A n c], .agg #[.int .i64 c0, .int .i64 c1, .string c2, .int .i64 c3, .string c4, .string c5]] w (NewV w (volAll next (nodes L) (c0, c1, c2, c3, c4, c5))) := by
 have HV := Lib.hid h;have HSZ := Lib.hid hsz;have HFE := Lib.hid hfew;have hE : ∀ p ∈ L, p.2.2.2.2.2.length ≤ 1048576 := hfew;have HE := Lib.hid hE;clear h hsz hfew hE;have H := (((Hp.start w).lay_ 31 [.int .i64 next, .slice A n c] rfl).lay_ 37 [.int .i64 c0, .int .i64 c1, .string c2, .int .i64 c3, .string c4, .string c5] (g := w.heap.size + 1) (by simp)).lay_ 31 [.int .i64 0, .slice none 0 0] (g := w.heap.size + 1 + 1) (by simp);replace H := H.lay_ 33 [.int .i64 0, .int .i64 0, .string ⟨#[]⟩, .string ⟨#[]⟩] (g := w.heap.size + 1 + 1 + 1) (by simp);have b0 := H.fa 3 0 rfl rfl;have b1 := H.fa 3 1 rfl rfl;go_enter Tryz.func10, Tryz.ntmps10;go_wp2_with fail;refine (specVolOk_any next A n c L _ (HV.out.1.fr H.fr) hn hnc HFE.out HSZ.out).mono ?_;rintro e w5 ⟨rfl, f5⟩;replace H := H.go f5;clear f5;clear b0 b1
 cases hvb : volB next (nodes L) with
 | false =>
   have HVB := Lib.hid hvb;clear hvb;obtain ⟨s0, s1, f0, f1, q0, q1, q2, q3, f2, f3, f4, f5, H9⟩ := H.two 1 0 (.int .i64 0) (.slice none 0 0) (.int .i64 1) (.int .i64 0) (.string ⟨#[]⟩) (.string ⟨#[]⟩) rfl rfl;have HM := Lib.hid (show volAll next (nodes L) (c0, c1, c2, c3, c4, c5) = ((0, []), resC 1) by rw [volAll, if_neg (by rw [HVB.out]; decide)]);clear H;go_wp2_with fail;(try simp only [Exit.inBlock, Exit.then]); refine bodyPost_ret (results_cells_row rfl _ _ _ _ _ _ _ _ _ _ _ _ rfl (H9.blk 1 rfl) Tryz.underlying31 rfl (by kernel_rfl) rfl (H9.blk 0 rfl) Tryz.underlying33 rfl (by kernel_rfl)) rfl ?_;exact NewV.zero HM.out H9
 | true =>
   have HVB := Lib.hid hvb;clear hvb;have HA := Lib.hid (show volAll next (nodes L) (c0, c1, c2, c3, c4, c5) = volDoP next (nodes L) (c0, c1, c2, c3, c4, c5) by rw [volAll, if_pos HVB.out]);have HVO := Lib.hid (volB_V HVB.out);obtain ⟨O, hO⟩ : ∃ O, O = volDoP next (nodes L) (c0, c1, c2, c3, c4, c5) := ⟨_, rfl⟩;obtain ⟨⟨nx, lx⟩, r0, r1, r2, r3⟩ := O;have HO := Lib.hid hO;clear hO;go_wp2_with fail;replace H := H.drew;have b0 := H.fa 3 0 rfl rfl;have b1 := H.fa 3 1 rfl rfl;have qc0 := H.fa 2 0 rfl rfl;have qc1 := H.fa 2 1 rfl rfl;have qc2 := H.fa 2 2 rfl rfl;have qc3 := H.fa 2 3 rfl rfl;have qc4 := H.fa 2 4 rfl rfl;have qc5 := H.fa 2 5 rfl rfl;have hS : ∀ (u : World) (l : List Ob) (i : Nat), Hp [] w u l → l[i]? = some (.blk (w.heap.size + 1) 37 [.int .i64 c0, .int .i64 c1, .string c2, .int .i64 c3, .string c4, .string c5]) → l[i + 1]? = some (.blk w.heap.size 31 [.int .i64 next, .slice A n c]) → u.cell? ⟨w.heap.size, 0, none⟩ = some (.int .i64 next) ∧ u.cell? ⟨w.heap.size, 1, none⟩ = some (.slice A n c) ∧ u.cell? ⟨w.heap.size + 1, 0, none⟩ = some (.int .i64 c0) ∧ u.cell? ⟨w.heap.size + 1, 1, none⟩ = some (.int .i64 c1) ∧ u.cell? ⟨w.heap.size + 1, 2, none⟩ = some (.string c2) ∧ u.cell? ⟨w.heap.size + 1, 3, none⟩ = some (.int .i64 c3) ∧ u.cell? ⟨w.heap.size + 1, 4, none⟩ = some (.string c4) ∧ u.cell? ⟨w.heap.size + 1, 5, none⟩ = some (.string c5) := fun u l i H h0 h1 => ⟨H.bat _ h1 rfl, H.bat _ h1 rfl, H.bat _ h0 rfl, H.bat _ h0 rfl, H.bat _ h0 rfl, H.bat _ h0 rfl, H.bat _ h0 rfl, H.bat _ h0 rfl⟩;refine wp_joint (fun a a' w' => ∃ v13 v14 v15 v16 v17 v18 v19 : Value, ∃ (gy gr : Nat) (A9 : Option Addr) (n9 c9 : Nat) (L9 : List (Value × Nod)), a' = (((((((((a.put (some 14) v14).put (some 15) v15).put (some 16) v16).put (some 17) v17).put (some 13) v13).put (some 18) v18).put (some 19) v19).put (some 6) (.pointer (some ⟨gy, 0, none⟩))).put (some 7) (.pointer (some ⟨gr, 0, none⟩))) ∧ nodes L9 = lx ∧ Hp [] w w' [obN (.slice A9 n9 c9) n9 L9, .blk gy 31 [.int .i64 nx, .slice A9 n9 c9], .blk gr 33 [.int .i64 r0, .int .i64 r1, .string r2, .string r3], .blk (w.heap.size + 1 + 1 + 1) 33 [.int .i64 0, .int .i64 0, .string ⟨#[]⟩, .string ⟨#[]⟩], .blk (w.heap.size + 1 + 1) 31 [.int .i64 0, .slice none 0 0], .blk (w.heap.size + 1) 37 [.int .i64 c0, .int .i64 c1, .string c2, .int .i64 c3, .string c4, .string c5], .blk w.heap.size 31 [.int .i64 next, .slice A n c]]) ?_ ?_
   ·skip
    refine wp_region_held_drew (S := fun w' => w'.cell? ⟨w.heap.size, 0, none⟩ = some (.int .i64 next) ∧ w'.cell? ⟨w.heap.size, 1, none⟩ = some (.slice A n c) ∧ w'.cell? ⟨w.heap.size + 1, 0, none⟩ = some (.int .i64 c0) ∧ w'.cell? ⟨w.heap.size + 1, 1, none⟩ = some (.int .i64 c1) ∧ w'.cell? ⟨w.heap.size + 1, 2, none⟩ = some (.string c2) ∧ w'.cell? ⟨w.heap.size + 1, 3, none⟩ = some (.int .i64 c3) ∧ w'.cell? ⟨w.heap.size + 1, 4, none⟩ = some (.string c4) ∧ w'.cell? ⟨w.heap.size + 1, 5, none⟩ = some (.string c5)) (by kernel_rfl) ?_ (fun hHeld => ?_)
    ·exact ⟨b0, b1, qc0, qc1, qc2, qc3, qc4, qc5⟩
    obtain ⟨u0, hu0⟩ : ∃ uu : World, uu = w5.drew := ⟨_, rfl⟩;rw [← hu0] at H hHeld ⊢;clear hu0;refine wpT 0 ?_;refine wpT 2 ?_;refine wpAnyH_ready (rs := [1, 7, 8]) (by kernel_rfl) (by simp) ?_;refine (AllReadyH.cons rfl (fun K hK => ?_) (AllReadyH.cons rfl (fun K hK => ?_) (AllReadyH.cons rfl (fun K hK => ?_) AllReadyH.nil)))
    ·go_simp
     refine (l6Copy_any next A n c L _ (HV.out.fr H.fr) hn HE.out).mono ?_;rintro e u1 ⟨A', c', L', rfl, hL', K⟩;have HL' := Lib.hid hL';clear hL';replace H := H.join K;clear K;go_wp2_with fail;refine hK.out _ _ ?_ fun hHeld => ?_
     ·exact hS _ _ (3) H rfl rfl
     clear hK K;(try simp only [sX, Act.put]);refine wpAnyH_ready (rs := [3, 7, 8]) (by kernel_rfl) (by simp) ?_;refine (AllReadyH.cons rfl (fun K hK => ?_) (AllReadyH.cons rfl (fun K hK => ?_) (AllReadyH.cons rfl (fun K hK => ?_) AllReadyH.nil)))
     ·go_simp
      refine (l6Do_any next A' n c' L' c0 c1 c2 c3 c4 c5 _ (VRd.of H 0 rfl) (H.nnc 0 rfl) (by rw [HL'.out]; exact HVO.out)).mono ?_;intro e u2 hG;rw [HL'.out, ← HO.out] at hG;obtain ⟨A9, n9, c9, L9, rfl, hL9, H0⟩ := hG.held H 0 rfl;clear hG H;have H := H0;clear H0;simp only [resL];simp only at hL9;have HL9 := Lib.hid hL9;clear hL9;go_wp2_with fail;refine hK.out _ _ ?_ fun hHeld => ?_
      ·exact hS _ _ (3) H rfl rfl
      clear hK K;(try simp only [sX, Act.put]);refine wpT 4 ?_;refine wpT 5 ?_;refine wpT 6 ?_;refine wpAnyH_ready (rs := [7, 8]) (by kernel_rfl) (by simp) ?_;refine (AllReadyH.cons rfl (fun K hK => ?_) (AllReadyH.cons rfl (fun K hK => ?_) AllReadyH.nil))
      ·refine layVol H (fun gy u3 H => ?_)
       refine hK.out _ _ ?_ fun hHeld => ?_
       ·exact hS _ _ (4) H rfl rfl
       clear hK K;(try simp only [sX, Act.put]);refine wpC 8 fun K hK => ?_;refine layRes H (fun gr u4 H => ?_);refine hK.out _ _ ?_ fun hHeld => ?_
       ·exact hS _ _ (5) H rfl rfl
       clear hK K;(try simp only [sX, Act.put]);refine wpC 9 fun K hK => ?_;refine putVol H 1 rfl rfl rfl (fun u5 H => ?_);refine hK.out _ _ ?_ fun hHeld => ?_
       ·exact hS _ _ (5) H rfl rfl
       clear hK K;(try simp only [sX, Act.put]);refine wpC 10 fun K hK => ?_;refine putRes H 0 rfl rfl rfl (fun u6 H => ?_);refine hK.out _ _ ?_ fun hHeld => ?_
       ·exact hS _ _ (5) H rfl rfl
       clear hK K;(try simp only [sX, Act.put]);refine wpAnyH_done (by kernel_rfl) ?_ _;replace H := H.reord [2, 1, 0, 3, 4, 5, 6] (n := 7) rfl (by decide);exact ⟨rfl, _, _, _, _, _, _, _, _, _, _, _, _, _, rfl, HL9.out, H⟩
      ·refine layRes H (fun gr u3 H => ?_)
       refine hK.out _ _ ?_ fun hHeld => ?_
       ·exact hS _ _ (4) H rfl rfl
       clear hK K;(try simp only [sX, Act.put]);refine wpC 7 fun K hK => ?_;refine layVol H (fun gy u4 H => ?_);refine hK.out _ _ ?_ fun hHeld => ?_
       ·exact hS _ _ (5) H rfl rfl
       clear hK K;(try simp only [sX, Act.put]);refine wpC 9 fun K hK => ?_;refine putVol H 0 rfl rfl rfl (fun u5 H => ?_);refine hK.out _ _ ?_ fun hHeld => ?_
       ·exact hS _ _ (5) H rfl rfl
       clear hK K;(try simp only [sX, Act.put]);refine wpC 10 fun K hK => ?_;refine putRes H 1 rfl rfl rfl (fun u6 H => ?_);refine hK.out _ _ ?_ fun hHeld => ?_
       ·exact hS _ _ (5) H rfl rfl
       clear hK K;(try simp only [sX, Act.put]);refine wpAnyH_done (by kernel_rfl) ?_ _;replace H := H.reord [2, 0, 1, 3, 4, 5, 6] (n := 7) rfl (by decide);exact ⟨rfl, _, _, _, _, _, _, _, _, _, _, _, _, _, rfl, HL9.out, H⟩
     ·refine layVol H (fun gy u2 H => ?_)
      refine hK.out _ _ ?_ fun hHeld => ?_
      ·exact hS _ _ (4) H rfl rfl
      clear hK K;(try simp only [sX, Act.put]);refine wpAnyH_ready (rs := [3, 8]) (by kernel_rfl) (by simp) ?_;refine (AllReadyH.cons rfl (fun K hK => ?_) (AllReadyH.cons rfl (fun K hK => ?_) AllReadyH.nil))
      ·go_simp
       refine (l6Do_any next A' n c' L' c0 c1 c2 c3 c4 c5 _ (VRd.of H 1 rfl) (H.nnc 1 rfl) (by rw [HL'.out]; exact HVO.out)).mono ?_;intro e u3 hG;rw [HL'.out, ← HO.out] at hG;obtain ⟨A9, n9, c9, L9, rfl, hL9, H0⟩ := hG.held H 1 rfl;clear hG H;have H := H0;clear H0;simp only [resL];simp only at hL9;have HL9 := Lib.hid hL9;clear hL9;go_wp2_with fail;refine hK.out _ _ ?_ fun hHeld => ?_
       ·exact hS _ _ (4) H rfl rfl
       clear hK K;(try simp only [sX, Act.put]);refine wpT 4 ?_;refine wpT 5 ?_;refine wpT 6 ?_;refine wpC 8 fun K hK => ?_;refine layRes H (fun gr u4 H => ?_);refine hK.out _ _ ?_ fun hHeld => ?_
       ·exact hS _ _ (5) H rfl rfl
       clear hK K;(try simp only [sX, Act.put]);refine wpC 9 fun K hK => ?_;refine putVol H 1 rfl rfl rfl (fun u5 H => ?_);refine hK.out _ _ ?_ fun hHeld => ?_
       ·exact hS _ _ (5) H rfl rfl
       clear hK K;(try simp only [sX, Act.put]);refine wpC 10 fun K hK => ?_;refine putRes H 0 rfl rfl rfl (fun u6 H => ?_);refine hK.out _ _ ?_ fun hHeld => ?_
       ·exact hS _ _ (5) H rfl rfl
       clear hK K;(try simp only [sX, Act.put]);refine wpAnyH_done (by kernel_rfl) ?_ _;replace H := H.reord [2, 1, 0, 3, 4, 5, 6] (n := 7) rfl (by decide);exact ⟨rfl, _, _, _, _, _, _, _, _, _, _, _, _, _, rfl, HL9.out, H⟩
      ·refine layRes H (fun gr u3 H => ?_)
       refine hK.out _ _ ?_ fun hHeld => ?_
       ·exact hS _ _ (5) H rfl rfl
       clear hK K;(try simp only [sX, Act.put]);refine wpC 3 fun K hK => ?_;go_simp;refine (l6Do_any next A' n c' L' c0 c1 c2 c3 c4 c5 _ (VRd.of H 2 rfl) (H.nnc 2 rfl) (by rw [HL'.out]; exact HVO.out)).mono ?_;intro e u4 hG;rw [HL'.out, ← HO.out] at hG;obtain ⟨A9, n9, c9, L9, rfl, hL9, H0⟩ := hG.held H 2 rfl;clear hG H;have H := H0;clear H0;simp only [resL];simp only at hL9;have HL9 := Lib.hid hL9;clear hL9;go_wp2_with fail;refine hK.out _ _ ?_ fun hHeld => ?_
       ·exact hS _ _ (5) H rfl rfl
       clear hK K;(try simp only [sX, Act.put]);refine wpT 4 ?_;refine wpT 5 ?_;refine wpT 6 ?_;refine wpC 9 fun K hK => ?_;refine putVol H 1 rfl rfl rfl (fun u5 H => ?_);refine hK.out _ _ ?_ fun hHeld => ?_
       ·exact hS _ _ (5) H rfl rfl
       clear hK K;(try simp only [sX, Act.put]);refine wpC 10 fun K hK => ?_;refine putRes H 0 rfl rfl rfl (fun u6 H => ?_);refine hK.out _ _ ?_ fun hHeld => ?_
       ·exact hS _ _ (5) H rfl rfl
       clear hK K;(try simp only [sX, Act.put]);refine wpAnyH_done (by kernel_rfl) ?_ _;replace H := H.reord [2, 1, 0, 3, 4, 5, 6] (n := 7) rfl (by decide);exact ⟨rfl, _, _, _, _, _, _, _, _, _, _, _, _, _, rfl, HL9.out, H⟩
     ·refine layRes H (fun gr u2 H => ?_)
      refine hK.out _ _ ?_ fun hHeld => ?_
      ·exact hS _ _ (4) H rfl rfl
      clear hK K;(try simp only [sX, Act.put]);refine wpAnyH_ready (rs := [3, 7]) (by kernel_rfl) (by simp) ?_;refine (AllReadyH.cons rfl (fun K hK => ?_) (AllReadyH.cons rfl (fun K hK => ?_) AllReadyH.nil))
      ·go_simp
       refine (l6Do_any next A' n c' L' c0 c1 c2 c3 c4 c5 _ (VRd.of H 1 rfl) (H.nnc 1 rfl) (by rw [HL'.out]; exact HVO.out)).mono ?_;intro e u3 hG;rw [HL'.out, ← HO.out] at hG;obtain ⟨A9, n9, c9, L9, rfl, hL9, H0⟩ := hG.held H 1 rfl;clear hG H;have H := H0;clear H0;simp only [resL];simp only at hL9;have HL9 := Lib.hid hL9;clear hL9;go_wp2_with fail;refine hK.out _ _ ?_ fun hHeld => ?_
       ·exact hS _ _ (4) H rfl rfl
       clear hK K;(try simp only [sX, Act.put]);refine wpT 4 ?_;refine wpT 5 ?_;refine wpT 6 ?_;refine wpC 7 fun K hK => ?_;refine layVol H (fun gy u4 H => ?_);refine hK.out _ _ ?_ fun hHeld => ?_
       ·exact hS _ _ (5) H rfl rfl
       clear hK K;(try simp only [sX, Act.put]);refine wpC 9 fun K hK => ?_;refine putVol H 0 rfl rfl rfl (fun u5 H => ?_);refine hK.out _ _ ?_ fun hHeld => ?_
       ·exact hS _ _ (5) H rfl rfl
       clear hK K;(try simp only [sX, Act.put]);refine wpC 10 fun K hK => ?_;refine putRes H 1 rfl rfl rfl (fun u6 H => ?_);refine hK.out _ _ ?_ fun hHeld => ?_
       ·exact hS _ _ (5) H rfl rfl
       clear hK K;(try simp only [sX, Act.put]);refine wpAnyH_done (by kernel_rfl) ?_ _;replace H := H.reord [2, 0, 1, 3, 4, 5, 6] (n := 7) rfl (by decide);exact ⟨rfl, _, _, _, _, _, _, _, _, _, _, _, _, _, rfl, HL9.out, H⟩
      ·refine layVol H (fun gy u3 H => ?_)
       refine hK.out _ _ ?_ fun hHeld => ?_
       ·exact hS _ _ (5) H rfl rfl
       clear hK K;(try simp only [sX, Act.put]);refine wpC 3 fun K hK => ?_;go_simp;refine (l6Do_any next A' n c' L' c0 c1 c2 c3 c4 c5 _ (VRd.of H 2 rfl) (H.nnc 2 rfl) (by rw [HL'.out]; exact HVO.out)).mono ?_;intro e u4 hG;rw [HL'.out, ← HO.out] at hG;obtain ⟨A9, n9, c9, L9, rfl, hL9, H0⟩ := hG.held H 2 rfl;clear hG H;have H := H0;clear H0;simp only [resL];simp only at hL9;have HL9 := Lib.hid hL9;clear hL9;go_wp2_with fail;refine hK.out _ _ ?_ fun hHeld => ?_
       ·exact hS _ _ (5) H rfl rfl
       clear hK K;(try simp only [sX, Act.put]);refine wpT 4 ?_;refine wpT 5 ?_;refine wpT 6 ?_;refine wpC 9 fun K hK => ?_;refine putVol H 0 rfl rfl rfl (fun u5 H => ?_);refine hK.out _ _ ?_ fun hHeld => ?_
       ·exact hS _ _ (5) H rfl rfl
       clear hK K;(try simp only [sX, Act.put]);refine wpC 10 fun K hK => ?_;refine putRes H 1 rfl rfl rfl (fun u6 H => ?_);refine hK.out _ _ ?_ fun hHeld => ?_
       ·exact hS _ _ (5) H rfl rfl
       clear hK K;(try simp only [sX, Act.put]);refine wpAnyH_done (by kernel_rfl) ?_ _;replace H := H.reord [2, 0, 1, 3, 4, 5, 6] (n := 7) rfl (by decide);exact ⟨rfl, _, _, _, _, _, _, _, _, _, _, _, _, _, rfl, HL9.out, H⟩
    ·refine layVol H (fun gy u1 H => ?_)
     refine hK.out _ _ ?_ fun hHeld => ?_
     ·exact hS _ _ (3) H rfl rfl
     clear hK K;(try simp only [sX, Act.put]);refine wpAnyH_ready (rs := [1, 8]) (by kernel_rfl) (by simp) ?_;refine (AllReadyH.cons rfl (fun K hK => ?_) (AllReadyH.cons rfl (fun K hK => ?_) AllReadyH.nil))
     ·go_simp
      refine (l6Copy_any next A n c L _ (HV.out.fr H.fr) hn HE.out).mono ?_;rintro e u2 ⟨A', c', L', rfl, hL', K⟩;have HL' := Lib.hid hL';clear hL';replace H := H.join K;clear K;go_wp2_with fail;refine hK.out _ _ ?_ fun hHeld => ?_
      ·exact hS _ _ (4) H rfl rfl
      clear hK K;(try simp only [sX, Act.put]);refine wpAnyH_ready (rs := [3, 8]) (by kernel_rfl) (by simp) ?_;refine (AllReadyH.cons rfl (fun K hK => ?_) (AllReadyH.cons rfl (fun K hK => ?_) AllReadyH.nil))
      ·go_simp
       refine (l6Do_any next A' n c' L' c0 c1 c2 c3 c4 c5 _ (VRd.of H 0 rfl) (H.nnc 0 rfl) (by rw [HL'.out]; exact HVO.out)).mono ?_;intro e u3 hG;rw [HL'.out, ← HO.out] at hG;obtain ⟨A9, n9, c9, L9, rfl, hL9, H0⟩ := hG.held H 0 rfl;clear hG H;have H := H0;clear H0;simp only [resL];simp only at hL9;have HL9 := Lib.hid hL9;clear hL9;go_wp2_with fail;refine hK.out _ _ ?_ fun hHeld => ?_
       ·exact hS _ _ (4) H rfl rfl
       clear hK K;(try simp only [sX, Act.put]);refine wpT 4 ?_;refine wpT 5 ?_;refine wpT 6 ?_;refine wpC 8 fun K hK => ?_;refine layRes H (fun gr u4 H => ?_);refine hK.out _ _ ?_ fun hHeld => ?_
       ·exact hS _ _ (5) H rfl rfl
       clear hK K;(try simp only [sX, Act.put]);refine wpC 9 fun K hK => ?_;refine putVol H 2 rfl rfl rfl (fun u5 H => ?_);refine hK.out _ _ ?_ fun hHeld => ?_
       ·exact hS _ _ (5) H rfl rfl
       clear hK K;(try simp only [sX, Act.put]);refine wpC 10 fun K hK => ?_;refine putRes H 0 rfl rfl rfl (fun u6 H => ?_);refine hK.out _ _ ?_ fun hHeld => ?_
       ·exact hS _ _ (5) H rfl rfl
       clear hK K;(try simp only [sX, Act.put]);refine wpAnyH_done (by kernel_rfl) ?_ _;replace H := H.reord [1, 2, 0, 3, 4, 5, 6] (n := 7) rfl (by decide);exact ⟨rfl, _, _, _, _, _, _, _, _, _, _, _, _, _, rfl, HL9.out, H⟩
      ·refine layRes H (fun gr u3 H => ?_)
       refine hK.out _ _ ?_ fun hHeld => ?_
       ·exact hS _ _ (5) H rfl rfl
       clear hK K;(try simp only [sX, Act.put]);refine wpC 3 fun K hK => ?_;go_simp;refine (l6Do_any next A' n c' L' c0 c1 c2 c3 c4 c5 _ (VRd.of H 1 rfl) (H.nnc 1 rfl) (by rw [HL'.out]; exact HVO.out)).mono ?_;intro e u4 hG;rw [HL'.out, ← HO.out] at hG;obtain ⟨A9, n9, c9, L9, rfl, hL9, H0⟩ := hG.held H 1 rfl;clear hG H;have H := H0;clear H0;simp only [resL];simp only at hL9;have HL9 := Lib.hid hL9;clear hL9;go_wp2_with fail;refine hK.out _ _ ?_ fun hHeld => ?_
       ·exact hS _ _ (5) H rfl rfl
       clear hK K;(try simp only [sX, Act.put]);refine wpT 4 ?_;refine wpT 5 ?_;refine wpT 6 ?_;refine wpC 9 fun K hK => ?_;refine putVol H 2 rfl rfl rfl (fun u5 H => ?_);refine hK.out _ _ ?_ fun hHeld => ?_
       ·exact hS _ _ (5) H rfl rfl
       clear hK K;(try simp only [sX, Act.put]);refine wpC 10 fun K hK => ?_;refine putRes H 0 rfl rfl rfl (fun u6 H => ?_);refine hK.out _ _ ?_ fun hHeld => ?_
       ·exact hS _ _ (5) H rfl rfl
       clear hK K;(try simp only [sX, Act.put]);refine wpAnyH_done (by kernel_rfl) ?_ _;replace H := H.reord [1, 2, 0, 3, 4, 5, 6] (n := 7) rfl (by decide);exact ⟨rfl, _, _, _, _, _, _, _, _, _, _, _, _, _, rfl, HL9.out, H⟩
     ·refine layRes H (fun gr u2 H => ?_)
      refine hK.out _ _ ?_ fun hHeld => ?_
      ·exact hS _ _ (4) H rfl rfl
      clear hK K;(try simp only [sX, Act.put]);refine wpC 1 fun K hK => ?_;go_simp;refine (l6Copy_any next A n c L _ (HV.out.fr H.fr) hn HE.out).mono ?_;rintro e u3 ⟨A', c', L', rfl, hL', K⟩;have HL' := Lib.hid hL';clear hL';replace H := H.join K;clear K;go_wp2_with fail;refine hK.out _ _ ?_ fun hHeld => ?_
      ·exact hS _ _ (5) H rfl rfl
      clear hK K;(try simp only [sX, Act.put]);refine wpC 3 fun K hK => ?_;go_simp;refine (l6Do_any next A' n c' L' c0 c1 c2 c3 c4 c5 _ (VRd.of H 0 rfl) (H.nnc 0 rfl) (by rw [HL'.out]; exact HVO.out)).mono ?_;intro e u4 hG;rw [HL'.out, ← HO.out] at hG;obtain ⟨A9, n9, c9, L9, rfl, hL9, H0⟩ := hG.held H 0 rfl;clear hG H;have H := H0;clear H0;simp only [resL];simp only at hL9;have HL9 := Lib.hid hL9;clear hL9;go_wp2_with fail;refine hK.out _ _ ?_ fun hHeld => ?_
      ·exact hS _ _ (5) H rfl rfl
      clear hK K;(try simp only [sX, Act.put]);refine wpT 4 ?_;refine wpT 5 ?_;refine wpT 6 ?_;refine wpC 9 fun K hK => ?_;refine putVol H 2 rfl rfl rfl (fun u5 H => ?_);refine hK.out _ _ ?_ fun hHeld => ?_
      ·exact hS _ _ (5) H rfl rfl
      clear hK K;(try simp only [sX, Act.put]);refine wpC 10 fun K hK => ?_;refine putRes H 1 rfl rfl rfl (fun u6 H => ?_);refine hK.out _ _ ?_ fun hHeld => ?_
      ·exact hS _ _ (5) H rfl rfl
      clear hK K;(try simp only [sX, Act.put]);refine wpAnyH_done (by kernel_rfl) ?_ _;replace H := H.reord [0, 2, 1, 3, 4, 5, 6] (n := 7) rfl (by decide);exact ⟨rfl, _, _, _, _, _, _, _, _, _, _, _, _, _, rfl, HL9.out, H⟩
    ·refine layRes H (fun gr u1 H => ?_)
     refine hK.out _ _ ?_ fun hHeld => ?_
     ·exact hS _ _ (3) H rfl rfl
     clear hK K;(try simp only [sX, Act.put]);refine wpAnyH_ready (rs := [1, 7]) (by kernel_rfl) (by simp) ?_;refine (AllReadyH.cons rfl (fun K hK => ?_) (AllReadyH.cons rfl (fun K hK => ?_) AllReadyH.nil))
     ·go_simp
      refine (l6Copy_any next A n c L _ (HV.out.fr H.fr) hn HE.out).mono ?_;rintro e u2 ⟨A', c', L', rfl, hL', K⟩;have HL' := Lib.hid hL';clear hL';replace H := H.join K;clear K;go_wp2_with fail;refine hK.out _ _ ?_ fun hHeld => ?_
      ·exact hS _ _ (4) H rfl rfl
      clear hK K;(try simp only [sX, Act.put]);refine wpAnyH_ready (rs := [3, 7]) (by kernel_rfl) (by simp) ?_;refine (AllReadyH.cons rfl (fun K hK => ?_) (AllReadyH.cons rfl (fun K hK => ?_) AllReadyH.nil))
      ·go_simp
       refine (l6Do_any next A' n c' L' c0 c1 c2 c3 c4 c5 _ (VRd.of H 0 rfl) (H.nnc 0 rfl) (by rw [HL'.out]; exact HVO.out)).mono ?_;intro e u3 hG;rw [HL'.out, ← HO.out] at hG;obtain ⟨A9, n9, c9, L9, rfl, hL9, H0⟩ := hG.held H 0 rfl;clear hG H;have H := H0;clear H0;simp only [resL];simp only at hL9;have HL9 := Lib.hid hL9;clear hL9;go_wp2_with fail;refine hK.out _ _ ?_ fun hHeld => ?_
       ·exact hS _ _ (4) H rfl rfl
       clear hK K;(try simp only [sX, Act.put]);refine wpT 4 ?_;refine wpT 5 ?_;refine wpT 6 ?_;refine wpC 7 fun K hK => ?_;refine layVol H (fun gy u4 H => ?_);refine hK.out _ _ ?_ fun hHeld => ?_
       ·exact hS _ _ (5) H rfl rfl
       clear hK K;(try simp only [sX, Act.put]);refine wpC 9 fun K hK => ?_;refine putVol H 0 rfl rfl rfl (fun u5 H => ?_);refine hK.out _ _ ?_ fun hHeld => ?_
       ·exact hS _ _ (5) H rfl rfl
       clear hK K;(try simp only [sX, Act.put]);refine wpC 10 fun K hK => ?_;refine putRes H 2 rfl rfl rfl (fun u6 H => ?_);refine hK.out _ _ ?_ fun hHeld => ?_
       ·exact hS _ _ (5) H rfl rfl
       clear hK K;(try simp only [sX, Act.put]);refine wpAnyH_done (by kernel_rfl) ?_ _;replace H := H.reord [1, 0, 2, 3, 4, 5, 6] (n := 7) rfl (by decide);exact ⟨rfl, _, _, _, _, _, _, _, _, _, _, _, _, _, rfl, HL9.out, H⟩
      ·refine layVol H (fun gy u3 H => ?_)
       refine hK.out _ _ ?_ fun hHeld => ?_
       ·exact hS _ _ (5) H rfl rfl
       clear hK K;(try simp only [sX, Act.put]);refine wpC 3 fun K hK => ?_;go_simp;refine (l6Do_any next A' n c' L' c0 c1 c2 c3 c4 c5 _ (VRd.of H 1 rfl) (H.nnc 1 rfl) (by rw [HL'.out]; exact HVO.out)).mono ?_;intro e u4 hG;rw [HL'.out, ← HO.out] at hG;obtain ⟨A9, n9, c9, L9, rfl, hL9, H0⟩ := hG.held H 1 rfl;clear hG H;have H := H0;clear H0;simp only [resL];simp only at hL9;have HL9 := Lib.hid hL9;clear hL9;go_wp2_with fail;refine hK.out _ _ ?_ fun hHeld => ?_
       ·exact hS _ _ (5) H rfl rfl
       clear hK K;(try simp only [sX, Act.put]);refine wpT 4 ?_;refine wpT 5 ?_;refine wpT 6 ?_;refine wpC 9 fun K hK => ?_;refine putVol H 0 rfl rfl rfl (fun u5 H => ?_);refine hK.out _ _ ?_ fun hHeld => ?_
       ·exact hS _ _ (5) H rfl rfl
       clear hK K;(try simp only [sX, Act.put]);refine wpC 10 fun K hK => ?_;refine putRes H 2 rfl rfl rfl (fun u6 H => ?_);refine hK.out _ _ ?_ fun hHeld => ?_
       ·exact hS _ _ (5) H rfl rfl
       clear hK K;(try simp only [sX, Act.put]);refine wpAnyH_done (by kernel_rfl) ?_ _;replace H := H.reord [1, 0, 2, 3, 4, 5, 6] (n := 7) rfl (by decide);exact ⟨rfl, _, _, _, _, _, _, _, _, _, _, _, _, _, rfl, HL9.out, H⟩
     ·refine layVol H (fun gy u2 H => ?_)
      refine hK.out _ _ ?_ fun hHeld => ?_
      ·exact hS _ _ (4) H rfl rfl
      clear hK K;(try simp only [sX, Act.put]);refine wpC 1 fun K hK => ?_;go_simp;refine (l6Copy_any next A n c L _ (HV.out.fr H.fr) hn HE.out).mono ?_;rintro e u3 ⟨A', c', L', rfl, hL', K⟩;have HL' := Lib.hid hL';clear hL';replace H := H.join K;clear K;go_wp2_with fail;refine hK.out _ _ ?_ fun hHeld => ?_
      ·exact hS _ _ (5) H rfl rfl
      clear hK K;(try simp only [sX, Act.put]);refine wpC 3 fun K hK => ?_;go_simp;refine (l6Do_any next A' n c' L' c0 c1 c2 c3 c4 c5 _ (VRd.of H 0 rfl) (H.nnc 0 rfl) (by rw [HL'.out]; exact HVO.out)).mono ?_;intro e u4 hG;rw [HL'.out, ← HO.out] at hG;obtain ⟨A9, n9, c9, L9, rfl, hL9, H0⟩ := hG.held H 0 rfl;clear hG H;have H := H0;clear H0;simp only [resL];simp only at hL9;have HL9 := Lib.hid hL9;clear hL9;go_wp2_with fail;refine hK.out _ _ ?_ fun hHeld => ?_
      ·exact hS _ _ (5) H rfl rfl
      clear hK K;(try simp only [sX, Act.put]);refine wpT 4 ?_;refine wpT 5 ?_;refine wpT 6 ?_;refine wpC 9 fun K hK => ?_;refine putVol H 1 rfl rfl rfl (fun u5 H => ?_);refine hK.out _ _ ?_ fun hHeld => ?_
      ·exact hS _ _ (5) H rfl rfl
      clear hK K;(try simp only [sX, Act.put]);refine wpC 10 fun K hK => ?_;refine putRes H 2 rfl rfl rfl (fun u6 H => ?_);refine hK.out _ _ ?_ fun hHeld => ?_
      ·exact hS _ _ (5) H rfl rfl
      clear hK K;(try simp only [sX, Act.put]);refine wpAnyH_done (by kernel_rfl) ?_ _;replace H := H.reord [0, 1, 2, 3, 4, 5, 6] (n := 7) rfl (by decide);exact ⟨rfl, _, _, _, _, _, _, _, _, _, _, _, _, _, rfl, HL9.out, H⟩
   clear H b0 b1 qc0 qc1 qc2 qc3 qc4 qc5;rintro a' w9 ⟨v13, v14, v15, v16, v17, v18, v19, gy, gr, A9, n9, c9, L9, rfl, hL9, H⟩;simp only [List.getElem_toArray, List.getElem_cons_succ, List.getElem_cons_zero, Act.put, List.setIfInBounds_toArray, List.set_cons_zero, List.set_cons_succ];have HL9 := Lib.hid hL9;clear hL9;go_wp2_with fail;replace H := H.drew;have yy0 := H.fa 1 0 rfl rfl;have yy1 := H.fa 1 1 rfl rfl;have rr0 := H.fa 2 0 rfl rfl;have rr1 := H.fa 2 1 rfl rfl;have rr2 := H.fa 2 2 rfl rfl;have rr3 := H.fa 2 3 rfl rfl;refine wp_region_held_drew (S := fun w' => w'.cell? ⟨gy, 0, none⟩ = some (.int .i64 nx) ∧ w'.cell? ⟨gy, 1, none⟩ = some (.slice A9 n9 c9) ∧ w'.cell? ⟨gr, 0, none⟩ = some (.int .i64 r0) ∧ w'.cell? ⟨gr, 1, none⟩ = some (.int .i64 r1) ∧ w'.cell? ⟨gr, 2, none⟩ = some (.string r2) ∧ w'.cell? ⟨gr, 3, none⟩ = some (.string r3)) (by kernel_rfl) ?_ (fun hHeld => ?_)
   ·exact ⟨yy0, yy1, rr0, rr1, rr2, rr3⟩
   obtain ⟨u0, hu0⟩ : ∃ uu : World, uu = w9.drew := ⟨_, rfl⟩;rw [← hu0] at H hHeld ⊢;clear hu0;refine wpT 0 ?_;refine wpT 1 ?_;refine wpC 2 fun K hK => ?_;refine putVol H 4 rfl rfl rfl (fun u1 H => ?_);refine hK.out _ _ ?_ fun hHeld => ?_
   ·exact ⟨H.fa 1 0 rfl rfl, H.fa 1 1 rfl rfl, H.fa 2 0 rfl rfl, H.fa 2 1 rfl rfl, H.fa 2 2 rfl rfl, H.fa 2 3 rfl rfl⟩
   clear hK K;(try simp only [sX, Act.put]);refine wpC 3 fun K hK => ?_;refine putRes H 3 rfl rfl rfl (fun u2 H => ?_);refine hK.out _ _ ?_ fun hHeld => ?_
   ·exact ⟨H.fa 1 0 rfl rfl, H.fa 1 1 rfl rfl, H.fa 2 0 rfl rfl, H.fa 2 1 rfl rfl, H.fa 2 2 rfl rfl, H.fa 2 3 rfl rfl⟩
   clear hK K;(try simp only [sX, Act.put]);refine wpAnyH_done (by kernel_rfl) ?_ _;clear yy0 yy1 rr0 rr1 rr2 rr3;have HM := Lib.hid (show volAll next (nodes L) (c0, c1, c2, c3, c4, c5) = ((nx, nodes L9), (r0, r1, r2, r3)) by rw [HA.out, ← HO.out, HL9.out]);go_wp2_with fail;(try simp only [Exit.inBlock, Exit.then]); refine bodyPost_ret (results_cells_row rfl _ _ _ _ _ _ _ _ _ _ _ _ rfl (H.blk 4 rfl) Tryz.underlying31 rfl (by kernel_rfl) rfl (H.blk 3 rfl) Tryz.underlying33 rfl (by kernel_rfl)) rfl ?_;exact NewV.newN HM.out H 0 rfl
end Go.Proofs.YtllonpbhgbhogaaGreatDoor
