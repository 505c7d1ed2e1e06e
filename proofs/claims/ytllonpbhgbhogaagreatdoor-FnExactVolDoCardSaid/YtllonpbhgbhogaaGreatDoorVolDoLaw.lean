/-
The law FnExactVolDo, walked.
-/
import Derived.Test.YtllonpbhgbhogaaGreatDoorGk
import Derived.Test.YtllonpbhgbhogaaGreatDoorVolDoS
import Derived.Test.YtllonpbhgbhogaaGreatDoorGc
import Derived.Test.YtllonpbhgbhogaaGreatDoorGj
import Derived.Test.YtllonpbhgbhogaaGreatDoorGh
namespace Go.Proofs.YtllonpbhgbhogaaGreatDoor
open Go.RowKit
set_option linter.unusedVariables false
set_option linter.unusedSimpArgs false
theorem nodes_all {P : Nod → Prop} {L M : List (Value × Nod)} (h : nodes M = nodes L) (hl : ∀ p ∈ L, P p.2) : ∀ p ∈ M, P p.2 := by
 intro p hp;have h1 : p.2 ∈ nodes M := List.mem_map_of_mem hp;rw [h] at h1;obtain ⟨q, hq, e⟩ := List.mem_map.1 h1;rw [← e]; exact hl q hq
theorem wNod_fits {L : List (Value × Nod)} (h : totF wNod L ≤ 1048576) : L.length ≤ 1048576 ∧ (∀ p ∈ L, p.2.2.2.2.2.length ≤ 1048576) ∧ (∀ p ∈ L, ∀ e ∈ p.2.2.2.2.2, e.2.2.1.size ≤ 16777216) := by
 refine ⟨by have := totF_len wNod L; omega, fun p hp => ?_, fun p hp e he => ?_⟩
 ·have h1 := totF_mem (f := wNod) hp
  have h2 := totF_len wEnt p.2.2.2.2.2;have h3 : wNod p = p.2.2.2.2.1.size + totF wEnt p.2.2.2.2.2 := rfl;omega
 ·have h1 := totF_mem (f := wNod) hp
  have h2 := totF_mem (f := wEnt) he;have h3 : wNod p = p.2.2.2.2.1.size + totF wEnt p.2.2.2.2.2 := rfl
  show wEnt e ≤ _
  omega
theorem totN_sum : ∀ (L : List (Value × Nod)), totN L = ((nodes L).map fun x => 4 + 4 * x.2.2.2.2.length).sum
 | [] => rfl
 | p :: L => by rw [totN, totN_sum L]; simp [nodes]
theorem totN_nodes {L M : List (Value × Nod)} (h : nodes M = nodes L) : totN M = totN L := by rw [totN_sum, totN_sum, h]
theorem totN_tot : ∀ (L : List (Value × Nod)), totN L ≤ 4 * totF wNod L
 | [] => Nat.zero_le _
 | p :: L => by
   have h1 := totN_tot L;have h2 := totF_len wEnt p.2.2.2.2.2;have h3 : wNod p = p.2.2.2.2.1.size + totF wEnt p.2.2.2.2.2 := rfl;have h4 : totF wNod (p :: L) = wNod p + 1 + totF wNod L := by simp only [totF, sumF, List.length_cons, List.map_cons, List.sum_cons]; omega
   rw [totN, h4]; omega
theorem volAll_few {next : Int} {l : List Nod} {c : CallT} : (volAll next l c).1.2.length ≤ 16 ∧ ∀ x ∈ (volAll next l c).1.2, x.2.2.2.2.length ≤ 12 := by
 unfold volAll
 split
 ·rename_i h
  have h1 := do_V (c := c) (volB_V h);exact ⟨h1.len, fun x hx => (h1.toVW.fit.2 x hx).len⟩
 ·exact ⟨by simp, by simp⟩
theorem totN_few {L : List (Value × Nod)} (h1 : (nodes L).length ≤ 16) (h2 : ∀ x ∈ nodes L, x.2.2.2.2.length ≤ 12) : totN L ≤ 60000000 := by
 have h : ∀ (L : List (Value × Nod)), (∀ x ∈ nodes L, x.2.2.2.2.length ≤ 12) → totN L ≤ L.length * 52 := by
  intro L
  induction L with
  | nil => intro _; exact Nat.le_refl _
  | cons p L ih =>
    intro hh;have ha := hh p.2 List.mem_cons_self;have hb := ih fun x hx => hh x (List.mem_cons_of_mem _ hx);rw [totN, List.length_cons]; omega
 have h3 := h L h2;rw [nodes_len] at h1;omega
set_option maxRecDepth 100000 in
set_option maxHeartbeats 64000000 in
theorem lawFnExactVolDo_walk (next : Int) (A : Option Addr) (n c : Nat) (L : List (Value × Nod)) (c0 c1 : Int) (c2 : ByteArray) (c3 : Int) (c4 c5 : ByteArray) (w : World) (h1 : RdN w A n L) (ok1 : OkN L) (hn63 : n ≤ 9223372036854775807) (ok2 : c2.size ≤ 9223372036854775807) (ok4 : c4.size ≤ 9223372036854775807) (ok5 : c5.size ≤ 9223372036854775807) (hk : KT w) :
 Calls Tryz.prog 3 #[.agg #[.int .i64 next, .slice A n c], .agg #[.int .i64 c0, .int .i64 c1, .string c2, .int .i64 c3, .string c4, .string c5]] w fun e w' => e = .returned (.bool true) ∧ Fr w w' := by
 obtain ⟨tot, htot⟩ : ∃ t : Nat, t = totF wNod L := ⟨_, rfl⟩;have HT := Lib.hid htot;obtain ⟨tc, htc⟩ : ∃ t : Nat, t = c2.size + c4.size + c5.size := ⟨_, rfl⟩;have HTC := Lib.hid htc;have HR := Lib.hid h1;have H := ((Hp.start w).lay_ 24 [.int .i64 next, .slice A n c] rfl).lay_ 26 [.int .i64 c0, .int .i64 c1, .string c2, .int .i64 c3, .string c4, .string c5] (g := w.heap.size + 1) (by simp)
 by_cases hbig : (1048576 : Int) < (tot : Int)
 ·clear htot htc
  go_enter Tryz.func3, Tryz.ntmps3;have b0 := H.fa 1 0 rfl rfl;have b1 := H.fa 1 1 rfl rfl;go_wp2_with fail;refine (szVol_any next A n c L 1048576 _ (h1.fr H.fr) ok1 hn63 (by omega) (by omega)).mono ?_;rintro e w1 ⟨rfl, f1⟩;replace H := H.go f1;clear f1;rw [← HT.out];clear b0 b1;rw [szOf_no (by omega)];go_wp2_with fail;go_ret;exact ⟨rfl, H.fr⟩
 obtain ⟨lf, hlf⟩ : ∃ x : Int, x = 1048576 - (tot : Int) := ⟨_, rfl⟩;have hlf0 : ¬ lf < 0 := by omega
 have hlf1 : 0 ≤ lf := by omega
 have hlf2 : lf ≤ 1048576 := by omega
 have HLF := Lib.hid hlf;clear htot hlf;go_enter Tryz.func3, Tryz.ntmps3;have b0 := H.fa 1 0 rfl rfl;have b1 := H.fa 1 1 rfl rfl;go_wp2_with fail;refine (szVol_any next A n c L 1048576 _ (h1.fr H.fr) ok1 hn63 (by omega) (by omega)).mono ?_;rintro e w1 ⟨rfl, f1⟩;replace H := H.go f1;clear f1;rw [← HT.out];clear b0 b1;rw [szOf_yes (by omega), ← HLF.out];have qc0 := H.fa 0 0 rfl rfl;have qc1 := H.fa 0 1 rfl rfl;have qc2 := H.fa 0 2 rfl rfl;have qc3 := H.fa 0 3 rfl rfl;have qc4 := H.fa 0 4 rfl rfl;have qc5 := H.fa 0 5 rfl rfl;go_wp2_with fail;refine (szCall_any c0 c1 c2 c3 c4 c5 lf _ ok2 ok4 ok5 hlf1 hlf2).mono ?_;rintro e w2 ⟨rfl, f2⟩;replace H := H.go f2;clear f2;rw [← HTC.out];clear qc0 qc1 qc2 qc3 qc4 qc5
 by_cases hbc : lf < (tc : Int)
 ·clear htc
  rw [szOf_no (by omega)];go_wp2_with fail;go_ret;exact ⟨rfl, H.fr⟩
 obtain ⟨lg, hlg⟩ : ∃ x : Int, x = lf - (tc : Int) := ⟨_, rfl⟩;have hlg0 : ¬ lg < 0 := by omega
 rw [szOf_yes (by omega), ← hlg];clear hlg;have hf1 := wNod_fits (L := L) (by rw [← HT.out]; omega);have hn : n ≤ 1048576 := by have := hf1.1; have := h1.len; omega
 have HE := Lib.hid hf1.2.1;have HSZ := Lib.hid hf1.2.2;have HTN := Lib.hid (show totN L ≤ 60000000 by have := totN_tot L; have := HT.out; omega);clear hf1 htc hbig hbc;obtain ⟨O, hO⟩ : ∃ O, O = volAll next (nodes L) (c0, c1, c2, c3, c4, c5) := ⟨_, rfl⟩;have HFL := Lib.hid (show O.1.2.length ≤ 16 by rw [hO]; exact volAll_few.1);have HF12 := Lib.hid (show ∀ x ∈ O.1.2, x.2.2.2.2.length ≤ 12 by rw [hO]; exact volAll_few.2);obtain ⟨⟨nx, lx⟩, r0, r1, r2, r3⟩ := O;have HO := Lib.hid hO;clear hO;have hS : ∀ (u : World) (l : List Ob) (i : Nat), Hp [] w u l → l[i]? = some (.blk (w.heap.size + 1) 26 [.int .i64 c0, .int .i64 c1, .string c2, .int .i64 c3, .string c4, .string c5]) → l[i + 1]? = some (.blk w.heap.size 24 [.int .i64 next, .slice A n c]) → u.cell? ⟨w.heap.size, 0, none⟩ = some (.int .i64 next) ∧ u.cell? ⟨w.heap.size, 1, none⟩ = some (.slice A n c) ∧ u.cell? ⟨w.heap.size + 1, 0, none⟩ = some (.int .i64 c0) ∧ u.cell? ⟨w.heap.size + 1, 1, none⟩ = some (.int .i64 c1) ∧ u.cell? ⟨w.heap.size + 1, 2, none⟩ = some (.string c2) ∧ u.cell? ⟨w.heap.size + 1, 3, none⟩ = some (.int .i64 c3) ∧ u.cell? ⟨w.heap.size + 1, 4, none⟩ = some (.string c4) ∧ u.cell? ⟨w.heap.size + 1, 5, none⟩ = some (.string c5) := fun u l i H h0 h1 => ⟨H.bat _ h1 rfl, H.bat _ h1 rfl, H.bat _ h0 rfl, H.bat _ h0 rfl, H.bat _ h0 rfl, H.bat _ h0 rfl, H.bat _ h0 rfl, H.bat _ h0 rfl⟩;have VS : ∀ {u : World} {l : List Ob} {g : Nat} {La : List (Value × Nod)}, Hp [] w u l → ∀ i : Nat, l[i]? = some (obN (.slice (some ⟨g, 0, none⟩) n n) n La) → Hid (nodes La = nodes L) → Calls Tryz.prog 10 #[.agg #[.int .i64 next, .slice (some ⟨g, 0, none⟩) n n], .agg #[.int .i64 c0, .int .i64 c1, .string c2, .int .i64 c3, .string c4, .string c5]] u fun e u' => ∃ A1 n1 q1 L1, e = .returned (.tuple #[.agg #[.int .i64 nx, .slice A1 n1 q1], .agg #[.int .i64 r0, .int .i64 r1, .string r2, .string r3]]) ∧ Hid (nodes L1 = lx) ∧ Hp [] w u' (obN (.slice A1 n1 q1) n1 L1 :: l) := by
  intro u l g La H i hi HLa;refine (specVolDo_any next (some ⟨g, 0, none⟩) n n La c0 c1 c2 c3 c4 c5 _ (VRd.of H i hi) hn (Nat.le_refl _) (nodes_all (P := fun x => x.2.2.2.2.length ≤ 1048576) HLa.out HE.out) (nodes_all (P := fun x => ∀ e ∈ x.2.2.2.2, e.2.2.1.size ≤ 16777216) HLa.out HSZ.out)).mono ?_;intro e u' hG;rw [HLa.out, ← HO.out] at hG;obtain ⟨A1, n1, q1, L1, rfl, hL, K⟩ := hG;exact ⟨A1, n1, q1, L1, rfl, Lib.hid hL, H.join K⟩
 have VI : ∀ {u : World} {l : List Ob} {g : Nat} {La : List (Value × Nod)}, Hp [] w u l → ∀ i : Nat, l[i]? = some (obN (.slice (some ⟨g, 0, none⟩) n n) n La) → Hid (nodes La = nodes L) → Calls Tryz.prog 13 #[.agg #[.int .i64 next, .slice (some ⟨g, 0, none⟩) n n], .agg #[.int .i64 c0, .int .i64 c1, .string c2, .int .i64 c3, .string c4, .string c5]] u fun e u' => ∃ A1 n1 q1 L1, e = .returned (.tuple #[.agg #[.int .i64 nx, .slice A1 n1 q1], .agg #[.int .i64 r0, .int .i64 r1, .string r2, .string r3]]) ∧ Hid (nodes L1 = lx) ∧ Hp [] w u' (obN (.slice A1 n1 q1) n1 L1 :: l) := by
  intro u l g La H i hi HLa;refine (implVolDo_any next (some ⟨g, 0, none⟩) n n La c0 c1 c2 c3 c4 c5 _ (VRd.of H i hi) hn (Nat.le_refl _) (nodes_all (P := fun x => x.2.2.2.2.length ≤ 1048576) HLa.out HE.out) (nodes_all (P := fun x => ∀ e ∈ x.2.2.2.2, e.2.2.1.size ≤ 16777216) HLa.out HSZ.out) (hk.fr H.fr)).mono ?_;intro e u' hG;rw [HLa.out, ← HO.out] at hG;obtain ⟨A1, n1, q1, L1, rfl, hL, K⟩ := hG;exact ⟨A1, n1, q1, L1, rfl, Lib.hid hL, H.join K⟩
 have TV : ∀ {u : World} {l : List Ob}, Hp [] w u l → Calls Tryz.prog 11 #[.agg #[.int .i64 next, .slice A n c]] u fun e u' => ∃ (g : Nat) (La : List (Value × Nod)), e = .returned (.agg #[.int .i64 next, .slice (some ⟨g, 0, none⟩) n n]) ∧ Hid (nodes La = nodes L) ∧ Hp [] w u' (obN (.slice (some ⟨g, 0, none⟩) n n) n La :: l) := by
  intro u l H;refine (toVol_any next A n c L _ (HR.out.fr H.fr) hn HE.out).mono ?_;rintro e u' ⟨g, La, rfl, hL, K⟩;exact ⟨g, La, rfl, Lib.hid hL, H.join K⟩
 go_wp2_with fail;replace H := H.drew;refine wp_joint (fun a a' w' => ∃ v27 v28 v29 v30 v31 v26 v32 v33 : Value, ∃ (gy1 gr1 : Nat) (A1 : Option Addr) (n1 q1 : Nat) (L1 : List (Value × Nod)), a' = ((((((((((a.put (some 27) v27).put (some 28) v28).put (some 29) v29).put (some 30) v30).put (some 31) v31).put (some 26) v26).put (some 32) v32).put (some 33) v33).put (some 6) (.pointer (some ⟨gy1, 0, none⟩))).put (some 7) (.pointer (some ⟨gr1, 0, none⟩))) ∧ nodes L1 = lx ∧ Hp [] w w' [obN (.slice A1 n1 q1) n1 L1, .blk gy1 31 [.int .i64 nx, .slice A1 n1 q1], .blk gr1 33 [.int .i64 r0, .int .i64 r1, .string r2, .string r3], .blk (w.heap.size + 1) 26 [.int .i64 c0, .int .i64 c1, .string c2, .int .i64 c3, .string c4, .string c5], .blk w.heap.size 24 [.int .i64 next, .slice A n c]]) ?_ ?_
 ·skip
  refine wp_region_held_drew (S := fun w' => w'.cell? ⟨w.heap.size, 0, none⟩ = some (.int .i64 next) ∧ w'.cell? ⟨w.heap.size, 1, none⟩ = some (.slice A n c) ∧ w'.cell? ⟨w.heap.size + 1, 0, none⟩ = some (.int .i64 c0) ∧ w'.cell? ⟨w.heap.size + 1, 1, none⟩ = some (.int .i64 c1) ∧ w'.cell? ⟨w.heap.size + 1, 2, none⟩ = some (.string c2) ∧ w'.cell? ⟨w.heap.size + 1, 3, none⟩ = some (.int .i64 c3) ∧ w'.cell? ⟨w.heap.size + 1, 4, none⟩ = some (.string c4) ∧ w'.cell? ⟨w.heap.size + 1, 5, none⟩ = some (.string c5)) (by kernel_rfl) ?_ (fun hHeld => ?_)
  ·exact hS _ _ 0 H rfl rfl
  obtain ⟨u0, hu0⟩ : ∃ uu : World, uu = w2.drew := ⟨_, rfl⟩;rw [← hu0] at H hHeld ⊢;clear hu0;refine wpT 0 ?_;refine wpT 2 ?_;refine wpAnyH_ready (rs := [1, 8, 9]) (by kernel_rfl) (by simp) ?_;refine (AllReadyH.cons rfl (fun K hK => ?_) (AllReadyH.cons rfl (fun K hK => ?_) (AllReadyH.cons rfl (fun K hK => ?_) AllReadyH.nil)))
  ·go_simp
   refine (TV H).mono ?_;rintro e u1 ⟨ga, La, rfl, HLa, H⟩;go_wp2_with fail;refine hK.out _ _ ?_ fun hHeld => ?_
   ·exact hS _ _ (1) H rfl rfl
   clear hK K;(try simp only [sX, Act.put]);refine wpAnyH_ready (rs := [3, 8, 9]) (by kernel_rfl) (by simp) ?_;refine (AllReadyH.cons rfl (fun K hK => ?_) (AllReadyH.cons rfl (fun K hK => ?_) (AllReadyH.cons rfl (fun K hK => ?_) AllReadyH.nil)))
   ·go_simp
    refine (toCall_any c0 c1 c2 c3 c4 c5 _).mono ?_;rintro e u2 ⟨rfl, f5⟩;replace H := H.go f5;clear f5;go_wp2_with fail;refine hK.out _ _ ?_ fun hHeld => ?_
    ·exact hS _ _ (1) H rfl rfl
    clear hK K;(try simp only [sX, Act.put]);refine wpAnyH_ready (rs := [4, 8, 9]) (by kernel_rfl) (by simp) ?_;refine (AllReadyH.cons rfl (fun K hK => ?_) (AllReadyH.cons rfl (fun K hK => ?_) (AllReadyH.cons rfl (fun K hK => ?_) AllReadyH.nil)))
    ·go_simp
     refine (VS H 0 rfl HLa).mono ?_;rintro e u3 ⟨A1, n1, q1, L1, rfl, HL1, H⟩;go_wp2_with fail;refine hK.out _ _ ?_ fun hHeld => ?_
     ·exact hS _ _ (2) H rfl rfl
     clear hK K;(try simp only [sX, Act.put]);refine wpT 5 ?_;refine wpT 6 ?_;refine wpT 7 ?_;refine wpAnyH_ready (rs := [8, 9]) (by kernel_rfl) (by simp) ?_;refine (AllReadyH.cons rfl (fun K hK => ?_) (AllReadyH.cons rfl (fun K hK => ?_) AllReadyH.nil))
     ·refine layVol H (fun gy1 u4 H => ?_)
      refine hK.out _ _ ?_ fun hHeld => ?_
      ·exact hS _ _ (3) H rfl rfl
      clear hK K;(try simp only [sX, Act.put]);refine wpC 9 fun K hK => ?_;refine layRes H (fun gr1 u5 H => ?_);refine hK.out _ _ ?_ fun hHeld => ?_
      ·exact hS _ _ (4) H rfl rfl
      clear hK K;(try simp only [sX, Act.put]);refine wpC 10 fun K hK => ?_;refine putVol H 1 rfl rfl rfl (fun u6 H => ?_);refine hK.out _ _ ?_ fun hHeld => ?_
      ·exact hS _ _ (4) H rfl rfl
      clear hK K;(try simp only [sX, Act.put]);refine wpC 11 fun K hK => ?_;refine putRes H 0 rfl rfl rfl (fun u7 H => ?_);refine hK.out _ _ ?_ fun hHeld => ?_
      ·exact hS _ _ (4) H rfl rfl
      clear hK K;(try simp only [sX, Act.put]);refine wpAnyH_done (by kernel_rfl) ?_ _;replace H := H.reord [3, 2, 1, 0, 4, 5] (n := 6) rfl (by decide);exact ⟨rfl, _, _, _, _, _, _, _, _, _, _, _, _, _, _, rfl, HL1.out, H.tail⟩
     ·refine layRes H (fun gr1 u4 H => ?_)
      refine hK.out _ _ ?_ fun hHeld => ?_
      ·exact hS _ _ (3) H rfl rfl
      clear hK K;(try simp only [sX, Act.put]);refine wpC 8 fun K hK => ?_;refine layVol H (fun gy1 u5 H => ?_);refine hK.out _ _ ?_ fun hHeld => ?_
      ·exact hS _ _ (4) H rfl rfl
      clear hK K;(try simp only [sX, Act.put]);refine wpC 10 fun K hK => ?_;refine putVol H 0 rfl rfl rfl (fun u6 H => ?_);refine hK.out _ _ ?_ fun hHeld => ?_
      ·exact hS _ _ (4) H rfl rfl
      clear hK K;(try simp only [sX, Act.put]);refine wpC 11 fun K hK => ?_;refine putRes H 1 rfl rfl rfl (fun u7 H => ?_);refine hK.out _ _ ?_ fun hHeld => ?_
      ·exact hS _ _ (4) H rfl rfl
      clear hK K;(try simp only [sX, Act.put]);refine wpAnyH_done (by kernel_rfl) ?_ _;replace H := H.reord [3, 2, 0, 1, 4, 5] (n := 6) rfl (by decide);exact ⟨rfl, _, _, _, _, _, _, _, _, _, _, _, _, _, _, rfl, HL1.out, H.tail⟩
    ·refine layVol H (fun gy1 u3 H => ?_)
     refine hK.out _ _ ?_ fun hHeld => ?_
     ·exact hS _ _ (2) H rfl rfl
     clear hK K;(try simp only [sX, Act.put]);refine wpAnyH_ready (rs := [4, 9]) (by kernel_rfl) (by simp) ?_;refine (AllReadyH.cons rfl (fun K hK => ?_) (AllReadyH.cons rfl (fun K hK => ?_) AllReadyH.nil))
     ·go_simp
      refine (VS H 1 rfl HLa).mono ?_;rintro e u4 ⟨A1, n1, q1, L1, rfl, HL1, H⟩;go_wp2_with fail;refine hK.out _ _ ?_ fun hHeld => ?_
      ·exact hS _ _ (3) H rfl rfl
      clear hK K;(try simp only [sX, Act.put]);refine wpT 5 ?_;refine wpT 6 ?_;refine wpT 7 ?_;refine wpC 9 fun K hK => ?_;refine layRes H (fun gr1 u5 H => ?_);refine hK.out _ _ ?_ fun hHeld => ?_
      ·exact hS _ _ (4) H rfl rfl
      clear hK K;(try simp only [sX, Act.put]);refine wpC 10 fun K hK => ?_;refine putVol H 2 rfl rfl rfl (fun u6 H => ?_);refine hK.out _ _ ?_ fun hHeld => ?_
      ·exact hS _ _ (4) H rfl rfl
      clear hK K;(try simp only [sX, Act.put]);refine wpC 11 fun K hK => ?_;refine putRes H 0 rfl rfl rfl (fun u7 H => ?_);refine hK.out _ _ ?_ fun hHeld => ?_
      ·exact hS _ _ (4) H rfl rfl
      clear hK K;(try simp only [sX, Act.put]);refine wpAnyH_done (by kernel_rfl) ?_ _;replace H := H.reord [3, 1, 2, 0, 4, 5] (n := 6) rfl (by decide);exact ⟨rfl, _, _, _, _, _, _, _, _, _, _, _, _, _, _, rfl, HL1.out, H.tail⟩
     ·refine layRes H (fun gr1 u4 H => ?_)
      refine hK.out _ _ ?_ fun hHeld => ?_
      ·exact hS _ _ (3) H rfl rfl
      clear hK K;(try simp only [sX, Act.put]);refine wpC 4 fun K hK => ?_;go_simp;refine (VS H 2 rfl HLa).mono ?_;rintro e u5 ⟨A1, n1, q1, L1, rfl, HL1, H⟩;go_wp2_with fail;refine hK.out _ _ ?_ fun hHeld => ?_
      ·exact hS _ _ (4) H rfl rfl
      clear hK K;(try simp only [sX, Act.put]);refine wpT 5 ?_;refine wpT 6 ?_;refine wpT 7 ?_;refine wpC 10 fun K hK => ?_;refine putVol H 2 rfl rfl rfl (fun u6 H => ?_);refine hK.out _ _ ?_ fun hHeld => ?_
      ·exact hS _ _ (4) H rfl rfl
      clear hK K;(try simp only [sX, Act.put]);refine wpC 11 fun K hK => ?_;refine putRes H 1 rfl rfl rfl (fun u7 H => ?_);refine hK.out _ _ ?_ fun hHeld => ?_
      ·exact hS _ _ (4) H rfl rfl
      clear hK K;(try simp only [sX, Act.put]);refine wpAnyH_done (by kernel_rfl) ?_ _;replace H := H.reord [3, 0, 2, 1, 4, 5] (n := 6) rfl (by decide);exact ⟨rfl, _, _, _, _, _, _, _, _, _, _, _, _, _, _, rfl, HL1.out, H.tail⟩
    ·refine layRes H (fun gr1 u3 H => ?_)
     refine hK.out _ _ ?_ fun hHeld => ?_
     ·exact hS _ _ (2) H rfl rfl
     clear hK K;(try simp only [sX, Act.put]);refine wpAnyH_ready (rs := [4, 8]) (by kernel_rfl) (by simp) ?_;refine (AllReadyH.cons rfl (fun K hK => ?_) (AllReadyH.cons rfl (fun K hK => ?_) AllReadyH.nil))
     ·go_simp
      refine (VS H 1 rfl HLa).mono ?_;rintro e u4 ⟨A1, n1, q1, L1, rfl, HL1, H⟩;go_wp2_with fail;refine hK.out _ _ ?_ fun hHeld => ?_
      ·exact hS _ _ (3) H rfl rfl
      clear hK K;(try simp only [sX, Act.put]);refine wpT 5 ?_;refine wpT 6 ?_;refine wpT 7 ?_;refine wpC 8 fun K hK => ?_;refine layVol H (fun gy1 u5 H => ?_);refine hK.out _ _ ?_ fun hHeld => ?_
      ·exact hS _ _ (4) H rfl rfl
      clear hK K;(try simp only [sX, Act.put]);refine wpC 10 fun K hK => ?_;refine putVol H 0 rfl rfl rfl (fun u6 H => ?_);refine hK.out _ _ ?_ fun hHeld => ?_
      ·exact hS _ _ (4) H rfl rfl
      clear hK K;(try simp only [sX, Act.put]);refine wpC 11 fun K hK => ?_;refine putRes H 2 rfl rfl rfl (fun u7 H => ?_);refine hK.out _ _ ?_ fun hHeld => ?_
      ·exact hS _ _ (4) H rfl rfl
      clear hK K;(try simp only [sX, Act.put]);refine wpAnyH_done (by kernel_rfl) ?_ _;replace H := H.reord [3, 1, 0, 2, 4, 5] (n := 6) rfl (by decide);exact ⟨rfl, _, _, _, _, _, _, _, _, _, _, _, _, _, _, rfl, HL1.out, H.tail⟩
     ·refine layVol H (fun gy1 u4 H => ?_)
      refine hK.out _ _ ?_ fun hHeld => ?_
      ·exact hS _ _ (3) H rfl rfl
      clear hK K;(try simp only [sX, Act.put]);refine wpC 4 fun K hK => ?_;go_simp;refine (VS H 2 rfl HLa).mono ?_;rintro e u5 ⟨A1, n1, q1, L1, rfl, HL1, H⟩;go_wp2_with fail;refine hK.out _ _ ?_ fun hHeld => ?_
      ·exact hS _ _ (4) H rfl rfl
      clear hK K;(try simp only [sX, Act.put]);refine wpT 5 ?_;refine wpT 6 ?_;refine wpT 7 ?_;refine wpC 10 fun K hK => ?_;refine putVol H 1 rfl rfl rfl (fun u6 H => ?_);refine hK.out _ _ ?_ fun hHeld => ?_
      ·exact hS _ _ (4) H rfl rfl
      clear hK K;(try simp only [sX, Act.put]);refine wpC 11 fun K hK => ?_;refine putRes H 2 rfl rfl rfl (fun u7 H => ?_);refine hK.out _ _ ?_ fun hHeld => ?_
      ·exact hS _ _ (4) H rfl rfl
      clear hK K;(try simp only [sX, Act.put]);refine wpAnyH_done (by kernel_rfl) ?_ _;replace H := H.reord [3, 0, 1, 2, 4, 5] (n := 6) rfl (by decide);exact ⟨rfl, _, _, _, _, _, _, _, _, _, _, _, _, _, _, rfl, HL1.out, H.tail⟩
   ·refine layVol H (fun gy1 u2 H => ?_)
    refine hK.out _ _ ?_ fun hHeld => ?_
    ·exact hS _ _ (2) H rfl rfl
    clear hK K;(try simp only [sX, Act.put]);refine wpAnyH_ready (rs := [3, 9]) (by kernel_rfl) (by simp) ?_;refine (AllReadyH.cons rfl (fun K hK => ?_) (AllReadyH.cons rfl (fun K hK => ?_) AllReadyH.nil))
    ·go_simp
     refine (toCall_any c0 c1 c2 c3 c4 c5 _).mono ?_;rintro e u3 ⟨rfl, f5⟩;replace H := H.go f5;clear f5;go_wp2_with fail;refine hK.out _ _ ?_ fun hHeld => ?_
     ·exact hS _ _ (2) H rfl rfl
     clear hK K;(try simp only [sX, Act.put]);refine wpAnyH_ready (rs := [4, 9]) (by kernel_rfl) (by simp) ?_;refine (AllReadyH.cons rfl (fun K hK => ?_) (AllReadyH.cons rfl (fun K hK => ?_) AllReadyH.nil))
     ·go_simp
      refine (VS H 1 rfl HLa).mono ?_;rintro e u4 ⟨A1, n1, q1, L1, rfl, HL1, H⟩;go_wp2_with fail;refine hK.out _ _ ?_ fun hHeld => ?_
      ·exact hS _ _ (3) H rfl rfl
      clear hK K;(try simp only [sX, Act.put]);refine wpT 5 ?_;refine wpT 6 ?_;refine wpT 7 ?_;refine wpC 9 fun K hK => ?_;refine layRes H (fun gr1 u5 H => ?_);refine hK.out _ _ ?_ fun hHeld => ?_
      ·exact hS _ _ (4) H rfl rfl
      clear hK K;(try simp only [sX, Act.put]);refine wpC 10 fun K hK => ?_;refine putVol H 2 rfl rfl rfl (fun u6 H => ?_);refine hK.out _ _ ?_ fun hHeld => ?_
      ·exact hS _ _ (4) H rfl rfl
      clear hK K;(try simp only [sX, Act.put]);refine wpC 11 fun K hK => ?_;refine putRes H 0 rfl rfl rfl (fun u7 H => ?_);refine hK.out _ _ ?_ fun hHeld => ?_
      ·exact hS _ _ (4) H rfl rfl
      clear hK K;(try simp only [sX, Act.put]);refine wpAnyH_done (by kernel_rfl) ?_ _;replace H := H.reord [3, 1, 2, 0, 4, 5] (n := 6) rfl (by decide);exact ⟨rfl, _, _, _, _, _, _, _, _, _, _, _, _, _, _, rfl, HL1.out, H.tail⟩
     ·refine layRes H (fun gr1 u4 H => ?_)
      refine hK.out _ _ ?_ fun hHeld => ?_
      ·exact hS _ _ (3) H rfl rfl
      clear hK K;(try simp only [sX, Act.put]);refine wpC 4 fun K hK => ?_;go_simp;refine (VS H 2 rfl HLa).mono ?_;rintro e u5 ⟨A1, n1, q1, L1, rfl, HL1, H⟩;go_wp2_with fail;refine hK.out _ _ ?_ fun hHeld => ?_
      ·exact hS _ _ (4) H rfl rfl
      clear hK K;(try simp only [sX, Act.put]);refine wpT 5 ?_;refine wpT 6 ?_;refine wpT 7 ?_;refine wpC 10 fun K hK => ?_;refine putVol H 2 rfl rfl rfl (fun u6 H => ?_);refine hK.out _ _ ?_ fun hHeld => ?_
      ·exact hS _ _ (4) H rfl rfl
      clear hK K;(try simp only [sX, Act.put]);refine wpC 11 fun K hK => ?_;refine putRes H 1 rfl rfl rfl (fun u7 H => ?_);refine hK.out _ _ ?_ fun hHeld => ?_
      ·exact hS _ _ (4) H rfl rfl
      clear hK K;(try simp only [sX, Act.put]);refine wpAnyH_done (by kernel_rfl) ?_ _;replace H := H.reord [3, 0, 2, 1, 4, 5] (n := 6) rfl (by decide);exact ⟨rfl, _, _, _, _, _, _, _, _, _, _, _, _, _, _, rfl, HL1.out, H.tail⟩
    ·refine layRes H (fun gr1 u3 H => ?_)
     refine hK.out _ _ ?_ fun hHeld => ?_
     ·exact hS _ _ (3) H rfl rfl
     clear hK K;(try simp only [sX, Act.put]);refine wpC 3 fun K hK => ?_;go_simp;refine (toCall_any c0 c1 c2 c3 c4 c5 _).mono ?_;rintro e u4 ⟨rfl, f5⟩;replace H := H.go f5;clear f5;go_wp2_with fail;refine hK.out _ _ ?_ fun hHeld => ?_
     ·exact hS _ _ (3) H rfl rfl
     clear hK K;(try simp only [sX, Act.put]);refine wpC 4 fun K hK => ?_;go_simp;refine (VS H 2 rfl HLa).mono ?_;rintro e u5 ⟨A1, n1, q1, L1, rfl, HL1, H⟩;go_wp2_with fail;refine hK.out _ _ ?_ fun hHeld => ?_
     ·exact hS _ _ (4) H rfl rfl
     clear hK K;(try simp only [sX, Act.put]);refine wpT 5 ?_;refine wpT 6 ?_;refine wpT 7 ?_;refine wpC 10 fun K hK => ?_;refine putVol H 2 rfl rfl rfl (fun u6 H => ?_);refine hK.out _ _ ?_ fun hHeld => ?_
     ·exact hS _ _ (4) H rfl rfl
     clear hK K;(try simp only [sX, Act.put]);refine wpC 11 fun K hK => ?_;refine putRes H 1 rfl rfl rfl (fun u7 H => ?_);refine hK.out _ _ ?_ fun hHeld => ?_
     ·exact hS _ _ (4) H rfl rfl
     clear hK K;(try simp only [sX, Act.put]);refine wpAnyH_done (by kernel_rfl) ?_ _;replace H := H.reord [3, 0, 2, 1, 4, 5] (n := 6) rfl (by decide);exact ⟨rfl, _, _, _, _, _, _, _, _, _, _, _, _, _, _, rfl, HL1.out, H.tail⟩
   ·refine layRes H (fun gr1 u2 H => ?_)
    refine hK.out _ _ ?_ fun hHeld => ?_
    ·exact hS _ _ (2) H rfl rfl
    clear hK K;(try simp only [sX, Act.put]);refine wpAnyH_ready (rs := [3, 8]) (by kernel_rfl) (by simp) ?_;refine (AllReadyH.cons rfl (fun K hK => ?_) (AllReadyH.cons rfl (fun K hK => ?_) AllReadyH.nil))
    ·go_simp
     refine (toCall_any c0 c1 c2 c3 c4 c5 _).mono ?_;rintro e u3 ⟨rfl, f5⟩;replace H := H.go f5;clear f5;go_wp2_with fail;refine hK.out _ _ ?_ fun hHeld => ?_
     ·exact hS _ _ (2) H rfl rfl
     clear hK K;(try simp only [sX, Act.put]);refine wpAnyH_ready (rs := [4, 8]) (by kernel_rfl) (by simp) ?_;refine (AllReadyH.cons rfl (fun K hK => ?_) (AllReadyH.cons rfl (fun K hK => ?_) AllReadyH.nil))
     ·go_simp
      refine (VS H 1 rfl HLa).mono ?_;rintro e u4 ⟨A1, n1, q1, L1, rfl, HL1, H⟩;go_wp2_with fail;refine hK.out _ _ ?_ fun hHeld => ?_
      ·exact hS _ _ (3) H rfl rfl
      clear hK K;(try simp only [sX, Act.put]);refine wpT 5 ?_;refine wpT 6 ?_;refine wpT 7 ?_;refine wpC 8 fun K hK => ?_;refine layVol H (fun gy1 u5 H => ?_);refine hK.out _ _ ?_ fun hHeld => ?_
      ·exact hS _ _ (4) H rfl rfl
      clear hK K;(try simp only [sX, Act.put]);refine wpC 10 fun K hK => ?_;refine putVol H 0 rfl rfl rfl (fun u6 H => ?_);refine hK.out _ _ ?_ fun hHeld => ?_
      ·exact hS _ _ (4) H rfl rfl
      clear hK K;(try simp only [sX, Act.put]);refine wpC 11 fun K hK => ?_;refine putRes H 2 rfl rfl rfl (fun u7 H => ?_);refine hK.out _ _ ?_ fun hHeld => ?_
      ·exact hS _ _ (4) H rfl rfl
      clear hK K;(try simp only [sX, Act.put]);refine wpAnyH_done (by kernel_rfl) ?_ _;replace H := H.reord [3, 1, 0, 2, 4, 5] (n := 6) rfl (by decide);exact ⟨rfl, _, _, _, _, _, _, _, _, _, _, _, _, _, _, rfl, HL1.out, H.tail⟩
     ·refine layVol H (fun gy1 u4 H => ?_)
      refine hK.out _ _ ?_ fun hHeld => ?_
      ·exact hS _ _ (3) H rfl rfl
      clear hK K;(try simp only [sX, Act.put]);refine wpC 4 fun K hK => ?_;go_simp;refine (VS H 2 rfl HLa).mono ?_;rintro e u5 ⟨A1, n1, q1, L1, rfl, HL1, H⟩;go_wp2_with fail;refine hK.out _ _ ?_ fun hHeld => ?_
      ·exact hS _ _ (4) H rfl rfl
      clear hK K;(try simp only [sX, Act.put]);refine wpT 5 ?_;refine wpT 6 ?_;refine wpT 7 ?_;refine wpC 10 fun K hK => ?_;refine putVol H 1 rfl rfl rfl (fun u6 H => ?_);refine hK.out _ _ ?_ fun hHeld => ?_
      ·exact hS _ _ (4) H rfl rfl
      clear hK K;(try simp only [sX, Act.put]);refine wpC 11 fun K hK => ?_;refine putRes H 2 rfl rfl rfl (fun u7 H => ?_);refine hK.out _ _ ?_ fun hHeld => ?_
      ·exact hS _ _ (4) H rfl rfl
      clear hK K;(try simp only [sX, Act.put]);refine wpAnyH_done (by kernel_rfl) ?_ _;replace H := H.reord [3, 0, 1, 2, 4, 5] (n := 6) rfl (by decide);exact ⟨rfl, _, _, _, _, _, _, _, _, _, _, _, _, _, _, rfl, HL1.out, H.tail⟩
    ·refine layVol H (fun gy1 u3 H => ?_)
     refine hK.out _ _ ?_ fun hHeld => ?_
     ·exact hS _ _ (3) H rfl rfl
     clear hK K;(try simp only [sX, Act.put]);refine wpC 3 fun K hK => ?_;go_simp;refine (toCall_any c0 c1 c2 c3 c4 c5 _).mono ?_;rintro e u4 ⟨rfl, f5⟩;replace H := H.go f5;clear f5;go_wp2_with fail;refine hK.out _ _ ?_ fun hHeld => ?_
     ·exact hS _ _ (3) H rfl rfl
     clear hK K;(try simp only [sX, Act.put]);refine wpC 4 fun K hK => ?_;go_simp;refine (VS H 2 rfl HLa).mono ?_;rintro e u5 ⟨A1, n1, q1, L1, rfl, HL1, H⟩;go_wp2_with fail;refine hK.out _ _ ?_ fun hHeld => ?_
     ·exact hS _ _ (4) H rfl rfl
     clear hK K;(try simp only [sX, Act.put]);refine wpT 5 ?_;refine wpT 6 ?_;refine wpT 7 ?_;refine wpC 10 fun K hK => ?_;refine putVol H 1 rfl rfl rfl (fun u6 H => ?_);refine hK.out _ _ ?_ fun hHeld => ?_
     ·exact hS _ _ (4) H rfl rfl
     clear hK K;(try simp only [sX, Act.put]);refine wpC 11 fun K hK => ?_;refine putRes H 2 rfl rfl rfl (fun u7 H => ?_);refine hK.out _ _ ?_ fun hHeld => ?_
     ·exact hS _ _ (4) H rfl rfl
     clear hK K;(try simp only [sX, Act.put]);refine wpAnyH_done (by kernel_rfl) ?_ _;replace H := H.reord [3, 0, 1, 2, 4, 5] (n := 6) rfl (by decide);exact ⟨rfl, _, _, _, _, _, _, _, _, _, _, _, _, _, _, rfl, HL1.out, H.tail⟩
  ·refine layVol H (fun gy1 u1 H => ?_)
   refine hK.out _ _ ?_ fun hHeld => ?_
   ·exact hS _ _ (1) H rfl rfl
   clear hK K;(try simp only [sX, Act.put]);refine wpAnyH_ready (rs := [1, 9]) (by kernel_rfl) (by simp) ?_;refine (AllReadyH.cons rfl (fun K hK => ?_) (AllReadyH.cons rfl (fun K hK => ?_) AllReadyH.nil))
   ·go_simp
    refine (TV H).mono ?_;rintro e u2 ⟨ga, La, rfl, HLa, H⟩;go_wp2_with fail;refine hK.out _ _ ?_ fun hHeld => ?_
    ·exact hS _ _ (2) H rfl rfl
    clear hK K;(try simp only [sX, Act.put]);refine wpAnyH_ready (rs := [3, 9]) (by kernel_rfl) (by simp) ?_;refine (AllReadyH.cons rfl (fun K hK => ?_) (AllReadyH.cons rfl (fun K hK => ?_) AllReadyH.nil))
    ·go_simp
     refine (toCall_any c0 c1 c2 c3 c4 c5 _).mono ?_;rintro e u3 ⟨rfl, f5⟩;replace H := H.go f5;clear f5;go_wp2_with fail;refine hK.out _ _ ?_ fun hHeld => ?_
     ·exact hS _ _ (2) H rfl rfl
     clear hK K;(try simp only [sX, Act.put]);refine wpAnyH_ready (rs := [4, 9]) (by kernel_rfl) (by simp) ?_;refine (AllReadyH.cons rfl (fun K hK => ?_) (AllReadyH.cons rfl (fun K hK => ?_) AllReadyH.nil))
     ·go_simp
      refine (VS H 0 rfl HLa).mono ?_;rintro e u4 ⟨A1, n1, q1, L1, rfl, HL1, H⟩;go_wp2_with fail;refine hK.out _ _ ?_ fun hHeld => ?_
      ·exact hS _ _ (3) H rfl rfl
      clear hK K;(try simp only [sX, Act.put]);refine wpT 5 ?_;refine wpT 6 ?_;refine wpT 7 ?_;refine wpC 9 fun K hK => ?_;refine layRes H (fun gr1 u5 H => ?_);refine hK.out _ _ ?_ fun hHeld => ?_
      ·exact hS _ _ (4) H rfl rfl
      clear hK K;(try simp only [sX, Act.put]);refine wpC 10 fun K hK => ?_;refine putVol H 3 rfl rfl rfl (fun u6 H => ?_);refine hK.out _ _ ?_ fun hHeld => ?_
      ·exact hS _ _ (4) H rfl rfl
      clear hK K;(try simp only [sX, Act.put]);refine wpC 11 fun K hK => ?_;refine putRes H 0 rfl rfl rfl (fun u7 H => ?_);refine hK.out _ _ ?_ fun hHeld => ?_
      ·exact hS _ _ (4) H rfl rfl
      clear hK K;(try simp only [sX, Act.put]);refine wpAnyH_done (by kernel_rfl) ?_ _;replace H := H.reord [2, 1, 3, 0, 4, 5] (n := 6) rfl (by decide);exact ⟨rfl, _, _, _, _, _, _, _, _, _, _, _, _, _, _, rfl, HL1.out, H.tail⟩
     ·refine layRes H (fun gr1 u4 H => ?_)
      refine hK.out _ _ ?_ fun hHeld => ?_
      ·exact hS _ _ (3) H rfl rfl
      clear hK K;(try simp only [sX, Act.put]);refine wpC 4 fun K hK => ?_;go_simp;refine (VS H 1 rfl HLa).mono ?_;rintro e u5 ⟨A1, n1, q1, L1, rfl, HL1, H⟩;go_wp2_with fail;refine hK.out _ _ ?_ fun hHeld => ?_
      ·exact hS _ _ (4) H rfl rfl
      clear hK K;(try simp only [sX, Act.put]);refine wpT 5 ?_;refine wpT 6 ?_;refine wpT 7 ?_;refine wpC 10 fun K hK => ?_;refine putVol H 3 rfl rfl rfl (fun u6 H => ?_);refine hK.out _ _ ?_ fun hHeld => ?_
      ·exact hS _ _ (4) H rfl rfl
      clear hK K;(try simp only [sX, Act.put]);refine wpC 11 fun K hK => ?_;refine putRes H 1 rfl rfl rfl (fun u7 H => ?_);refine hK.out _ _ ?_ fun hHeld => ?_
      ·exact hS _ _ (4) H rfl rfl
      clear hK K;(try simp only [sX, Act.put]);refine wpAnyH_done (by kernel_rfl) ?_ _;replace H := H.reord [2, 0, 3, 1, 4, 5] (n := 6) rfl (by decide);exact ⟨rfl, _, _, _, _, _, _, _, _, _, _, _, _, _, _, rfl, HL1.out, H.tail⟩
    ·refine layRes H (fun gr1 u3 H => ?_)
     refine hK.out _ _ ?_ fun hHeld => ?_
     ·exact hS _ _ (3) H rfl rfl
     clear hK K;(try simp only [sX, Act.put]);refine wpC 3 fun K hK => ?_;go_simp;refine (toCall_any c0 c1 c2 c3 c4 c5 _).mono ?_;rintro e u4 ⟨rfl, f5⟩;replace H := H.go f5;clear f5;go_wp2_with fail;refine hK.out _ _ ?_ fun hHeld => ?_
     ·exact hS _ _ (3) H rfl rfl
     clear hK K;(try simp only [sX, Act.put]);refine wpC 4 fun K hK => ?_;go_simp;refine (VS H 1 rfl HLa).mono ?_;rintro e u5 ⟨A1, n1, q1, L1, rfl, HL1, H⟩;go_wp2_with fail;refine hK.out _ _ ?_ fun hHeld => ?_
     ·exact hS _ _ (4) H rfl rfl
     clear hK K;(try simp only [sX, Act.put]);refine wpT 5 ?_;refine wpT 6 ?_;refine wpT 7 ?_;refine wpC 10 fun K hK => ?_;refine putVol H 3 rfl rfl rfl (fun u6 H => ?_);refine hK.out _ _ ?_ fun hHeld => ?_
     ·exact hS _ _ (4) H rfl rfl
     clear hK K;(try simp only [sX, Act.put]);refine wpC 11 fun K hK => ?_;refine putRes H 1 rfl rfl rfl (fun u7 H => ?_);refine hK.out _ _ ?_ fun hHeld => ?_
     ·exact hS _ _ (4) H rfl rfl
     clear hK K;(try simp only [sX, Act.put]);refine wpAnyH_done (by kernel_rfl) ?_ _;replace H := H.reord [2, 0, 3, 1, 4, 5] (n := 6) rfl (by decide);exact ⟨rfl, _, _, _, _, _, _, _, _, _, _, _, _, _, _, rfl, HL1.out, H.tail⟩
   ·refine layRes H (fun gr1 u2 H => ?_)
    refine hK.out _ _ ?_ fun hHeld => ?_
    ·exact hS _ _ (2) H rfl rfl
    clear hK K;(try simp only [sX, Act.put]);refine wpC 1 fun K hK => ?_;go_simp;refine (TV H).mono ?_;rintro e u3 ⟨ga, La, rfl, HLa, H⟩;go_wp2_with fail;refine hK.out _ _ ?_ fun hHeld => ?_
    ·exact hS _ _ (3) H rfl rfl
    clear hK K;(try simp only [sX, Act.put]);refine wpC 3 fun K hK => ?_;go_simp;refine (toCall_any c0 c1 c2 c3 c4 c5 _).mono ?_;rintro e u4 ⟨rfl, f5⟩;replace H := H.go f5;clear f5;go_wp2_with fail;refine hK.out _ _ ?_ fun hHeld => ?_
    ·exact hS _ _ (3) H rfl rfl
    clear hK K;(try simp only [sX, Act.put]);refine wpC 4 fun K hK => ?_;go_simp;refine (VS H 0 rfl HLa).mono ?_;rintro e u5 ⟨A1, n1, q1, L1, rfl, HL1, H⟩;go_wp2_with fail;refine hK.out _ _ ?_ fun hHeld => ?_
    ·exact hS _ _ (4) H rfl rfl
    clear hK K;(try simp only [sX, Act.put]);refine wpT 5 ?_;refine wpT 6 ?_;refine wpT 7 ?_;refine wpC 10 fun K hK => ?_;refine putVol H 3 rfl rfl rfl (fun u6 H => ?_);refine hK.out _ _ ?_ fun hHeld => ?_
    ·exact hS _ _ (4) H rfl rfl
    clear hK K;(try simp only [sX, Act.put]);refine wpC 11 fun K hK => ?_;refine putRes H 2 rfl rfl rfl (fun u7 H => ?_);refine hK.out _ _ ?_ fun hHeld => ?_
    ·exact hS _ _ (4) H rfl rfl
    clear hK K;(try simp only [sX, Act.put]);refine wpAnyH_done (by kernel_rfl) ?_ _;replace H := H.reord [1, 0, 3, 2, 4, 5] (n := 6) rfl (by decide);exact ⟨rfl, _, _, _, _, _, _, _, _, _, _, _, _, _, _, rfl, HL1.out, H.tail⟩
  ·refine layRes H (fun gr1 u1 H => ?_)
   refine hK.out _ _ ?_ fun hHeld => ?_
   ·exact hS _ _ (1) H rfl rfl
   clear hK K;(try simp only [sX, Act.put]);refine wpAnyH_ready (rs := [1, 8]) (by kernel_rfl) (by simp) ?_;refine (AllReadyH.cons rfl (fun K hK => ?_) (AllReadyH.cons rfl (fun K hK => ?_) AllReadyH.nil))
   ·go_simp
    refine (TV H).mono ?_;rintro e u2 ⟨ga, La, rfl, HLa, H⟩;go_wp2_with fail;refine hK.out _ _ ?_ fun hHeld => ?_
    ·exact hS _ _ (2) H rfl rfl
    clear hK K;(try simp only [sX, Act.put]);refine wpAnyH_ready (rs := [3, 8]) (by kernel_rfl) (by simp) ?_;refine (AllReadyH.cons rfl (fun K hK => ?_) (AllReadyH.cons rfl (fun K hK => ?_) AllReadyH.nil))
    ·go_simp
     refine (toCall_any c0 c1 c2 c3 c4 c5 _).mono ?_;rintro e u3 ⟨rfl, f5⟩;replace H := H.go f5;clear f5;go_wp2_with fail;refine hK.out _ _ ?_ fun hHeld => ?_
     ·exact hS _ _ (2) H rfl rfl
     clear hK K;(try simp only [sX, Act.put]);refine wpAnyH_ready (rs := [4, 8]) (by kernel_rfl) (by simp) ?_;refine (AllReadyH.cons rfl (fun K hK => ?_) (AllReadyH.cons rfl (fun K hK => ?_) AllReadyH.nil))
     ·go_simp
      refine (VS H 0 rfl HLa).mono ?_;rintro e u4 ⟨A1, n1, q1, L1, rfl, HL1, H⟩;go_wp2_with fail;refine hK.out _ _ ?_ fun hHeld => ?_
      ·exact hS _ _ (3) H rfl rfl
      clear hK K;(try simp only [sX, Act.put]);refine wpT 5 ?_;refine wpT 6 ?_;refine wpT 7 ?_;refine wpC 8 fun K hK => ?_;refine layVol H (fun gy1 u5 H => ?_);refine hK.out _ _ ?_ fun hHeld => ?_
      ·exact hS _ _ (4) H rfl rfl
      clear hK K;(try simp only [sX, Act.put]);refine wpC 10 fun K hK => ?_;refine putVol H 0 rfl rfl rfl (fun u6 H => ?_);refine hK.out _ _ ?_ fun hHeld => ?_
      ·exact hS _ _ (4) H rfl rfl
      clear hK K;(try simp only [sX, Act.put]);refine wpC 11 fun K hK => ?_;refine putRes H 3 rfl rfl rfl (fun u7 H => ?_);refine hK.out _ _ ?_ fun hHeld => ?_
      ·exact hS _ _ (4) H rfl rfl
      clear hK K;(try simp only [sX, Act.put]);refine wpAnyH_done (by kernel_rfl) ?_ _;replace H := H.reord [2, 1, 0, 3, 4, 5] (n := 6) rfl (by decide);exact ⟨rfl, _, _, _, _, _, _, _, _, _, _, _, _, _, _, rfl, HL1.out, H.tail⟩
     ·refine layVol H (fun gy1 u4 H => ?_)
      refine hK.out _ _ ?_ fun hHeld => ?_
      ·exact hS _ _ (3) H rfl rfl
      clear hK K;(try simp only [sX, Act.put]);refine wpC 4 fun K hK => ?_;go_simp;refine (VS H 1 rfl HLa).mono ?_;rintro e u5 ⟨A1, n1, q1, L1, rfl, HL1, H⟩;go_wp2_with fail;refine hK.out _ _ ?_ fun hHeld => ?_
      ·exact hS _ _ (4) H rfl rfl
      clear hK K;(try simp only [sX, Act.put]);refine wpT 5 ?_;refine wpT 6 ?_;refine wpT 7 ?_;refine wpC 10 fun K hK => ?_;refine putVol H 1 rfl rfl rfl (fun u6 H => ?_);refine hK.out _ _ ?_ fun hHeld => ?_
      ·exact hS _ _ (4) H rfl rfl
      clear hK K;(try simp only [sX, Act.put]);refine wpC 11 fun K hK => ?_;refine putRes H 3 rfl rfl rfl (fun u7 H => ?_);refine hK.out _ _ ?_ fun hHeld => ?_
      ·exact hS _ _ (4) H rfl rfl
      clear hK K;(try simp only [sX, Act.put]);refine wpAnyH_done (by kernel_rfl) ?_ _;replace H := H.reord [2, 0, 1, 3, 4, 5] (n := 6) rfl (by decide);exact ⟨rfl, _, _, _, _, _, _, _, _, _, _, _, _, _, _, rfl, HL1.out, H.tail⟩
    ·refine layVol H (fun gy1 u3 H => ?_)
     refine hK.out _ _ ?_ fun hHeld => ?_
     ·exact hS _ _ (3) H rfl rfl
     clear hK K;(try simp only [sX, Act.put]);refine wpC 3 fun K hK => ?_;go_simp;refine (toCall_any c0 c1 c2 c3 c4 c5 _).mono ?_;rintro e u4 ⟨rfl, f5⟩;replace H := H.go f5;clear f5;go_wp2_with fail;refine hK.out _ _ ?_ fun hHeld => ?_
     ·exact hS _ _ (3) H rfl rfl
     clear hK K;(try simp only [sX, Act.put]);refine wpC 4 fun K hK => ?_;go_simp;refine (VS H 1 rfl HLa).mono ?_;rintro e u5 ⟨A1, n1, q1, L1, rfl, HL1, H⟩;go_wp2_with fail;refine hK.out _ _ ?_ fun hHeld => ?_
     ·exact hS _ _ (4) H rfl rfl
     clear hK K;(try simp only [sX, Act.put]);refine wpT 5 ?_;refine wpT 6 ?_;refine wpT 7 ?_;refine wpC 10 fun K hK => ?_;refine putVol H 1 rfl rfl rfl (fun u6 H => ?_);refine hK.out _ _ ?_ fun hHeld => ?_
     ·exact hS _ _ (4) H rfl rfl
     clear hK K;(try simp only [sX, Act.put]);refine wpC 11 fun K hK => ?_;refine putRes H 3 rfl rfl rfl (fun u7 H => ?_);refine hK.out _ _ ?_ fun hHeld => ?_
     ·exact hS _ _ (4) H rfl rfl
     clear hK K;(try simp only [sX, Act.put]);refine wpAnyH_done (by kernel_rfl) ?_ _;replace H := H.reord [2, 0, 1, 3, 4, 5] (n := 6) rfl (by decide);exact ⟨rfl, _, _, _, _, _, _, _, _, _, _, _, _, _, _, rfl, HL1.out, H.tail⟩
   ·refine layVol H (fun gy1 u2 H => ?_)
    refine hK.out _ _ ?_ fun hHeld => ?_
    ·exact hS _ _ (2) H rfl rfl
    clear hK K;(try simp only [sX, Act.put]);refine wpC 1 fun K hK => ?_;go_simp;refine (TV H).mono ?_;rintro e u3 ⟨ga, La, rfl, HLa, H⟩;go_wp2_with fail;refine hK.out _ _ ?_ fun hHeld => ?_
    ·exact hS _ _ (3) H rfl rfl
    clear hK K;(try simp only [sX, Act.put]);refine wpC 3 fun K hK => ?_;go_simp;refine (toCall_any c0 c1 c2 c3 c4 c5 _).mono ?_;rintro e u4 ⟨rfl, f5⟩;replace H := H.go f5;clear f5;go_wp2_with fail;refine hK.out _ _ ?_ fun hHeld => ?_
    ·exact hS _ _ (3) H rfl rfl
    clear hK K;(try simp only [sX, Act.put]);refine wpC 4 fun K hK => ?_;go_simp;refine (VS H 0 rfl HLa).mono ?_;rintro e u5 ⟨A1, n1, q1, L1, rfl, HL1, H⟩;go_wp2_with fail;refine hK.out _ _ ?_ fun hHeld => ?_
    ·exact hS _ _ (4) H rfl rfl
    clear hK K;(try simp only [sX, Act.put]);refine wpT 5 ?_;refine wpT 6 ?_;refine wpT 7 ?_;refine wpC 10 fun K hK => ?_;refine putVol H 2 rfl rfl rfl (fun u6 H => ?_);refine hK.out _ _ ?_ fun hHeld => ?_
    ·exact hS _ _ (4) H rfl rfl
    clear hK K;(try simp only [sX, Act.put]);refine wpC 11 fun K hK => ?_;refine putRes H 3 rfl rfl rfl (fun u7 H => ?_);refine hK.out _ _ ?_ fun hHeld => ?_
    ·exact hS _ _ (4) H rfl rfl
    clear hK K;(try simp only [sX, Act.put]);refine wpAnyH_done (by kernel_rfl) ?_ _;replace H := H.reord [1, 0, 2, 3, 4, 5] (n := 6) rfl (by decide);exact ⟨rfl, _, _, _, _, _, _, _, _, _, _, _, _, _, _, rfl, HL1.out, H.tail⟩
 clear H;rintro a' w1 ⟨v27, v28, v29, v30, v31, v26, v32, v33, gy1, gr1, A1, n1, q1, L1, rfl, hL, H⟩;simp only [List.getElem_toArray, List.getElem_cons_succ, List.getElem_cons_zero, Act.put, List.setIfInBounds_toArray, List.set_cons_zero, List.set_cons_succ];have HL1 := Lib.hid hL;clear hL;have hn1 : n1 ≤ 16 := by have h1 := (VRd.of H 0 rfl).1.len; have h2 : lx.length ≤ 16 := HFL.out; rw [← HL1.out, nodes_len] at h2; omega
 have HE1 := Lib.hid (show ∀ p ∈ L1, p.2.2.2.2.2.length ≤ 1048576 from fun p hp => by have h1 : p.2.2.2.2.2.length ≤ 12 := HF12.out p.2 (by show p.2 ∈ lx; rw [← HL1.out]; exact List.mem_map_of_mem hp); omega);have b0 := H.fa 4 0 rfl rfl;have b1 := H.fa 4 1 rfl rfl;go_wp2_with fail;refine (TV H).mono ?_;rintro e w9 ⟨gb, Lb, rfl, HLb, H⟩;clear b0 b1;obtain ⟨gv, hgv⟩ : ∃ z, z = w9.heap.size := ⟨_, rfl⟩;have H2 := H.lay_ (g := gv) 31 [.int .i64 next, .slice (some ⟨gb, 0, none⟩) n n] hgv;clear H;have H := H2.drew;clear H2;have HGV := Lib.hid hgv;clear hgv;go_wp2_with fail;simp only [← HGV.out];obtain ⟨wb, hwb⟩ : ∃ z : World, z = w9.alloc (.cells #[.int .i64 next, .slice (some ⟨gb, 0, none⟩) n n] 31) := ⟨_, rfl⟩;rw [← hwb] at H ⊢;clear hwb;have hS2 : ∀ (u : World) (l : List Ob) (i : Nat), Hp [] w u l → l[i]? = some (.blk gv 31 [.int .i64 next, .slice (some ⟨gb, 0, none⟩) n n]) → l[i + 5]? = some (.blk (w.heap.size + 1) 26 [.int .i64 c0, .int .i64 c1, .string c2, .int .i64 c3, .string c4, .string c5]) → u.cell? ⟨gv, 0, none⟩ = some (.int .i64 next) ∧ u.cell? ⟨gv, 1, none⟩ = some (.slice (some ⟨gb, 0, none⟩) n n) ∧ u.cell? ⟨w.heap.size + 1, 0, none⟩ = some (.int .i64 c0) ∧ u.cell? ⟨w.heap.size + 1, 1, none⟩ = some (.int .i64 c1) ∧ u.cell? ⟨w.heap.size + 1, 2, none⟩ = some (.string c2) ∧ u.cell? ⟨w.heap.size + 1, 3, none⟩ = some (.int .i64 c3) ∧ u.cell? ⟨w.heap.size + 1, 4, none⟩ = some (.string c4) ∧ u.cell? ⟨w.heap.size + 1, 5, none⟩ = some (.string c5) := fun u l i H h0 h1 => ⟨H.bat _ h0 rfl, H.bat _ h0 rfl, H.bat _ h1 rfl, H.bat _ h1 rfl, H.bat _ h1 rfl, H.bat _ h1 rfl, H.bat _ h1 rfl, H.bat _ h1 rfl⟩;refine wp_joint (fun a a' w' => ∃ v37 v38 v39 v40 v36 v41 v42 : Value, ∃ (gy2 gr2 : Nat) (A2 : Option Addr) (n2 q2 : Nat) (L2 : List (Value × Nod)), a' = (((((((((a.put (some 37) v37).put (some 38) v38).put (some 39) v39).put (some 40) v40).put (some 36) v36).put (some 41) v41).put (some 42) v42).put (some 9) (.pointer (some ⟨gy2, 0, none⟩))).put (some 10) (.pointer (some ⟨gr2, 0, none⟩))) ∧ nodes L2 = lx ∧ Hp [] w w' [obN (.slice A2 n2 q2) n2 L2, .blk gy2 31 [.int .i64 nx, .slice A2 n2 q2], .blk gr2 33 [.int .i64 r0, .int .i64 r1, .string r2, .string r3], .blk gv 31 [.int .i64 next, .slice (some ⟨gb, 0, none⟩) n n], obN (.slice (some ⟨gb, 0, none⟩) n n) n Lb, obN (.slice A1 n1 q1) n1 L1, .blk gy1 31 [.int .i64 nx, .slice A1 n1 q1], .blk gr1 33 [.int .i64 r0, .int .i64 r1, .string r2, .string r3], .blk (w.heap.size + 1) 26 [.int .i64 c0, .int .i64 c1, .string c2, .int .i64 c3, .string c4, .string c5], .blk w.heap.size 24 [.int .i64 next, .slice A n c]]) ?_ ?_
 ·skip
  refine wp_region_held_drew (S := fun w' => w'.cell? ⟨gv, 0, none⟩ = some (.int .i64 next) ∧ w'.cell? ⟨gv, 1, none⟩ = some (.slice (some ⟨gb, 0, none⟩) n n) ∧ w'.cell? ⟨w.heap.size + 1, 0, none⟩ = some (.int .i64 c0) ∧ w'.cell? ⟨w.heap.size + 1, 1, none⟩ = some (.int .i64 c1) ∧ w'.cell? ⟨w.heap.size + 1, 2, none⟩ = some (.string c2) ∧ w'.cell? ⟨w.heap.size + 1, 3, none⟩ = some (.int .i64 c3) ∧ w'.cell? ⟨w.heap.size + 1, 4, none⟩ = some (.string c4) ∧ w'.cell? ⟨w.heap.size + 1, 5, none⟩ = some (.string c5)) (by kernel_rfl) ?_ (fun hHeld => ?_)
  ·exact hS2 _ _ 0 H rfl rfl
  obtain ⟨u0, hu0⟩ : ∃ uu : World, uu = wb.drew := ⟨_, rfl⟩;rw [← hu0] at H hHeld ⊢;clear hu0;refine wpT 0 ?_;refine wpT 1 ?_;refine wpAnyH_ready (rs := [2, 7, 8]) (by kernel_rfl) (by simp) ?_;refine (AllReadyH.cons rfl (fun K hK => ?_) (AllReadyH.cons rfl (fun K hK => ?_) (AllReadyH.cons rfl (fun K hK => ?_) AllReadyH.nil)))
  ·go_simp
   refine (toCall_any c0 c1 c2 c3 c4 c5 _).mono ?_;rintro e u1 ⟨rfl, f5⟩;replace H := H.go f5;clear f5;go_wp2_with fail;refine hK.out _ _ ?_ fun hHeld => ?_
   ·exact hS2 _ _ (0) H rfl rfl
   clear hK K;(try simp only [sX, Act.put]);refine wpAnyH_ready (rs := [3, 7, 8]) (by kernel_rfl) (by simp) ?_;refine (AllReadyH.cons rfl (fun K hK => ?_) (AllReadyH.cons rfl (fun K hK => ?_) (AllReadyH.cons rfl (fun K hK => ?_) AllReadyH.nil)))
   ·go_simp
    refine (VI H 1 rfl HLb).mono ?_;rintro e u2 ⟨A2, n2, q2, L2, rfl, HL2, H⟩;go_wp2_with fail;refine hK.out _ _ ?_ fun hHeld => ?_
    ·exact hS2 _ _ (1) H rfl rfl
    clear hK K;(try simp only [sX, Act.put]);refine wpT 4 ?_;refine wpT 5 ?_;refine wpT 6 ?_;refine wpAnyH_ready (rs := [7, 8]) (by kernel_rfl) (by simp) ?_;refine (AllReadyH.cons rfl (fun K hK => ?_) (AllReadyH.cons rfl (fun K hK => ?_) AllReadyH.nil))
    ·refine layVol H (fun gy2 u3 H => ?_)
     refine hK.out _ _ ?_ fun hHeld => ?_
     ·exact hS2 _ _ (2) H rfl rfl
     clear hK K;(try simp only [sX, Act.put]);refine wpC 8 fun K hK => ?_;refine layRes H (fun gr2 u4 H => ?_);refine hK.out _ _ ?_ fun hHeld => ?_
     ·exact hS2 _ _ (3) H rfl rfl
     clear hK K;(try simp only [sX, Act.put]);refine wpC 9 fun K hK => ?_;refine putVol H 1 rfl rfl rfl (fun u5 H => ?_);refine hK.out _ _ ?_ fun hHeld => ?_
     ·exact hS2 _ _ (3) H rfl rfl
     clear hK K;(try simp only [sX, Act.put]);refine wpC 10 fun K hK => ?_;refine putRes H 0 rfl rfl rfl (fun u6 H => ?_);refine hK.out _ _ ?_ fun hHeld => ?_
     ·exact hS2 _ _ (3) H rfl rfl
     clear hK K;(try simp only [sX, Act.put]);refine wpAnyH_done (by kernel_rfl) ?_ _;replace H := H.reord [2, 1, 0, 3, 4, 5, 6, 7, 8, 9] (n := 10) rfl (by decide);exact ⟨rfl, _, _, _, _, _, _, _, _, _, _, _, _, _, rfl, HL2.out, H⟩
    ·refine layRes H (fun gr2 u3 H => ?_)
     refine hK.out _ _ ?_ fun hHeld => ?_
     ·exact hS2 _ _ (2) H rfl rfl
     clear hK K;(try simp only [sX, Act.put]);refine wpC 7 fun K hK => ?_;refine layVol H (fun gy2 u4 H => ?_);refine hK.out _ _ ?_ fun hHeld => ?_
     ·exact hS2 _ _ (3) H rfl rfl
     clear hK K;(try simp only [sX, Act.put]);refine wpC 9 fun K hK => ?_;refine putVol H 0 rfl rfl rfl (fun u5 H => ?_);refine hK.out _ _ ?_ fun hHeld => ?_
     ·exact hS2 _ _ (3) H rfl rfl
     clear hK K;(try simp only [sX, Act.put]);refine wpC 10 fun K hK => ?_;refine putRes H 1 rfl rfl rfl (fun u6 H => ?_);refine hK.out _ _ ?_ fun hHeld => ?_
     ·exact hS2 _ _ (3) H rfl rfl
     clear hK K;(try simp only [sX, Act.put]);refine wpAnyH_done (by kernel_rfl) ?_ _;replace H := H.reord [2, 0, 1, 3, 4, 5, 6, 7, 8, 9] (n := 10) rfl (by decide);exact ⟨rfl, _, _, _, _, _, _, _, _, _, _, _, _, _, rfl, HL2.out, H⟩
   ·refine layVol H (fun gy2 u2 H => ?_)
    refine hK.out _ _ ?_ fun hHeld => ?_
    ·exact hS2 _ _ (1) H rfl rfl
    clear hK K;(try simp only [sX, Act.put]);refine wpAnyH_ready (rs := [3, 8]) (by kernel_rfl) (by simp) ?_;refine (AllReadyH.cons rfl (fun K hK => ?_) (AllReadyH.cons rfl (fun K hK => ?_) AllReadyH.nil))
    ·go_simp
     refine (VI H 2 rfl HLb).mono ?_;rintro e u3 ⟨A2, n2, q2, L2, rfl, HL2, H⟩;go_wp2_with fail;refine hK.out _ _ ?_ fun hHeld => ?_
     ·exact hS2 _ _ (2) H rfl rfl
     clear hK K;(try simp only [sX, Act.put]);refine wpT 4 ?_;refine wpT 5 ?_;refine wpT 6 ?_;refine wpC 8 fun K hK => ?_;refine layRes H (fun gr2 u4 H => ?_);refine hK.out _ _ ?_ fun hHeld => ?_
     ·exact hS2 _ _ (3) H rfl rfl
     clear hK K;(try simp only [sX, Act.put]);refine wpC 9 fun K hK => ?_;refine putVol H 2 rfl rfl rfl (fun u5 H => ?_);refine hK.out _ _ ?_ fun hHeld => ?_
     ·exact hS2 _ _ (3) H rfl rfl
     clear hK K;(try simp only [sX, Act.put]);refine wpC 10 fun K hK => ?_;refine putRes H 0 rfl rfl rfl (fun u6 H => ?_);refine hK.out _ _ ?_ fun hHeld => ?_
     ·exact hS2 _ _ (3) H rfl rfl
     clear hK K;(try simp only [sX, Act.put]);refine wpAnyH_done (by kernel_rfl) ?_ _;replace H := H.reord [1, 2, 0, 3, 4, 5, 6, 7, 8, 9] (n := 10) rfl (by decide);exact ⟨rfl, _, _, _, _, _, _, _, _, _, _, _, _, _, rfl, HL2.out, H⟩
    ·refine layRes H (fun gr2 u3 H => ?_)
     refine hK.out _ _ ?_ fun hHeld => ?_
     ·exact hS2 _ _ (2) H rfl rfl
     clear hK K;(try simp only [sX, Act.put]);refine wpC 3 fun K hK => ?_;go_simp;refine (VI H 3 rfl HLb).mono ?_;rintro e u4 ⟨A2, n2, q2, L2, rfl, HL2, H⟩;go_wp2_with fail;refine hK.out _ _ ?_ fun hHeld => ?_
     ·exact hS2 _ _ (3) H rfl rfl
     clear hK K;(try simp only [sX, Act.put]);refine wpT 4 ?_;refine wpT 5 ?_;refine wpT 6 ?_;refine wpC 9 fun K hK => ?_;refine putVol H 2 rfl rfl rfl (fun u5 H => ?_);refine hK.out _ _ ?_ fun hHeld => ?_
     ·exact hS2 _ _ (3) H rfl rfl
     clear hK K;(try simp only [sX, Act.put]);refine wpC 10 fun K hK => ?_;refine putRes H 1 rfl rfl rfl (fun u6 H => ?_);refine hK.out _ _ ?_ fun hHeld => ?_
     ·exact hS2 _ _ (3) H rfl rfl
     clear hK K;(try simp only [sX, Act.put]);refine wpAnyH_done (by kernel_rfl) ?_ _;replace H := H.reord [0, 2, 1, 3, 4, 5, 6, 7, 8, 9] (n := 10) rfl (by decide);exact ⟨rfl, _, _, _, _, _, _, _, _, _, _, _, _, _, rfl, HL2.out, H⟩
   ·refine layRes H (fun gr2 u2 H => ?_)
    refine hK.out _ _ ?_ fun hHeld => ?_
    ·exact hS2 _ _ (1) H rfl rfl
    clear hK K;(try simp only [sX, Act.put]);refine wpAnyH_ready (rs := [3, 7]) (by kernel_rfl) (by simp) ?_;refine (AllReadyH.cons rfl (fun K hK => ?_) (AllReadyH.cons rfl (fun K hK => ?_) AllReadyH.nil))
    ·go_simp
     refine (VI H 2 rfl HLb).mono ?_;rintro e u3 ⟨A2, n2, q2, L2, rfl, HL2, H⟩;go_wp2_with fail;refine hK.out _ _ ?_ fun hHeld => ?_
     ·exact hS2 _ _ (2) H rfl rfl
     clear hK K;(try simp only [sX, Act.put]);refine wpT 4 ?_;refine wpT 5 ?_;refine wpT 6 ?_;refine wpC 7 fun K hK => ?_;refine layVol H (fun gy2 u4 H => ?_);refine hK.out _ _ ?_ fun hHeld => ?_
     ·exact hS2 _ _ (3) H rfl rfl
     clear hK K;(try simp only [sX, Act.put]);refine wpC 9 fun K hK => ?_;refine putVol H 0 rfl rfl rfl (fun u5 H => ?_);refine hK.out _ _ ?_ fun hHeld => ?_
     ·exact hS2 _ _ (3) H rfl rfl
     clear hK K;(try simp only [sX, Act.put]);refine wpC 10 fun K hK => ?_;refine putRes H 2 rfl rfl rfl (fun u6 H => ?_);refine hK.out _ _ ?_ fun hHeld => ?_
     ·exact hS2 _ _ (3) H rfl rfl
     clear hK K;(try simp only [sX, Act.put]);refine wpAnyH_done (by kernel_rfl) ?_ _;replace H := H.reord [1, 0, 2, 3, 4, 5, 6, 7, 8, 9] (n := 10) rfl (by decide);exact ⟨rfl, _, _, _, _, _, _, _, _, _, _, _, _, _, rfl, HL2.out, H⟩
    ·refine layVol H (fun gy2 u3 H => ?_)
     refine hK.out _ _ ?_ fun hHeld => ?_
     ·exact hS2 _ _ (2) H rfl rfl
     clear hK K;(try simp only [sX, Act.put]);refine wpC 3 fun K hK => ?_;go_simp;refine (VI H 3 rfl HLb).mono ?_;rintro e u4 ⟨A2, n2, q2, L2, rfl, HL2, H⟩;go_wp2_with fail;refine hK.out _ _ ?_ fun hHeld => ?_
     ·exact hS2 _ _ (3) H rfl rfl
     clear hK K;(try simp only [sX, Act.put]);refine wpT 4 ?_;refine wpT 5 ?_;refine wpT 6 ?_;refine wpC 9 fun K hK => ?_;refine putVol H 1 rfl rfl rfl (fun u5 H => ?_);refine hK.out _ _ ?_ fun hHeld => ?_
     ·exact hS2 _ _ (3) H rfl rfl
     clear hK K;(try simp only [sX, Act.put]);refine wpC 10 fun K hK => ?_;refine putRes H 2 rfl rfl rfl (fun u6 H => ?_);refine hK.out _ _ ?_ fun hHeld => ?_
     ·exact hS2 _ _ (3) H rfl rfl
     clear hK K;(try simp only [sX, Act.put]);refine wpAnyH_done (by kernel_rfl) ?_ _;replace H := H.reord [0, 1, 2, 3, 4, 5, 6, 7, 8, 9] (n := 10) rfl (by decide);exact ⟨rfl, _, _, _, _, _, _, _, _, _, _, _, _, _, rfl, HL2.out, H⟩
  ·refine layVol H (fun gy2 u1 H => ?_)
   refine hK.out _ _ ?_ fun hHeld => ?_
   ·exact hS2 _ _ (1) H rfl rfl
   clear hK K;(try simp only [sX, Act.put]);refine wpAnyH_ready (rs := [2, 8]) (by kernel_rfl) (by simp) ?_;refine (AllReadyH.cons rfl (fun K hK => ?_) (AllReadyH.cons rfl (fun K hK => ?_) AllReadyH.nil))
   ·go_simp
    refine (toCall_any c0 c1 c2 c3 c4 c5 _).mono ?_;rintro e u2 ⟨rfl, f5⟩;replace H := H.go f5;clear f5;go_wp2_with fail;refine hK.out _ _ ?_ fun hHeld => ?_
    ·exact hS2 _ _ (1) H rfl rfl
    clear hK K;(try simp only [sX, Act.put]);refine wpAnyH_ready (rs := [3, 8]) (by kernel_rfl) (by simp) ?_;refine (AllReadyH.cons rfl (fun K hK => ?_) (AllReadyH.cons rfl (fun K hK => ?_) AllReadyH.nil))
    ·go_simp
     refine (VI H 2 rfl HLb).mono ?_;rintro e u3 ⟨A2, n2, q2, L2, rfl, HL2, H⟩;go_wp2_with fail;refine hK.out _ _ ?_ fun hHeld => ?_
     ·exact hS2 _ _ (2) H rfl rfl
     clear hK K;(try simp only [sX, Act.put]);refine wpT 4 ?_;refine wpT 5 ?_;refine wpT 6 ?_;refine wpC 8 fun K hK => ?_;refine layRes H (fun gr2 u4 H => ?_);refine hK.out _ _ ?_ fun hHeld => ?_
     ·exact hS2 _ _ (3) H rfl rfl
     clear hK K;(try simp only [sX, Act.put]);refine wpC 9 fun K hK => ?_;refine putVol H 2 rfl rfl rfl (fun u5 H => ?_);refine hK.out _ _ ?_ fun hHeld => ?_
     ·exact hS2 _ _ (3) H rfl rfl
     clear hK K;(try simp only [sX, Act.put]);refine wpC 10 fun K hK => ?_;refine putRes H 0 rfl rfl rfl (fun u6 H => ?_);refine hK.out _ _ ?_ fun hHeld => ?_
     ·exact hS2 _ _ (3) H rfl rfl
     clear hK K;(try simp only [sX, Act.put]);refine wpAnyH_done (by kernel_rfl) ?_ _;replace H := H.reord [1, 2, 0, 3, 4, 5, 6, 7, 8, 9] (n := 10) rfl (by decide);exact ⟨rfl, _, _, _, _, _, _, _, _, _, _, _, _, _, rfl, HL2.out, H⟩
    ·refine layRes H (fun gr2 u3 H => ?_)
     refine hK.out _ _ ?_ fun hHeld => ?_
     ·exact hS2 _ _ (2) H rfl rfl
     clear hK K;(try simp only [sX, Act.put]);refine wpC 3 fun K hK => ?_;go_simp;refine (VI H 3 rfl HLb).mono ?_;rintro e u4 ⟨A2, n2, q2, L2, rfl, HL2, H⟩;go_wp2_with fail;refine hK.out _ _ ?_ fun hHeld => ?_
     ·exact hS2 _ _ (3) H rfl rfl
     clear hK K;(try simp only [sX, Act.put]);refine wpT 4 ?_;refine wpT 5 ?_;refine wpT 6 ?_;refine wpC 9 fun K hK => ?_;refine putVol H 2 rfl rfl rfl (fun u5 H => ?_);refine hK.out _ _ ?_ fun hHeld => ?_
     ·exact hS2 _ _ (3) H rfl rfl
     clear hK K;(try simp only [sX, Act.put]);refine wpC 10 fun K hK => ?_;refine putRes H 1 rfl rfl rfl (fun u6 H => ?_);refine hK.out _ _ ?_ fun hHeld => ?_
     ·exact hS2 _ _ (3) H rfl rfl
     clear hK K;(try simp only [sX, Act.put]);refine wpAnyH_done (by kernel_rfl) ?_ _;replace H := H.reord [0, 2, 1, 3, 4, 5, 6, 7, 8, 9] (n := 10) rfl (by decide);exact ⟨rfl, _, _, _, _, _, _, _, _, _, _, _, _, _, rfl, HL2.out, H⟩
   ·refine layRes H (fun gr2 u2 H => ?_)
    refine hK.out _ _ ?_ fun hHeld => ?_
    ·exact hS2 _ _ (2) H rfl rfl
    clear hK K;(try simp only [sX, Act.put]);refine wpC 2 fun K hK => ?_;go_simp;refine (toCall_any c0 c1 c2 c3 c4 c5 _).mono ?_;rintro e u3 ⟨rfl, f5⟩;replace H := H.go f5;clear f5;go_wp2_with fail;refine hK.out _ _ ?_ fun hHeld => ?_
    ·exact hS2 _ _ (2) H rfl rfl
    clear hK K;(try simp only [sX, Act.put]);refine wpC 3 fun K hK => ?_;go_simp;refine (VI H 3 rfl HLb).mono ?_;rintro e u4 ⟨A2, n2, q2, L2, rfl, HL2, H⟩;go_wp2_with fail;refine hK.out _ _ ?_ fun hHeld => ?_
    ·exact hS2 _ _ (3) H rfl rfl
    clear hK K;(try simp only [sX, Act.put]);refine wpT 4 ?_;refine wpT 5 ?_;refine wpT 6 ?_;refine wpC 9 fun K hK => ?_;refine putVol H 2 rfl rfl rfl (fun u5 H => ?_);refine hK.out _ _ ?_ fun hHeld => ?_
    ·exact hS2 _ _ (3) H rfl rfl
    clear hK K;(try simp only [sX, Act.put]);refine wpC 10 fun K hK => ?_;refine putRes H 1 rfl rfl rfl (fun u6 H => ?_);refine hK.out _ _ ?_ fun hHeld => ?_
    ·exact hS2 _ _ (3) H rfl rfl
    clear hK K;(try simp only [sX, Act.put]);refine wpAnyH_done (by kernel_rfl) ?_ _;replace H := H.reord [0, 2, 1, 3, 4, 5, 6, 7, 8, 9] (n := 10) rfl (by decide);exact ⟨rfl, _, _, _, _, _, _, _, _, _, _, _, _, _, rfl, HL2.out, H⟩
  ·refine layRes H (fun gr2 u1 H => ?_)
   refine hK.out _ _ ?_ fun hHeld => ?_
   ·exact hS2 _ _ (1) H rfl rfl
   clear hK K;(try simp only [sX, Act.put]);refine wpAnyH_ready (rs := [2, 7]) (by kernel_rfl) (by simp) ?_;refine (AllReadyH.cons rfl (fun K hK => ?_) (AllReadyH.cons rfl (fun K hK => ?_) AllReadyH.nil))
   ·go_simp
    refine (toCall_any c0 c1 c2 c3 c4 c5 _).mono ?_;rintro e u2 ⟨rfl, f5⟩;replace H := H.go f5;clear f5;go_wp2_with fail;refine hK.out _ _ ?_ fun hHeld => ?_
    ·exact hS2 _ _ (1) H rfl rfl
    clear hK K;(try simp only [sX, Act.put]);refine wpAnyH_ready (rs := [3, 7]) (by kernel_rfl) (by simp) ?_;refine (AllReadyH.cons rfl (fun K hK => ?_) (AllReadyH.cons rfl (fun K hK => ?_) AllReadyH.nil))
    ·go_simp
     refine (VI H 2 rfl HLb).mono ?_;rintro e u3 ⟨A2, n2, q2, L2, rfl, HL2, H⟩;go_wp2_with fail;refine hK.out _ _ ?_ fun hHeld => ?_
     ·exact hS2 _ _ (2) H rfl rfl
     clear hK K;(try simp only [sX, Act.put]);refine wpT 4 ?_;refine wpT 5 ?_;refine wpT 6 ?_;refine wpC 7 fun K hK => ?_;refine layVol H (fun gy2 u4 H => ?_);refine hK.out _ _ ?_ fun hHeld => ?_
     ·exact hS2 _ _ (3) H rfl rfl
     clear hK K;(try simp only [sX, Act.put]);refine wpC 9 fun K hK => ?_;refine putVol H 0 rfl rfl rfl (fun u5 H => ?_);refine hK.out _ _ ?_ fun hHeld => ?_
     ·exact hS2 _ _ (3) H rfl rfl
     clear hK K;(try simp only [sX, Act.put]);refine wpC 10 fun K hK => ?_;refine putRes H 2 rfl rfl rfl (fun u6 H => ?_);refine hK.out _ _ ?_ fun hHeld => ?_
     ·exact hS2 _ _ (3) H rfl rfl
     clear hK K;(try simp only [sX, Act.put]);refine wpAnyH_done (by kernel_rfl) ?_ _;replace H := H.reord [1, 0, 2, 3, 4, 5, 6, 7, 8, 9] (n := 10) rfl (by decide);exact ⟨rfl, _, _, _, _, _, _, _, _, _, _, _, _, _, rfl, HL2.out, H⟩
    ·refine layVol H (fun gy2 u3 H => ?_)
     refine hK.out _ _ ?_ fun hHeld => ?_
     ·exact hS2 _ _ (2) H rfl rfl
     clear hK K;(try simp only [sX, Act.put]);refine wpC 3 fun K hK => ?_;go_simp;refine (VI H 3 rfl HLb).mono ?_;rintro e u4 ⟨A2, n2, q2, L2, rfl, HL2, H⟩;go_wp2_with fail;refine hK.out _ _ ?_ fun hHeld => ?_
     ·exact hS2 _ _ (3) H rfl rfl
     clear hK K;(try simp only [sX, Act.put]);refine wpT 4 ?_;refine wpT 5 ?_;refine wpT 6 ?_;refine wpC 9 fun K hK => ?_;refine putVol H 1 rfl rfl rfl (fun u5 H => ?_);refine hK.out _ _ ?_ fun hHeld => ?_
     ·exact hS2 _ _ (3) H rfl rfl
     clear hK K;(try simp only [sX, Act.put]);refine wpC 10 fun K hK => ?_;refine putRes H 2 rfl rfl rfl (fun u6 H => ?_);refine hK.out _ _ ?_ fun hHeld => ?_
     ·exact hS2 _ _ (3) H rfl rfl
     clear hK K;(try simp only [sX, Act.put]);refine wpAnyH_done (by kernel_rfl) ?_ _;replace H := H.reord [0, 1, 2, 3, 4, 5, 6, 7, 8, 9] (n := 10) rfl (by decide);exact ⟨rfl, _, _, _, _, _, _, _, _, _, _, _, _, _, rfl, HL2.out, H⟩
   ·refine layVol H (fun gy2 u2 H => ?_)
    refine hK.out _ _ ?_ fun hHeld => ?_
    ·exact hS2 _ _ (2) H rfl rfl
    clear hK K;(try simp only [sX, Act.put]);refine wpC 2 fun K hK => ?_;go_simp;refine (toCall_any c0 c1 c2 c3 c4 c5 _).mono ?_;rintro e u3 ⟨rfl, f5⟩;replace H := H.go f5;clear f5;go_wp2_with fail;refine hK.out _ _ ?_ fun hHeld => ?_
    ·exact hS2 _ _ (2) H rfl rfl
    clear hK K;(try simp only [sX, Act.put]);refine wpC 3 fun K hK => ?_;go_simp;refine (VI H 3 rfl HLb).mono ?_;rintro e u4 ⟨A2, n2, q2, L2, rfl, HL2, H⟩;go_wp2_with fail;refine hK.out _ _ ?_ fun hHeld => ?_
    ·exact hS2 _ _ (3) H rfl rfl
    clear hK K;(try simp only [sX, Act.put]);refine wpT 4 ?_;refine wpT 5 ?_;refine wpT 6 ?_;refine wpC 9 fun K hK => ?_;refine putVol H 1 rfl rfl rfl (fun u5 H => ?_);refine hK.out _ _ ?_ fun hHeld => ?_
    ·exact hS2 _ _ (3) H rfl rfl
    clear hK K;(try simp only [sX, Act.put]);refine wpC 10 fun K hK => ?_;refine putRes H 2 rfl rfl rfl (fun u6 H => ?_);refine hK.out _ _ ?_ fun hHeld => ?_
    ·exact hS2 _ _ (3) H rfl rfl
    clear hK K;(try simp only [sX, Act.put]);refine wpAnyH_done (by kernel_rfl) ?_ _;replace H := H.reord [0, 1, 2, 3, 4, 5, 6, 7, 8, 9] (n := 10) rfl (by decide);exact ⟨rfl, _, _, _, _, _, _, _, _, _, _, _, _, _, rfl, HL2.out, H⟩
 clear H;rintro a' w2 ⟨v37, v38, v39, v40, v36, v41, v42, gy2, gr2, A2, n2, q2, L2, rfl, hL, H⟩;simp only [List.getElem_toArray, List.getElem_cons_succ, List.getElem_cons_zero, Act.put, List.setIfInBounds_toArray, List.set_cons_zero, List.set_cons_succ];have HL2 := Lib.hid hL;clear hL;have hn2 : n2 ≤ 16 := by have h1 := (VRd.of H 0 rfl).1.len; have h2 : lx.length ≤ 16 := HFL.out; rw [← HL2.out, nodes_len] at h2; omega
 have HE2 := Lib.hid (show ∀ p ∈ L2, p.2.2.2.2.2.length ≤ 1048576 from fun p hp => by have h1 : p.2.2.2.2.2.length ≤ 12 := HF12.out p.2 (by show p.2 ∈ lx; rw [← HL2.out]; exact List.mem_map_of_mem hp); omega);have ya0 := H.fa 1 0 rfl rfl;have ya1 := H.fa 1 1 rfl rfl;have yb0 := H.fa 6 0 rfl rfl;have yb1 := H.fa 6 1 rfl rfl;go_wp2_with fail;refine (eqVol_yes nx A2 A1 n2 n1 q2 q1 L2 L1 _ (VRd.of H 0 rfl).1 (VRd.of H 5 rfl).1 (HL2.out.trans HL1.out.symm) (by omega) (by omega) HE2.out HE1.out).mono ?_;rintro e wc ⟨rfl, f5⟩;replace H := H.go f5;clear f5;clear ya0 ya1 yb0 yb1;have ra0 := H.fa 2 0 rfl rfl;have ra1 := H.fa 2 1 rfl rfl;have ra2 := H.fa 2 2 rfl rfl;have ra3 := H.fa 2 3 rfl rfl;have rb0 := H.fa 7 0 rfl rfl;have rb1 := H.fa 7 1 rfl rfl;have rb2 := H.fa 7 2 rfl rfl;have rb3 := H.fa 7 3 rfl rfl;go_wp2_with fail;refine ((show ∀ u, Calls Tryz.prog 15 #[.agg #[.int .i64 r0, .int .i64 r1, .string r2, .string r3], .agg #[.int .i64 r0, .int .i64 r1, .string r2, .string r3]] u (fun e u' => e = .returned (.bool true) ∧ Fr u u') from fun u => (eqResult_any (r0, r1, r2, r3) (r0, r1, r2, r3) u).mono fun e u' h => ⟨by rw [h.1]; simp, h.2⟩) _).mono ?_;rintro e wd ⟨rfl, f5⟩;replace H := H.go f5;clear f5;clear ra0 ra1 ra2 ra3 rb0 rb1 rb2 rb3;go_wp2_with fail;replace H := H.drew;have hv0 := H.fa 3 0 rfl rfl;have hv1 := H.fa 3 1 rfl rfl;have b0 := H.fa 9 0 rfl rfl;have b1 := H.fa 9 1 rfl rfl;refine wp_region_held_drew (S := fun w' => w'.cell? ⟨gv, 0, none⟩ = some (.int .i64 next) ∧ w'.cell? ⟨gv, 1, none⟩ = some (.slice (some ⟨gb, 0, none⟩) n n) ∧ w'.cell? ⟨w.heap.size, 0, none⟩ = some (.int .i64 next) ∧ w'.cell? ⟨w.heap.size, 1, none⟩ = some (.slice A n c)) (by kernel_rfl) ?_ (fun hHeld => ?_)
 ·exact ⟨hv0, hv1, b0, b1⟩
 obtain ⟨u0, hu0⟩ : ∃ uu : World, uu = wd.drew := ⟨_, rfl⟩;rw [← hu0] at H hHeld ⊢;clear hu0;refine wpT 0 ?_;refine wpT 1 ?_;refine wpC 2 fun K hK => ?_;go_simp;refine (TV H).mono ?_;rintro e u1 ⟨gc, Lc, rfl, HLc, H⟩;go_wp2_with fail;refine hK.out _ _ ?_ fun hHeld => ?_
 ·exact ⟨H.fa 4 0 rfl rfl, H.fa 4 1 rfl rfl, H.fa 10 0 rfl rfl, H.fa 10 1 rfl rfl⟩
 clear hK K;(try simp only [sX, Act.put]);refine wpC 3 fun K hK => ?_;go_simp;refine (eqVol_yes next (some ⟨gb, 0, none⟩) (some ⟨gc, 0, none⟩) n n n n Lb Lc _ (VRd.of H 5 rfl).1 (VRd.of H 0 rfl).1 (HLb.out.trans HLc.out.symm) hn hn (nodes_all (P := fun x => x.2.2.2.2.length ≤ 1048576) HLb.out HE.out) (nodes_all (P := fun x => x.2.2.2.2.length ≤ 1048576) HLc.out HE.out)).mono ?_;rintro e u2 ⟨rfl, f5⟩;replace H := H.go f5;clear f5;go_wp2_with fail;refine hK.out _ _ ?_ fun hHeld => ?_
 ·exact ⟨H.fa 4 0 rfl rfl, H.fa 4 1 rfl rfl, H.fa 10 0 rfl rfl, H.fa 10 1 rfl rfl⟩
 clear hK K;(try simp only [sX, Act.put]);refine wpT 4 ?_;refine wpAnyH_done (by kernel_rfl) ?_ _;clear hv0 hv1 b0 b1;replace H := H.tail;have HTB := Lib.hid (show totN Lb ≤ 60000000 by rw [totN_nodes HLb.out]; exact HTN.out);have HT2 := Lib.hid (show totN L2 ≤ 60000000 from totN_few (by rw [HL2.out]; exact HFL.out) (by rw [HL2.out]; exact HF12.out));have ya0 := H.fa 3 0 rfl rfl;have ya1 := H.fa 3 1 rfl rfl;go_wp2_with fail;refine ((markVol_any next (some ⟨gb, 0, none⟩) n n 1 Lb _ (H.ok _ (List.mem_of_getElem? (i := 4) rfl)) hn HTB.out (by omega))).mono ?_;rintro e we ⟨rfl, K⟩;replace H := H.turnMany 4 rfl K;clear K;clear ya0 ya1;obtain ⟨mk, hmk⟩ : ∃ z : Nat, z = 1 + totN Lb := ⟨_, rfl⟩;rw [← hmk];clear hmk;have hmk0 : ¬ (mk : Int) < 0 := by omega
 have ya0 := H.fa 1 0 rfl rfl;have ya1 := H.fa 1 1 rfl rfl;have yb0 := H.fa 6 0 rfl rfl;have yb1 := H.fa 6 1 rfl rfl;go_wp2_with fail;refine (eqVol_yes nx A2 A1 n2 n1 q2 q1 L2 L1 _ (VRd.of H 0 rfl).1 (VRd.of H 5 rfl).1 (HL2.out.trans HL1.out.symm) (by omega) (by omega) HE2.out HE1.out).mono ?_;rintro e wf ⟨rfl, f5⟩;replace H := H.go f5;clear f5;clear ya0 ya1 yb0 yb1;have ra0 := H.fa 2 0 rfl rfl;have ra1 := H.fa 2 1 rfl rfl;have ra2 := H.fa 2 2 rfl rfl;have ra3 := H.fa 2 3 rfl rfl;have rb0 := H.fa 7 0 rfl rfl;have rb1 := H.fa 7 1 rfl rfl;have rb2 := H.fa 7 2 rfl rfl;have rb3 := H.fa 7 3 rfl rfl;go_wp2_with fail;refine ((show ∀ u, Calls Tryz.prog 15 #[.agg #[.int .i64 r0, .int .i64 r1, .string r2, .string r3], .agg #[.int .i64 r0, .int .i64 r1, .string r2, .string r3]] u (fun e u' => e = .returned (.bool true) ∧ Fr u u') from fun u => (eqResult_any (r0, r1, r2, r3) (r0, r1, r2, r3) u).mono fun e u' h => ⟨by rw [h.1]; simp, h.2⟩) _).mono ?_;rintro e wg ⟨rfl, f5⟩;replace H := H.go f5;clear f5;clear ra0 ra1 ra2 ra3 rb0 rb1 rb2 rb3;have ya0 := H.fa 1 0 rfl rfl;have ya1 := H.fa 1 1 rfl rfl;go_wp2_with fail;refine ((markVol_any nx A2 n2 q2 1 L2 _ (H.ok _ (List.mem_of_getElem? (i := 0) rfl)) (by omega) HT2.out (by omega))).mono ?_;rintro e wh ⟨rfl, K⟩;replace H := H.turnMany 0 rfl K;clear K;clear ya0 ya1;obtain ⟨ml, hml⟩ : ∃ z : Nat, z = 1 + totN L2 := ⟨_, rfl⟩;rw [← hml];have HML := Lib.hid hml;clear hml;have hml0 : ¬ (ml : Int) < 0 := by omega
 have hmq : ((ml : Int) != (ml : Int)) = false := bne_self_eq_false _;have ya0 := H.fa 1 0 rfl rfl;have ya1 := H.fa 1 1 rfl rfl;go_wp2_with fail;refine (heldVol_any nx A2 n2 q2 1 L2 _ (obN_rd (L := marksN L2 1) (H.ok _ (List.mem_of_getElem? (i := 0) rfl)) rfl) (by omega) HT2.out (by omega)).mono ?_;rintro e wi ⟨rfl, f5⟩;replace H := H.go f5;clear f5;rw [← HML.out];clear ya0 ya1;go_wp2_with fail;replace H := H.drew;refine wp_joint (fun a a' w' => ∃ v87 v88 v89 v90 v91 v86 v92 v93 : Value, ∃ (gy3 gr3 : Nat) (A3 : Option Addr) (n3 q3 : Nat) (L3 : List (Value × Nod)), a' = ((((((((((a.put (some 87) v87).put (some 88) v88).put (some 89) v89).put (some 90) v90).put (some 91) v91).put (some 86) v86).put (some 92) v92).put (some 93) v93).put (some 14) (.pointer (some ⟨gy3, 0, none⟩))).put (some 15) (.pointer (some ⟨gr3, 0, none⟩))) ∧ nodes L3 = lx ∧ Hp [] w w' [obN (.slice A3 n3 q3) n3 L3, .blk gy3 31 [.int .i64 nx, .slice A3 n3 q3], .blk gr3 33 [.int .i64 r0, .int .i64 r1, .string r2, .string r3], obN (.slice A2 n2 q2) n2 (marksN L2 1), .blk gy2 31 [.int .i64 nx, .slice A2 n2 q2], .blk gr2 33 [.int .i64 r0, .int .i64 r1, .string r2, .string r3], .blk gv 31 [.int .i64 next, .slice (some ⟨gb, 0, none⟩) n n], obN (.slice (some ⟨gb, 0, none⟩) n n) n (marksN Lb 1), obN (.slice A1 n1 q1) n1 L1, .blk gy1 31 [.int .i64 nx, .slice A1 n1 q1], .blk gr1 33 [.int .i64 r0, .int .i64 r1, .string r2, .string r3], .blk (w.heap.size + 1) 26 [.int .i64 c0, .int .i64 c1, .string c2, .int .i64 c3, .string c4, .string c5], .blk w.heap.size 24 [.int .i64 next, .slice A n c]]) ?_ ?_
 ·skip
  refine wp_region_held_drew (S := fun w' => w'.cell? ⟨w.heap.size, 0, none⟩ = some (.int .i64 next) ∧ w'.cell? ⟨w.heap.size, 1, none⟩ = some (.slice A n c) ∧ w'.cell? ⟨w.heap.size + 1, 0, none⟩ = some (.int .i64 c0) ∧ w'.cell? ⟨w.heap.size + 1, 1, none⟩ = some (.int .i64 c1) ∧ w'.cell? ⟨w.heap.size + 1, 2, none⟩ = some (.string c2) ∧ w'.cell? ⟨w.heap.size + 1, 3, none⟩ = some (.int .i64 c3) ∧ w'.cell? ⟨w.heap.size + 1, 4, none⟩ = some (.string c4) ∧ w'.cell? ⟨w.heap.size + 1, 5, none⟩ = some (.string c5)) (by kernel_rfl) ?_ (fun hHeld => ?_)
  ·exact hS _ _ 8 H rfl rfl
  obtain ⟨u0, hu0⟩ : ∃ uu : World, uu = wi.drew := ⟨_, rfl⟩;rw [← hu0] at H hHeld ⊢;clear hu0;refine wpT 0 ?_;refine wpT 2 ?_;refine wpAnyH_ready (rs := [1, 8, 9]) (by kernel_rfl) (by simp) ?_;refine (AllReadyH.cons rfl (fun K hK => ?_) (AllReadyH.cons rfl (fun K hK => ?_) (AllReadyH.cons rfl (fun K hK => ?_) AllReadyH.nil)))
  ·go_simp
   refine (TV H).mono ?_;rintro e u1 ⟨gd, Ld, rfl, HLd, H⟩;go_wp2_with fail;refine hK.out _ _ ?_ fun hHeld => ?_
   ·exact hS _ _ (9) H rfl rfl
   clear hK K;(try simp only [sX, Act.put]);refine wpAnyH_ready (rs := [3, 8, 9]) (by kernel_rfl) (by simp) ?_;refine (AllReadyH.cons rfl (fun K hK => ?_) (AllReadyH.cons rfl (fun K hK => ?_) (AllReadyH.cons rfl (fun K hK => ?_) AllReadyH.nil)))
   ·go_simp
    refine (toCall_any c0 c1 c2 c3 c4 c5 _).mono ?_;rintro e u2 ⟨rfl, f5⟩;replace H := H.go f5;clear f5;go_wp2_with fail;refine hK.out _ _ ?_ fun hHeld => ?_
    ·exact hS _ _ (9) H rfl rfl
    clear hK K;(try simp only [sX, Act.put]);refine wpAnyH_ready (rs := [4, 8, 9]) (by kernel_rfl) (by simp) ?_;refine (AllReadyH.cons rfl (fun K hK => ?_) (AllReadyH.cons rfl (fun K hK => ?_) (AllReadyH.cons rfl (fun K hK => ?_) AllReadyH.nil)))
    ·go_simp
     refine (VI H 0 rfl HLd).mono ?_;rintro e u3 ⟨A3, n3, q3, L3, rfl, HL3, H⟩;go_wp2_with fail;refine hK.out _ _ ?_ fun hHeld => ?_
     ·exact hS _ _ (10) H rfl rfl
     clear hK K;(try simp only [sX, Act.put]);refine wpT 5 ?_;refine wpT 6 ?_;refine wpT 7 ?_;refine wpAnyH_ready (rs := [8, 9]) (by kernel_rfl) (by simp) ?_;refine (AllReadyH.cons rfl (fun K hK => ?_) (AllReadyH.cons rfl (fun K hK => ?_) AllReadyH.nil))
     ·refine layVol H (fun gy3 u4 H => ?_)
      refine hK.out _ _ ?_ fun hHeld => ?_
      ·exact hS _ _ (11) H rfl rfl
      clear hK K;(try simp only [sX, Act.put]);refine wpC 9 fun K hK => ?_;refine layRes H (fun gr3 u5 H => ?_);refine hK.out _ _ ?_ fun hHeld => ?_
      ·exact hS _ _ (12) H rfl rfl
      clear hK K;(try simp only [sX, Act.put]);refine wpC 10 fun K hK => ?_;refine putVol H 1 rfl rfl rfl (fun u6 H => ?_);refine hK.out _ _ ?_ fun hHeld => ?_
      ·exact hS _ _ (12) H rfl rfl
      clear hK K;(try simp only [sX, Act.put]);refine wpC 11 fun K hK => ?_;refine putRes H 0 rfl rfl rfl (fun u7 H => ?_);refine hK.out _ _ ?_ fun hHeld => ?_
      ·exact hS _ _ (12) H rfl rfl
      clear hK K;(try simp only [sX, Act.put]);refine wpAnyH_done (by kernel_rfl) ?_ _;replace H := H.reord [3, 2, 1, 0, 4, 5, 6, 7, 8, 9, 10, 11, 12, 13] (n := 14) rfl (by decide);exact ⟨rfl, _, _, _, _, _, _, _, _, _, _, _, _, _, _, rfl, HL3.out, H.tail⟩
     ·refine layRes H (fun gr3 u4 H => ?_)
      refine hK.out _ _ ?_ fun hHeld => ?_
      ·exact hS _ _ (11) H rfl rfl
      clear hK K;(try simp only [sX, Act.put]);refine wpC 8 fun K hK => ?_;refine layVol H (fun gy3 u5 H => ?_);refine hK.out _ _ ?_ fun hHeld => ?_
      ·exact hS _ _ (12) H rfl rfl
      clear hK K;(try simp only [sX, Act.put]);refine wpC 10 fun K hK => ?_;refine putVol H 0 rfl rfl rfl (fun u6 H => ?_);refine hK.out _ _ ?_ fun hHeld => ?_
      ·exact hS _ _ (12) H rfl rfl
      clear hK K;(try simp only [sX, Act.put]);refine wpC 11 fun K hK => ?_;refine putRes H 1 rfl rfl rfl (fun u7 H => ?_);refine hK.out _ _ ?_ fun hHeld => ?_
      ·exact hS _ _ (12) H rfl rfl
      clear hK K;(try simp only [sX, Act.put]);refine wpAnyH_done (by kernel_rfl) ?_ _;replace H := H.reord [3, 2, 0, 1, 4, 5, 6, 7, 8, 9, 10, 11, 12, 13] (n := 14) rfl (by decide);exact ⟨rfl, _, _, _, _, _, _, _, _, _, _, _, _, _, _, rfl, HL3.out, H.tail⟩
    ·refine layVol H (fun gy3 u3 H => ?_)
     refine hK.out _ _ ?_ fun hHeld => ?_
     ·exact hS _ _ (10) H rfl rfl
     clear hK K;(try simp only [sX, Act.put]);refine wpAnyH_ready (rs := [4, 9]) (by kernel_rfl) (by simp) ?_;refine (AllReadyH.cons rfl (fun K hK => ?_) (AllReadyH.cons rfl (fun K hK => ?_) AllReadyH.nil))
     ·go_simp
      refine (VI H 1 rfl HLd).mono ?_;rintro e u4 ⟨A3, n3, q3, L3, rfl, HL3, H⟩;go_wp2_with fail;refine hK.out _ _ ?_ fun hHeld => ?_
      ·exact hS _ _ (11) H rfl rfl
      clear hK K;(try simp only [sX, Act.put]);refine wpT 5 ?_;refine wpT 6 ?_;refine wpT 7 ?_;refine wpC 9 fun K hK => ?_;refine layRes H (fun gr3 u5 H => ?_);refine hK.out _ _ ?_ fun hHeld => ?_
      ·exact hS _ _ (12) H rfl rfl
      clear hK K;(try simp only [sX, Act.put]);refine wpC 10 fun K hK => ?_;refine putVol H 2 rfl rfl rfl (fun u6 H => ?_);refine hK.out _ _ ?_ fun hHeld => ?_
      ·exact hS _ _ (12) H rfl rfl
      clear hK K;(try simp only [sX, Act.put]);refine wpC 11 fun K hK => ?_;refine putRes H 0 rfl rfl rfl (fun u7 H => ?_);refine hK.out _ _ ?_ fun hHeld => ?_
      ·exact hS _ _ (12) H rfl rfl
      clear hK K;(try simp only [sX, Act.put]);refine wpAnyH_done (by kernel_rfl) ?_ _;replace H := H.reord [3, 1, 2, 0, 4, 5, 6, 7, 8, 9, 10, 11, 12, 13] (n := 14) rfl (by decide);exact ⟨rfl, _, _, _, _, _, _, _, _, _, _, _, _, _, _, rfl, HL3.out, H.tail⟩
     ·refine layRes H (fun gr3 u4 H => ?_)
      refine hK.out _ _ ?_ fun hHeld => ?_
      ·exact hS _ _ (11) H rfl rfl
      clear hK K;(try simp only [sX, Act.put]);refine wpC 4 fun K hK => ?_;go_simp;refine (VI H 2 rfl HLd).mono ?_;rintro e u5 ⟨A3, n3, q3, L3, rfl, HL3, H⟩;go_wp2_with fail;refine hK.out _ _ ?_ fun hHeld => ?_
      ·exact hS _ _ (12) H rfl rfl
      clear hK K;(try simp only [sX, Act.put]);refine wpT 5 ?_;refine wpT 6 ?_;refine wpT 7 ?_;refine wpC 10 fun K hK => ?_;refine putVol H 2 rfl rfl rfl (fun u6 H => ?_);refine hK.out _ _ ?_ fun hHeld => ?_
      ·exact hS _ _ (12) H rfl rfl
      clear hK K;(try simp only [sX, Act.put]);refine wpC 11 fun K hK => ?_;refine putRes H 1 rfl rfl rfl (fun u7 H => ?_);refine hK.out _ _ ?_ fun hHeld => ?_
      ·exact hS _ _ (12) H rfl rfl
      clear hK K;(try simp only [sX, Act.put]);refine wpAnyH_done (by kernel_rfl) ?_ _;replace H := H.reord [3, 0, 2, 1, 4, 5, 6, 7, 8, 9, 10, 11, 12, 13] (n := 14) rfl (by decide);exact ⟨rfl, _, _, _, _, _, _, _, _, _, _, _, _, _, _, rfl, HL3.out, H.tail⟩
    ·refine layRes H (fun gr3 u3 H => ?_)
     refine hK.out _ _ ?_ fun hHeld => ?_
     ·exact hS _ _ (10) H rfl rfl
     clear hK K;(try simp only [sX, Act.put]);refine wpAnyH_ready (rs := [4, 8]) (by kernel_rfl) (by simp) ?_;refine (AllReadyH.cons rfl (fun K hK => ?_) (AllReadyH.cons rfl (fun K hK => ?_) AllReadyH.nil))
     ·go_simp
      refine (VI H 1 rfl HLd).mono ?_;rintro e u4 ⟨A3, n3, q3, L3, rfl, HL3, H⟩;go_wp2_with fail;refine hK.out _ _ ?_ fun hHeld => ?_
      ·exact hS _ _ (11) H rfl rfl
      clear hK K;(try simp only [sX, Act.put]);refine wpT 5 ?_;refine wpT 6 ?_;refine wpT 7 ?_;refine wpC 8 fun K hK => ?_;refine layVol H (fun gy3 u5 H => ?_);refine hK.out _ _ ?_ fun hHeld => ?_
      ·exact hS _ _ (12) H rfl rfl
      clear hK K;(try simp only [sX, Act.put]);refine wpC 10 fun K hK => ?_;refine putVol H 0 rfl rfl rfl (fun u6 H => ?_);refine hK.out _ _ ?_ fun hHeld => ?_
      ·exact hS _ _ (12) H rfl rfl
      clear hK K;(try simp only [sX, Act.put]);refine wpC 11 fun K hK => ?_;refine putRes H 2 rfl rfl rfl (fun u7 H => ?_);refine hK.out _ _ ?_ fun hHeld => ?_
      ·exact hS _ _ (12) H rfl rfl
      clear hK K;(try simp only [sX, Act.put]);refine wpAnyH_done (by kernel_rfl) ?_ _;replace H := H.reord [3, 1, 0, 2, 4, 5, 6, 7, 8, 9, 10, 11, 12, 13] (n := 14) rfl (by decide);exact ⟨rfl, _, _, _, _, _, _, _, _, _, _, _, _, _, _, rfl, HL3.out, H.tail⟩
     ·refine layVol H (fun gy3 u4 H => ?_)
      refine hK.out _ _ ?_ fun hHeld => ?_
      ·exact hS _ _ (11) H rfl rfl
      clear hK K;(try simp only [sX, Act.put]);refine wpC 4 fun K hK => ?_;go_simp;refine (VI H 2 rfl HLd).mono ?_;rintro e u5 ⟨A3, n3, q3, L3, rfl, HL3, H⟩;go_wp2_with fail;refine hK.out _ _ ?_ fun hHeld => ?_
      ·exact hS _ _ (12) H rfl rfl
      clear hK K;(try simp only [sX, Act.put]);refine wpT 5 ?_;refine wpT 6 ?_;refine wpT 7 ?_;refine wpC 10 fun K hK => ?_;refine putVol H 1 rfl rfl rfl (fun u6 H => ?_);refine hK.out _ _ ?_ fun hHeld => ?_
      ·exact hS _ _ (12) H rfl rfl
      clear hK K;(try simp only [sX, Act.put]);refine wpC 11 fun K hK => ?_;refine putRes H 2 rfl rfl rfl (fun u7 H => ?_);refine hK.out _ _ ?_ fun hHeld => ?_
      ·exact hS _ _ (12) H rfl rfl
      clear hK K;(try simp only [sX, Act.put]);refine wpAnyH_done (by kernel_rfl) ?_ _;replace H := H.reord [3, 0, 1, 2, 4, 5, 6, 7, 8, 9, 10, 11, 12, 13] (n := 14) rfl (by decide);exact ⟨rfl, _, _, _, _, _, _, _, _, _, _, _, _, _, _, rfl, HL3.out, H.tail⟩
   ·refine layVol H (fun gy3 u2 H => ?_)
    refine hK.out _ _ ?_ fun hHeld => ?_
    ·exact hS _ _ (10) H rfl rfl
    clear hK K;(try simp only [sX, Act.put]);refine wpAnyH_ready (rs := [3, 9]) (by kernel_rfl) (by simp) ?_;refine (AllReadyH.cons rfl (fun K hK => ?_) (AllReadyH.cons rfl (fun K hK => ?_) AllReadyH.nil))
    ·go_simp
     refine (toCall_any c0 c1 c2 c3 c4 c5 _).mono ?_;rintro e u3 ⟨rfl, f5⟩;replace H := H.go f5;clear f5;go_wp2_with fail;refine hK.out _ _ ?_ fun hHeld => ?_
     ·exact hS _ _ (10) H rfl rfl
     clear hK K;(try simp only [sX, Act.put]);refine wpAnyH_ready (rs := [4, 9]) (by kernel_rfl) (by simp) ?_;refine (AllReadyH.cons rfl (fun K hK => ?_) (AllReadyH.cons rfl (fun K hK => ?_) AllReadyH.nil))
     ·go_simp
      refine (VI H 1 rfl HLd).mono ?_;rintro e u4 ⟨A3, n3, q3, L3, rfl, HL3, H⟩;go_wp2_with fail;refine hK.out _ _ ?_ fun hHeld => ?_
      ·exact hS _ _ (11) H rfl rfl
      clear hK K;(try simp only [sX, Act.put]);refine wpT 5 ?_;refine wpT 6 ?_;refine wpT 7 ?_;refine wpC 9 fun K hK => ?_;refine layRes H (fun gr3 u5 H => ?_);refine hK.out _ _ ?_ fun hHeld => ?_
      ·exact hS _ _ (12) H rfl rfl
      clear hK K;(try simp only [sX, Act.put]);refine wpC 10 fun K hK => ?_;refine putVol H 2 rfl rfl rfl (fun u6 H => ?_);refine hK.out _ _ ?_ fun hHeld => ?_
      ·exact hS _ _ (12) H rfl rfl
      clear hK K;(try simp only [sX, Act.put]);refine wpC 11 fun K hK => ?_;refine putRes H 0 rfl rfl rfl (fun u7 H => ?_);refine hK.out _ _ ?_ fun hHeld => ?_
      ·exact hS _ _ (12) H rfl rfl
      clear hK K;(try simp only [sX, Act.put]);refine wpAnyH_done (by kernel_rfl) ?_ _;replace H := H.reord [3, 1, 2, 0, 4, 5, 6, 7, 8, 9, 10, 11, 12, 13] (n := 14) rfl (by decide);exact ⟨rfl, _, _, _, _, _, _, _, _, _, _, _, _, _, _, rfl, HL3.out, H.tail⟩
     ·refine layRes H (fun gr3 u4 H => ?_)
      refine hK.out _ _ ?_ fun hHeld => ?_
      ·exact hS _ _ (11) H rfl rfl
      clear hK K;(try simp only [sX, Act.put]);refine wpC 4 fun K hK => ?_;go_simp;refine (VI H 2 rfl HLd).mono ?_;rintro e u5 ⟨A3, n3, q3, L3, rfl, HL3, H⟩;go_wp2_with fail;refine hK.out _ _ ?_ fun hHeld => ?_
      ·exact hS _ _ (12) H rfl rfl
      clear hK K;(try simp only [sX, Act.put]);refine wpT 5 ?_;refine wpT 6 ?_;refine wpT 7 ?_;refine wpC 10 fun K hK => ?_;refine putVol H 2 rfl rfl rfl (fun u6 H => ?_);refine hK.out _ _ ?_ fun hHeld => ?_
      ·exact hS _ _ (12) H rfl rfl
      clear hK K;(try simp only [sX, Act.put]);refine wpC 11 fun K hK => ?_;refine putRes H 1 rfl rfl rfl (fun u7 H => ?_);refine hK.out _ _ ?_ fun hHeld => ?_
      ·exact hS _ _ (12) H rfl rfl
      clear hK K;(try simp only [sX, Act.put]);refine wpAnyH_done (by kernel_rfl) ?_ _;replace H := H.reord [3, 0, 2, 1, 4, 5, 6, 7, 8, 9, 10, 11, 12, 13] (n := 14) rfl (by decide);exact ⟨rfl, _, _, _, _, _, _, _, _, _, _, _, _, _, _, rfl, HL3.out, H.tail⟩
    ·refine layRes H (fun gr3 u3 H => ?_)
     refine hK.out _ _ ?_ fun hHeld => ?_
     ·exact hS _ _ (11) H rfl rfl
     clear hK K;(try simp only [sX, Act.put]);refine wpC 3 fun K hK => ?_;go_simp;refine (toCall_any c0 c1 c2 c3 c4 c5 _).mono ?_;rintro e u4 ⟨rfl, f5⟩;replace H := H.go f5;clear f5;go_wp2_with fail;refine hK.out _ _ ?_ fun hHeld => ?_
     ·exact hS _ _ (11) H rfl rfl
     clear hK K;(try simp only [sX, Act.put]);refine wpC 4 fun K hK => ?_;go_simp;refine (VI H 2 rfl HLd).mono ?_;rintro e u5 ⟨A3, n3, q3, L3, rfl, HL3, H⟩;go_wp2_with fail;refine hK.out _ _ ?_ fun hHeld => ?_
     ·exact hS _ _ (12) H rfl rfl
     clear hK K;(try simp only [sX, Act.put]);refine wpT 5 ?_;refine wpT 6 ?_;refine wpT 7 ?_;refine wpC 10 fun K hK => ?_;refine putVol H 2 rfl rfl rfl (fun u6 H => ?_);refine hK.out _ _ ?_ fun hHeld => ?_
     ·exact hS _ _ (12) H rfl rfl
     clear hK K;(try simp only [sX, Act.put]);refine wpC 11 fun K hK => ?_;refine putRes H 1 rfl rfl rfl (fun u7 H => ?_);refine hK.out _ _ ?_ fun hHeld => ?_
     ·exact hS _ _ (12) H rfl rfl
     clear hK K;(try simp only [sX, Act.put]);refine wpAnyH_done (by kernel_rfl) ?_ _;replace H := H.reord [3, 0, 2, 1, 4, 5, 6, 7, 8, 9, 10, 11, 12, 13] (n := 14) rfl (by decide);exact ⟨rfl, _, _, _, _, _, _, _, _, _, _, _, _, _, _, rfl, HL3.out, H.tail⟩
   ·refine layRes H (fun gr3 u2 H => ?_)
    refine hK.out _ _ ?_ fun hHeld => ?_
    ·exact hS _ _ (10) H rfl rfl
    clear hK K;(try simp only [sX, Act.put]);refine wpAnyH_ready (rs := [3, 8]) (by kernel_rfl) (by simp) ?_;refine (AllReadyH.cons rfl (fun K hK => ?_) (AllReadyH.cons rfl (fun K hK => ?_) AllReadyH.nil))
    ·go_simp
     refine (toCall_any c0 c1 c2 c3 c4 c5 _).mono ?_;rintro e u3 ⟨rfl, f5⟩;replace H := H.go f5;clear f5;go_wp2_with fail;refine hK.out _ _ ?_ fun hHeld => ?_
     ·exact hS _ _ (10) H rfl rfl
     clear hK K;(try simp only [sX, Act.put]);refine wpAnyH_ready (rs := [4, 8]) (by kernel_rfl) (by simp) ?_;refine (AllReadyH.cons rfl (fun K hK => ?_) (AllReadyH.cons rfl (fun K hK => ?_) AllReadyH.nil))
     ·go_simp
      refine (VI H 1 rfl HLd).mono ?_;rintro e u4 ⟨A3, n3, q3, L3, rfl, HL3, H⟩;go_wp2_with fail;refine hK.out _ _ ?_ fun hHeld => ?_
      ·exact hS _ _ (11) H rfl rfl
      clear hK K;(try simp only [sX, Act.put]);refine wpT 5 ?_;refine wpT 6 ?_;refine wpT 7 ?_;refine wpC 8 fun K hK => ?_;refine layVol H (fun gy3 u5 H => ?_);refine hK.out _ _ ?_ fun hHeld => ?_
      ·exact hS _ _ (12) H rfl rfl
      clear hK K;(try simp only [sX, Act.put]);refine wpC 10 fun K hK => ?_;refine putVol H 0 rfl rfl rfl (fun u6 H => ?_);refine hK.out _ _ ?_ fun hHeld => ?_
      ·exact hS _ _ (12) H rfl rfl
      clear hK K;(try simp only [sX, Act.put]);refine wpC 11 fun K hK => ?_;refine putRes H 2 rfl rfl rfl (fun u7 H => ?_);refine hK.out _ _ ?_ fun hHeld => ?_
      ·exact hS _ _ (12) H rfl rfl
      clear hK K;(try simp only [sX, Act.put]);refine wpAnyH_done (by kernel_rfl) ?_ _;replace H := H.reord [3, 1, 0, 2, 4, 5, 6, 7, 8, 9, 10, 11, 12, 13] (n := 14) rfl (by decide);exact ⟨rfl, _, _, _, _, _, _, _, _, _, _, _, _, _, _, rfl, HL3.out, H.tail⟩
     ·refine layVol H (fun gy3 u4 H => ?_)
      refine hK.out _ _ ?_ fun hHeld => ?_
      ·exact hS _ _ (11) H rfl rfl
      clear hK K;(try simp only [sX, Act.put]);refine wpC 4 fun K hK => ?_;go_simp;refine (VI H 2 rfl HLd).mono ?_;rintro e u5 ⟨A3, n3, q3, L3, rfl, HL3, H⟩;go_wp2_with fail;refine hK.out _ _ ?_ fun hHeld => ?_
      ·exact hS _ _ (12) H rfl rfl
      clear hK K;(try simp only [sX, Act.put]);refine wpT 5 ?_;refine wpT 6 ?_;refine wpT 7 ?_;refine wpC 10 fun K hK => ?_;refine putVol H 1 rfl rfl rfl (fun u6 H => ?_);refine hK.out _ _ ?_ fun hHeld => ?_
      ·exact hS _ _ (12) H rfl rfl
      clear hK K;(try simp only [sX, Act.put]);refine wpC 11 fun K hK => ?_;refine putRes H 2 rfl rfl rfl (fun u7 H => ?_);refine hK.out _ _ ?_ fun hHeld => ?_
      ·exact hS _ _ (12) H rfl rfl
      clear hK K;(try simp only [sX, Act.put]);refine wpAnyH_done (by kernel_rfl) ?_ _;replace H := H.reord [3, 0, 1, 2, 4, 5, 6, 7, 8, 9, 10, 11, 12, 13] (n := 14) rfl (by decide);exact ⟨rfl, _, _, _, _, _, _, _, _, _, _, _, _, _, _, rfl, HL3.out, H.tail⟩
    ·refine layVol H (fun gy3 u3 H => ?_)
     refine hK.out _ _ ?_ fun hHeld => ?_
     ·exact hS _ _ (11) H rfl rfl
     clear hK K;(try simp only [sX, Act.put]);refine wpC 3 fun K hK => ?_;go_simp;refine (toCall_any c0 c1 c2 c3 c4 c5 _).mono ?_;rintro e u4 ⟨rfl, f5⟩;replace H := H.go f5;clear f5;go_wp2_with fail;refine hK.out _ _ ?_ fun hHeld => ?_
     ·exact hS _ _ (11) H rfl rfl
     clear hK K;(try simp only [sX, Act.put]);refine wpC 4 fun K hK => ?_;go_simp;refine (VI H 2 rfl HLd).mono ?_;rintro e u5 ⟨A3, n3, q3, L3, rfl, HL3, H⟩;go_wp2_with fail;refine hK.out _ _ ?_ fun hHeld => ?_
     ·exact hS _ _ (12) H rfl rfl
     clear hK K;(try simp only [sX, Act.put]);refine wpT 5 ?_;refine wpT 6 ?_;refine wpT 7 ?_;refine wpC 10 fun K hK => ?_;refine putVol H 1 rfl rfl rfl (fun u6 H => ?_);refine hK.out _ _ ?_ fun hHeld => ?_
     ·exact hS _ _ (12) H rfl rfl
     clear hK K;(try simp only [sX, Act.put]);refine wpC 11 fun K hK => ?_;refine putRes H 2 rfl rfl rfl (fun u7 H => ?_);refine hK.out _ _ ?_ fun hHeld => ?_
     ·exact hS _ _ (12) H rfl rfl
     clear hK K;(try simp only [sX, Act.put]);refine wpAnyH_done (by kernel_rfl) ?_ _;replace H := H.reord [3, 0, 1, 2, 4, 5, 6, 7, 8, 9, 10, 11, 12, 13] (n := 14) rfl (by decide);exact ⟨rfl, _, _, _, _, _, _, _, _, _, _, _, _, _, _, rfl, HL3.out, H.tail⟩
  ·refine layVol H (fun gy3 u1 H => ?_)
   refine hK.out _ _ ?_ fun hHeld => ?_
   ·exact hS _ _ (9) H rfl rfl
   clear hK K;(try simp only [sX, Act.put]);refine wpAnyH_ready (rs := [1, 9]) (by kernel_rfl) (by simp) ?_;refine (AllReadyH.cons rfl (fun K hK => ?_) (AllReadyH.cons rfl (fun K hK => ?_) AllReadyH.nil))
   ·go_simp
    refine (TV H).mono ?_;rintro e u2 ⟨gd, Ld, rfl, HLd, H⟩;go_wp2_with fail;refine hK.out _ _ ?_ fun hHeld => ?_
    ·exact hS _ _ (10) H rfl rfl
    clear hK K;(try simp only [sX, Act.put]);refine wpAnyH_ready (rs := [3, 9]) (by kernel_rfl) (by simp) ?_;refine (AllReadyH.cons rfl (fun K hK => ?_) (AllReadyH.cons rfl (fun K hK => ?_) AllReadyH.nil))
    ·go_simp
     refine (toCall_any c0 c1 c2 c3 c4 c5 _).mono ?_;rintro e u3 ⟨rfl, f5⟩;replace H := H.go f5;clear f5;go_wp2_with fail;refine hK.out _ _ ?_ fun hHeld => ?_
     ·exact hS _ _ (10) H rfl rfl
     clear hK K;(try simp only [sX, Act.put]);refine wpAnyH_ready (rs := [4, 9]) (by kernel_rfl) (by simp) ?_;refine (AllReadyH.cons rfl (fun K hK => ?_) (AllReadyH.cons rfl (fun K hK => ?_) AllReadyH.nil))
     ·go_simp
      refine (VI H 0 rfl HLd).mono ?_;rintro e u4 ⟨A3, n3, q3, L3, rfl, HL3, H⟩;go_wp2_with fail;refine hK.out _ _ ?_ fun hHeld => ?_
      ·exact hS _ _ (11) H rfl rfl
      clear hK K;(try simp only [sX, Act.put]);refine wpT 5 ?_;refine wpT 6 ?_;refine wpT 7 ?_;refine wpC 9 fun K hK => ?_;refine layRes H (fun gr3 u5 H => ?_);refine hK.out _ _ ?_ fun hHeld => ?_
      ·exact hS _ _ (12) H rfl rfl
      clear hK K;(try simp only [sX, Act.put]);refine wpC 10 fun K hK => ?_;refine putVol H 3 rfl rfl rfl (fun u6 H => ?_);refine hK.out _ _ ?_ fun hHeld => ?_
      ·exact hS _ _ (12) H rfl rfl
      clear hK K;(try simp only [sX, Act.put]);refine wpC 11 fun K hK => ?_;refine putRes H 0 rfl rfl rfl (fun u7 H => ?_);refine hK.out _ _ ?_ fun hHeld => ?_
      ·exact hS _ _ (12) H rfl rfl
      clear hK K;(try simp only [sX, Act.put]);refine wpAnyH_done (by kernel_rfl) ?_ _;replace H := H.reord [2, 1, 3, 0, 4, 5, 6, 7, 8, 9, 10, 11, 12, 13] (n := 14) rfl (by decide);exact ⟨rfl, _, _, _, _, _, _, _, _, _, _, _, _, _, _, rfl, HL3.out, H.tail⟩
     ·refine layRes H (fun gr3 u4 H => ?_)
      refine hK.out _ _ ?_ fun hHeld => ?_
      ·exact hS _ _ (11) H rfl rfl
      clear hK K;(try simp only [sX, Act.put]);refine wpC 4 fun K hK => ?_;go_simp;refine (VI H 1 rfl HLd).mono ?_;rintro e u5 ⟨A3, n3, q3, L3, rfl, HL3, H⟩;go_wp2_with fail;refine hK.out _ _ ?_ fun hHeld => ?_
      ·exact hS _ _ (12) H rfl rfl
      clear hK K;(try simp only [sX, Act.put]);refine wpT 5 ?_;refine wpT 6 ?_;refine wpT 7 ?_;refine wpC 10 fun K hK => ?_;refine putVol H 3 rfl rfl rfl (fun u6 H => ?_);refine hK.out _ _ ?_ fun hHeld => ?_
      ·exact hS _ _ (12) H rfl rfl
      clear hK K;(try simp only [sX, Act.put]);refine wpC 11 fun K hK => ?_;refine putRes H 1 rfl rfl rfl (fun u7 H => ?_);refine hK.out _ _ ?_ fun hHeld => ?_
      ·exact hS _ _ (12) H rfl rfl
      clear hK K;(try simp only [sX, Act.put]);refine wpAnyH_done (by kernel_rfl) ?_ _;replace H := H.reord [2, 0, 3, 1, 4, 5, 6, 7, 8, 9, 10, 11, 12, 13] (n := 14) rfl (by decide);exact ⟨rfl, _, _, _, _, _, _, _, _, _, _, _, _, _, _, rfl, HL3.out, H.tail⟩
    ·refine layRes H (fun gr3 u3 H => ?_)
     refine hK.out _ _ ?_ fun hHeld => ?_
     ·exact hS _ _ (11) H rfl rfl
     clear hK K;(try simp only [sX, Act.put]);refine wpC 3 fun K hK => ?_;go_simp;refine (toCall_any c0 c1 c2 c3 c4 c5 _).mono ?_;rintro e u4 ⟨rfl, f5⟩;replace H := H.go f5;clear f5;go_wp2_with fail;refine hK.out _ _ ?_ fun hHeld => ?_
     ·exact hS _ _ (11) H rfl rfl
     clear hK K;(try simp only [sX, Act.put]);refine wpC 4 fun K hK => ?_;go_simp;refine (VI H 1 rfl HLd).mono ?_;rintro e u5 ⟨A3, n3, q3, L3, rfl, HL3, H⟩;go_wp2_with fail;refine hK.out _ _ ?_ fun hHeld => ?_
     ·exact hS _ _ (12) H rfl rfl
     clear hK K;(try simp only [sX, Act.put]);refine wpT 5 ?_;refine wpT 6 ?_;refine wpT 7 ?_;refine wpC 10 fun K hK => ?_;refine putVol H 3 rfl rfl rfl (fun u6 H => ?_);refine hK.out _ _ ?_ fun hHeld => ?_
     ·exact hS _ _ (12) H rfl rfl
     clear hK K;(try simp only [sX, Act.put]);refine wpC 11 fun K hK => ?_;refine putRes H 1 rfl rfl rfl (fun u7 H => ?_);refine hK.out _ _ ?_ fun hHeld => ?_
     ·exact hS _ _ (12) H rfl rfl
     clear hK K;(try simp only [sX, Act.put]);refine wpAnyH_done (by kernel_rfl) ?_ _;replace H := H.reord [2, 0, 3, 1, 4, 5, 6, 7, 8, 9, 10, 11, 12, 13] (n := 14) rfl (by decide);exact ⟨rfl, _, _, _, _, _, _, _, _, _, _, _, _, _, _, rfl, HL3.out, H.tail⟩
   ·refine layRes H (fun gr3 u2 H => ?_)
    refine hK.out _ _ ?_ fun hHeld => ?_
    ·exact hS _ _ (10) H rfl rfl
    clear hK K;(try simp only [sX, Act.put]);refine wpC 1 fun K hK => ?_;go_simp;refine (TV H).mono ?_;rintro e u3 ⟨gd, Ld, rfl, HLd, H⟩;go_wp2_with fail;refine hK.out _ _ ?_ fun hHeld => ?_
    ·exact hS _ _ (11) H rfl rfl
    clear hK K;(try simp only [sX, Act.put]);refine wpC 3 fun K hK => ?_;go_simp;refine (toCall_any c0 c1 c2 c3 c4 c5 _).mono ?_;rintro e u4 ⟨rfl, f5⟩;replace H := H.go f5;clear f5;go_wp2_with fail;refine hK.out _ _ ?_ fun hHeld => ?_
    ·exact hS _ _ (11) H rfl rfl
    clear hK K;(try simp only [sX, Act.put]);refine wpC 4 fun K hK => ?_;go_simp;refine (VI H 0 rfl HLd).mono ?_;rintro e u5 ⟨A3, n3, q3, L3, rfl, HL3, H⟩;go_wp2_with fail;refine hK.out _ _ ?_ fun hHeld => ?_
    ·exact hS _ _ (12) H rfl rfl
    clear hK K;(try simp only [sX, Act.put]);refine wpT 5 ?_;refine wpT 6 ?_;refine wpT 7 ?_;refine wpC 10 fun K hK => ?_;refine putVol H 3 rfl rfl rfl (fun u6 H => ?_);refine hK.out _ _ ?_ fun hHeld => ?_
    ·exact hS _ _ (12) H rfl rfl
    clear hK K;(try simp only [sX, Act.put]);refine wpC 11 fun K hK => ?_;refine putRes H 2 rfl rfl rfl (fun u7 H => ?_);refine hK.out _ _ ?_ fun hHeld => ?_
    ·exact hS _ _ (12) H rfl rfl
    clear hK K;(try simp only [sX, Act.put]);refine wpAnyH_done (by kernel_rfl) ?_ _;replace H := H.reord [1, 0, 3, 2, 4, 5, 6, 7, 8, 9, 10, 11, 12, 13] (n := 14) rfl (by decide);exact ⟨rfl, _, _, _, _, _, _, _, _, _, _, _, _, _, _, rfl, HL3.out, H.tail⟩
  ·refine layRes H (fun gr3 u1 H => ?_)
   refine hK.out _ _ ?_ fun hHeld => ?_
   ·exact hS _ _ (9) H rfl rfl
   clear hK K;(try simp only [sX, Act.put]);refine wpAnyH_ready (rs := [1, 8]) (by kernel_rfl) (by simp) ?_;refine (AllReadyH.cons rfl (fun K hK => ?_) (AllReadyH.cons rfl (fun K hK => ?_) AllReadyH.nil))
   ·go_simp
    refine (TV H).mono ?_;rintro e u2 ⟨gd, Ld, rfl, HLd, H⟩;go_wp2_with fail;refine hK.out _ _ ?_ fun hHeld => ?_
    ·exact hS _ _ (10) H rfl rfl
    clear hK K;(try simp only [sX, Act.put]);refine wpAnyH_ready (rs := [3, 8]) (by kernel_rfl) (by simp) ?_;refine (AllReadyH.cons rfl (fun K hK => ?_) (AllReadyH.cons rfl (fun K hK => ?_) AllReadyH.nil))
    ·go_simp
     refine (toCall_any c0 c1 c2 c3 c4 c5 _).mono ?_;rintro e u3 ⟨rfl, f5⟩;replace H := H.go f5;clear f5;go_wp2_with fail;refine hK.out _ _ ?_ fun hHeld => ?_
     ·exact hS _ _ (10) H rfl rfl
     clear hK K;(try simp only [sX, Act.put]);refine wpAnyH_ready (rs := [4, 8]) (by kernel_rfl) (by simp) ?_;refine (AllReadyH.cons rfl (fun K hK => ?_) (AllReadyH.cons rfl (fun K hK => ?_) AllReadyH.nil))
     ·go_simp
      refine (VI H 0 rfl HLd).mono ?_;rintro e u4 ⟨A3, n3, q3, L3, rfl, HL3, H⟩;go_wp2_with fail;refine hK.out _ _ ?_ fun hHeld => ?_
      ·exact hS _ _ (11) H rfl rfl
      clear hK K;(try simp only [sX, Act.put]);refine wpT 5 ?_;refine wpT 6 ?_;refine wpT 7 ?_;refine wpC 8 fun K hK => ?_;refine layVol H (fun gy3 u5 H => ?_);refine hK.out _ _ ?_ fun hHeld => ?_
      ·exact hS _ _ (12) H rfl rfl
      clear hK K;(try simp only [sX, Act.put]);refine wpC 10 fun K hK => ?_;refine putVol H 0 rfl rfl rfl (fun u6 H => ?_);refine hK.out _ _ ?_ fun hHeld => ?_
      ·exact hS _ _ (12) H rfl rfl
      clear hK K;(try simp only [sX, Act.put]);refine wpC 11 fun K hK => ?_;refine putRes H 3 rfl rfl rfl (fun u7 H => ?_);refine hK.out _ _ ?_ fun hHeld => ?_
      ·exact hS _ _ (12) H rfl rfl
      clear hK K;(try simp only [sX, Act.put]);refine wpAnyH_done (by kernel_rfl) ?_ _;replace H := H.reord [2, 1, 0, 3, 4, 5, 6, 7, 8, 9, 10, 11, 12, 13] (n := 14) rfl (by decide);exact ⟨rfl, _, _, _, _, _, _, _, _, _, _, _, _, _, _, rfl, HL3.out, H.tail⟩
     ·refine layVol H (fun gy3 u4 H => ?_)
      refine hK.out _ _ ?_ fun hHeld => ?_
      ·exact hS _ _ (11) H rfl rfl
      clear hK K;(try simp only [sX, Act.put]);refine wpC 4 fun K hK => ?_;go_simp;refine (VI H 1 rfl HLd).mono ?_;rintro e u5 ⟨A3, n3, q3, L3, rfl, HL3, H⟩;go_wp2_with fail;refine hK.out _ _ ?_ fun hHeld => ?_
      ·exact hS _ _ (12) H rfl rfl
      clear hK K;(try simp only [sX, Act.put]);refine wpT 5 ?_;refine wpT 6 ?_;refine wpT 7 ?_;refine wpC 10 fun K hK => ?_;refine putVol H 1 rfl rfl rfl (fun u6 H => ?_);refine hK.out _ _ ?_ fun hHeld => ?_
      ·exact hS _ _ (12) H rfl rfl
      clear hK K;(try simp only [sX, Act.put]);refine wpC 11 fun K hK => ?_;refine putRes H 3 rfl rfl rfl (fun u7 H => ?_);refine hK.out _ _ ?_ fun hHeld => ?_
      ·exact hS _ _ (12) H rfl rfl
      clear hK K;(try simp only [sX, Act.put]);refine wpAnyH_done (by kernel_rfl) ?_ _;replace H := H.reord [2, 0, 1, 3, 4, 5, 6, 7, 8, 9, 10, 11, 12, 13] (n := 14) rfl (by decide);exact ⟨rfl, _, _, _, _, _, _, _, _, _, _, _, _, _, _, rfl, HL3.out, H.tail⟩
    ·refine layVol H (fun gy3 u3 H => ?_)
     refine hK.out _ _ ?_ fun hHeld => ?_
     ·exact hS _ _ (11) H rfl rfl
     clear hK K;(try simp only [sX, Act.put]);refine wpC 3 fun K hK => ?_;go_simp;refine (toCall_any c0 c1 c2 c3 c4 c5 _).mono ?_;rintro e u4 ⟨rfl, f5⟩;replace H := H.go f5;clear f5;go_wp2_with fail;refine hK.out _ _ ?_ fun hHeld => ?_
     ·exact hS _ _ (11) H rfl rfl
     clear hK K;(try simp only [sX, Act.put]);refine wpC 4 fun K hK => ?_;go_simp;refine (VI H 1 rfl HLd).mono ?_;rintro e u5 ⟨A3, n3, q3, L3, rfl, HL3, H⟩;go_wp2_with fail;refine hK.out _ _ ?_ fun hHeld => ?_
     ·exact hS _ _ (12) H rfl rfl
     clear hK K;(try simp only [sX, Act.put]);refine wpT 5 ?_;refine wpT 6 ?_;refine wpT 7 ?_;refine wpC 10 fun K hK => ?_;refine putVol H 1 rfl rfl rfl (fun u6 H => ?_);refine hK.out _ _ ?_ fun hHeld => ?_
     ·exact hS _ _ (12) H rfl rfl
     clear hK K;(try simp only [sX, Act.put]);refine wpC 11 fun K hK => ?_;refine putRes H 3 rfl rfl rfl (fun u7 H => ?_);refine hK.out _ _ ?_ fun hHeld => ?_
     ·exact hS _ _ (12) H rfl rfl
     clear hK K;(try simp only [sX, Act.put]);refine wpAnyH_done (by kernel_rfl) ?_ _;replace H := H.reord [2, 0, 1, 3, 4, 5, 6, 7, 8, 9, 10, 11, 12, 13] (n := 14) rfl (by decide);exact ⟨rfl, _, _, _, _, _, _, _, _, _, _, _, _, _, _, rfl, HL3.out, H.tail⟩
   ·refine layVol H (fun gy3 u2 H => ?_)
    refine hK.out _ _ ?_ fun hHeld => ?_
    ·exact hS _ _ (10) H rfl rfl
    clear hK K;(try simp only [sX, Act.put]);refine wpC 1 fun K hK => ?_;go_simp;refine (TV H).mono ?_;rintro e u3 ⟨gd, Ld, rfl, HLd, H⟩;go_wp2_with fail;refine hK.out _ _ ?_ fun hHeld => ?_
    ·exact hS _ _ (11) H rfl rfl
    clear hK K;(try simp only [sX, Act.put]);refine wpC 3 fun K hK => ?_;go_simp;refine (toCall_any c0 c1 c2 c3 c4 c5 _).mono ?_;rintro e u4 ⟨rfl, f5⟩;replace H := H.go f5;clear f5;go_wp2_with fail;refine hK.out _ _ ?_ fun hHeld => ?_
    ·exact hS _ _ (11) H rfl rfl
    clear hK K;(try simp only [sX, Act.put]);refine wpC 4 fun K hK => ?_;go_simp;refine (VI H 0 rfl HLd).mono ?_;rintro e u5 ⟨A3, n3, q3, L3, rfl, HL3, H⟩;go_wp2_with fail;refine hK.out _ _ ?_ fun hHeld => ?_
    ·exact hS _ _ (12) H rfl rfl
    clear hK K;(try simp only [sX, Act.put]);refine wpT 5 ?_;refine wpT 6 ?_;refine wpT 7 ?_;refine wpC 10 fun K hK => ?_;refine putVol H 2 rfl rfl rfl (fun u6 H => ?_);refine hK.out _ _ ?_ fun hHeld => ?_
    ·exact hS _ _ (12) H rfl rfl
    clear hK K;(try simp only [sX, Act.put]);refine wpC 11 fun K hK => ?_;refine putRes H 3 rfl rfl rfl (fun u7 H => ?_);refine hK.out _ _ ?_ fun hHeld => ?_
    ·exact hS _ _ (12) H rfl rfl
    clear hK K;(try simp only [sX, Act.put]);refine wpAnyH_done (by kernel_rfl) ?_ _;replace H := H.reord [1, 0, 2, 3, 4, 5, 6, 7, 8, 9, 10, 11, 12, 13] (n := 14) rfl (by decide);exact ⟨rfl, _, _, _, _, _, _, _, _, _, _, _, _, _, _, rfl, HL3.out, H.tail⟩
 clear H;rintro a' w3 ⟨v87, v88, v89, v90, v91, v86, v92, v93, gy3, gr3, A3, n3, q3, L3, rfl, hL, H⟩;simp only [List.getElem_toArray, List.getElem_cons_succ, List.getElem_cons_zero, Act.put, List.setIfInBounds_toArray, List.set_cons_zero, List.set_cons_succ];have HL3 := Lib.hid hL;clear hL;have hn3 : n3 ≤ 16 := by have h1 := (VRd.of H 0 rfl).1.len; have h2 : lx.length ≤ 16 := HFL.out; rw [← HL3.out, nodes_len] at h2; omega
 have HE3 := Lib.hid (show ∀ p ∈ L3, p.2.2.2.2.2.length ≤ 1048576 from fun p hp => by have h1 : p.2.2.2.2.2.length ≤ 12 := HF12.out p.2 (by show p.2 ∈ lx; rw [← HL3.out]; exact List.mem_map_of_mem hp); omega);have ya0 := H.fa 1 0 rfl rfl;have ya1 := H.fa 1 1 rfl rfl;have yb0 := H.fa 9 0 rfl rfl;have yb1 := H.fa 9 1 rfl rfl;go_wp2_with fail;refine (eqVol_yes nx A3 A1 n3 n1 q3 q1 L3 L1 _ (VRd.of H 0 rfl).1 (VRd.of H 8 rfl).1 (HL3.out.trans HL1.out.symm) (by omega) (by omega) HE3.out HE1.out).mono ?_;rintro e wj ⟨rfl, f5⟩;replace H := H.go f5;clear f5;clear ya0 ya1 yb0 yb1;have ra0 := H.fa 2 0 rfl rfl;have ra1 := H.fa 2 1 rfl rfl;have ra2 := H.fa 2 2 rfl rfl;have ra3 := H.fa 2 3 rfl rfl;have rb0 := H.fa 10 0 rfl rfl;have rb1 := H.fa 10 1 rfl rfl;have rb2 := H.fa 10 2 rfl rfl;have rb3 := H.fa 10 3 rfl rfl;go_wp2_with fail;refine ((show ∀ u, Calls Tryz.prog 15 #[.agg #[.int .i64 r0, .int .i64 r1, .string r2, .string r3], .agg #[.int .i64 r0, .int .i64 r1, .string r2, .string r3]] u (fun e u' => e = .returned (.bool true) ∧ Fr u u') from fun u => (eqResult_any (r0, r1, r2, r3) (r0, r1, r2, r3) u).mono fun e u' h => ⟨by rw [h.1]; simp, h.2⟩) _).mono ?_;rintro e wk ⟨rfl, f5⟩;replace H := H.go f5;clear f5;clear ra0 ra1 ra2 ra3 rb0 rb1 rb2 rb3;have ya0 := H.fa 4 0 rfl rfl;have ya1 := H.fa 4 1 rfl rfl;go_wp2_with fail;refine (heldVol_any nx A2 n2 q2 1 L2 _ (obN_rd (L := marksN L2 1) (H.ok _ (List.mem_of_getElem? (i := 3) rfl)) rfl) (by omega) HT2.out (by omega)).mono ?_;rintro e wl ⟨rfl, f5⟩;replace H := H.go f5;clear f5;rw [← HML.out];clear ya0 ya1;go_wp2_with fail;go_ret;exact ⟨rfl, H.fr⟩
end Go.Proofs.YtllonpbhgbhogaaGreatDoor
