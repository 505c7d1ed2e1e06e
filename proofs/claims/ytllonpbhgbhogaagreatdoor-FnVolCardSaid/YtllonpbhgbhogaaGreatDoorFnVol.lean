/-
The law FnVol, walked.
-/
import Derived.Test.YtllonpbhgbhogaaGreatDoorFnVolW
namespace Go.Proofs.YtllonpbhgbhogaaGreatDoor
open Go.RowKit
set_option linter.unusedVariables false
set_option linter.unusedSimpArgs false
theorem look_same {next : Int} {l : List Nod} {c : CallT} (h : c.1 = 8) : (volDoP next l c).1 = (next, l) := by
 unfold volDoP onP;simp only [h]
 repeat' split
 all_goals first
  | rfl
  | simp_all
theorem volAll_bad {next : Int} {l : List Nod} {c : CallT} (h : volB next l = false) : volAll next l c = ((0, []), resC 1) := if_neg (by rw [h]; decide)
set_option maxRecDepth 100000 in
set_option maxHeartbeats 32000000 in
theorem lawFnVol_walk (A : Option Addr) (n c : Nat) (bs : List UInt8) (w : World) (hA : Rd w A n 1 (bs.map cU8)) (hcap : n ≤ 9223372036854775807) (hk : KT w) :
 Calls Tryz.prog 4 #[.slice A n c] w fun e w' => e = .returned (.bool true) ∧ Fr w w' := by
 by_cases hbig : 1048576 < n
 ·have hd : decide (1048576 < n) = true := by simpa using hbig
  go_enter Tryz.func4, Tryz.ntmps4;go_wp2_with fail;refine (big_any A n c _ hcap).mono ?_;rintro e w1 ⟨rfl, rfl⟩;rw [hd];go_wp2_with fail;go_ret;exact ⟨rfl, Below.refl _ _⟩
 have hd : decide (1048576 < n) = false := by simpa using hbig
 have hn : n ≤ 1048576 := by omega
 have HA := Lib.hid hA;have HK := Lib.hid hk;go_enter Tryz.func4, Tryz.ntmps4;go_wp2_with fail;refine (big_any A n c _ hcap).mono ?_;rintro e wq ⟨rfl, hwq⟩;rw [← hwq, hd];clear hwq hd hbig hA hk;go_wp2_with fail;refine (drawVolDo_any A n c bs _ HA.out hn).mono ?_;rintro e w1 ⟨nx, B, m, d, L, z0, z1, s2, z3, s4, s5, rfl, hS, H⟩;have HS := Lib.hid hS;clear hS;replace H := (H.lay_ 31 [.int .i64 nx, .slice B m d] rfl).lay_ 37 [.int .i64 z0, .int .i64 z1, .string s2, .int .i64 z3, .string s4, .string s5] (g := w1.heap.size + 1) (by simp);obtain ⟨O, hO⟩ : ∃ O, O = volAll nx (nodes L) (z0, z1, s2, z3, s4, s5) := ⟨_, rfl⟩;have HO := Lib.hid hO;clear hO;have v0 := H.fa 1 0 rfl rfl;have v1 := H.fa 1 1 rfl rfl;have qc0 := H.fa 0 0 rfl rfl;have qc1 := H.fa 0 1 rfl rfl;have qc2 := H.fa 0 2 rfl rfl;have qc3 := H.fa 0 3 rfl rfl;have qc4 := H.fa 0 4 rfl rfl;have qc5 := H.fa 0 5 rfl rfl;go_wp2_with fail;refine (implDo H 2 rfl HS.out z0 z1 s2 z3 s4 s5 HK.out).mono ?_;intro e w2 hG;rw [← HO.out] at hG;obtain ⟨x1, B1, m1, d1, L1, r0, r1, r2, r3, rfl, hO1, H⟩ := hG;clear v0 v1 qc0 qc1 qc2 qc3 qc4 qc5;have HO1 := Lib.hid hO1;clear hO1;replace H := (H.lay_ 31 [.int .i64 x1, .slice B1 m1 d1] rfl).lay_ 33 [.int .i64 r0, .int .i64 r1, .string r2, .string r3] (g := w2.heap.size + 1) (by simp);have v0 := H.fa 4 0 rfl rfl;have v1 := H.fa 4 1 rfl rfl;have qc0 := H.fa 3 0 rfl rfl;have qc1 := H.fa 3 1 rfl rfl;have qc2 := H.fa 3 2 rfl rfl;have qc3 := H.fa 3 3 rfl rfl;have qc4 := H.fa 3 4 rfl rfl;have qc5 := H.fa 3 5 rfl rfl;go_wp2_with fail;refine (specDo H 5 rfl HS.out z0 z1 s2 z3 s4 s5).mono ?_;intro e w3 hG;rw [← HO.out, ← HO1.out] at hG;obtain ⟨x2, B2, m2, d2, L2, q0, q1, q2, q3, rfl, hO2, H⟩ := hG;injection hO2.symm with _ hr;injection hr with e0 hr;injection hr with e1 hr;injection hr with e2 e3;subst e0 e1 e2 e3;clear v0 v1 qc0 qc1 qc2 qc3 qc4 qc5;replace H := (H.lay_ 31 [.int .i64 x2, .slice B2 m2 d2] rfl).lay_ 33 [.int .i64 r0, .int .i64 r1, .string r2, .string r3] (g := w3.heap.size + 1) (by simp);have ra0 := H.fa 3 0 rfl rfl;have ra1 := H.fa 3 1 rfl rfl;have ra2 := H.fa 3 2 rfl rfl;have ra3 := H.fa 3 3 rfl rfl;have rb0 := H.fa 0 0 rfl rfl;have rb1 := H.fa 0 1 rfl rfl;have rb2 := H.fa 0 2 rfl rfl;have rb3 := H.fa 0 3 rfl rfl;have v0 := H.fa 7 0 rfl rfl;have v1 := H.fa 7 1 rfl rfl;go_wp2_with fail;refine (specVolOk_any nx B m d L _ (VRd.of H 8 rfl).1 (by have := HS.out.2.1; omega) (H.nnc 8 rfl) (fun p hp => by have := (HS.out.2.2 p hp).1; omega) (fun p hp => (HS.out.2.2 p hp).2.2)).mono ?_;rintro e w5 ⟨rfl, f5⟩;replace H := H.go f5;clear f5;clear ra0 ra1 ra2 ra3 rb0 rb1 rb2 rb3 v0 v1
 cases hvb : volB nx (nodes L) with
 | false =>
   have h9 := HO1.out;rw [HO.out, volAll_bad hvb] at h9;injection h9 with h9 _;injection h9 with _ h9;have hm1 : m1 = 0 := by have h8 := (VRd.of H 5 rfl).1.len; rw [← nodes_len, h9] at h8; exact h8.symm
   subst hm1;clear h9;have xq0 := H.fa 4 0 rfl rfl;have xq1 := H.fa 4 1 rfl rfl;have HF := Lib.hid H.fr;clear H;go_wp2_with fail;go_ret;exact ⟨rfl, HF.out⟩
 | true =>
   have HV := Lib.hid (volB_V hvb);clear hvb;rw [volAll_V HV.out] at HO;have HV1 := Lib.hid (show VOk x1 (nodes L1) by have h1 := do_V (c := (z0, z1, s2, z3, s4, s5)) HV.out; rw [← HO.out, ← HO1.out] at h1; exact h1);have hl1 : L1.length = m1 := (VRd.of H 5 rfl).1.len;have HS1 := Lib.hid (HV1.out.small (B := B1) (d := d1) hl1);clear hl1;have xq0 := H.fa 4 0 rfl rfl;have xq1 := H.fa 4 1 rfl rfl;go_wp2_with fail;refine (specVolOk_any x1 B1 m1 d1 L1 _ (VRd.of H 5 rfl).1 (by have := HS1.out.2.1; omega) (H.nnc 5 rfl) (fun p hp => by have := (HS1.out.2.2 p hp).1; omega) (fun p hp => (HS1.out.2.2 p hp).2.2)).mono ?_;rintro e w6 ⟨rfl, f5⟩;replace H := H.go f5;clear f5;rw [V_volB HV1.out];clear xq0 xq1;have xq0 := H.fa 4 0 rfl rfl;have xq1 := H.fa 4 1 rfl rfl;go_wp2_with fail;refine (implVolOk_any x1 B1 m1 d1 L1 _ (VRd.of H 5 rfl).1 (by have := HS1.out.2.1; omega) (H.nnc 5 rfl) (fun p hp => by have := (HS1.out.2.2 p hp).1; omega) (fun p hp => (HS1.out.2.2 p hp).2.2) (HK.out.fr H.fr)).mono ?_;rintro e w7 ⟨rfl, f5⟩;replace H := H.go f5;clear f5;rw [V_volB HV1.out];clear xq0 xq1;have xq0 := H.fa 4 0 rfl rfl;have xq1 := H.fa 4 1 rfl rfl;have v0 := H.fa 7 0 rfl rfl;have v1 := H.fa 7 1 rfl rfl;have ra0 := H.fa 3 0 rfl rfl;have qc0 := H.fa 6 0 rfl rfl
   by_cases hr0 : r0 = 0
   rotate_left
   ·have hra : (r0 == 0) = false := beq_eq_false_iff_ne.2 hr0
    have h9 := HO1.out;rw [HO.out] at h9;have h8 : (x1, nodes L1) = (nx, nodes L) := by have h7 := congrArg Prod.fst h9; exact h7.trans (volDo_no (by have h6 := congrArg (fun z : OutT => z.2.1) h9; simp only at h6; rw [← h6]; exact hr0))
    injection h8 with h8a h8b;subst h8a;have HB8 := Lib.hid h8b;clear h9 h8b;go_wp2_with fail;refine (sameVol_yes x1 B1 B m1 m d1 d L1 L _ (VRd.of H 5 rfl).1 (VRd.of H 8 rfl).1 HB8.out (fun p hp => by have := (HS1.out.2.2 p hp).1; omega) (by have := HS1.out.2.1; omega)).mono ?_;rintro e w8 ⟨rfl, f5⟩;have HF := Lib.hid (H.go f5).fr;clear f5 H;go_wp2_with fail;go_ret;exact ⟨rfl, HF.out⟩
   have hra : (r0 == 0) = true := by simp [hr0]
   clear hr0
   by_cases hz0 : z0 = 8
   ·have hza : (z0 != 8) = false := by simp [hz0]
    have HZ8 := Lib.hid hz0;clear hz0;have h9 := HO1.out;rw [HO.out] at h9;have h8 : (x1, nodes L1) = (nx, nodes L) := by have h7 := congrArg Prod.fst h9; exact h7.trans (look_same HZ8.out)
    injection h8 with h8a h8b;subst h8a;have HB8 := Lib.hid h8b;clear h9 h8b;go_wp2_with fail;refine (sameVol_yes x1 B1 B m1 m d1 d L1 L _ (VRd.of H 5 rfl).1 (VRd.of H 8 rfl).1 HB8.out (fun p hp => by have := (HS1.out.2.2 p hp).1; omega) (by have := HS1.out.2.1; omega)).mono ?_;rintro e w8 ⟨rfl, f5⟩;have HF := Lib.hid (H.go f5).fr;clear f5 H;go_wp2_with fail;go_ret;exact ⟨rfl, HF.out⟩
   have hza : (z0 != 8) = true := by simpa using hz0
   have HF := Lib.hid H.fr;clear H;go_wp2_with fail;go_ret;exact ⟨rfl, HF.out⟩
end Go.Proofs.YtllonpbhgbhogaaGreatDoor
