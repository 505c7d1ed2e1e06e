/-
FoldCalls of the program.
-/
import Derived.Test.YtllonpbhgbhogaaGreatDoorRoot
import Derived.Test.YtllonpbhgbhogaaGreatDoorGk
namespace Go.Proofs.YtllonpbhgbhogaaGreatDoor
open Go.RowKit
set_option linter.unusedVariables false
set_option linter.unusedSimpArgs false
theorem results_ct {P : Program} {fn : Func} {p u : Tmp} {ty : TypeId} (h : fn.results = #[.cell p ty, .tmp u]) (tmps : Array Value) (w : World) (g : Nat) (t : TypeId) (cs : Array Value) (fr : Nat × Nat) (d : TypeDesc)
 (hp : tmps.getD p undef = .pointer (some ⟨g, 0, none⟩)) (hg : w.heap[g]? = some (.cells cs t fr))
 (hu : P.underlying ty = some d) (hd : (match d with | .struct _ | .array _ _ => true | _ => false) = true) (hi : (P.info? ty).map (·.size) = some cs.size) :
 (results fn tmps).run P w = .ok (.tuple #[.agg cs, tmps.getD u undef]) w := by
 rw [results_cell_tmp h, hp];simp [asAddr, run_loadVar_row w g t ty cs fr d hg hu hd hi, Result.andThen]
set_option maxRecDepth 100000 in
set_option maxHeartbeats 16000000 in
theorem implFoldCalls_any (A : Option Addr) (n c : Nat) (l : List CallT) (kz : Int) (w : World) (h : Rd w A n 6 (l.flatMap cCall)) (hn : n ≤ 1048576) (hnc : n ≤ c) (hk : KT w) :
 Calls Tryz.prog 30 #[.slice A n c, .int .i64 kz] w (NewF w (foldA l kz)) := by
 have HL := Lib.hid (h.lenk cCall_len (by omega));have HR := Lib.hid h;have HK := Lib.hid hk;clear h hk;have H := (Hp.start w).lay_ 31 [.int .i64 0, .slice none 0 0] rfl;go_enter Tryz.func30, Tryz.ntmps30;go_wp2_with fail;refine (within_any _ _ _ _).mono ?_;rintro e w1 ⟨rfl, rfl⟩
 by_cases hin : inB kz 0 (n : Int) = true ∧ n ≤ 120
 ·obtain ⟨k, hkk⟩ : ∃ k : Nat, kz = k := ⟨kz.toNat, by have := (inB_iff.1 hin.1).1; omega⟩
  subst hkk;have hkn : k ≤ n := by have := (inB_iff.1 hin.1).2; omega
  have h120 : ¬ (120 : Int) < (n : Int) := by have := hin.2; omega
  have HA := Lib.hid (show foldA l (k : Int) = foldP (l.take k) by rw [foldA, if_pos ⟨by rw [HL.out]; exact hin.1, by rw [HL.out]; exact hin.2⟩]; rfl);rw [hin.1];clear hin;have hk0 : (0 : Int) ≤ (k : Int) := by omega
  have hkc : (k : Int) ≤ (c : Int) := by omega
  have hkn2 : (k : Int) ≤ (n : Int) := by omega
  go_wp2_with fail;refine (implNewVol_any _).mono ?_;rintro e w2 ⟨g, rfl, K⟩;replace H := (H.join K).lay_ 31 [.int .i64 2, .slice (some ⟨g, 0, none⟩) 1 1] rfl;clear K;obtain ⟨gv, hgv⟩ : ∃ z, z = w2.heap.size := ⟨_, rfl⟩;rw [← hgv] at H;have HGV := Lib.hid hgv;clear hgv;have HS := Lib.hid (H.front 1 rfl);clear H;go_wp2_with fail;simp only [← HGV.out]
  go_loopw [7, 28] (fun bv iv wr => ∃ (i : Nat) (nx : Int) (A' : Option Addr) (n' c' : Nat) (L' : List (Value × Nod)) (b : Bool), iv = .int .i64 i ∧ i ≤ k ∧ bv = .bool b ∧ ((nx, nodes L'), b) = foldP (l.take i) ∧ Hp [] w wr [obN (.slice A' n' c') n' L', .blk gv 31 [.int .i64 nx, .slice A' n' c'], .blk w.heap.size 31 [.int .i64 0, .slice none 0 0]]) (fun _ iv _ => k - (intOf iv).toNat)
  case atStart =>
   exact ⟨0, 2, _, 1, 1, rootL, true, rfl, by omega, rfl, rfl, HS.out⟩
  case round =>
   clear HS;obtain ⟨i, nx, A', n', c', L', b, rfl, hi, hbv, hF, H⟩ := hrel;have HF := Lib.hid hF;have HBV := Lib.hid hbv;clear hF hbv;have HV := Lib.hid (show VOk nx (nodes L') from by have h1 := foldP_V (l.take i); rw [← HF.out] at h1; exact h1);have HN' := Lib.hid (show n' ≤ 16 by have h1 := (VRd.of H 0 rfl).1.len; have h2 := HV.out.len; rw [nodes_len] at h2; omega)
   by_cases hlt : i < k
   ·have hi1 : (i : Int) < (k : Int) := by omega
    have hi0 : (0 : Int) ≤ (i : Int) := by omega
    obtain ⟨⟨x0, x1, x2, x3, x4, x5⟩, hx⟩ := some_at HL.out (show i < n by omega);have HX := Lib.hid hx;obtain ⟨bk, of, rfl, hcell⟩ := (HR.out.fr H.fr).elem cCall_len hx (by omega);have ca0 := hcell 0 _ rfl; simp only [Nat.add_zero] at ca0;have ca1 := hcell 1 _ rfl;have ca2 := hcell 2 _ rfl;have ca3 := hcell 3 _ rfl;have ca4 := hcell 4 _ rfl;have ca5 := hcell 5 _ rfl;clear hcell hx;obtain ⟨O, hO⟩ : ∃ O, O = volDoP nx (nodes L') (x0, x1, x2, x3, x4, x5) := ⟨_, rfl⟩;have HNX := Lib.hid (show (O.1, b && decide (O.2.1 = 0)) = foldP (l.take (i + 1)) by rw [foldP_step HX.out, ← HF.out, foldS, hO]);obtain ⟨⟨nx1, lx⟩, r0, r1, r2, r3⟩ := O;have HO := Lib.hid hO;clear hO;replace H := H.lay_ 37 [.int .i64 x0, .int .i64 x1, .string x2, .int .i64 x3, .string x4, .string x5] rfl;obtain ⟨gc, hgc⟩ : ∃ z, z = wr.heap.size := ⟨_, rfl⟩;rw [← hgc] at H;have HGC := Lib.hid hgc;clear hgc;have v0 := H.fa 2 0 rfl rfl;have v1 := H.fa 2 1 rfl rfl;have qc0 := H.fa 0 0 rfl rfl;have qc1 := H.fa 0 1 rfl rfl;have qc2 := H.fa 0 2 rfl rfl;have qc3 := H.fa 0 3 rfl rfl;have qc4 := H.fa 0 4 rfl rfl;have qc5 := H.fa 0 5 rfl rfl;go_wp2_with fail;skip;refine (implVolDo_any nx A' n' c' L' x0 x1 x2 x3 x4 x5 _ (VRd.of H 1 rfl) (by have := HN'.out; omega) (H.nnc 1 rfl) HV.out.toVW.fit.few.2.2.1 HV.out.toVW.fit.few.2.2.2 (HK.out.fr H.fr)).mono ?_;intro e w5 hG;rw [volAll_V HV.out, ← HO.out] at hG;obtain ⟨A1, n1, q1, L1, rfl, hL1, K⟩ := hG;simp only [resL];simp only at hL1;have HL1 := Lib.hid hL1;replace H := H.join K;clear hL1 K;clear v0 v1 qc0 qc1 qc2 qc3 qc4 qc5;clear ca0 ca1 ca2 ca3 ca4 ca5;replace H := (H.lay_ 31 [.int .i64 nx1, .slice A1 n1 q1] rfl).lay_ 33 [.int .i64 r0, .int .i64 r1, .string r2, .string r3] (g := w5.heap.size + 1) (by simp);have y0 := H.fa 1 0 rfl rfl;have y1 := H.fa 1 1 rfl rfl;have rr0 := H.fa 0 0 rfl rfl;have v0 := H.fa 5 0 rfl rfl;have v1 := H.fa 5 1 rfl rfl;have fv0 := H.bfree 5 rfl 0;have fv1 := H.bfree 5 rfl 1;replace H := H.blays 5 rfl [.int .i64 nx1, .slice A1 n1 q1] rfl;simp only [layW, Nat.zero_add, Nat.reduceAdd] at H;have r0' := H.fa 0 0 rfl rfl;have H8 := Lib.hid (H.sub (l' := [obN (.slice A1 n1 q1) n1 L1, .blk gv 31 [.int .i64 nx1, .slice A1 n1 q1], .blk w.heap.size 31 [.int .i64 0, .slice none 0 0]]) (.cons _ (.cons _ (.cons_cons _ (.cons _ (.cons _ (.refl _)))))));clear H
    cases b with
    | true =>
      obtain rfl := HBV.out;go_wp2_with fail;go_roundw
      case rel => exact ⟨i + 1, nx1, A1, n1, q1, L1, _, by go_num, by omega, rfl, (by rw [← HNX.out, HL1.out]; simp; all_goals rfl), H8.out⟩
      case measure => simp [intOf]; omega
    | false =>
      obtain rfl := HBV.out;go_wp2_with fail;go_roundw
      case rel => exact ⟨i + 1, nx1, A1, n1, q1, L1, _, by go_num, by omega, rfl, (by rw [← HNX.out, HL1.out]; simp; all_goals rfl), H8.out⟩
      case measure => simp [intOf]; omega
   ·have hi1 : ¬ (i : Int) < (k : Int) := by omega
    obtain rfl := HBV.out;have HM := Lib.hid (show foldA l (k : Int) = ((nx, nodes L'), b) by rw [HA.out, HF.out, show i = k by omega]);have v0 := H.fa 1 0 rfl rfl;have v1 := H.fa 1 1 rfl rfl;have z0 := H.fa 2 0 rfl rfl;have z1 := H.fa 2 1 rfl rfl;have fz0 := H.bfree 2 rfl 0;have fz1 := H.bfree 2 rfl 1;have H9 := H.blays 2 rfl [.int .i64 nx, .slice A' n' c'] rfl;simp only [layW, Nat.zero_add, Nat.reduceAdd] at H9;clear H;go_wp2_with fail
    ((try simp only [Exit.inBlock, Exit.then]); refine bodyPost_ret (results_ct rfl _ _ _ _ _ _ _ rfl (H9.blk 2 rfl) Tryz.underlying31 rfl (by kernel_rfl)) rfl ?_)
    exact ⟨A', n', c', L', by rw [HM.out]; rfl, by rw [HM.out], H9.sub (by simp)⟩
 ·have HA := Lib.hid (show foldA l kz = ((0, []), false) by rw [foldA, if_neg (by rw [HL.out]; exact hin)])
  cases hb : inB kz 0 (n : Int) with
  | false =>
    have H9 := H;clear H;go_wp2_with fail
    ((try simp only [Exit.inBlock, Exit.then]); refine bodyPost_ret (results_ct rfl _ _ _ _ _ _ _ rfl (H9.blk 0 rfl) Tryz.underlying31 rfl (by kernel_rfl)) rfl ?_)
    exact NewF.zero HA.out H9
  | true =>
    have h120 : (120 : Int) < (n : Int) := by rw [hb] at hin; have : ¬ n ≤ 120 := fun h => hin ⟨rfl, h⟩; omega
    have H9 := H;clear H;go_wp2_with fail
    ((try simp only [Exit.inBlock, Exit.then]); refine bodyPost_ret (results_ct rfl _ _ _ _ _ _ _ rfl (H9.blk 0 rfl) Tryz.underlying31 rfl (by kernel_rfl)) rfl ?_)
    exact NewF.zero HA.out H9
end Go.Proofs.YtllonpbhgbhogaaGreatDoor
