/-
  Many texts in one: VolDoI, L5Add, Sz, Law, OpenN, Law2, Door.
-/
import Derived.Test.YtllonpbhgbhogaaGreatDoorVDoI
import Derived.Test.YtllonpbhgbhogaaGreatDoorGj
import Derived.Test.YtllonpbhgbhogaaGreatDoorVolOkI
import Derived.Test.YtllonpbhgbhogaaGreatDoorCallOk
import Derived.Test.YtllonpbhgbhogaaGreatDoorGi
import Derived.Test.YtllonpbhgbhogaaGreatDoorGb
import Derived.Test.YtllonpbhgbhogaaGreatDoorGh
import Derived.Test.YtllonpbhgbhogaaGreatDoorGa
import Derived.ProofKit
import Derived.OpenVars
import Derived.Deep.Slices
import Derived.Deep.Strs
import Derived.Lib.SmallJoins
import Derived.Test.YtllonpbhgbhogaaGreatDoorGd
import Derived.Test.YtllonpbhgbhogaaGreatDoorRows
import Derived.Lib.LaidTab
import Derived.LaidMore
import Derived.MakeChecks
import Derived.OpenShut
import Derived.Stop.Joined
set_option linter.unusedVariables false
set_option linter.unusedSimpArgs false
namespace Go.Proofs.YtllonpbhgbhogaaGreatDoor
open Go.RowKit
set_option maxRecDepth 100000 in
set_option maxHeartbeats 32000000 in
theorem implVolDo_any (next : Int) (A : Option Addr) (n c : Nat) (L : List (Value × Nod)) (c0 c1 : Int) (c2 : ByteArray) (c3 : Int) (c4 c5 : ByteArray) (w : World) (h : VRd w A n L) (hn : n ≤ 1048576) (hnc : n ≤ c) (hfew : FewE L) (hsz : ∀ p ∈ L, ∀ e ∈ p.2.2.2.2.2, e.2.2.1.size ≤ 16777216) (hk : KT w) :
 Calls Tryz.prog 13 #[.agg #[.int .i64 next, .slice A n c], .agg #[.int .i64 c0, .int .i64 c1, .string c2, .int .i64 c3, .string c4, .string c5]] w (NewV w (volAll next (nodes L) (c0, c1, c2, c3, c4, c5))) := by
 have HV := Lib.hid h;have hfe := hfew;have HSZ := Lib.hid hsz;have HFE := Lib.hid hfew;have hE : ∀ p ∈ L, p.2.2.2.2.2.length ≤ 1048576 := hfew;have HE := Lib.hid hE;clear h hsz hfew hfe hE;have H := (((Hp.start w).lay_ 31 [.int .i64 next, .slice A n c] rfl).lay_ 37 [.int .i64 c0, .int .i64 c1, .string c2, .int .i64 c3, .string c4, .string c5] (g := w.heap.size + 1) (by simp)).lay_ 31 [.int .i64 0, .slice none 0 0] (g := w.heap.size + 1 + 1) (by simp);replace H := H.lay_ 33 [.int .i64 0, .int .i64 0, .string ⟨#[]⟩, .string ⟨#[]⟩] (g := w.heap.size + 1 + 1 + 1) (by simp);have b0 := H.fa 3 0 rfl rfl;have b1 := H.fa 3 1 rfl rfl;go_enter Tryz.func13, Tryz.ntmps13;go_wp2_with fail;refine (implVolOk_any next A n c L _ (HV.out.1.fr H.fr) hn hnc HFE.out HSZ.out (hk.fr H.fr)).mono ?_;rintro e w5 ⟨rfl, f5⟩;replace H := H.go f5;clear f5;clear b0 b1
 cases hvb : volB next (nodes L) with
 | false =>
   have HVB := Lib.hid hvb;clear hvb;obtain ⟨s0, s1, f0, f1, q0, q1, q2, q3, f2, f3, f4, f5, H9⟩ := H.two 1 0 (.int .i64 0) (.slice none 0 0) (.int .i64 1) (.int .i64 0) (.string ⟨#[]⟩) (.string ⟨#[]⟩) rfl rfl;have HM := Lib.hid (show volAll next (nodes L) (c0, c1, c2, c3, c4, c5) = ((0, []), resC 1) by rw [volAll, if_neg (by rw [HVB.out]; decide)]);clear H;go_wp2_with fail;(try simp only [Exit.inBlock, Exit.then]); refine bodyPost_ret (results_cells_row rfl _ _ _ _ _ _ _ _ _ _ _ _ rfl (H9.blk 1 rfl) Tryz.underlying31 rfl (by kernel_rfl) rfl (H9.blk 0 rfl) Tryz.underlying33 rfl (by kernel_rfl)) rfl ?_;exact NewV.zero HM.out H9
 | true =>
   have HVB := Lib.hid hvb;clear hvb;have HA := Lib.hid (show volAll next (nodes L) (c0, c1, c2, c3, c4, c5) = volDoP next (nodes L) (c0, c1, c2, c3, c4, c5) by rw [volAll, if_pos HVB.out]);have qc0 := H.fa 2 0 rfl rfl;have qc1 := H.fa 2 1 rfl rfl;have qc2 := H.fa 2 2 rfl rfl;have qc3 := H.fa 2 3 rfl rfl;have qc4 := H.fa 2 4 rfl rfl;have qc5 := H.fa 2 5 rfl rfl;go_wp2_with fail;refine (implCallOk_any c0 c1 c2 c3 c4 c5 _).mono ?_;rintro e w6 ⟨rfl, f6⟩;replace H := H.go f6;clear f6;clear qc0 qc1 qc2 qc3 qc4 qc5;have HNL := Lib.hid HV.out.1.len
   cases hcb : callB (c0, c1, c2, c3, c4, c5) with
   | false =>
     have HCB := Lib.hid hcb;clear hcb;have b0 := H.fa 3 0 rfl rfl;have b1 := H.fa 3 1 rfl rfl;go_wp2_with fail;refine (copyVol_any next A n c L _ (HV.out.fr H.fr) hn HE.out).mono ?_;rintro e w7 ⟨A', c', L', rfl, hL', K⟩;have HL' := Lib.hid hL';clear hL';replace H := H.join K;clear K;have hnc2 : n ≤ c' := H.nnc 0 rfl;clear b0 b1;obtain ⟨s0, s1, f0, f1, q0, q1, q2, q3, f2, f3, f4, f5, H9⟩ := H.two 2 1 (.int .i64 next) (.slice A' n c') (.int .i64 1) (.int .i64 0) (.string ⟨#[]⟩) (.string ⟨#[]⟩) rfl rfl;have HM := Lib.hid (show volAll next (nodes L) (c0, c1, c2, c3, c4, c5) = ((next, nodes L'), resC 1) by rw [HA.out, volDoP, if_neg (by rw [HCB.out]; decide), HL'.out]);clear H;go_wp2_with fail;(try simp only [Exit.inBlock, Exit.then]); refine bodyPost_ret (results_cells_row rfl _ _ _ _ _ _ _ _ _ _ _ _ rfl (H9.blk 2 rfl) Tryz.underlying31 rfl (by kernel_rfl) rfl (H9.blk 1 rfl) Tryz.underlying33 rfl (by kernel_rfl)) rfl ?_;exact NewV.newN HM.out H9 0 rfl
   | true =>
     have HCB := Lib.hid hcb;clear hcb;have b0 := H.fa 3 0 rfl rfl;have b1 := H.fa 3 1 rfl rfl;go_wp2_with fail;refine (copyVol_any next A n c L _ (HV.out.fr H.fr) hn HE.out).mono ?_;rintro e w7 ⟨A', c', L', rfl, hL', K⟩;have HL' := Lib.hid hL';clear hL';replace H := H.join K;clear K;have hnc2 : n ≤ c' := H.nnc 0 rfl;clear b0 b1;replace H := H.lay_ 31 [.int .i64 next, .slice A' n c'] rfl;replace H := H.vmake;have HVO := Lib.hid (volB_V HVB.out);have qc0 := H.fa 3 0 rfl rfl;have qc1 := H.fa 3 1 rfl rfl;have qc2 := H.fa 3 2 rfl rfl;have qc3 := H.fa 3 3 rfl rfl;have qc4 := H.fa 3 4 rfl rfl;have qc5 := H.fa 3 5 rfl rfl;go_wp2_with fail;have h0 := H.v0 hk (by simp) 0 rfl;refine (implVDo_any w7.heap.size next A' n c' L' c0 c1 c2 c3 c4 c5 _ (H.vok 0 rfl) (by rw [HL'.out]; exact HVO.out) HCB.out h0 (hk.fr H.fr)).mono ?_;rintro e w8 ⟨rfl, A2, n2, c2', L2, hL2, K⟩;replace H := H.vturn 0 rfl K;clear K h0;clear qc0 qc1 qc2 qc3 qc4 qc5;rw [HL'.out] at hL2 H ⊢;obtain ⟨O, hO⟩ : ∃ O, O = volDoP next (nodes L) (c0, c1, c2, c3, c4, c5) := ⟨_, rfl⟩;rw [← hO] at hL2 H ⊢;have HO := Lib.hid hO;clear hO;obtain ⟨⟨nx, lx⟩, r0, r1, r2, r3⟩ := O;simp only at hL2 H;simp only [resL];have HL2 := Lib.hid hL2;clear hL2;have hnc3 : n2 ≤ c2' := H.vnc2 0 rfl;replace H := H.lay_ 33 [.int .i64 r0, .int .i64 r1, .string r2, .string r3] rfl
     by_cases hr : r0 = 0
     rotate_left
     ·have hra : (r0 != 0) = true := by simpa using hr
      have HRR := Lib.hid hr;clear hr;have r0 := H.fa 0 0 rfl rfl;go_wp2_with fail;clear r0;replace H := H.drew;have b0 := H.fa 5 0 rfl rfl;have b1 := H.fa 5 1 rfl rfl;have rb0 := H.fa 0 0 rfl rfl;have rb1 := H.fa 0 1 rfl rfl;have rb2 := H.fa 0 2 rfl rfl;have rb3 := H.fa 0 3 rfl rfl;refine wp_region_held_drew (S := fun w' => w'.cell? ⟨w.heap.size, 0, none⟩ = some (.int .i64 next) ∧ w'.cell? ⟨w.heap.size, 1, none⟩ = some (.slice A n c) ∧ w'.cell? ⟨w8.heap.size, 0, none⟩ = some (.int .i64 r0) ∧ w'.cell? ⟨w8.heap.size, 1, none⟩ = some (.int .i64 r1) ∧ w'.cell? ⟨w8.heap.size, 2, none⟩ = some (.string r2) ∧ w'.cell? ⟨w8.heap.size, 3, none⟩ = some (.string r3)) (by kernel_rfl) ?_ (fun hHeld => ?_)
      ·exact ⟨b0, b1, rb0, rb1, rb2, rb3⟩
      obtain ⟨u0, hu0⟩ : ∃ uu : World, uu = (w8.alloc (.cells #[.int .i64 r0, .int .i64 r1, .string r2, .string r3] 33)).drew := ⟨_, rfl⟩;rw [← hu0] at H hHeld ⊢;clear hu0;refine wpT 0 ?_;refine wpT 2 ?_;refine wpC 1 fun K hK => ?_;go_simp;refine (copyVol_any next A n c L _ (HV.out.fr H.fr) hn HE.out).mono ?_;rintro e u1 ⟨A9, c9, L9, rfl, hL9, K9⟩;have HL9 := Lib.hid hL9;clear hL9;replace H := H.join K9;clear K9;go_wp2_with fail;refine hK.out _ _ ?_ fun hHeld => ?_
      ·exact ⟨H.fa 6 0 rfl rfl, H.fa 6 1 rfl rfl, H.fa 1 0 rfl rfl, H.fa 1 1 rfl rfl, H.fa 1 2 rfl rfl, H.fa 1 3 rfl rfl⟩
      clear hK K;(try simp only [sX, Act.put]);refine wpC 3 fun K hK => ?_;have e0 := H.bfree 4 rfl 0;have e1 := H.bfree 4 rfl 1;have s0 := H.fa 4 0 rfl rfl;have s1 := H.fa 4 1 rfl rfl;replace H := H.blays 4 rfl [.int .i64 next, .slice A9 n c9] rfl;simp only [layW, Nat.zero_add, Nat.reduceAdd] at H;go_simp;refine hK.out _ _ ?_ fun hHeld => ?_
      ·exact ⟨H.fa 6 0 rfl rfl, H.fa 6 1 rfl rfl, H.fa 1 0 rfl rfl, H.fa 1 1 rfl rfl, H.fa 1 2 rfl rfl, H.fa 1 3 rfl rfl⟩
      clear hK K;(try simp only [sX, Act.put]);refine wpC 4 fun K hK => ?_;have e0 := H.bfree 3 rfl 0;have e1 := H.bfree 3 rfl 1;have e2 := H.bfree 3 rfl 2;have e3 := H.bfree 3 rfl 3;have s0 := H.fa 3 0 rfl rfl;have s1 := H.fa 3 1 rfl rfl;have s2 := H.fa 3 2 rfl rfl;have s3 := H.fa 3 3 rfl rfl;replace H := H.blays 3 rfl [.int .i64 r0, .int .i64 r1, .string r2, .string r3] rfl;simp only [layW, Nat.zero_add, Nat.reduceAdd] at H;go_simp;refine hK.out _ _ ?_ fun hHeld => ?_
      ·exact ⟨H.fa 6 0 rfl rfl, H.fa 6 1 rfl rfl, H.fa 1 0 rfl rfl, H.fa 1 1 rfl rfl, H.fa 1 2 rfl rfl, H.fa 1 3 rfl rfl⟩
      clear hK K;(try simp only [sX, Act.put]);refine wpAnyH_done (by kernel_rfl) ?_ _;clear b0 b1 rb0 rb1 rb2 rb3;have hnc9 : n ≤ c9 := H.nnc 0 rfl;have HM := Lib.hid (show volAll next (nodes L) (c0, c1, c2, c3, c4, c5) = ((next, nodes L9), (r0, r1, r2, r3)) by
      have h1 := volDo_no (next := next) (l := nodes L) (c := (c0, c1, c2, c3, c4, c5)) (by rw [← HO.out]; exact HRR.out);rw [← HO.out] at h1;rw [HA.out, ← HO.out, HL9.out];simp only at h1;rw [h1])
      go_wp2_with fail
      ((try simp only [Exit.inBlock, Exit.then]); refine bodyPost_ret (results_cells_row rfl _ _ (w.heap.size + 1 + 1) (w.heap.size + 1 + 1 + 1) 31 33 #[.int .i64 next, .slice A9 n c9] #[.int .i64 r0, .int .i64 r1, .string r2, .string r3] (0, 0) (0, 0) _ _ rfl (H.blk 4 rfl) Tryz.underlying31 rfl (by kernel_rfl) rfl (H.blk 3 rfl) Tryz.underlying33 rfl (by kernel_rfl)) rfl ?_)
      exact NewV.newN HM.out H 0 rfl
     have hra : (r0 != 0) = false := by simpa using hr
     have HRR := Lib.hid hr;clear hr;have r0 := H.fa 0 0 rfl rfl;go_wp2_with fail;clear r0;replace H := H.drew;have v0 := H.vc0 1 rfl;have v1 := H.vc1 1 rfl;have rb0 := H.fa 0 0 rfl rfl;have rb1 := H.fa 0 1 rfl rfl;have rb2 := H.fa 0 2 rfl rfl;have rb3 := H.fa 0 3 rfl rfl;refine wp_region_held_drew (S := fun w' => w'.cell? ⟨w7.heap.size, 0, none⟩ = some (.int .i64 nx) ∧ w'.cell? ⟨w7.heap.size, 1, none⟩ = some (.slice A2 n2 c2') ∧ w'.cell? ⟨w8.heap.size, 0, none⟩ = some (.int .i64 r0) ∧ w'.cell? ⟨w8.heap.size, 1, none⟩ = some (.int .i64 r1) ∧ w'.cell? ⟨w8.heap.size, 2, none⟩ = some (.string r2) ∧ w'.cell? ⟨w8.heap.size, 3, none⟩ = some (.string r3)) (by kernel_rfl) ?_ (fun hHeld => ?_)
     ·exact ⟨v0, v1, rb0, rb1, rb2, rb3⟩
     obtain ⟨u0, hu0⟩ : ∃ uu : World, uu = (w8.alloc (.cells #[.int .i64 r0, .int .i64 r1, .string r2, .string r3] 33)).drew := ⟨_, rfl⟩;rw [← hu0] at H hHeld ⊢;clear hu0;refine wpT 0 ?_;refine wpT 1 ?_;refine wpC 2 fun K hK => ?_;have e0 := H.bfree 3 rfl 0;have e1 := H.bfree 3 rfl 1;have s0 := H.fa 3 0 rfl rfl;have s1 := H.fa 3 1 rfl rfl;replace H := H.blays 3 rfl [.int .i64 nx, .slice A2 n2 c2'] rfl;simp only [layW, Nat.zero_add, Nat.reduceAdd] at H;go_simp;refine hK.out _ _ ?_ fun hHeld => ?_
     ·exact ⟨H.vc0 1 rfl, H.vc1 1 rfl, H.fa 0 0 rfl rfl, H.fa 0 1 rfl rfl, H.fa 0 2 rfl rfl, H.fa 0 3 rfl rfl⟩
     clear hK K;(try simp only [sX, Act.put]);refine wpC 3 fun K hK => ?_;have e0 := H.bfree 2 rfl 0;have e1 := H.bfree 2 rfl 1;have e2 := H.bfree 2 rfl 2;have e3 := H.bfree 2 rfl 3;have s0 := H.fa 2 0 rfl rfl;have s1 := H.fa 2 1 rfl rfl;have s2 := H.fa 2 2 rfl rfl;have s3 := H.fa 2 3 rfl rfl;replace H := H.blays 2 rfl [.int .i64 r0, .int .i64 r1, .string r2, .string r3] rfl;simp only [layW, Nat.zero_add, Nat.reduceAdd] at H;go_simp;refine hK.out _ _ ?_ fun hHeld => ?_
     ·exact ⟨H.vc0 1 rfl, H.vc1 1 rfl, H.fa 0 0 rfl rfl, H.fa 0 1 rfl rfl, H.fa 0 2 rfl rfl, H.fa 0 3 rfl rfl⟩
     clear hK K;(try simp only [sX, Act.put]);refine wpAnyH_done (by kernel_rfl) ?_ _;clear v0 v1 rb0 rb1 rb2 rb3;have HM := Lib.hid (show volAll next (nodes L) (c0, c1, c2, c3, c4, c5) = ((nx, nodes L2), (r0, r1, r2, r3)) by rw [HA.out, ← HO.out, HL2.out]);go_wp2_with fail
     ((try simp only [Exit.inBlock, Exit.then]); refine bodyPost_ret (results_cells_row rfl _ _ (w.heap.size + 1 + 1) (w.heap.size + 1 + 1 + 1) 31 33 #[.int .i64 nx, .slice A2 n2 c2'] #[.int .i64 r0, .int .i64 r1, .string r2, .string r3] (0, 0) (0, 0) _ _ rfl (H.blk 3 rfl) Tryz.underlying31 rfl (by kernel_rfl) rfl (H.blk 2 rfl) Tryz.underlying33 rfl (by kernel_rfl)) rfl ?_)
     exact NewV.newV HM.out H 1 rfl
end Go.Proofs.YtllonpbhgbhogaaGreatDoor
namespace Go.Proofs.YtllonpbhgbhogaaGreatDoor
open Go.RowKit
def insTo (e : EntT) (l : List EntT) : List EntT × Bool := l.foldl (fun (p : List EntT × Bool) x => if p.2 then (p.1 ++ [x], true) else if lesB x e.1 e.2.1 then (p.1 ++ [x], false) else (p.1 ++ [e, x], true)) ([], false)
theorem insTo_snoc (e : EntT) (l : List EntT) (x : EntT) : insTo e (l ++ [x]) = if (insTo e l).2 then ((insTo e l).1 ++ [x], true) else if lesB x e.1 e.2.1 then ((insTo e l).1 ++ [x], false) else ((insTo e l).1 ++ [e, x], true) := by
 rw [insTo, List.foldl_append]; rfl
theorem insTo_go (e : EntT) : ∀ (l acc : List EntT), l.foldl (fun (p : List EntT × Bool) x => if p.2 then (p.1 ++ [x], true) else if lesB x e.1 e.2.1 then (p.1 ++ [x], false) else (p.1 ++ [e, x], true)) (acc, true) = (acc ++ l, true)
 | [], acc => by simp
 | x :: l, acc => by rw [List.foldl_cons, if_pos rfl, insTo_go e l]; simp
theorem insTo_acc (e : EntT) : ∀ (l acc : List EntT), l.foldl (fun (p : List EntT × Bool) x => if p.2 then (p.1 ++ [x], true) else if lesB x e.1 e.2.1 then (p.1 ++ [x], false) else (p.1 ++ [e, x], true)) (acc, false) = if l.all (fun x => lesB x e.1 e.2.1) then (acc ++ l, false) else (acc ++ insD l e, true)
 | [], acc => by simp
 | x :: l, acc => by
   rw [List.foldl_cons, if_neg (by simp)]
   by_cases hx : lesB x e.1 e.2.1 = true
   ·rw [if_pos hx, insTo_acc e l, List.all_cons, hx, Bool.true_and]
    simp [insD, hx]
   ·rw [if_neg hx, insTo_go, List.all_cons]
    simp [hx, insD]
theorem insTo_all (e : EntT) (l : List EntT) : (if (insTo e l).2 then (insTo e l).1 else (insTo e l).1 ++ [e]) = insD l e := by
 rw [insTo, insTo_acc]
 by_cases h : l.all (fun x => lesB x e.1 e.2.1) = true
 ·rw [if_pos h]
  simp only [List.nil_append];obtain ⟨h1, h2⟩ := takeWhile_at (fun x : EntT => lesB x e.1 e.2.1) l l.length (fun x hx => List.all_eq_true.1 h x (List.mem_of_mem_take hx)) (.inl rfl);rw [List.take_length] at h1;rw [List.drop_length] at h2;rw [insD, h1, h2]; rfl
 ·rw [if_neg h]; simp
theorem insTo_len (e : EntT) (l : List EntT) : (insTo e l).1.length ≤ l.length + 1 := by
 have h := insTo_all e l;have h2 := (insD_perm l e).length_eq
 split at h
 ·rw [h, h2]; simp
 ·have := congrArg List.length h
  rw [h2] at this; simp at this; omega
set_option maxRecDepth 100000 in
set_option maxHeartbeats 8000000 in
theorem l5Add_any (A : Option Addr) (n c : Nat) (d : List EntT) (s : ByteArray) (id : Int) (w : World) (h : Rd w A n 4 (d.flatMap cEnt)) (hn : n ≤ 1048576) (hz : ∀ e ∈ d, e.2.2.1.size ≤ 16777216) (hs : s.size ≤ 16777216)
 (h1 : nameB (toB s) = true) (h2 : dirAt d (toB s) = none) (h3 : inB id 1 100000 = true) (h4 : d.length < 12) :
 Calls Tryz.prog 111 #[.slice A n c, .string s, .int .i64 id] w (GaveD w (addD d s id)) := by
 have HR := Lib.hid h;have HLD := Lib.hid (show d.length = n from h.lenk cEnt_len (by omega));have hn12 : n < 12 := by rw [← HLD.out]; exact h4
 have hn12b : ¬ (12 : Int) ≤ (n : Int) := by omega
 have HZ := Lib.hid hz;have HNM := Lib.hid h1;have HE := Lib.hid (dirZ_none h2);have HID := Lib.hid h3;obtain ⟨hh, ehh⟩ : ∃ x, x = hashN (toB s) := ⟨_, rfl⟩;have HD := Lib.hid (show addD d s id = (insD d (hh, (idxN d hh : Int), s, id), true) by rw [addD, if_pos (by simp [h1, h2, h3, h4]), ehh]);have HH := Lib.hid ehh;rw [HD.out];clear h hz h1 h2 h3 h4 ehh;go_enter Tryz.func111, Tryz.ntmps111;go_wp2_with fail;refine (specNameOk_any s _ hs).mono ?_;rintro e w1 ⟨rfl, f1⟩;rw [HNM.out];go_wp2_with fail;refine (l5At_any A n c d s _ (HR.out.fr f1) hn HZ.out hs).mono ?_;rintro e w2 ⟨rfl, f2⟩;rw [HE.out];replace f2 := f1.then f2;clear f1;go_wp2_with fail;refine (l1In_any id 1 100000 _).mono ?_;rintro e _ ⟨rfl, rfl⟩;rw [HID.out];go_wp2_with fail;refine (specHashOf_any s _ hs).mono ?_;rintro e w3 ⟨rfl, f3⟩;rw [← HH.out];replace f3 := f2.then f3;clear f2;go_wp2_with fail
 go_loopw [9, 10] (fun kv iv wr => ∃ i : Nat, iv = .int .i64 i ∧ i ≤ n ∧ kv = .int .i64 (idxN (d.take i) hh : Nat) ∧ Fr w wr) (fun _ iv _ => n - (intOf iv).toNat)
 case atStart => exact ⟨0, rfl, by omega, by simp [idxN], f3⟩
 case round =>
  clear f3;obtain ⟨i, rfl, hi, rfl, hf⟩ := hrel;have HF := Lib.hid hf;clear hf;have hkb := idxN_le (d.take i) hh;have hkb2 : idxN (d.take i) hh ≤ 12 := by have := List.length_take_le i d; have := HLD.out; omega
  obtain ⟨kk, ekk⟩ : ∃ k, k = idxN (d.take i) hh := ⟨_, rfl⟩;rw [← ekk] at hkb2 ⊢;have HKK := Lib.hid ekk;clear hkb ekk
  by_cases hlt : i < n
  ·obtain ⟨⟨x0, x1, x2, x3⟩, hx⟩ := some_at HLD.out hlt
   obtain ⟨bk, of, rfl, hcell⟩ := (HR.out.fr HF.out).elem cEnt_len hx (by omega);have ca0 := hcell 0 _ rfl; simp only [Nat.add_zero] at ca0;have ca1 := hcell 1 _ rfl;have HX := Lib.hid hx;have HS := Lib.hid (show idxN (d.take (i + 1)) hh = idxStep hh kk (x0, x1, x2, x3) by rw [List.take_add_one, hx, HKK.out]; exact idxN_snoc _ _ _);clear hx hcell;obtain ⟨b0, hb0⟩ : ∃ b, (x0 == hh) = b := ⟨_, rfl⟩;obtain ⟨b1, hb1⟩ : ∃ b, (x1 == (kk : Int)) = b := ⟨_, rfl⟩;have HB := Lib.hid (show idxStep hh kk (x0, x1, x2, x3) = if (b0 && b1) = true then kk + 1 else kk by
    rw [← hb0, ← hb1, idxStep]; simp)
   cases b0 with
   | false =>
     go_wp2_with fail;go_roundw
     case rel => exact ⟨i + 1, by go_num, by omega, by rw [HS.out, HB.out]; simp, HF.out⟩
     case measure => simp [intOf]; omega
   | true =>
     cases b1 with
     | false =>
       go_wp2_with fail;go_roundw
       case rel => exact ⟨i + 1, by go_num, by omega, by rw [HS.out, HB.out]; simp, HF.out⟩
       case measure => simp [intOf]; omega
     | true =>
       go_wp2_with fail;go_roundw
       case rel => exact ⟨i + 1, by go_num, by omega, by rw [HS.out, HB.out]; simp, HF.out⟩
       case measure => simp [intOf]; omega
  ·have HI := Lib.hid (show kk = idxN d hh by rw [HKK.out, List.take_of_length_le (by rw [HLD.out]; omega)])
   have H := ((Hp.start w).go HF.out).lit0 109 4;go_wp2_with fail
   go_loopw [11, 12, 13] (fun ov pv iv wr => ∃ i : Nat, iv = .int .i64 i ∧ i ≤ n ∧ pv = .bool (insTo (hh, (kk : Int), s, id) (d.take i)).2 ∧ Hp [] w wr [.row 109 4 ov (insTo (hh, (kk : Int), s, id) (d.take i)).1.length ((insTo (hh, (kk : Int), s, id) (d.take i)).1.flatMap cEnt)]) (fun _ _ iv _ => n - (intOf iv).toNat)
   case atStart => exact ⟨0, rfl, by omega, rfl, H⟩
   case round =>
    clear H;obtain ⟨j, rfl, hj, rfl, H⟩ := hrel;have hil := insTo_len (hh, (kk : Int), s, id) (d.take j);have hil2 : (insTo (hh, (kk : Int), s, id) (d.take j)).1.length ≤ 13 := by have := List.length_take_le j d; have := HLD.out; omega
    clear hil;obtain ⟨out, hout⟩ : ∃ o, (insTo (hh, (kk : Int), s, id) (d.take j)).1 = o := ⟨_, rfl⟩;obtain ⟨pb, hpb⟩ : ∃ o, (insTo (hh, (kk : Int), s, id) (d.take j)).2 = o := ⟨_, rfl⟩;rw [hout] at H hil2;rw [hpb];have HO := Lib.hid hout;have HP := Lib.hid hpb;clear hout hpb;obtain ⟨A2, c2, rfl⟩ := H.shape 0 rfl
    by_cases hlt2 : j < n
    ·obtain ⟨⟨x0, x1, x2, x3⟩, hx⟩ := some_at HLD.out hlt2
     have HS := Lib.hid (show insTo (hh, (kk : Int), s, id) (d.take (j + 1)) = if pb then (out ++ [(x0, x1, x2, x3)], true) else if lesB (x0, x1, x2, x3) hh (kk : Int) then (out ++ [(x0, x1, x2, x3)], false) else (out ++ [(hh, (kk : Int), s, id), (x0, x1, x2, x3)], true) by
      rw [List.take_add_one, hx, ← HO.out, ← HP.out]; exact insTo_snoc _ _ _)
     obtain ⟨bk, of, rfl⟩ : ∃ bk of, A = some ⟨bk, of, none⟩ := by
      obtain ⟨b, o, e, _⟩ := HR.out.2 (by omega);exact ⟨b, o, e⟩
     have HCE := Lib.hid (show ∀ w', Fr w w' → w'.cell? ⟨bk, of + j * 4, none⟩ = some (.int .i64 x0) ∧ w'.cell? ⟨bk, of + j * 4 + 1, none⟩ = some (.int .i64 x1) ∧ w'.cell? ⟨bk, of + j * 4 + 2, none⟩ = some (.string x2) ∧ w'.cell? ⟨bk, of + j * 4 + 3, none⟩ = some (.int .i64 x3) from fun w' f => by
      obtain ⟨b', o', ea, hc⟩ := (HR.out.fr f).elem cEnt_len hx (by omega);injection ea with ea; injection ea with ea eb; subst ea eb;exact ⟨hc 0 _ rfl, hc 1 _ rfl, hc 2 _ rfl, hc 3 _ rfl⟩)
     obtain ⟨ca0, ca1, ca2, ca3⟩ := HCE.out _ H.fr;clear hx
     cases pb with
     | true =>
       go_wp2_with (at_builtin; refine wp_appL (f := cEnt) (H) rfl _ _ _ rfl Tryz.underlying74 infoEnt rfl (by decide) 0 _ _ rfl rfl _ _ ((x0, x1, x2, x3)) rfl (by simp) rfl (by simp [cEnt, Value.oneCell']) (by first | (simp only [maxLen]; omega) | (simp [maxLen]; done) | (simp [maxLen]; omega)) (by first | omega | (simp; done) | (simp; omega)) ?_)
       intro v5 w5 H5;have H6 := Lib.hid H5;clear H5 H ca0 ca1 ca2 ca3;go_wp2_with fail;go_roundw
       case rel => exact ⟨j + 1, by go_num, by omega, by rw [HS.out]; rfl, by rw [HS.out]; exact H6.out.recast (by simp)⟩
       case measure => simp [intOf]; omega
     | false =>
       obtain ⟨b, hb⟩ : ∃ b, lesB (x0, x1, x2, x3) hh (kk : Int) = b := ⟨_, rfl⟩;rw [hb] at HS;have HB := Lib.hid hb;clear hb;go_wp2_with fail;refine (specLess_any x0 x1 x2 x3 hh (kk : Int) _).mono ?_;rintro e w6 ⟨rfl, f6⟩;rw [HB.out];replace H := H.go f6;clear f6 ca0 ca1 ca2 ca3;obtain ⟨ca0, ca1, ca2, ca3⟩ := HCE.out _ H.fr
       cases b with
       | true =>
         go_wp2_with (at_builtin; refine wp_appL (f := cEnt) (H) rfl _ _ _ rfl Tryz.underlying74 infoEnt rfl (by decide) 0 _ _ rfl rfl _ _ ((x0, x1, x2, x3)) rfl (by simp) rfl (by simp [cEnt, Value.oneCell']) (by first | (simp only [maxLen]; omega) | (simp [maxLen]; done) | (simp [maxLen]; omega)) (by first | omega | (simp; done) | (simp; omega)) ?_)
         intro v5 w5 H5;have H6 := Lib.hid H5;clear H5 H ca0 ca1 ca2 ca3;go_wp2_with fail;go_roundw
         case rel => exact ⟨j + 1, by go_num, by omega, by rw [HS.out]; rfl, by rw [HS.out]; exact H6.out.recast (by simp)⟩
         case measure => simp [intOf]; omega
       | false =>
         clear ca0 ca1 ca2 ca3;go_wp2_with (at_builtin; refine wp_appL (f := cEnt) (H) rfl _ _ _ rfl Tryz.underlying74 infoEnt rfl (by decide) 0 _ _ rfl rfl _ _ ((hh, (kk : Int), s, id)) rfl (by simp) rfl (by simp [cEnt, Value.oneCell']) (by first | (simp only [maxLen]; omega) | (simp [maxLen]; done) | (simp [maxLen]; omega)) (by first | omega | (simp; done) | (simp; omega)) ?_)
         intro v5 w5 H5;obtain ⟨ca0, ca1, ca2, ca3⟩ := HCE.out _ H5.fr;obtain ⟨o2, ho2⟩ : ∃ o, o = out ++ [(hh, (kk : Int), s, id)] := ⟨_, rfl⟩;have hol : o2.length ≤ 14 := by rw [ho2]; simp; omega
         have H5b := H5.recast (l' := [.row 109 4 v5 o2.length (o2.flatMap cEnt)]) (by rw [ho2]; simp);have HO2 := Lib.hid ho2;clear H H5 ho2;obtain ⟨A5, c5, rfl⟩ := H5b.shape 0 rfl;go_wp2_with (at_builtin; refine wp_appL (f := cEnt) (H5b) rfl _ _ _ rfl Tryz.underlying74 infoEnt rfl (by decide) 0 _ _ rfl rfl _ _ ((x0, x1, x2, x3)) rfl (by simp) rfl (by simp [cEnt, Value.oneCell']) (by first | (simp only [maxLen]; omega) | (simp [maxLen]; done) | (simp [maxLen]; omega)) (by first | omega | (simp; done) | (simp; omega)) ?_)
         intro v7 w7 H7;have H6 := Lib.hid H7;clear H5b H7 ca0 ca1 ca2 ca3;go_wp2_with fail;go_roundw
         case rel => exact ⟨j + 1, by go_num, by omega, by rw [HS.out]; rfl, by rw [HS.out]; exact H6.out.recast (by rw [HO2.out]; simp)⟩
         case measure => simp [intOf]; omega
    ·have HK := Lib.hid (show (if pb = true then out else out ++ [(hh, (kk : Int), s, id)]) = insD d (hh, (idxN d hh : Int), s, id) by
      have h5 := insTo_all (hh, (kk : Int), s, id) (d.take j);rw [HP.out, HO.out, List.take_of_length_le (by rw [HLD.out]; omega)] at h5;rw [← HI.out]; exact h5)
     cases pb with
     | true =>
       have H9 := Lib.hid (show GaveD w (insD d (hh, (idxN d hh : Int), s, id), true) (.returned (.tuple #[.slice A2 out.length c2, .bool true])) wr from ⟨_, rfl, by rw [← HK.out]; exact H⟩);clear H;go_wp2_with fail;go_ret2;exact H9.out
     | false =>
       go_wp2_with (at_builtin; refine wp_appL (f := cEnt) (H) rfl _ _ _ rfl Tryz.underlying74 infoEnt rfl (by decide) 0 _ _ rfl rfl _ _ ((hh, (kk : Int), s, id)) rfl (by simp) rfl (by simp [cEnt, Value.oneCell']) (by first | (simp only [maxLen]; omega) | (simp [maxLen]; done) | (simp [maxLen]; omega)) (by first | omega | (simp; done) | (simp; omega)) ?_)
       intro v5 w5 H5;have H9 := Lib.hid (show GaveD w (insD d (hh, (idxN d hh : Int), s, id), true) (.returned (.tuple #[v5, .bool true])) w5 from ⟨_, rfl, by rw [← HK.out]; exact H5.recast (by simp)⟩);clear H H5;go_wp2_with fail;go_ret2;exact H9.out
end Go.Proofs.YtllonpbhgbhogaaGreatDoor
namespace Go.Proofs.YtllonpbhgbhogaaGreatDoor
open Go.RowKit
end Go.Proofs.YtllonpbhgbhogaaGreatDoor
namespace Go.Proofs.YtllonpbhgbhogaaGreatDoor
open Go.ChangeShapes Go.WideShapes Go.ChangeAt Go.RowKit Go.Deep
theorem own : ownKnob Tryz.prog.godebug = none := by kernel_rfl
theorem laidOut : laidOutB Tryz.prog = true := by kernel_rfl
section
variable {H : Type} {enc : TypeId × Value → H} {P : Program}
theorem trodAll_below (hl : laidOutB P = true) {W W' : World} (hb : Below W.heap.size W W') :
 ∀ {ts : List TypeId} {vs : List Value} {ds : List (DataW H)} {ps : List MemPlace}, (∀ t ∈ ts, P.readableRec t = true ∧ t < P.types.size) → (∀ x ∈ ps, x.block < W.heap.size) →
  DataW.TrodAll enc P W 0 (fun _ => true) true ts vs ds ps → DataW.TrodAll enc P W' 0 (fun b => decide (b < W.heap.size)) true ts vs ds ps
 | [], [], [], _, _, _, h => h
 | t :: ts, v :: vs, d :: ds, ps, hr, hlt, h => by
   obtain ⟨p, q, h1, h2, rfl⟩ := h;have ht := hr t (by simp);exact ⟨p, q, Below.trod hl ht.1 ht.2 h1 hb (fun x hx => hlt x (by simp [hx])), trodAll_below hl hb (fun t' ht' => hr t' (by simp [ht'])) (fun x hx => hlt x (by simp [hx])) h2, rfl⟩
 | [], [], _ :: _, _, _, _, h => h.elim
 | [], _ :: _, [], _, _, _, h => h.elim
 | [], _ :: _, _ :: _, _, _, _, h => h.elim
 | _ :: _, [], [], _, _, _, h => h.elim
 | _ :: _, [], _ :: _, _, _, _, h => h.elim
 | _ :: _, _ :: _, [], _, _, _, h => h.elim
theorem law_post {f : Func} {s : ChangeSpec} {W W' : World} {args : Array Value} {ds gs : List (DataW H)} {before : List MemPlace} {tb : TypeId}
 (hW : DataW.Whole enc P f.params.toList s.vars false W args.toList ds gs before) (hfn : s.fn H (ds ++ gs) = { results := [.lit (.bool true)], args := ds, vars := gs })
 (hrt : f.resultTypes = #[tb]) (htb : P.underlying tb = some .bool) (hl : laidOutB P = true) (hr : (f.params.toList.all fun t => P.readableRec t && decide (t < P.types.size)) = true) (hv : varsRowed P s.vars = true)
 (hfr : Below W.heap.size W W') : s.post enc P f false true false false W args (.bool true) W' := by
 have hlt : ∀ x ∈ before, x.block < W.heap.size := fun x hx => hW.lt x hx;have hW' := hW;obtain ⟨p, q, hA, hV, rfl, _, _⟩ := hW';have hr' : ∀ t ∈ f.params.toList, P.readableRec t = true ∧ t < P.types.size := fun t ht => by simpa using List.all_eq_true.1 hr t ht
 refine ⟨ds, gs, _, [], p, q, hW, ?_, ?_, ?_, hfr.frame _, fun h => by cases h⟩
 ·rw [hfn, hrt]
  exact trodAll_mk1 (shut_bool htb true)
 ·rw [hfn]
  exact trodAll_below hl hfr hr' (fun x hx => hlt x (by simp [hx])) hA
 ·rw [hfn]
  exact Below.trodVars hl hfr hv hV
theorem rd_of_cells {α : Type} [Inhabited α] (f : α → List Value) (ok : α → Prop) {W : World} {t e : TypeId} {k : Nat} (hk0 : 0 < k) (hk : ∀ x, (f x).length = k) (ht : P.underlying t = some (.slice e)) (hc : P.cellsOf e = k)
 (hel : ∀ n cs y, cs.length = k → DataW.trod enc P W 0 (fun _ => true) true n e cs = some y → ∃ x, cs = f x ∧ ok x)
 {fuel : Nat} {cs0 : List Value} {x0 : DataW H × List MemPlace} (hf : DataW.trod enc P W 0 (fun _ => true) true fuel t cs0 = some x0) :
 ∃ (A : Option Addr) (n c : Nat) (l : List α), cs0 = [.slice A n c] ∧ Rd W A n k (l.flatMap f) ∧ l.length = n ∧ (∀ x ∈ l, ok x) ∧ n ≤ c ∧ c ≤ maxLen := by
 rcases open_slice ht hf with ⟨hcs, _⟩ | ⟨a, n, cap, m, n', D, Pl, hcs, _, hlc, hcm, hm, _, hx⟩
 ·subst hcs
  exact ⟨none, 0, 0, [], rfl, ⟨by simp, fun h => absurd h (by omega)⟩, rfl, by simp, Nat.le_refl _, by simp [maxLen]⟩
 ·subst hcs
  simp only [if_true] at hm;rw [hc] at hx;obtain ⟨F, hF⟩ := choose_lt (α := α) (n := n) (p := fun i x => ok x ∧ ∀ j u, (f x)[j]? = some u → W.cell? (a.add (i * k + j)) = some u) (fun i hi => by
   obtain ⟨cs, h1, h2⟩ := hx i (by omega);obtain ⟨_, hlen, hcell⟩ := World.cells?_some h1;obtain ⟨x, rfl, hok⟩ := hel _ _ _ hlen h2;refine ⟨x, hok, fun j u hu => ?_⟩;have hj : j < k := by rw [← hk x]; exact (List.getElem?_eq_some_iff.1 hu).1
   have := hcell j hj;rw [Go.Deep.add_add] at this;rw [this, hu])
  subst hm;have hspot : 0 < n → ∃ b o, a = ⟨b, o, none⟩ := fun hn => by
   have h1 := (hF 0 hn).2 0 _ (List.getElem?_eq_getElem (by rw [hk]; exact hk0));obtain ⟨b, o, s⟩ := a;have := World.cell?_spot h1;simp [Addr.add] at this;subst this;exact ⟨b, o, rfl⟩
  refine ⟨some a, n, m, (List.range n).map F, rfl, ⟨?_, fun hn0 => ?_⟩, by simp, fun x hx => ?_, hlc, hcm⟩
  ·rw [flat_len hk]
   simp
  ·obtain ⟨b, o, rfl⟩ := hspot hn0
   refine ⟨b, o, rfl, ?_⟩;intro j u hu;obtain ⟨i, r, x, rfl, _, hx', hr⟩ := flat_at hk hu;rw [List.getElem?_map] at hx';obtain ⟨i', hi', rfl⟩ := Option.map_eq_some_iff.1 hx';obtain ⟨hi, rfl⟩ : i < n ∧ i = i' := by
    rw [List.getElem?_eq_some_iff] at hi';obtain ⟨h1, h2⟩ := hi';simp at h1 h2;exact ⟨h1, h2⟩
   have := (hF i hi).2 r u hr
   rwa [Addr.add_lit] at this
  ·simp only [List.mem_map, List.mem_range] at hx
   obtain ⟨i, hi, rfl⟩ := hx;exact (hF i hi).1
end
end Go.Proofs.YtllonpbhgbhogaaGreatDoor
namespace Go.Proofs.YtllonpbhgbhogaaGreatDoor
open Go.ChangeShapes Go.WideShapes Go.ChangeAt Go.RowKit Go.Deep
section
variable {H : Type} {enc : TypeId × Value → H}
instance inhNV : Inhabited (Value × Nod) := ⟨(.slice none 0 0, 0, 0, 0, ⟨#[]⟩, [])⟩
end
end Go.Proofs.YtllonpbhgbhogaaGreatDoor
namespace Go.Proofs.YtllonpbhgbhogaaGreatDoor
open Go.ChangeShapes Go.WideShapes Go.ChangeAt Go.RowKit Go.Deep
section
variable {H : Type} {enc : TypeId × Value → H} {P : Program}
end
end Go.Proofs.YtllonpbhgbhogaaGreatDoor
namespace Go.Proofs.YtllonpbhgbhogaaGreatDoor
open Go.ChangeShapes Go.WideShapes Go.ChangeAt Go.RowKit
theorem gKn : Tryz.prog.globalNamed "loop.example/g00773/impl.knownParts" = some 0 := by kernel_rfl
theorem tKn : (Tryz.prog.globals[0]?).map (·.type) = some 164 := by kernel_rfl
theorem cKnT : Tryz.prog.cellsOf 164 = 54 := by kernel_rfl
theorem cKnE : Tryz.prog.cellsOf 3 = 1 := by kernel_rfl
theorem kpTab_cells : (kpTab.map fun z => Value.int .i64 z) = kpPairs.flatMap cPair := by rfl
theorem kpTab_data : (Rows.laid_loop_example_g00773_impl_knownParts : DataW Unit) = Lib.tabData .i64 kpTab := by rfl
theorem KT_of_laid {W : World} {rest : List (String × DataW Unit)} (h : laidMet Tryz.prog (("loop.example/g00773/impl.knownParts", Rows.laid_loop_example_g00773_impl_knownParts) :: rest) W) : KT W := by
 rw [kpTab_data] at h;have hT := Lib.tabIs_of_head gKn tKn Tryz.underlying164 Tryz.underlying3 cKnE cKnT h;refine ⟨by decide, fun _ => ⟨0, 0, rfl, fun j u hu => ?_⟩⟩;have := World.var?_cell gKn hT j;rw [kpTab_cells] at this;rw [Nat.zero_add];simpa [hu] using this
end Go.Proofs.YtllonpbhgbhogaaGreatDoor