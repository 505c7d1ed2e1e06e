/-
The law FnMount, walked.
-/
import Derived.Test.YtmpldngnkacnmaaGreatDoorImage
import Derived.Test.YtmpldngnkacnmaaGreatDoorMountS
import Derived.Test.YtmpldngnkacnmaaGreatDoorGq
import Derived.Test.YtmpldngnkacnmaaGreatDoorVolOkS
import Derived.Test.YtmpldngnkacnmaaGreatDoorFnVolW
namespace Go.Proofs.YtmpldngnkacnmaaGreatDoor
open Go.RowKit
set_option linter.unusedVariables false
set_option linter.unusedSimpArgs false
theorem mountB_len {l : List ByteArray} {r : (Int × List Nod) × List WrT × Int} (h : mountB l = some r) : l.length = 18 := by
 cases Nat.decEq l.length 18 with
 | isTrue h1 => exact h1
 | isFalse h1 => rw [mountB, if_pos h1] at h; cases h
theorem mountB_outs {l : List ByteArray} {v : Int × List Nod} {outs : List WrT} {seq : Int} (h : mountB l = some (v, outs, seq)) : ∀ x ∈ outs, 0 ≤ x.1 ∧ x.1 ≤ 16 := by
 rw [mountB, if_neg (by rw [mountB_len h]; simp)] at h
 cases ht : logT l with
 | none => rw [ht] at h; cases h
 | some t =>
   rw [ht] at h;simp only at h
   split at h
   ·cases h
   ·injection h with h
    injection h with _ h;injection h with h1 h2;rw [← h1];exact (logT_outs (seq := t.1) (outs := t.2) ht).2
theorem rootB_sz : ∀ t ∈ rootB ++ [ByteArray.mk #[]], t.size ≤ 16777216 := fun t ht => by
 rcases List.mem_append.1 ht with h | h
 ·exact Nat.le_trans (root_V.blocks t h) (by decide)
 ·rw [List.mem_singleton.1 h]; exact Nat.zero_le _
theorem MountGave.yes {w w' : World} {l : List ByteArray} {e : Ending} {nx : Int} {ns : List Nod} {outs : List WrT} {seq : Int} (h : MountGave w l e w') (hm : mountB l = some ((nx, ns), outs, seq)) :
 ∃ (A : Option Addr) (m c : Nat) (L : List (Value × Nod)) (C : Option Addr) (d : Nat), nodes L = ns ∧ volB nx (nodes L) = true ∧ ReadSz L ∧ m ≤ 16 ∧ m ≤ c ∧ (∀ x ∈ outs, x.2.size ≤ 400) ∧ outs.length ≤ 17 ∧
  e = .returned (.tuple #[.agg #[.int .i64 nx, .slice A m c], .slice C outs.length d, .int .i64 seq, .int .i64 0]) ∧ Hp [] w w' [obN (.slice A m c) m L, .row 34 2 (.slice C outs.length d) outs.length (outs.flatMap cWrite)] := by
 unfold MountGave at h;rw [hm] at h;obtain ⟨A, c, L, C, d, h1, h2, h3, h4, h5, h6, h7, h8, h9⟩ := h;simp only at h1 h2;subst h1;exact ⟨A, L.length, c, L, C, d, rfl, h2, h3, by have := (volB_V h2).len; rwa [nodes_len] at this, h6, h4, h5, h8, h9⟩
theorem MountGave.not {w w' : World} {l : List ByteArray} {e : Ending} (h : MountGave w l e w') (hm : mountB l = none) :
 ∃ (C : Option Addr) (d : Nat), e = .returned (.tuple #[.agg #[.int .i64 0, .slice none 0 0], .slice C 0 d, .int .i64 0, .int .i64 1]) ∧ Fr w w' := by
 unfold MountGave at h;rw [hm] at h;obtain ⟨C, d, h1, h2⟩ := h;exact ⟨C, d, h1, h2.fr⟩
set_option maxRecDepth 100000 in
set_option maxHeartbeats 64000000 in
theorem lawFnMount_walk (A : Option Addr) (n c : Nat) (bs : List UInt8) (w : World) (hA : Rd w A n 1 (bs.map cU8)) (hcap : n ≤ 9223372036854775807) (hk : KT w) :
 Calls Tryz.prog 3 #[.slice A n c] w fun e w' => e = .returned (.bool true) ∧ Fr w w' := by
 by_cases hbig : 1048576 < n
 ·have hd : decide (1048576 < n) = true := by simpa using hbig
  go_enter Tryz.func3, Tryz.ntmps3;go_wp2_with fail;refine (big_any A n c _ hcap).mono ?_;rintro e w1 ⟨rfl, rfl⟩;rw [hd];go_wp2_with fail;go_ret;exact ⟨rfl, Below.refl _ _⟩
 have hd : decide (1048576 < n) = false := by simpa using hbig
 have hn : n ≤ 1048576 := by omega
 have HA := Lib.hid hA;have HK := Lib.hid hk;go_enter Tryz.func3, Tryz.ntmps3;go_wp2_with fail;refine (big_any A n c _ hcap).mono ?_;rintro e wq ⟨rfl, hwq⟩;rw [← hwq, hd];clear hwq hd hbig hA hk;go_wp2_with fail;refine (drawMount_any A n c bs _ HA.out hn).mono ?_;rintro e w1 ⟨gl, m, d, o, rfl, hmd, hm18, hsz, hR, f1⟩;have HSZ := Lib.hid (show ∀ t ∈ o, t.size ≤ 16777216 from fun t ht => Nat.le_trans (hsz t ht) (by decide));have HR := Lib.hid hR;have HMD := Lib.hid hmd;have HL := Lib.hid hR.len1;have HF1 := Lib.hid f1;have HK1 := Lib.hid (HK.out.fr f1);clear hsz hR hmd f1 HK;have H := Hp.start w1;go_wp2_with fail;refine (implMount_any (some ⟨gl, 0, none⟩) m d o _ HR.out HMD.out (by omega) HSZ.out HK1.out).mono ?_;intro e w2 hG
 cases hmo : mountB o with
 | none =>
   have HMO := Lib.hid hmo;clear hmo;obtain ⟨C, d0, rfl, f2⟩ := hG.not HMO.out;replace H := (H.go f2).lay_ 28 [.int .i64 0, .slice none 0 0] rfl;clear f2 hG;go_wp2_with fail;refine (specMount_any (some ⟨gl, 0, none⟩) m d o _ (HR.out.fr H.fr) HMD.out (by omega) HSZ.out).mono ?_;intro e w3 hG;obtain ⟨C2, d2, rfl, f3⟩ := hG.not HMO.out;replace H := (H.go f3).lay_ 28 [.int .i64 0, .slice none 0 0] rfl;clear f3 hG;have q1 := H.fa 1 1 rfl rfl;have HF := Lib.hid (Fr.then HF1.out H.fr);clear H;go_wp2_with fail;go_ret;exact ⟨rfl, HF.out⟩
 | some r =>
   obtain ⟨⟨nx, ns⟩, outs, seq⟩ := r;have HMO := Lib.hid hmo;have h18 := mountB_len hmo;rw [HL.out] at h18;subst h18;have HOB := Lib.hid (mountB_outs hmo);clear hmo hm18;obtain ⟨A1, m1, c1, L1, C1, d1, hn1, hv1, hz1, hm16, hmc1, ho1, ho17, rfl, K2⟩ := hG.yes HMO.out;have HN1 := Lib.hid hn1;have HV1 := Lib.hid hv1;have HZ1 := Lib.hid hz1;have HO1 := Lib.hid ho1;have HMC1 := Lib.hid hmc1;clear hG hn1 hv1 hz1 ho1 hmc1;replace H := (H.join K2).lay_ 28 [.int .i64 nx, .slice A1 m1 c1] rfl;clear K2;go_wp2_with fail;refine (specMount_any (some ⟨gl, 0, none⟩) 18 d o _ (HR.out.fr H.fr) HMD.out (by omega) HSZ.out).mono ?_;intro e w3 hG;obtain ⟨A2, m2, c2, L2, C2, d2, _, _, _, _, _, _, _, rfl, K3⟩ := hG.yes HMO.out;obtain ⟨gv, hgv⟩ : ∃ z, z = w2.heap.size := ⟨_, rfl⟩;rw [← hgv] at H ⊢;clear hgv hG;replace H := (H.go K3.fr).lay_ 28 [.int .i64 nx, .slice A2 m2 c2] rfl;clear K3;have hsz : (w3.alloc (.cells [.int .i64 nx, .slice A2 m2 c2].toArray 28)).heap.size = w3.heap.size + 1 := by simp
   replace H := H.lit0 9 1;rw [hsz] at H;clear hsz;go_wp2_with (at_builtin; refine wp_appRd (H) rfl _ _ _ rfl Tryz.underlying24 infoString rfl (by decide) 0 _ _ _ rfl rfl _ _ _ _ rfl (fun h => nomatch h) (HR.out.fr H.fr) (one_strM _) (by first | (simp only [maxLen]; omega) | (simp [maxLen]; done) | (simp [maxLen]; omega)) (by first | omega | (simp; done) | (simp; omega)) ?_)
   intro v5 w5 H5;obtain ⟨gu, hgu⟩ : ∃ z, z = w3.heap.size := ⟨_, rfl⟩;rw [← hgu] at H5 ⊢;clear hgu H;obtain ⟨gx, cx, rfl, _⟩ := H5.form 0 rfl (by decide);have HX : Hp [] w1 w5 [.row 9 1 (.slice (some ⟨gx, 0, none⟩) 18 cx) 18 ((putAll o []).map Value.string), .blk gu 28 [.int .i64 nx, .slice A2 m2 c2], .blk gv 28 [.int .i64 nx, .slice A1 m1 c1], obN (.slice A1 m1 c1) m1 L1, .row 34 2 (.slice C1 outs.length d1) outs.length (outs.flatMap cWrite)] := H5;clear H5;have HXC := Lib.hid (own_nc (HX.row 0 rfl));have HH := Lib.hid HX;clear HX;go_wp2_with fail
   go_loopw [13] (fun iv wr => ∃ (i : Nat) (ps : List WrT), iv = .int .i64 i ∧ i ≤ outs.length ∧ (∀ x ∈ ps, x ∈ outs) ∧ Hp [] w1 wr [.row 9 1 (.slice (some ⟨gx, 0, none⟩) 18 cx) 18 ((putAll o ps).map Value.string), .blk gu 28 [.int .i64 nx, .slice A2 m2 c2], .blk gv 28 [.int .i64 nx, .slice A1 m1 c1], obN (.slice A1 m1 c1) m1 L1, .row 34 2 (.slice C1 outs.length d1) outs.length (outs.flatMap cWrite)]) (fun iv _ => outs.length - (intOf iv).toNat)
   case atStart => exact ⟨0, [], rfl, by omega, (fun x hx => nomatch hx), HH.out⟩
   case round =>
    clear HH;obtain ⟨i, ps, rfl, hi, hps, H⟩ := hrel;have HPS := Lib.hid hps;clear hps
    by_cases hlt : i < outs.length
    ·have hlt1 : (i : Int) < (outs.length : Int) := by omega
     have hi0 : (0 : Int) ≤ (i : Int) := by omega
     obtain ⟨⟨x0, x1⟩, hx⟩ := some_at rfl hlt;have HXM := Lib.hid (List.mem_of_getElem? hx);have hxb := HOB.out _ HXM.out;simp only at hxb;obtain ⟨z, hz⟩ : ∃ z : Nat, z = x0.toNat := ⟨_, rfl⟩;have hxz : x0 = (z : Int) := by omega
     have hz18 : z < 18 := by omega
     obtain rfl := hxz;have hz0 : (0 : Int) ≤ (z : Int) := by omega
     have hz1 : (z : Int) < 18 := by omega
     obtain ⟨T, hT⟩ : ∃ T, T = putAll o ps := ⟨_, rfl⟩;have HTS := Lib.hid (show T.set z x1 = putAll o (ps ++ [((z : Int), x1)]) by rw [hT, putAll, putAll, List.foldl_append]; rfl);have HT := Lib.hid hT;have hTl : T.length = 18 := by rw [hT, putAll_lenA]; exact HL.out
     rw [← hT] at H;obtain ⟨yo, hyo⟩ := some_at hTl hz18;clear hT hTl hz hxb;go_wp2_with fail;refine (at_anyV A n c bs i _ (HA.out.fr (Fr.then HF1.out H.fr)) hn (by omega) (by omega)).mono ?_;rintro e w6 ⟨u, rfl, hw6⟩;subst hw6;have hmr : IntKind.i64.wrap ((u.toNat : Int).tmod 2) = (u.toNat : Int) % 2 := by
      rw [Int.tmod_eq_emod_of_nonneg (by omega)];exact IntWalk.i64_in _ (by omega)
     by_cases hq : (u.toNat : Int) % 2 = 0
     rotate_left
     ·have hqf : ((u.toNat : Int) % 2 == 0) = false := beq_eq_false_iff_ne.2 hq
      have HH := Lib.hid H;clear H;go_wp2_with fail;go_roundw
      case rel => exact ⟨i + 1, ps, by go_num, by omega, HPS.out, by rw [← HT.out]; exact HH.out⟩
      case measure => simp [intOf]; omega
     ·have hqt : ((u.toNat : Int) % 2 == 0) = true := by simp [hq]
      obtain ⟨go, co, e1, _⟩ := H.form 4 rfl (by omega);injection e1 with e11 _ e12;subst e11 e12;go_wp2_with fail;replace H := H.drew;refine wp_region_held_drew (S := fun w' => w'.cell? ⟨go, i * 2, none⟩ = some (.int .i64 z) ∧ w'.cell? ⟨go, i * 2 + 1, none⟩ = some (.string x1)) (by kernel_rfl) ?_ (fun hHeld => ?_)
      ·exact H.wr2 4 rfl hx
      obtain ⟨u0, hu0⟩ : ∃ uu : World, uu = w6.drew := ⟨_, rfl⟩;rw [← hu0] at H hHeld ⊢;clear hu0;refine wpT 0 ?_;refine wpT 1 ?_;refine wpT 2 ?_;refine wpT 3 ?_;refine wpT 4 ?_;refine wpT 5 ?_;refine wpT 6 ?_;refine wpT 7 ?_;refine wpT 8 ?_;refine wpT 9 ?_;refine wpT 10 ?_;refine wpT 11 ?_;refine wpC 12 fun K hK => ?_;have hf := H.free 0 rfl z;have hc := H.atM 0 rfl (j := z) hyo;replace H := H.putM 0 rfl z x1;go_simp;refine hK.out _ _ ?_ fun hHeld => ?_
      ·exact H.wr2 4 rfl hx
      clear hK K;(try simp only [sX, Act.put]);refine wpAnyH_done (by kernel_rfl) ?_ _;have HH := Lib.hid H;clear H;go_wp2_with fail;go_roundw
      case rel => exact ⟨i + 1, ps ++ [((z : Int), x1)], by go_num, by omega, (fun x hx => (List.mem_append.1 hx).elim (HPS.out x) fun h => by rw [List.mem_singleton.1 h]; exact HXM.out), by rw [← HTS.out]; exact HH.out⟩
      case measure => simp [intOf]; omega
    ·have hlt1 : ¬ (i : Int) < (outs.length : Int) := by omega
     have HM2 := Lib.hid (mount_again HMO.out HPS.out);have HS2 := Lib.hid (putAll_sz (B := 16777216) HSZ.out fun x hx => Nat.le_trans (HO1.out x (HPS.out x hx)) (by decide));obtain ⟨T, hT⟩ : ∃ T, T = putAll o ps := ⟨_, rfl⟩;rw [← hT] at H HM2 HS2;clear hT;go_wp2_with fail;refine (implMount_any (some ⟨gx, 0, none⟩) 18 cx T _ (H.rd 0 rfl) HXC.out (by omega) HS2.out (HK1.out.fr H.fr)).mono ?_;intro e w7 hG;obtain ⟨A3, m3, c3, L3, C3, d3, hn3, _, _, hm3, _, _, _, rfl, K3⟩ := hG.yes HM2.out;have HE13 := Lib.hid (HN1.out.trans hn3.symm);clear hn3 hG;replace H := (H.join K3).lay_ 28 [.int .i64 nx, .slice A3 m3 c3] rfl;clear K3;go_wp2_with fail;refine (implFormat_any _).mono ?_;rintro e w8 ⟨AF, cf, rfl, oF, fF⟩;have HCF := Lib.hid (own_nc oF);replace H := H.made oF fF;clear oF fF;obtain ⟨gw, hgw⟩ : ∃ z, z = w7.heap.size := ⟨_, rfl⟩;rw [← hgw] at H ⊢;clear hgw;go_wp2_with fail;refine (implMount_any AF 18 cf _ _ (H.rd 0 rfl) HCF.out (by omega) rootB_sz (HK1.out.fr H.fr)).mono ?_;intro e w9 hG;obtain ⟨A4, m4, c4, L4, C4, d4, hn4, _, hz4, hm4, _, _, _, rfl, K4⟩ := hG.yes mount_format;have HN4 := Lib.hid hn4;have HW4 := Lib.hid (show ∀ p ∈ L4, p.2.2.2.2.2.length ≤ 1048576 from fun p hp => by have := (hz4 p hp).2.1; omega);have HW1 := Lib.hid (show ∀ p ∈ L1, p.2.2.2.2.2.length ≤ 1048576 from fun p hp => by have := (HZ1.out p hp).2.1; omega);clear hn4 hz4 hG;replace H := (H.join K4).lay_ 28 [.int .i64 2, .slice A4 m4 c4] rfl;clear K4;go_wp2_with fail;replace H := H.drew;refine wp_region_held_drew (S := fun w' => w'.cell? ⟨gv, 0, none⟩ = some (.int .i64 nx) ∧ w'.cell? ⟨gv, 1, none⟩ = some (.slice A1 m1 c1) ∧ w'.cell? ⟨gw, 0, none⟩ = some (.int .i64 nx) ∧ w'.cell? ⟨gw, 1, none⟩ = some (.slice A3 m3 c3) ∧ w'.cell? ⟨w9.heap.size, 0, none⟩ = some (.int .i64 2) ∧ w'.cell? ⟨w9.heap.size, 1, none⟩ = some (.slice A4 m4 c4)) (by kernel_rfl) ?_ (fun hHeld => ?_)
     ·exact ⟨H.fa 9 0 rfl rfl, H.fa 9 1 rfl rfl, H.fa 4 0 rfl rfl, H.fa 4 1 rfl rfl, H.fa 0 0 rfl rfl, H.fa 0 1 rfl rfl⟩
     obtain ⟨u0, hu0⟩ : ∃ uu : World, uu = (w9.alloc (.cells #[.int .i64 2, .slice A4 m4 c4] 28)).drew := ⟨_, rfl⟩;rw [← hu0] at H hHeld ⊢;clear hu0;refine wpT 0 ?_;refine wpT 1 ?_;refine wpT 2 ?_;refine wpT 3 ?_;refine wpT 4 ?_;refine wpC 5 fun K hK => ?_;go_simp;refine (sameVol_yes nx A1 A3 m1 m3 c1 c3 L1 L3 _ (VRd.of H 10 rfl).1 (VRd.of H 5 rfl).1 HE13.out HW1.out (by omega)).mono ?_;rintro e u1 ⟨rfl, f5⟩;replace H := H.go f5;clear f5;go_wp2_with fail;refine hK.out _ _ ?_ fun hHeld => ?_
     ·exact ⟨H.fa 9 0 rfl rfl, H.fa 9 1 rfl rfl, H.fa 4 0 rfl rfl, H.fa 4 1 rfl rfl, H.fa 0 0 rfl rfl, H.fa 0 1 rfl rfl⟩
     clear hK K;(try simp only [sX, Act.put]);refine wpT 6 ?_;refine wpT 7 ?_;refine wpT 8 ?_;refine wpT 9 ?_;refine wpT 10 ?_;refine wpT 11 ?_;refine wpT 12 ?_;refine wpT 13 ?_;refine wpT 14 ?_;refine wpT 15 ?_;refine wpC 16 fun K hK => ?_;go_simp;refine (specVolOk_any nx A1 m1 c1 L1 _ (VRd.of H 10 rfl).1 (by omega) HMC1.out HW1.out (fun p hp => (HZ1.out p hp).2.2)).mono ?_;rintro e u2 ⟨rfl, f5⟩;replace H := H.go f5;clear f5;rw [HV1.out];go_wp2_with fail;refine hK.out _ _ ?_ fun hHeld => ?_
     ·exact ⟨H.fa 9 0 rfl rfl, H.fa 9 1 rfl rfl, H.fa 4 0 rfl rfl, H.fa 4 1 rfl rfl, H.fa 0 0 rfl rfl, H.fa 0 1 rfl rfl⟩
     clear hK K;(try simp only [sX, Act.put]);refine wpT 17 ?_;refine wpT 18 ?_;refine wpT 19 ?_;refine wpT 20 ?_;refine wpT 21 ?_;refine wpT 22 ?_;refine wpT 23 ?_;refine wpC 24 fun K hK => ?_;go_simp;refine (specNewVol_any _).mono ?_;rintro e u3 ⟨g1, rfl, K9⟩;replace H := H.join K9;clear K9;go_wp2_with fail;refine hK.out _ _ ?_ fun hHeld => ?_
     ·exact ⟨H.fa 10 0 rfl rfl, H.fa 10 1 rfl rfl, H.fa 5 0 rfl rfl, H.fa 5 1 rfl rfl, H.fa 1 0 rfl rfl, H.fa 1 1 rfl rfl⟩
     clear hK K;(try simp only [sX, Act.put]);refine wpC 25 fun K hK => ?_;go_simp;refine (sameVol_yes 2 A4 (some ⟨g1, 0, none⟩) m4 1 c4 1 L4 rootL _ (VRd.of H 2 rfl).1 (VRd.of H 0 rfl).1 HN4.out HW4.out (by omega)).mono ?_;rintro e u4 ⟨rfl, f5⟩;replace H := H.go f5;clear f5;go_wp2_with fail;refine hK.out _ _ ?_ fun hHeld => ?_
     ·exact ⟨H.fa 10 0 rfl rfl, H.fa 10 1 rfl rfl, H.fa 5 0 rfl rfl, H.fa 5 1 rfl rfl, H.fa 1 0 rfl rfl, H.fa 1 1 rfl rfl⟩
     clear hK K;(try simp only [sX, Act.put]);refine wpT 26 ?_;refine wpT 27 ?_;refine wpAnyH_done (by kernel_rfl) ?_ _;have HF := Lib.hid (Fr.then HF1.out H.fr);clear H;go_wp2_with fail;go_ret;exact ⟨rfl, HF.out⟩
end Go.Proofs.YtmpldngnkacnmaaGreatDoor
