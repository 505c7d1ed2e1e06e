/-
The reference draws volumes.
-/
import Derived.Test.YtmpldngnkacnmaaGreatDoorDrawCall
import Derived.Test.YtmpldngnkacnmaaGreatDoorDrawDir
import Derived.Test.YtmpldngnkacnmaaGreatDoorGt
import Derived.Test.YtmpldngnkacnmaaGreatDoorGq
namespace Go.Proofs.YtmpldngnkacnmaaGreatDoor
open Go.RowKit
set_option linter.unusedVariables false
set_option linter.unusedSimpArgs false
theorem VOk.small {nx : Int} {B : Option Addr} {m d : Nat} {L : List (Value × Nod)} (h : VOk nx (nodes L)) (hL : L.length = m) : SmallV m L := by
 have h1 := h.len -- keep: volDo_no do_V volB_V V_volB lookD addD_R dropD_R respD_R addD dropD respD
 obtain ⟨r, hr, _⟩ := h.toVW.root;have h2 := (List.getElem?_eq_some_iff.1 hr).1;rw [nodes_len, hL] at h1 h2;refine ⟨h2, by omega, fun q hq => ?_⟩;have h3 := h.toVW.fit.2 q.2 (List.mem_map_of_mem hq);refine ⟨by have := h3.len; omega, ?_, ent_small h3⟩
 rcases h.toVW.typ q.2 (List.mem_map_of_mem hq) with h4 | h4
 ·have := h4.2.2; omega
 ·have := h4.2.1; omega
theorem VOk.data {nx : Int} {L : List (Value × Nod)} (h : VOk nx (nodes L)) : ∀ q ∈ L, q.2.2.2.2.1.size ≤ 20 := fun q hq => by
 rcases h.toVW.typ q.2 (List.mem_map_of_mem hq) with h4 | h4
 ·exact h4.2.2
 ·have := h4.2.1; omega
section
variable {W : List Nat} {w0 w : World} {g gv : Nat} {A : Option Addr} {n c : Nat} {l : List Ob} {nx : Int} {B : Option Addr} {m d : Nat} {L : List (Value × Nod)}
theorem HC.vrd (K : HC W w0 w g A n c l) (i : Nat) (hi : l[i]? = some (obN (.slice B m d) m L)) : VRd w B m L := by
 obtain ⟨_, _, _, _, H⟩ := K; exact VRd.of H (i + 1) hi
theorem HC.open1 (K : HC W w0 w g A n c l) : ∃ i h : Int, 0 ≤ i ∧ i ≤ n ∧ Hp W w0 w (.blk g TCUR [.slice A n c, .int .i64 i, .int .i64 h] :: l) := K
theorem Hp.boxed {o : Ob} (H : Hp W w0 w (o :: .blk gv TVOL [.int .i64 nx, .slice B m d] :: obN (.slice B m d) m L :: l)) : Hp W w0 w (o :: volOb gv nx B m d L :: l) :=
 ((H.perm (l' := .blk gv TVOL [.int .i64 nx, .slice B m d] :: obN (.slice B m d) m L :: o :: l) (((List.Perm.swap _ _ _).trans (List.Perm.cons _ (List.Perm.swap _ _ _))))).vmake).swap
end
set_option maxRecDepth 100000 in
set_option maxHeartbeats 32000000 in
theorem l6Vol_any {W : List Nat} {w0 w : World} {g : Nat} {A : Option Addr} {n c : Nat} {l : List Ob} (K : HC W w0 w g A n c l) (Q : CurP W w0 g A n) (mo : Int) (hmo : mo ≤ 256) :
 Calls Tryz.prog 28 #[.pointer (some ⟨g, 0, none⟩), .int .i64 mo] w fun e w' => ∃ (nx : Int) (B : Option Addr) (m d : Nat) (L : List (Value × Nod)), e = .returned (.agg #[.int .i64 nx, .slice B m d]) ∧ VOk nx (nodes L) ∧ HC W w0 w' g A n c (obN (.slice B m d) m L :: l) := by
 have QQ := Lib.hid Q;have H := K.lay 28 [.int .i64 0, .slice none 0 0] rfl;clear K Q;go_enter Tryz.func28, Tryz.ntmps28;go_wp2_with fail;refine (specNewVol_any _).mono ?_;rintro e w1 ⟨g1, rfl, K1⟩;obtain ⟨i1, h1, a1, b1, H1⟩ := H;have H : HC W w0 w1 g A n c (obN (.slice (some ⟨g1, 0, none⟩) 1 1) 1 rootL :: .blk w.heap.size 28 [.int .i64 0, .slice none 0 0] :: l) := ⟨i1, h1, a1, b1, (H1.join K1).swap⟩;clear H1 K1;replace H := H.lay 28 [.int .i64 2, .slice (some ⟨g1, 0, none⟩) 1 1] rfl;obtain ⟨gv, hgv⟩ : ∃ z, z = w1.heap.size := ⟨_, rfl⟩;rw [← hgv] at H;have HGV := Lib.hid hgv;clear hgv a1 b1;go_wp2_with fail;simp only [← HGV.out];refine (H.below QQ.out mo hmo).mono ?_;rintro e w2 ⟨x, rfl, x0, xh, _, K2⟩;obtain ⟨k0, rfl⟩ : ∃ q : Nat, x = q := ⟨x.toNat, by omega⟩;have hk0 : k0 ≤ 256 := by omega
 clear x0 xh H;have HK := Lib.hid K2;clear K2;go_wp2_with fail
 go_loopw [6] (fun jv wr => ∃ (k : Nat) (nx : Int) (B : Option Addr) (m d : Nat) (L : List (Value × Nod)), jv = .int .i64 k ∧ k ≤ 256 ∧ VOk nx (nodes L) ∧ HC W w0 wr g A n c (.blk gv 28 [.int .i64 nx, .slice B m d] :: obN (.slice B m d) m L :: .blk w.heap.size 28 [.int .i64 0, .slice none 0 0] :: l)) (fun jv _ => (intOf jv).toNat)
 case atStart => exact ⟨k0, 2, _, 1, 1, rootL, rfl, hk0, root_V, HK.out⟩
 case round =>
  clear HK;obtain ⟨k, nx, B, m, d, L, rfl, hkb, hV, H⟩ := hrel;have HV := Lib.hid hV;have HLN := Lib.hid (H.vrd 1 rfl).1.len;have HSM := Lib.hid (hV.small (B := B) (d := d) HLN.out);have hm := HSM.out.2.1;clear hV;have b0 := H.fa 0 0 rfl rfl;have b1 := H.fa 0 1 rfl rfl
  rcases Nat.eq_zero_or_pos k with hk | hk
  ·subst hk
   go_wp2_with fail;refine (l6Copy_any nx B m d L _ (H.vrd 1 rfl) (by omega) (fun q hq => by have := (HSM.out.2.2 q hq).1; omega)).mono ?_;rintro e w5 ⟨B', d', L', rfl, hL', K5⟩;obtain ⟨i5, h5, a5, b5, H5⟩ := H;replace H5 := H5.join K5;have HL' := Lib.hid hL';clear hL' K5 b0 b1;have z0 := H5.fa 4 0 rfl rfl;have z1 := H5.fa 4 1 rfl rfl;have fz0 := H5.bfree 4 rfl 0;have fz1 := H5.bfree 4 rfl 1;have H9 := H5.blays 4 rfl [.int .i64 nx, .slice B' m d'] rfl;simp only [layW, Nat.zero_add, Nat.reduceAdd] at H9;clear H5;go_wp2_with fail
   ((try simp only [Exit.inBlock, Exit.then]); refine bodyPost_ret (results_cell_row rfl _ _ _ _ _ _ _ rfl (H9.blk 4 rfl) Tryz.underlying28 rfl (by kernel_rfl)) rfl ?_)
   exact ⟨nx, B', m, d', L', rfl, by rw [HL'.out]; exact HV.out, i5, h5, a5, b5, (H9.sub (l' := [_, _] ++ l) (.cons_cons _ (.cons_cons _ (.cons _ (.cons _ (.cons _ (.refl _))))))).swap⟩
  ·have hkk : (0 : Int) < (k : Int) := by omega
   go_wp2_with fail;obtain ⟨i5, h5, a5, b5, H⟩ := H;replace H := H.drew;refine wp_region_held_drew (S := fun _ => True) (by kernel_rfl) ?_ (fun hHeld => ?_)
   ·exact trivial
   obtain ⟨u0, hu0⟩ : ∃ uu : World, uu = wr.drew := ⟨_, rfl⟩;rw [← hu0] at H ⊢;clear hu0;refine wpT 1 ?_;refine wpAnyH_ready (rs := [0, 2]) (by kernel_rfl) (by simp) ?_;refine (AllReadyH.cons rfl (fun K hK => ?_) (AllReadyH.cons rfl (fun K hK => ?_) AllReadyH.nil))
   ·have y0 := H.fa 1 0 rfl rfl
    have y1 := H.fa 1 1 rfl rfl;go_simp;clear y0 y1;refine hK.out _ _ ?_ fun hHeld => ?_
    ·exact trivial
    clear hK K;(try simp only [sX, Act.put]);refine wpC 2 fun K hK => ?_;have y0 := H.fa 1 0 rfl rfl;have y1 := H.fa 1 1 rfl rfl;go_simp;clear y0 y1;refine hK.out _ _ ?_ fun hHeld => ?_
    ·exact trivial
    clear hK K;(try simp only [sX, Act.put]);refine wpC 3 fun K hK => ?_;go_simp;refine (l6Call_any (⟨i5, h5, a5, b5, H⟩ : HC W w0 _ g A n c _) QQ.out nx B m d L 1 rfl HSM.out).mono ?_;rintro e u3 ⟨z0, z1, s2, z3, s4, s5, rfl, _, _, _, i5, h5, a5, b5, H⟩;go_wp2_with fail;refine hK.out _ _ ?_ fun hHeld => ?_
    ·exact trivial
    clear hK K;(try simp only [sX, Act.put]);refine wpC 4 fun K hK => ?_;go_simp;refine (l6Do_any nx B m d L z0 z1 s2 z3 s4 s5 _ (VRd.of H 2 rfl) (H.nnc 2 rfl) HV.out).mono ?_;intro e u4 hG;obtain ⟨O, hO⟩ : ∃ O, O = volDoP nx (nodes L) (z0, z1, s2, z3, s4, s5) := ⟨_, rfl⟩;rw [← hO] at hG;have HVO := Lib.hid (show VOk O.1.1 O.1.2 by rw [hO]; exact do_V HV.out);clear hO;obtain ⟨⟨nx1, lx⟩, r0, r1, r2, r3⟩ := O;obtain ⟨B9, m9, d9, L9, rfl, hL9, H0⟩ := hG.held H 2 rfl;clear hG H;have H := H0;clear H0;simp only [resL];simp only at hL9;have HL9 := Lib.hid hL9;clear hL9;go_wp2_with fail;refine hK.out _ _ ?_ fun hHeld => ?_
    ·exact trivial
    clear hK K;(try simp only [sX, Act.put]);refine wpT 5 ?_;refine wpT 6 ?_;refine wpT 7 ?_;refine wpC 8 fun K hK => ?_;refine putVol H 1 rfl rfl rfl (fun u5 H => ?_);refine hK.out _ _ ?_ fun hHeld => ?_
    ·exact trivial
    clear hK K;(try simp only [sX, Act.put]);refine wpAnyH_done (by kernel_rfl) ?_ _;clear b0 b1;have HH := Lib.hid H;clear H;go_wp2_with fail;go_roundw
    case rel => exact ⟨k - 1, nx1, B9, m9, d9, L9, by go_num, by omega, by rw [HL9.out]; exact HVO.out, i5, h5, a5, b5, HH.out⟩
    case measure => simp [intOf]; omega
   ·have y0 := H.fa 1 0 rfl rfl
    have y1 := H.fa 1 1 rfl rfl;go_simp;clear y0 y1;refine hK.out _ _ ?_ fun hHeld => ?_
    ·exact trivial
    clear hK K;(try simp only [sX, Act.put]);refine wpAnyH_ready (rs := [0, 3]) (by kernel_rfl) (by simp) ?_;refine (AllReadyH.cons rfl (fun K hK => ?_) (AllReadyH.cons rfl (fun K hK => ?_) AllReadyH.nil))
    ·have y0 := H.fa 1 0 rfl rfl
     have y1 := H.fa 1 1 rfl rfl;go_simp;clear y0 y1;refine hK.out _ _ ?_ fun hHeld => ?_
     ·exact trivial
     clear hK K;(try simp only [sX, Act.put]);refine wpC 3 fun K hK => ?_;go_simp;refine (l6Call_any (⟨i5, h5, a5, b5, H⟩ : HC W w0 _ g A n c _) QQ.out nx B m d L 1 rfl HSM.out).mono ?_;rintro e u3 ⟨z0, z1, s2, z3, s4, s5, rfl, _, _, _, i5, h5, a5, b5, H⟩;go_wp2_with fail;refine hK.out _ _ ?_ fun hHeld => ?_
     ·exact trivial
     clear hK K;(try simp only [sX, Act.put]);refine wpC 4 fun K hK => ?_;go_simp;refine (l6Do_any nx B m d L z0 z1 s2 z3 s4 s5 _ (VRd.of H 2 rfl) (H.nnc 2 rfl) HV.out).mono ?_;intro e u4 hG;obtain ⟨O, hO⟩ : ∃ O, O = volDoP nx (nodes L) (z0, z1, s2, z3, s4, s5) := ⟨_, rfl⟩;rw [← hO] at hG;have HVO := Lib.hid (show VOk O.1.1 O.1.2 by rw [hO]; exact do_V HV.out);clear hO;obtain ⟨⟨nx1, lx⟩, r0, r1, r2, r3⟩ := O;obtain ⟨B9, m9, d9, L9, rfl, hL9, H0⟩ := hG.held H 2 rfl;clear hG H;have H := H0;clear H0;simp only [resL];simp only at hL9;have HL9 := Lib.hid hL9;clear hL9;go_wp2_with fail;refine hK.out _ _ ?_ fun hHeld => ?_
     ·exact trivial
     clear hK K;(try simp only [sX, Act.put]);refine wpT 5 ?_;refine wpT 6 ?_;refine wpT 7 ?_;refine wpC 8 fun K hK => ?_;refine putVol H 1 rfl rfl rfl (fun u5 H => ?_);refine hK.out _ _ ?_ fun hHeld => ?_
     ·exact trivial
     clear hK K;(try simp only [sX, Act.put]);refine wpAnyH_done (by kernel_rfl) ?_ _;clear b0 b1;have HH := Lib.hid H;clear H;go_wp2_with fail;go_roundw
     case rel => exact ⟨k - 1, nx1, B9, m9, d9, L9, by go_num, by omega, by rw [HL9.out]; exact HVO.out, i5, h5, a5, b5, HH.out⟩
     case measure => simp [intOf]; omega
    ·go_simp
     refine (l6Call_any (⟨i5, h5, a5, b5, H⟩ : HC W w0 _ g A n c _) QQ.out nx B m d L 1 rfl HSM.out).mono ?_;rintro e u2 ⟨z0, z1, s2, z3, s4, s5, rfl, _, _, _, i5, h5, a5, b5, H⟩;go_wp2_with fail;refine hK.out _ _ ?_ fun hHeld => ?_
     ·exact trivial
     clear hK K;(try simp only [sX, Act.put]);refine wpC 0 fun K hK => ?_;have y0 := H.fa 1 0 rfl rfl;have y1 := H.fa 1 1 rfl rfl;go_simp;clear y0 y1;refine hK.out _ _ ?_ fun hHeld => ?_
     ·exact trivial
     clear hK K;(try simp only [sX, Act.put]);refine wpC 4 fun K hK => ?_;go_simp;refine (l6Do_any nx B m d L z0 z1 s2 z3 s4 s5 _ (VRd.of H 2 rfl) (H.nnc 2 rfl) HV.out).mono ?_;intro e u4 hG;obtain ⟨O, hO⟩ : ∃ O, O = volDoP nx (nodes L) (z0, z1, s2, z3, s4, s5) := ⟨_, rfl⟩;rw [← hO] at hG;have HVO := Lib.hid (show VOk O.1.1 O.1.2 by rw [hO]; exact do_V HV.out);clear hO;obtain ⟨⟨nx1, lx⟩, r0, r1, r2, r3⟩ := O;obtain ⟨B9, m9, d9, L9, rfl, hL9, H0⟩ := hG.held H 2 rfl;clear hG H;have H := H0;clear H0;simp only [resL];simp only at hL9;have HL9 := Lib.hid hL9;clear hL9;go_wp2_with fail;refine hK.out _ _ ?_ fun hHeld => ?_
     ·exact trivial
     clear hK K;(try simp only [sX, Act.put]);refine wpT 5 ?_;refine wpT 6 ?_;refine wpT 7 ?_;refine wpC 8 fun K hK => ?_;refine putVol H 1 rfl rfl rfl (fun u5 H => ?_);refine hK.out _ _ ?_ fun hHeld => ?_
     ·exact trivial
     clear hK K;(try simp only [sX, Act.put]);refine wpAnyH_done (by kernel_rfl) ?_ _;clear b0 b1;have HH := Lib.hid H;clear H;go_wp2_with fail;go_roundw
     case rel => exact ⟨k - 1, nx1, B9, m9, d9, L9, by go_num, by omega, by rw [HL9.out]; exact HVO.out, i5, h5, a5, b5, HH.out⟩
     case measure => simp [intOf]; omega
end Go.Proofs.YtmpldngnkacnmaaGreatDoor
