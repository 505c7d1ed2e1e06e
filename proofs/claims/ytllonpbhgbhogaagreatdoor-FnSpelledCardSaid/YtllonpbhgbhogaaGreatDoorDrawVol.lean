/-
The reference draws volumes.
-/
import Derived.Test.YtllonpbhgbhogaaGreatDoorDrawCall
import Derived.Test.YtllonpbhgbhogaaGreatDoorDrawDir
import Derived.Test.YtllonpbhgbhogaaGreatDoorVolDoS
import Derived.Test.YtllonpbhgbhogaaGreatDoorRoot
namespace Go.Proofs.YtllonpbhgbhogaaGreatDoor
open Go.RowKit
set_option linter.unusedVariables false
set_option linter.unusedSimpArgs false
theorem VOk.small {nx : Int} {B : Option Addr} {m d : Nat} {L : List (Value × Nod)} (h : VOk nx (nodes L)) (hL : L.length = m) : SmallV m L := by
 have h1 := h.len -- keep: volDo_no do_V volB_V V_volB lookD addD_R dropD_R respD_R addD dropD respD
 obtain ⟨r, hr, _⟩ := h.toVW.root;have h2 := (List.getElem?_eq_some_iff.1 hr).1;rw [nodes_len, hL] at h1 h2;refine ⟨h2, by omega, fun q hq => ?_⟩;have h3 := h.toVW.fit.2 q.2 (List.mem_map_of_mem hq);refine ⟨by have := h3.len; omega, ?_, ent_small h3⟩
 rcases h.toVW.typ q.2 (List.mem_map_of_mem hq) with h4 | h4
 ·have := h4.2.2; omega
 ·have := h4.2.1; omega
theorem VOk.data {nx : Int} {L : List (Value × Nod)} (h : VOk nx (nodes L)) : ∀ q ∈ L, q.2.2.2.2.1.size ≤ 20 := fun q hq => by
 rcases h.toVW.typ q.2 (List.mem_map_of_mem hq) with h4 | h4
 ·exact h4.2.2
 ·have := h4.2.1; omega
theorem SmallV.setp {m : Nat} {L : List (Value × Nod)} (h : SmallV m L) (k : Nat) {p : Value × Nod} (hp : p.2.2.2.2.2.length ≤ 100 ∧ p.2.2.2.2.1.size ≤ 16777216 ∧ ∀ e ∈ p.2.2.2.2.2, e.2.2.1.size ≤ 16777216) : SmallV m (L.set k p) :=
 ⟨h.1, h.2.1, fun q hq => (List.mem_or_eq_of_mem_set hq).elim (h.2.2 q) fun e => by rw [e]; exact hp⟩
section
variable {W : List Nat} {w0 w : World} {g gv : Nat} {A : Option Addr} {n c : Nat} {l : List Ob} {nx : Int} {B : Option Addr} {m d : Nat} {L : List (Value × Nod)}
theorem HC.vrd (K : HC W w0 w g A n c l) (i : Nat) (hi : l[i]? = some (obN (.slice B m d) m L)) : VRd w B m L := by
 obtain ⟨_, _, _, _, H⟩ := K; exact VRd.of H (i + 1) hi
theorem Hp.boxed {o : Ob} (H : Hp W w0 w (o :: .blk gv TVOL [.int .i64 nx, .slice B m d] :: obN (.slice B m d) m L :: l)) : Hp W w0 w (o :: volOb gv nx B m d L :: l) :=
 ((H.perm (l' := .blk gv TVOL [.int .i64 nx, .slice B m d] :: obN (.slice B m d) m L :: o :: l) (((List.Perm.swap _ _ _).trans (List.Perm.cons _ (List.Perm.swap _ _ _))))).vmake).swap
end
set_option maxRecDepth 100000 in
set_option maxHeartbeats 32000000 in
theorem l6Vol_any {W : List Nat} {w0 w : World} {g : Nat} {A : Option Addr} {n c : Nat} {l : List Ob} (K : HC W w0 w g A n c l) (Q : CurP W w0 g A n) (mo : Int) (hmo : mo ≤ 256) :
 Calls Tryz.prog 86 #[.pointer (some ⟨g, 0, none⟩), .int .i64 mo] w fun e w' => ∃ (nx : Int) (B : Option Addr) (m d : Nat) (L : List (Value × Nod)), e = .returned (.agg #[.int .i64 nx, .slice B m d]) ∧ VOk nx (nodes L) ∧ HC W w0 w' g A n c (obN (.slice B m d) m L :: l) := by
 have QQ := Lib.hid Q;have H := K.lay 31 [.int .i64 0, .slice none 0 0] rfl;clear K Q;go_enter Tryz.func86, Tryz.ntmps86;go_wp2_with fail;refine (specNewVol_any _).mono ?_;rintro e w1 ⟨g1, rfl, K1⟩;obtain ⟨i1, h1, a1, b1, H1⟩ := H;have H : HC W w0 w1 g A n c (obN (.slice (some ⟨g1, 0, none⟩) 1 1) 1 rootL :: .blk w.heap.size 31 [.int .i64 0, .slice none 0 0] :: l) := ⟨i1, h1, a1, b1, (H1.join K1).swap⟩;clear H1 K1;replace H := H.lay 31 [.int .i64 2, .slice (some ⟨g1, 0, none⟩) 1 1] rfl;obtain ⟨gv, hgv⟩ : ∃ z, z = w1.heap.size := ⟨_, rfl⟩;rw [← hgv] at H;have HGV := Lib.hid hgv;clear hgv a1 b1;go_wp2_with fail;simp only [← HGV.out];refine (H.below QQ.out mo hmo).mono ?_;rintro e w2 ⟨x, rfl, x0, xh, _, K2⟩;obtain ⟨k0, rfl⟩ : ∃ q : Nat, x = q := ⟨x.toNat, by omega⟩;have hk0 : k0 ≤ 256 := by omega
 clear x0 xh H;have HK := Lib.hid K2;clear K2;go_wp2_with fail
 go_loopw [6] (fun jv wr => ∃ (k : Nat) (nx : Int) (B : Option Addr) (m d : Nat) (L : List (Value × Nod)), jv = .int .i64 k ∧ k ≤ 256 ∧ VOk nx (nodes L) ∧ HC W w0 wr g A n c (.blk gv 31 [.int .i64 nx, .slice B m d] :: obN (.slice B m d) m L :: .blk w.heap.size 31 [.int .i64 0, .slice none 0 0] :: l)) (fun jv _ => (intOf jv).toNat)
 case atStart => exact ⟨k0, 2, _, 1, 1, rootL, rfl, hk0, root_V, HK.out⟩
 case round =>
  clear HK;obtain ⟨k, nx, B, m, d, L, rfl, hkb, hV, H⟩ := hrel;have HV := Lib.hid hV;have HLN := Lib.hid (H.vrd 1 rfl).1.len;have HSM := Lib.hid (hV.small (B := B) (d := d) HLN.out);have hm := HSM.out.2.1;clear hV;have b0 := H.fa 0 0 rfl rfl;have b1 := H.fa 0 1 rfl rfl
  rcases Nat.eq_zero_or_pos k with hk | hk
  ·subst hk
   go_wp2_with fail;refine (l6Copy_any nx B m d L _ (H.vrd 1 rfl) (by omega) (fun q hq => by have := (HSM.out.2.2 q hq).1; omega)).mono ?_;rintro e w5 ⟨B', d', L', rfl, hL', K5⟩;obtain ⟨i5, h5, a5, b5, H5⟩ := H;replace H5 := H5.join K5;have HL' := Lib.hid hL';clear hL' K5 b0 b1;have z0 := H5.fa 4 0 rfl rfl;have z1 := H5.fa 4 1 rfl rfl;have fz0 := H5.bfree 4 rfl 0;have fz1 := H5.bfree 4 rfl 1;have H9 := H5.blays 4 rfl [.int .i64 nx, .slice B' m d'] rfl;simp only [layW, Nat.zero_add, Nat.reduceAdd] at H9;clear H5;go_wp2_with fail
   ((try simp only [Exit.inBlock, Exit.then]); refine bodyPost_ret (results_cell_row rfl _ _ _ _ _ _ _ rfl (H9.blk 4 rfl) Tryz.underlying31 rfl (by kernel_rfl)) rfl ?_)
   exact ⟨nx, B', m, d', L', rfl, by rw [HL'.out]; exact HV.out, i5, h5, a5, b5, (H9.sub (l' := [_, _] ++ l) (.cons_cons _ (.cons_cons _ (.cons _ (.cons _ (.cons _ (.refl _))))))).swap⟩
  ·have hkk : (0 : Int) < (k : Int) := by omega
   go_wp2_with fail;obtain ⟨i5, h5, a5, b5, H⟩ := H;replace H := H.drew;refine wp_region_held_drew (S := fun _ => True) (by kernel_rfl) ?_ (fun hHeld => ?_)
   ·exact trivial
   obtain ⟨u0, hu0⟩ : ∃ uu : World, uu = wr.drew := ⟨_, rfl⟩;rw [← hu0] at H ⊢;clear hu0;refine wpT 1 ?_;refine wpAnyH_ready (rs := [0, 2]) (by kernel_rfl) (by simp) ?_;refine (AllReadyH.cons rfl (fun K hK => ?_) (AllReadyH.cons rfl (fun K hK => ?_) AllReadyH.nil))
   ·have y0 := H.fa 1 0 rfl rfl
    have y1 := H.fa 1 1 rfl rfl;go_simp;clear y0 y1;refine hK.out _ _ ?_ fun hHeld => ?_
    ·exact trivial
    clear hK K;(try simp only [sX, Act.put]);refine wpC 2 fun K hK => ?_;have y0 := H.fa 1 0 rfl rfl;have y1 := H.fa 1 1 rfl rfl;go_simp;clear y0 y1;refine hK.out _ _ ?_ fun hHeld => ?_
    ·exact trivial
    clear hK K;(try simp only [sX, Act.put]);refine wpC 3 fun K hK => ?_;go_simp;refine (l6Call_any (⟨i5, h5, a5, b5, H⟩ : HC W w0 _ g A n c _) QQ.out nx B m d L 1 rfl HSM.out).mono ?_;rintro e u3 ⟨z0, z1, s2, z3, s4, s5, rfl, _, _, _, i5, h5, a5, b5, H⟩;go_wp2_with fail;refine hK.out _ _ ?_ fun hHeld => ?_
    ·exact trivial
    clear hK K;(try simp only [sX, Act.put]);refine wpC 4 fun K hK => ?_;go_simp;refine (l6Do_any nx B m d L z0 z1 s2 z3 s4 s5 _ (VRd.of H 2 rfl) (H.nnc 2 rfl) HV.out).mono ?_;intro e u4 hG;obtain ⟨O, hO⟩ : ∃ O, O = volDoP nx (nodes L) (z0, z1, s2, z3, s4, s5) := ⟨_, rfl⟩;rw [← hO] at hG;have HVO := Lib.hid (show VOk O.1.1 O.1.2 by rw [hO]; exact do_V HV.out);clear hO;obtain ⟨⟨nx1, lx⟩, r0, r1, r2, r3⟩ := O;obtain ⟨B9, m9, d9, L9, rfl, hL9, H0⟩ := hG.held H 2 rfl;clear hG H;have H := H0;clear H0;simp only [resL];simp only at hL9;have HL9 := Lib.hid hL9;clear hL9;go_wp2_with fail;refine hK.out _ _ ?_ fun hHeld => ?_
    ·exact trivial
    clear hK K;(try simp only [sX, Act.put]);refine wpT 5 ?_;refine wpT 6 ?_;refine wpT 7 ?_;refine wpC 8 fun K hK => ?_;refine putVol H 1 rfl rfl rfl (fun u5 H => ?_);refine hK.out _ _ ?_ fun hHeld => ?_
    ·exact trivial
    clear hK K;(try simp only [sX, Act.put]);refine wpAnyH_done (by kernel_rfl) ?_ _;clear b0 b1;have HH := Lib.hid H;clear H;go_wp2_with fail;go_roundw
    case rel => exact ⟨k - 1, nx1, B9, m9, d9, L9, by go_num, by omega, by rw [HL9.out]; exact HVO.out, i5, h5, a5, b5, HH.out⟩
    case measure => simp [intOf]; omega
   ·have y0 := H.fa 1 0 rfl rfl
    have y1 := H.fa 1 1 rfl rfl;go_simp;clear y0 y1;refine hK.out _ _ ?_ fun hHeld => ?_
    ·exact trivial
    clear hK K;(try simp only [sX, Act.put]);refine wpAnyH_ready (rs := [0, 3]) (by kernel_rfl) (by simp) ?_;refine (AllReadyH.cons rfl (fun K hK => ?_) (AllReadyH.cons rfl (fun K hK => ?_) AllReadyH.nil))
    ·have y0 := H.fa 1 0 rfl rfl
     have y1 := H.fa 1 1 rfl rfl;go_simp;clear y0 y1;refine hK.out _ _ ?_ fun hHeld => ?_
     ·exact trivial
     clear hK K;(try simp only [sX, Act.put]);refine wpC 3 fun K hK => ?_;go_simp;refine (l6Call_any (⟨i5, h5, a5, b5, H⟩ : HC W w0 _ g A n c _) QQ.out nx B m d L 1 rfl HSM.out).mono ?_;rintro e u3 ⟨z0, z1, s2, z3, s4, s5, rfl, _, _, _, i5, h5, a5, b5, H⟩;go_wp2_with fail;refine hK.out _ _ ?_ fun hHeld => ?_
     ·exact trivial
     clear hK K;(try simp only [sX, Act.put]);refine wpC 4 fun K hK => ?_;go_simp;refine (l6Do_any nx B m d L z0 z1 s2 z3 s4 s5 _ (VRd.of H 2 rfl) (H.nnc 2 rfl) HV.out).mono ?_;intro e u4 hG;obtain ⟨O, hO⟩ : ∃ O, O = volDoP nx (nodes L) (z0, z1, s2, z3, s4, s5) := ⟨_, rfl⟩;rw [← hO] at hG;have HVO := Lib.hid (show VOk O.1.1 O.1.2 by rw [hO]; exact do_V HV.out);clear hO;obtain ⟨⟨nx1, lx⟩, r0, r1, r2, r3⟩ := O;obtain ⟨B9, m9, d9, L9, rfl, hL9, H0⟩ := hG.held H 2 rfl;clear hG H;have H := H0;clear H0;simp only [resL];simp only at hL9;have HL9 := Lib.hid hL9;clear hL9;go_wp2_with fail;refine hK.out _ _ ?_ fun hHeld => ?_
     ·exact trivial
     clear hK K;(try simp only [sX, Act.put]);refine wpT 5 ?_;refine wpT 6 ?_;refine wpT 7 ?_;refine wpC 8 fun K hK => ?_;refine putVol H 1 rfl rfl rfl (fun u5 H => ?_);refine hK.out _ _ ?_ fun hHeld => ?_
     ·exact trivial
     clear hK K;(try simp only [sX, Act.put]);refine wpAnyH_done (by kernel_rfl) ?_ _;clear b0 b1;have HH := Lib.hid H;clear H;go_wp2_with fail;go_roundw
     case rel => exact ⟨k - 1, nx1, B9, m9, d9, L9, by go_num, by omega, by rw [HL9.out]; exact HVO.out, i5, h5, a5, b5, HH.out⟩
     case measure => simp [intOf]; omega
    ·go_simp
     refine (l6Call_any (⟨i5, h5, a5, b5, H⟩ : HC W w0 _ g A n c _) QQ.out nx B m d L 1 rfl HSM.out).mono ?_;rintro e u2 ⟨z0, z1, s2, z3, s4, s5, rfl, _, _, _, i5, h5, a5, b5, H⟩;go_wp2_with fail;refine hK.out _ _ ?_ fun hHeld => ?_
     ·exact trivial
     clear hK K;(try simp only [sX, Act.put]);refine wpC 0 fun K hK => ?_;have y0 := H.fa 1 0 rfl rfl;have y1 := H.fa 1 1 rfl rfl;go_simp;clear y0 y1;refine hK.out _ _ ?_ fun hHeld => ?_
     ·exact trivial
     clear hK K;(try simp only [sX, Act.put]);refine wpC 4 fun K hK => ?_;go_simp;refine (l6Do_any nx B m d L z0 z1 s2 z3 s4 s5 _ (VRd.of H 2 rfl) (H.nnc 2 rfl) HV.out).mono ?_;intro e u4 hG;obtain ⟨O, hO⟩ : ∃ O, O = volDoP nx (nodes L) (z0, z1, s2, z3, s4, s5) := ⟨_, rfl⟩;rw [← hO] at hG;have HVO := Lib.hid (show VOk O.1.1 O.1.2 by rw [hO]; exact do_V HV.out);clear hO;obtain ⟨⟨nx1, lx⟩, r0, r1, r2, r3⟩ := O;obtain ⟨B9, m9, d9, L9, rfl, hL9, H0⟩ := hG.held H 2 rfl;clear hG H;have H := H0;clear H0;simp only [resL];simp only at hL9;have HL9 := Lib.hid hL9;clear hL9;go_wp2_with fail;refine hK.out _ _ ?_ fun hHeld => ?_
     ·exact trivial
     clear hK K;(try simp only [sX, Act.put]);refine wpT 5 ?_;refine wpT 6 ?_;refine wpT 7 ?_;refine wpC 8 fun K hK => ?_;refine putVol H 1 rfl rfl rfl (fun u5 H => ?_);refine hK.out _ _ ?_ fun hHeld => ?_
     ·exact trivial
     clear hK K;(try simp only [sX, Act.put]);refine wpAnyH_done (by kernel_rfl) ?_ _;clear b0 b1;have HH := Lib.hid H;clear H;go_wp2_with fail;go_roundw
     case rel => exact ⟨k - 1, nx1, B9, m9, d9, L9, by go_num, by omega, by rw [HL9.out]; exact HVO.out, i5, h5, a5, b5, HH.out⟩
     case measure => simp [intOf]; omega
set_option maxRecDepth 100000 in
set_option maxHeartbeats 32000000 in
theorem l6Any_any {W : List Nat} {w0 w : World} {g : Nat} {A : Option Addr} {n c : Nat} {l : List Ob} (K : HC W w0 w g A n c l) (Q : CurP W w0 g A n) (mo : Int) (hmo : mo ≤ 256) :
 Calls Tryz.prog 44 #[.pointer (some ⟨g, 0, none⟩), .int .i64 mo] w fun e w' => ∃ (nx : Int) (B : Option Addr) (m d : Nat) (L : List (Value × Nod)), e = .returned (.agg #[.int .i64 nx, .slice B m d]) ∧ SmallV m L ∧ HC W w0 w' g A n c (obN (.slice B m d) m L :: l) := by
 have QQ := Lib.hid Q;have H := K.lay 31 [.int .i64 0, .slice none 0 0] rfl;clear K Q;go_enter Tryz.func44, Tryz.ntmps44;go_wp2_with fail;refine (l6Vol_any H QQ.out mo hmo).mono ?_;rintro e w1 ⟨nx, B, m, d, L, rfl, hV, H⟩;have HLN := Lib.hid (H.vrd 0 rfl).1.len;have HSM := Lib.hid (hV.small (B := B) (d := d) HLN.out);have hm0 := HSM.out.1;have hm1 := HSM.out.2.1;have hl16 : m ≤ 16 := by have := hV.len; rw [nodes_len, HLN.out] at this; exact this
 have HD20 := Lib.hid hV.data;clear hV;replace H := H.lay 31 [.int .i64 nx, .slice B m d] rfl;obtain ⟨gv, hgv⟩ : ∃ z, z = w1.heap.size := ⟨_, rfl⟩;rw [← hgv] at H;have HGV := Lib.hid hgv;clear hgv;go_wp2_with fail;simp only [← HGV.out];refine (H.once QQ.out 10 (by decide)).mono ?_;rintro e w2 ⟨x, rfl, K2⟩;obtain ⟨i2, h2, a2, b2, H⟩ := K2;replace H := H.boxed;obtain ⟨gn, rfl⟩ := H.vform 1 rfl hm0;clear HGV
 cases x
 focus
  have HH : ∃ (i h nx : Int) (B : Option Addr) (m d : Nat) (L : List (Value × Nod)), SmallV m L ∧ 0 ≤ i ∧ i ≤ (n : Int) ∧ Hp W w0 _ (.blk g TCUR [.slice A n c, .int .i64 i, .int .i64 h] :: volOb gv nx B m d L :: .blk w.heap.size 31 [.int .i64 0, .slice none 0 0] :: l) := ⟨_, _, _, _, _, _, _, HSM.out, a2, b2, H⟩;clear H;obtain ⟨i9, h9, nx, B, m, d, L, hS, a9, b9, H⟩ := HH
 rotate_left
 focus
  have hm0i : (0 : Int) < (m : Int) := by omega
  have v1 := H.vc1 1 rfl;go_wp2_with fail;refine (HC.below ⟨i2, h2, a2, b2, H⟩ QQ.out (m : Int) (by omega)).mono ?_;rintro e w3 ⟨x, rfl, x0, _, x1, i3, h3, a3, b3, H⟩;obtain ⟨k, rfl⟩ : ∃ q : Nat, x = q := ⟨x.toNat, by omega⟩;have hk0 : (0 : Int) ≤ (k : Int) := x0;have hk1 : (k : Int) < (m : Int) := x1 hm0i;obtain ⟨⟨vk, t0, t1, t2, t3, ts⟩, ht⟩ := some_at HLN.out (show k < m by omega);have HT := Lib.hid (HSM.out.2.2 _ (List.mem_of_getElem? ht));clear x1 v1;go_wp2_with fail;refine (HC.below ⟨i3, h3, a3, b3, H⟩ QQ.out 7 (by decide)).mono ?_;rintro e w4 ⟨y, rfl, y0, _, y1, i4, h4, a4, b4, H⟩;have y2 := y1 (by decide);clear y1 a2 b2 a3 b3;obtain rfl | rfl | rfl | rfl | rfl | rfl | rfl : y = 0 ∨ y = 1 ∨ y = 2 ∨ y = 3 ∨ y = 4 ∨ y = 5 ∨ y = 6 := by omega
  focus
   go_wp2_with fail;refine (HC.pick ⟨i4, h4, a4, b4, H⟩ QQ.out [1, 2, 100000, 100001] (m := 4) rfl (by decide) (by decide) rfl).mono ?_;rintro e w5 ⟨zz, rfl, _, i5, h5, a5, b5, H⟩;have v0 := H.vc0 1 rfl;have fv0 := H.vfree 1 rfl 0;replace H := H.vput0 1 rfl zz;have HH : ∃ (i h nx : Int) (B : Option Addr) (m d : Nat) (L : List (Value × Nod)), SmallV m L ∧ 0 ≤ i ∧ i ≤ (n : Int) ∧ Hp W w0 _ (.blk g TCUR [.slice A n c, .int .i64 i, .int .i64 h] :: volOb gv nx B m d L :: .blk w.heap.size 31 [.int .i64 0, .slice none 0 0] :: l) := ⟨_, _, _, _, _, _, _, HSM.out, a5, b5, H⟩;clear H;obtain ⟨i9, h9, nx, B, m, d, L, hS, a9, b9, H⟩ := HH
  rotate_left
  focus
   go_wp2_with fail;replace H := H.drew;have v1 := H.vc1 1 rfl;refine wp_region_held_drew (S := fun w' => w'.cell? ⟨gv, 1, none⟩ = some (.slice (some ⟨gn, 0, none⟩) m d)) (by kernel_rfl) ?_ (fun hHeld => ?_)
   ·exact v1
   obtain ⟨u0, hu0⟩ : ∃ uu : World, uu = w4.drew := ⟨_, rfl⟩;rw [← hu0] at H hHeld ⊢;clear hu0;refine wpT 0 ?_;refine wpT 1 ?_;refine wpT 2 ?_;refine wpT 3 ?_;refine wpC 4 fun K hK => ?_;go_simp;refine (HC.below ⟨i4, h4, a4, b4, H⟩ QQ.out 4 (by decide)).mono ?_;rintro e u1 ⟨zz, rfl, z0, zh, _, i5, h5, a5, b5, H⟩;go_wp2_with fail;refine hK.out _ _ ?_ fun hHeld => ?_
   ·exact H.vc1 1 rfl
   clear hK K;(try simp only [sX, Act.put]);refine wpT 5 ?_;refine wpT 6 ?_;refine wpC 7 fun K hK => ?_;have hf := H.vnfree 1 rfl (k * 5 + 1);have hc := H.vnc 1 rfl ht (r := 1) rfl;replace H := H.vnset 1 rfl (p' := (vk, t0, zz, t2, t3, ts)) (k := k) (r := 1) ht (by decide) rfl rfl;go_simp;refine hK.out _ _ ?_ fun hHeld => ?_
   ·exact H.vc1 1 rfl
   clear hK K;(try simp only [sX, Act.put]);refine wpAnyH_done (by kernel_rfl) ?_ _;clear v1 hHeld;have HH : ∃ (i h nx : Int) (B : Option Addr) (m d : Nat) (L : List (Value × Nod)), SmallV m L ∧ 0 ≤ i ∧ i ≤ (n : Int) ∧ Hp W w0 _ (.blk g TCUR [.slice A n c, .int .i64 i, .int .i64 h] :: volOb gv nx B m d L :: .blk w.heap.size 31 [.int .i64 0, .slice none 0 0] :: l) := ⟨_, _, _, _, _, _, _, (by exact HSM.out.setp k HT.out), a5, b5, H⟩;clear H;obtain ⟨i9, h9, nx, B, m, d, L, hS, a9, b9, H⟩ := HH
  rotate_left
  focus
   go_wp2_with fail;replace H := H.drew;have v1 := H.vc1 1 rfl;refine wp_joint (fun a a' w' => ∃ v45 v46 v47 v48 v49 v50 v51 v52 v53 v54 v55 v56 v57 v58 v59 : Value, ∃ i5 h5 zq : Int, a' = (((((((((((((((a.put (some 45) v45).put (some 46) v46).put (some 47) v47).put (some 48) v48).put (some 49) v49).put (some 50) v50).put (some 51) v51).put (some 52) v52).put (some 53) v53).put (some 54) v54).put (some 55) v55).put (some 56) v56).put (some 57) v57).put (some 58) v58).put (some 59) v59) ∧ 0 ≤ i5 ∧ i5 ≤ n ∧ Hp W w0 w' (.blk g TCUR [.slice A n c, .int .i64 i5, .int .i64 h5] :: volOb gv nx (some ⟨gn, 0, none⟩) m d (L.set k (vk, t0, t1, zq, t3, ts)) :: .blk w.heap.size 31 [.int .i64 0, .slice none 0 0] :: l)) ?_ ?_
   ·skip
    refine wp_region_held_drew (S := fun w' => w'.cell? ⟨gv, 1, none⟩ = some (.slice (some ⟨gn, 0, none⟩) m d)) (by kernel_rfl) ?_ (fun hHeld => ?_)
    ·exact v1
    obtain ⟨u0, hu0⟩ : ∃ uu : World, uu = w4.drew := ⟨_, rfl⟩;rw [← hu0] at H hHeld ⊢;clear hu0;refine wpT 0 ?_;refine wpT 1 ?_;refine wpT 2 ?_;refine wpT 3 ?_;refine wpT 4 ?_;refine wpT 5 ?_;refine wpT 6 ?_;refine wpT 7 ?_;refine wpT 9 ?_;refine wpAnyH_ready (rs := [8, 10]) (by kernel_rfl) (by simp) ?_;refine (AllReadyH.cons rfl (fun K hK => ?_) (AllReadyH.cons rfl (fun K hK => ?_) AllReadyH.nil))
    ·have l2 := H.vnc 1 rfl ht (r := 2) rfl
     go_simp;clear l2;refine hK.out _ _ ?_ fun hHeld => ?_
     ·exact H.vc1 1 rfl
     clear hK K;(try simp only [sX, Act.put]);refine wpC 10 fun K hK => ?_;go_simp;refine (HC.below ⟨i4, h4, a4, b4, H⟩ QQ.out 3 (by decide)).mono ?_;rintro e u2 ⟨zz, rfl, z0, zh, _, i5, h5, a5, b5, H⟩;go_wp2_with fail;refine hK.out _ _ ?_ fun hHeld => ?_
     ·exact H.vc1 1 rfl
     clear hK K;(try simp only [sX, Act.put]);refine wpT 11 ?_;refine wpT 12 ?_;refine wpT 13 ?_;refine wpT 14 ?_;refine wpC 15 fun K hK => ?_;have hf := H.vnfree 1 rfl (k * 5 + 2);have hc := H.vnc 1 rfl ht (r := 2) rfl;replace H := H.vnset 1 rfl (p' := (vk, t0, t1, IntKind.i64.wrap (IntKind.i64.wrap (t2 + zz) - 1), t3, ts)) (k := k) (r := 2) ht (by decide) rfl rfl;go_simp;refine hK.out _ _ ?_ fun hHeld => ?_
     ·exact H.vc1 1 rfl
     clear hK K;(try simp only [sX, Act.put]);refine wpAnyH_done (by kernel_rfl) ?_ _;exact ⟨rfl, _, _, _, _, _, _, _, _, _, _, _, _, _, _, _, _, _, _, rfl, a5, b5, H⟩
    ·go_simp
     refine (HC.below ⟨i4, h4, a4, b4, H⟩ QQ.out 3 (by decide)).mono ?_;rintro e u1 ⟨zz, rfl, z0, zh, _, i5, h5, a5, b5, H⟩;go_wp2_with fail;refine hK.out _ _ ?_ fun hHeld => ?_
     ·exact H.vc1 1 rfl
     clear hK K;(try simp only [sX, Act.put]);refine wpC 8 fun K hK => ?_;have l2 := H.vnc 1 rfl ht (r := 2) rfl;go_simp;clear l2;refine hK.out _ _ ?_ fun hHeld => ?_
     ·exact H.vc1 1 rfl
     clear hK K;(try simp only [sX, Act.put]);refine wpT 11 ?_;refine wpT 12 ?_;refine wpT 13 ?_;refine wpT 14 ?_;refine wpC 15 fun K hK => ?_;have hf := H.vnfree 1 rfl (k * 5 + 2);have hc := H.vnc 1 rfl ht (r := 2) rfl;replace H := H.vnset 1 rfl (p' := (vk, t0, t1, IntKind.i64.wrap (IntKind.i64.wrap (t2 + zz) - 1), t3, ts)) (k := k) (r := 2) ht (by decide) rfl rfl;go_simp;refine hK.out _ _ ?_ fun hHeld => ?_
     ·exact H.vc1 1 rfl
     clear hK K;(try simp only [sX, Act.put]);refine wpAnyH_done (by kernel_rfl) ?_ _;exact ⟨rfl, _, _, _, _, _, _, _, _, _, _, _, _, _, _, _, _, _, _, rfl, a5, b5, H⟩
   rintro a' w5 ⟨v45, v46, v47, v48, v49, v50, v51, v52, v53, v54, v55, v56, v57, v58, v59, i5, h5, zq, rfl, a5, b5, H⟩;simp only [List.getElem_toArray, List.getElem_cons_succ, List.getElem_cons_zero, Act.put, List.setIfInBounds_toArray, List.set_cons_zero, List.set_cons_succ];clear v1;have HH : ∃ (i h nx : Int) (B : Option Addr) (m d : Nat) (L : List (Value × Nod)), SmallV m L ∧ 0 ≤ i ∧ i ≤ (n : Int) ∧ Hp W w0 _ (.blk g TCUR [.slice A n c, .int .i64 i, .int .i64 h] :: volOb gv nx B m d L :: .blk w.heap.size 31 [.int .i64 0, .slice none 0 0] :: l) := ⟨_, _, _, _, _, _, _, (by exact HSM.out.setp k HT.out), a5, b5, H⟩;clear H;obtain ⟨i9, h9, nx, B, m, d, L, hS, a9, b9, H⟩ := HH
  rotate_left
  focus
   go_wp2_with fail;replace H := H.drew;have v1 := H.vc1 1 rfl;have hts := HD20.out _ (List.mem_of_getElem? ht);simp only at hts;have hsz : (9223372036854775807 < t3.size + 1) = False := eq_false (by omega);refine wp_region_held_drew (S := fun w' => w'.cell? ⟨gv, 1, none⟩ = some (.slice (some ⟨gn, 0, none⟩) m d)) (by kernel_rfl) ?_ (fun hHeld => ?_)
   ·exact v1
   obtain ⟨u0, hu0⟩ : ∃ uu : World, uu = w4.drew := ⟨_, rfl⟩;rw [← hu0] at H hHeld ⊢;clear hu0;refine wpT 0 ?_;refine wpT 1 ?_;refine wpT 2 ?_;refine wpT 3 ?_;refine wpT 4 ?_;refine wpT 5 ?_;refine wpT 6 ?_;refine wpT 7 ?_;refine wpC 8 fun K hK => ?_;have l3 := H.vnc 1 rfl ht (r := 3) rfl;go_simp;refine hK.out _ _ ?_ fun hHeld => ?_
   ·exact H.vc1 1 rfl
   clear hK K;(try simp only [sX, Act.put]);refine wpT 9 ?_;refine wpT 10 ?_;refine wpT 11 ?_;refine wpC 12 fun K hK => ?_;have hf := H.vnfree 1 rfl (k * 5 + 3);have hc := H.vnc 1 rfl ht (r := 3) rfl;replace H := H.vnset 1 rfl (p' := (vk, t0, t1, t2, t3 ++ ⟨#[120]⟩, ts)) (k := k) (r := 3) ht (by decide) rfl rfl;go_simp;refine hK.out _ _ ?_ fun hHeld => ?_
   ·exact H.vc1 1 rfl
   clear hK K;(try simp only [sX, Act.put]);refine wpAnyH_done (by kernel_rfl) ?_ _;clear v1 hHeld;have HH : ∃ (i h nx : Int) (B : Option Addr) (m d : Nat) (L : List (Value × Nod)), SmallV m L ∧ 0 ≤ i ∧ i ≤ (n : Int) ∧ Hp W w0 _ (.blk g TCUR [.slice A n c, .int .i64 i, .int .i64 h] :: volOb gv nx B m d L :: .blk w.heap.size 31 [.int .i64 0, .slice none 0 0] :: l) := ⟨_, _, _, _, _, _, _, (by exact HSM.out.setp k ⟨HT.out.1, by show (t3 ++ ByteArray.mk #[120]).size ≤ _; rw [ByteArray.size_append]; show _ + 1 ≤ _; omega, HT.out.2.2⟩), a4, b4, H⟩;clear H;obtain ⟨i9, h9, nx, B, m, d, L, hS, a9, b9, H⟩ := HH
  rotate_left
  focus
   go_wp2_with fail;replace H := H.drew;have v1 := H.vc1 1 rfl;refine wp_region_held_drew (S := fun w' => w'.cell? ⟨gv, 1, none⟩ = some (.slice (some ⟨gn, 0, none⟩) m d)) (by kernel_rfl) ?_ (fun hHeld => ?_)
   ·exact v1
   obtain ⟨u0, hu0⟩ : ∃ uu : World, uu = w4.drew := ⟨_, rfl⟩;rw [← hu0] at H hHeld ⊢;clear hu0;refine wpT 0 ?_;refine wpT 1 ?_;refine wpT 2 ?_;refine wpT 3 ?_;refine wpC 4 fun K hK => ?_;go_simp;refine (l5Any_any ⟨i4, h4, a4, b4, H⟩ QQ.out 4 (by decide)).mono ?_;rintro e u1 ⟨B5, q5, es, rfl, hes, i5, h5, a5, b5, H⟩;go_wp2_with fail;refine hK.out _ _ ?_ fun hHeld => ?_
   ·exact H.vc1 2 rfl
   clear hK K;(try simp only [sX, Act.put]);refine wpT 5 ?_;refine wpT 6 ?_;refine wpC 7 fun K hK => ?_;have hf := H.vnfree 2 rfl (k * 5 + 4);have hc := H.vnc 2 rfl ht (r := 4) rfl;have H6 := H.swap.vnents 1 rfl ht rfl;replace H := H6;clear H6;go_simp;refine hK.out _ _ ?_ fun hHeld => ?_
   ·exact H.vc1 1 rfl
   clear hK K;(try simp only [sX, Act.put]);refine wpAnyH_done (by kernel_rfl) ?_ _;clear v1 hHeld;have HH : ∃ (i h nx : Int) (B : Option Addr) (m d : Nat) (L : List (Value × Nod)), SmallV m L ∧ 0 ≤ i ∧ i ≤ (n : Int) ∧ Hp W w0 _ (.blk g TCUR [.slice A n c, .int .i64 i, .int .i64 h] :: volOb gv nx B m d L :: .blk w.heap.size 31 [.int .i64 0, .slice none 0 0] :: l) := ⟨_, _, _, _, _, _, _, (by exact HSM.out.setp k ⟨by have := hes.1; simp only; omega, HT.out.2.1, hes.2⟩), a5, b5, H⟩;clear H;obtain ⟨i9, h9, nx, B, m, d, L, hS, a9, b9, H⟩ := HH
  rotate_left
  focus
   have HU := Lib.hid HLN.out;skip;have H5 := ((H.front 1 rfl).vopen).nlen (show m = L.length from HLN.out.symm);have z1 := H5.at_ 0 rfl (j := 1) rfl;have z0 := H5.at_ 0 rfl (j := 0) rfl;have hu : L.length ≤ 16 := by rw [HU.out]; exact hl16
   go_wp2_with (at_builtin; refine wp_appL (f := cNV) (H5) rfl _ _ _ rfl Tryz.underlying29 infoInode rfl (by decide) 1 _ _ rfl rfl _ _ (((.slice none 0 0, (wrap64 (nx - 1), 1, 0, ⟨#[]⟩, [])) : Value × Nod)) rfl (by simp) rfl (by simp [cNV, Value.oneCell']) (by first | (simp only [maxLen]; omega) | (simp [maxLen]; done) | (simp [maxLen]; omega)) (by first | omega | (simp; done) | (simp; omega)) ?_)
   intro v2 w6 H6;obtain ⟨C9, q9, hv9⟩ := H6.shape 1 rfl;have p0 := H6.at_ 0 rfl (j := 1) rfl;have p1 := H6.free 0 rfl 1;have H := (Hp.vgrow (L := L) (wrap64 (nx - 1), 1, 0, ⟨#[]⟩, []) H6 rfl hv9 (by simp)).swap;clear H5 H6 z0 z1;subst hv9;have HH : ∃ (i h nx : Int) (B : Option Addr) (m d : Nat) (L : List (Value × Nod)), SmallV m L ∧ 0 ≤ i ∧ i ≤ (n : Int) ∧ Hp W w0 _ (.blk g TCUR [.slice A n c, .int .i64 i, .int .i64 h] :: volOb gv nx B m d L :: .blk w.heap.size 31 [.int .i64 0, .slice none 0 0] :: l) := ⟨_, _, _, _, _, _, _, (by exact ⟨by omega, by have := HU.out; omega, fun q hq => (List.mem_append.1 hq).elim (HSM.out.2.2 q) fun h => by rw [List.mem_singleton.1 h]; exact ⟨Nat.zero_le _, Nat.zero_le _, nofun⟩⟩), a4, b4, H⟩;clear H;obtain ⟨i9, h9, nx, B, m, d, L, hS, a9, b9, H⟩ := HH
  rotate_left
  focus
   go_wp2_with fail;replace H := H.drew;have v1 := H.vc1 1 rfl;refine wp_region_held_drew (S := fun w' => w'.cell? ⟨gv, 1, none⟩ = some (.slice (some ⟨gn, 0, none⟩) m d)) (by kernel_rfl) ?_ (fun hHeld => ?_)
   ·exact v1
   obtain ⟨u0, hu0⟩ : ∃ uu : World, uu = w4.drew := ⟨_, rfl⟩;rw [← hu0] at H hHeld ⊢;clear hu0;refine wpT 0 ?_;refine wpT 1 ?_;refine wpT 2 ?_;refine wpT 3 ?_;refine wpC 4 fun K hK => ?_;go_simp;refine (HC.below ⟨i4, h4, a4, b4, H⟩ QQ.out 4 (by decide)).mono ?_;rintro e u1 ⟨zz, rfl, z0, zh, _, i5, h5, a5, b5, H⟩;go_wp2_with fail;refine hK.out _ _ ?_ fun hHeld => ?_
   ·exact H.vc1 1 rfl
   clear hK K;(try simp only [sX, Act.put]);refine wpT 5 ?_;refine wpT 6 ?_;refine wpC 7 fun K hK => ?_;have hf := H.vnfree 1 rfl (k * 5);have hc := H.vnc 1 rfl ht (r := 0) rfl;simp only [Nat.add_zero] at hc;replace H := H.vnset 1 rfl (p' := (vk, zz, t1, t2, t3, ts)) (k := k) (r := 0) ht (by decide) rfl rfl;simp only [Nat.add_zero] at H;go_simp;refine hK.out _ _ ?_ fun hHeld => ?_
   ·exact H.vc1 1 rfl
   clear hK K;(try simp only [sX, Act.put]);refine wpAnyH_done (by kernel_rfl) ?_ _;clear v1 hHeld;have HH : ∃ (i h nx : Int) (B : Option Addr) (m d : Nat) (L : List (Value × Nod)), SmallV m L ∧ 0 ≤ i ∧ i ≤ (n : Int) ∧ Hp W w0 _ (.blk g TCUR [.slice A n c, .int .i64 i, .int .i64 h] :: volOb gv nx B m d L :: .blk w.heap.size 31 [.int .i64 0, .slice none 0 0] :: l) := ⟨_, _, _, _, _, _, _, (by exact HSM.out.setp k HT.out), a5, b5, H⟩;clear H;obtain ⟨i9, h9, nx, B, m, d, L, hS, a9, b9, H⟩ := HH
  rotate_left
 all_goals
  have v0 := H.vc0 1 rfl;have z0 := H.fa 2 0 rfl rfl;have fz0 := H.bfree 2 rfl 0;have v1 := H.vc1 1 rfl;have z1 := H.fa 2 1 rfl rfl;have fz1 := H.bfree 2 rfl 1;replace H := H.blays 2 rfl [.int .i64 nx, .slice B m d] rfl;simp only [layW, Nat.zero_add, Nat.reduceAdd] at H;have H9 := Lib.hid (H.swap.vcore.swap);have HB := Lib.hid (H.blk 2 rfl);clear H;go_wp2_with fail
  ((try simp only [Exit.inBlock, Exit.then]); refine bodyPost_ret (results_cell_row rfl _ _ _ _ _ _ _ rfl HB.out Tryz.underlying31 rfl (by kernel_rfl)) rfl ?_)
  have HE := (⟨i9, h9, a9, b9, H9.out.sub (.cons_cons _ (.cons_cons _ (.cons _ (.refl _))))⟩ : HC W w0 _ g A n c _)
  first | exact ⟨_, _, _, _, _, rfl, hS, HE⟩ | exact ⟨_, _, _, _, rfl, _, hS, HE⟩
end Go.Proofs.YtllonpbhgbhogaaGreatDoor
