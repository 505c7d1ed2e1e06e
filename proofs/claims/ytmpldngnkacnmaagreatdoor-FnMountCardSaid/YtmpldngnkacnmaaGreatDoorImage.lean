/-
The reference draws a device: the blocks of a volume, and a transaction behind them.
-/
import Derived.Test.YtmpldngnkacnmaaGreatDoorDrawVol
import Derived.Test.YtmpldngnkacnmaaGreatDoorGs
import Derived.Test.YtmpldngnkacnmaaGreatDoorGk
import Derived.Test.YtmpldngnkacnmaaGreatDoorGl
namespace Go.Proofs.YtmpldngnkacnmaaGreatDoor
open Go.RowKit
set_option linter.unusedVariables false
set_option linter.unusedSimpArgs false
theorem VOk.blocks {nx : Int} {ns : List Nod} (h : VOk nx ns) : ∀ t ∈ blocksB nx ns, t.size ≤ 20000 := by
 intro t ht;rw [blocksB_eq] at ht
 rcases List.mem_cons.1 ht with rfl | ht
 ·rw [ofB_size]
  have v0 := varB_len nx;have v1 := varB_len (ns.length : Int);simp only [headB, List.length_cons, List.length_append];omega
 ·obtain ⟨i, _, rfl⟩ := List.mem_map.1 ht
  unfold blkAt
  split
  ·rename_i x hx
   have hm := List.mem_of_getElem? hx;have hd := h.toVW.fit.2 x hm;have h1 : x.2.2.2.1.size ≤ 20 := by
    rcases h.toVW.typ x hm with h4 | h4
    ·exact h4.2.2
    ·have := h4.2.1; omega
   have k1 := flatE_le (m := 24) x.2.2.2.2 fun e he => by
    have h5 := name_len (key_name (ent_key hd he));rw [toB_len] at h5; omega
   have k2 : x.2.2.2.2.length * (21 + 24) ≤ 12 * (21 + 24) := Nat.mul_le_mul_right _ hd.len;have k3 := pieceB_le x.2.2.2.1;have v0 := varB_len x.1;have v1 := varB_len x.2.1;have v2 := varB_len x.2.2.1;have v3 := varB_len (x.2.2.2.2.length : Int);rw [ofB_size];simp only [nodeB, List.length_append, List.length_cons];omega
  ·exact Nat.zero_le _
theorem showT_small (seq : Int) (l : List WrT) : (ofB (showT seq l)).size ≤ 4000 := by
 rw [ofB_size]
 by_cases h : showT seq l = []
 ·rw [h]; simp
 ·exact (showT_ok h).2.2
theorem NodSz.of {nx : Int} {L : List (Value × Nod)} (h : VOk nx (nodes L)) : NodSz L := ReadSz.nod fun p hp => by
 have hm := List.mem_map_of_mem (f := Prod.snd) hp;have hd := h.toVW.fit.2 p.2 hm;exact ⟨by have := h.data p hp; omega, hd.len, ent_small hd⟩
theorem moreDo {W : List Nat} {w0 w : World} {o1 o2 o3 : Ob} {Y : List Ob} (H : Hp W w0 w (o1 :: o2 :: o3 :: Y)) {nx : Int} {B : Option Addr} {m d : Nat} {L : List (Value × Nod)} (j : Nat) (hj : Y[j]? = some (obN (.slice B m d) m L)) (hV : VOk nx (nodes L)) (z0 z1 : Int) (s2 : ByteArray) (z3 : Int) (s4 s5 : ByteArray) :
 Calls Tryz.prog 30 #[.agg #[.int .i64 nx, .slice B m d], .agg #[.int .i64 z0, .int .i64 z1, .string s2, .int .i64 z3, .string s4, .string s5]] w fun e w' => ∃ (nx' : Int) (A : Option Addr) (n c : Nat) (L' : List (Value × Nod)) (Z : List Ob) (k : Nat) (r0 r1 : Int) (r2 r3 : ByteArray), e = .returned (.tuple #[.agg #[.int .i64 nx', .slice A n c], .agg #[.int .i64 r0, .int .i64 r1, .string r2, .string r3]]) ∧ VOk nx' (nodes L') ∧ (Y ++ Z)[k]? = some (obN (.slice A n c) n L') ∧ Hp W w0 w' (o1 :: o2 :: o3 :: (Y ++ Z)) := by
 refine (l6Do_any nx B m d L z0 z1 s2 z3 s4 s5 _ (VRd.of H (j + 3) hj) (H.nnc (j + 3) hj) hV).mono ?_;rintro e w' ⟨A, n, c, L', rfl, h2, h3⟩;have hO := do_V (c := (z0, z1, s2, z3, s4, s5)) hV;rw [← h2] at hO
 rcases h3 with ⟨rfl, rfl, rfl, rfl, f⟩ | K
 ·exact ⟨_, _, _, _, _, [], j, _, _, _, _, rfl, hO, by rw [List.append_nil]; exact hj, by rw [List.append_nil]; exact H.go f⟩
 ·exact ⟨_, A, n, c, L', [obN (.slice A n c) n L'], Y.length, _, _, _, _, rfl, hO, by simp, (H.join K).perm (List.perm_append_comm (l₁ := [obN (.slice A n c) n L']) (l₂ := o1 :: o2 :: o3 :: Y))⟩
theorem Hp.wr2 {W : List Nat} {w0 w : World} {l : List Ob} {g n q : Nat} {outs : List WrT} (H : Hp W w0 w l) (i : Nat) (hi : l[i]? = some (.row 34 2 (.slice (some ⟨g, 0, none⟩) n q) n (outs.flatMap cWrite))) {k : Nat} {x0 : Int} {x1 : ByteArray} (hx : outs[k]? = some (x0, x1)) : w.cell? ⟨g, k * 2, none⟩ = some (.int .i64 x0) ∧ w.cell? ⟨g, k * 2 + 1, none⟩ = some (.string x1) :=
 ⟨H.atL i hi cWrite_len (r := 0) hx rfl, H.atL i hi cWrite_len (r := 1) hx rfl⟩
def DrewI (w0 : World) (g : Nat) (A : Option Addr) (n c : Nat) (e : Ending) (w' : World) : Prop := ∃ (B : Option Addr) (d : Nat) (o : List ByteArray), e = .returned (.slice B 18 d) ∧ 18 ≤ d ∧ o.length = 18 ∧ (∀ t ∈ o, t.size ≤ 2000003) ∧ HC [] w0 w' g A n c [.row 9 1 (.slice B 18 d) 18 (o.map Value.string)]
set_option maxRecDepth 100000 in
set_option maxHeartbeats 32000000 in
theorem l9Image_any {w0 w : World} {g : Nat} {A : Option Addr} {n c : Nat} (K : HC [] w0 w g A n c []) (Q : CurP [] w0 g A n) (mo : Int) (hmo : mo ≤ 256) :
 Calls Tryz.prog 14 #[.pointer (some ⟨g, 0, none⟩), .int .i64 mo] w (DrewI w0 g A n c) := by
 have QQ := Lib.hid Q;have HK0 := Lib.hid K;clear K Q;go_enter Tryz.func14, Tryz.ntmps14;go_wp2_with fail;refine (l6Vol_any HK0.out QQ.out mo hmo).mono ?_;rintro e w1 ⟨nx, B, m, d, L, rfl, hV, H⟩;have HV := Lib.hid hV;have HLN := Lib.hid (H.vrd 0 rfl).1.len;have HSM := Lib.hid (hV.small (B := B) (d := d) HLN.out);clear hV HK0;obtain ⟨i1, h1, a1, b1, H⟩ := H;replace H := H.lay_ 28 [.int .i64 nx, .slice B m d] rfl;have b0 := H.fa 0 0 rfl rfl;have b1_ := H.fa 0 1 rfl rfl;replace H := H.lay_ 28 [.int .i64 nx, .slice B m d] (g := w1.heap.size + 1) (by simp);go_wp2_with fail;have H3 : Hp [] w0 _ [.blk g TCUR [.slice A n c, .int .i64 i1, .int .i64 h1], .blk (w1.heap.size + 1) 28 [.int .i64 nx, .slice B m d], .blk w1.heap.size 28 [.int .i64 nx, .slice B m d], obN (.slice B m d) m L] := H.front 2 rfl;clear H;refine (HC.below ⟨i1, h1, a1, b1, H3⟩ QQ.out 4 (by decide)).mono ?_;rintro e w2 ⟨x, rfl, x0, xh, x1, K2⟩;have x2 := x1 (by decide);obtain ⟨k0, rfl⟩ : ∃ q : Nat, x = q := ⟨x.toNat, by omega⟩;have hw : IntKind.i64.wrap (1 + (k0 : Int)) = 1 + (k0 : Int) := IntWalk.i64_in _ (by omega);have hk1 : ((k0 + 1 : Nat) : Int) = 1 + (k0 : Int) := by omega
 have hk4 : k0 + 1 ≤ 4 := by omega
 clear x0 xh x1 x2 H3 b0 b1_ a1 b1;obtain ⟨gv, hgv⟩ : ∃ z, z = w1.heap.size := ⟨_, rfl⟩;rw [← hgv] at K2 ⊢;clear hgv;have HK := Lib.hid K2;clear K2;go_wp2_with fail
 go_loopw [7] (fun jv wr => ∃ (k : Nat) (nx1 : Int) (B1 : Option Addr) (m1 d1 : Nat) (L1 : List (Value × Nod)) (X : List Ob) (j : Nat), jv = .int .i64 k ∧ k ≤ 4 ∧ VOk nx1 (nodes L1) ∧ (obN (.slice B m d) m L :: X)[j]? = some (obN (.slice B1 m1 d1) m1 L1) ∧ HC [] w0 wr g A n c (.blk (gv + 1) 28 [.int .i64 nx1, .slice B1 m1 d1] :: .blk gv 28 [.int .i64 nx, .slice B m d] :: obN (.slice B m d) m L :: X)) (fun jv _ => (intOf jv).toNat)
 case atStart => exact ⟨k0 + 1, nx, B, m, d, L, [], 0, by rw [hk1], hk4, HV.out, rfl, HK.out⟩
 case round =>
  clear HK hw hk1 hk4;obtain ⟨k, nx1, B1, m1, d1, L1, X, j, rfl, hkb, hV1, hj, H⟩ := hrel;have HV1 := Lib.hid hV1;have HJ := Lib.hid hj;have HLN1 := Lib.hid (H.vrd (j + 2) hj).1.len;have HSM1 := Lib.hid (hV1.small (B := B1) (d := d1) HLN1.out);have hm1 := HSM1.out.2.1;clear hV1 hj;obtain ⟨i5, h5, a5, b5, H⟩ := H
  rcases Nat.eq_zero_or_pos k with hk | hk
  rotate_left
  ·have hkk : (0 : Int) < (k : Int) := by omega
   have b0 := H.fa 1 0 rfl rfl;have b1 := H.fa 1 1 rfl rfl;go_wp2_with fail;replace H := H.drew;refine wp_region_held_drew (S := fun _ => True) (by kernel_rfl) ?_ (fun hHeld => ?_)
   ·exact trivial
   obtain ⟨u0, hu0⟩ : ∃ uu : World, uu = wr.drew := ⟨_, rfl⟩;rw [← hu0] at H ⊢;clear hu0;refine wpT 1 ?_;refine wpAnyH_ready (rs := [0, 2]) (by kernel_rfl) (by simp) ?_;refine (AllReadyH.cons rfl (fun K hK => ?_) (AllReadyH.cons rfl (fun K hK => ?_) AllReadyH.nil))
   ·have y0 := H.fa 1 0 rfl rfl
    have y1 := H.fa 1 1 rfl rfl;go_simp;clear y0 y1;refine hK.out _ _ ?_ fun hHeld => ?_
    ·exact trivial
    clear hK K;(try simp only [sX, Act.put]);refine wpC 2 fun K hK => ?_;have y0 := H.fa 1 0 rfl rfl;have y1 := H.fa 1 1 rfl rfl;go_simp;clear y0 y1;refine hK.out _ _ ?_ fun hHeld => ?_
    ·exact trivial
    clear hK K;(try simp only [sX, Act.put]);refine wpC 3 fun K hK => ?_;go_simp;refine (l6Call_any (⟨i5, h5, a5, b5, H⟩ : HC [] w0 _ g A n c _) QQ.out nx1 B1 m1 d1 L1 (j + 2) HJ.out HSM1.out).mono ?_;rintro e u3 ⟨z0, z1, s2, z3, s4, s5, rfl, _, _, _, i5, h5, a5, b5, H⟩;go_wp2_with fail;refine hK.out _ _ ?_ fun hHeld => ?_
    ·exact trivial
    clear hK K;(try simp only [sX, Act.put]);refine wpC 4 fun K hK => ?_;go_simp;refine (moreDo H j HJ.out HV1.out z0 z1 s2 z3 s4 s5).mono ?_;rintro e u4 ⟨nx2, B9, m9, d9, L9, Z9, k9, r0, r1, r2, r3, rfl, hO, hk, H⟩;have HO := Lib.hid (And.intro hO hk);clear hO hk;go_wp2_with fail;refine hK.out _ _ ?_ fun hHeld => ?_
    ·exact trivial
    clear hK K;(try simp only [sX, Act.put]);refine wpT 5 ?_;refine wpT 6 ?_;refine wpT 7 ?_;refine wpC 8 fun K hK => ?_;refine putVol H 1 rfl rfl rfl (fun u5 H => ?_);refine hK.out _ _ ?_ fun hHeld => ?_
    ·exact trivial
    clear hK K;(try simp only [sX, Act.put]);refine wpAnyH_done (by kernel_rfl) ?_ _;clear b0 b1;have HH := Lib.hid H;clear H;go_wp2_with fail;go_roundw
    case rel => exact ⟨k - 1, nx2, B9, m9, d9, L9, X ++ Z9, k9, by go_num, by omega, HO.out.1, HO.out.2, i5, h5, a5, b5, HH.out⟩
    case measure => simp [intOf]; omega
   ·have y0 := H.fa 1 0 rfl rfl
    have y1 := H.fa 1 1 rfl rfl;go_simp;clear y0 y1;refine hK.out _ _ ?_ fun hHeld => ?_
    ·exact trivial
    clear hK K;(try simp only [sX, Act.put]);refine wpAnyH_ready (rs := [0, 3]) (by kernel_rfl) (by simp) ?_;refine (AllReadyH.cons rfl (fun K hK => ?_) (AllReadyH.cons rfl (fun K hK => ?_) AllReadyH.nil))
    ·have y0 := H.fa 1 0 rfl rfl
     have y1 := H.fa 1 1 rfl rfl;go_simp;clear y0 y1;refine hK.out _ _ ?_ fun hHeld => ?_
     ·exact trivial
     clear hK K;(try simp only [sX, Act.put]);refine wpC 3 fun K hK => ?_;go_simp;refine (l6Call_any (⟨i5, h5, a5, b5, H⟩ : HC [] w0 _ g A n c _) QQ.out nx1 B1 m1 d1 L1 (j + 2) HJ.out HSM1.out).mono ?_;rintro e u3 ⟨z0, z1, s2, z3, s4, s5, rfl, _, _, _, i5, h5, a5, b5, H⟩;go_wp2_with fail;refine hK.out _ _ ?_ fun hHeld => ?_
     ·exact trivial
     clear hK K;(try simp only [sX, Act.put]);refine wpC 4 fun K hK => ?_;go_simp;refine (moreDo H j HJ.out HV1.out z0 z1 s2 z3 s4 s5).mono ?_;rintro e u4 ⟨nx2, B9, m9, d9, L9, Z9, k9, r0, r1, r2, r3, rfl, hO, hk, H⟩;have HO := Lib.hid (And.intro hO hk);clear hO hk;go_wp2_with fail;refine hK.out _ _ ?_ fun hHeld => ?_
     ·exact trivial
     clear hK K;(try simp only [sX, Act.put]);refine wpT 5 ?_;refine wpT 6 ?_;refine wpT 7 ?_;refine wpC 8 fun K hK => ?_;refine putVol H 1 rfl rfl rfl (fun u5 H => ?_);refine hK.out _ _ ?_ fun hHeld => ?_
     ·exact trivial
     clear hK K;(try simp only [sX, Act.put]);refine wpAnyH_done (by kernel_rfl) ?_ _;clear b0 b1;have HH := Lib.hid H;clear H;go_wp2_with fail;go_roundw
     case rel => exact ⟨k - 1, nx2, B9, m9, d9, L9, X ++ Z9, k9, by go_num, by omega, HO.out.1, HO.out.2, i5, h5, a5, b5, HH.out⟩
     case measure => simp [intOf]; omega
    ·go_simp
     refine (l6Call_any (⟨i5, h5, a5, b5, H⟩ : HC [] w0 _ g A n c _) QQ.out nx1 B1 m1 d1 L1 (j + 2) HJ.out HSM1.out).mono ?_;rintro e u2 ⟨z0, z1, s2, z3, s4, s5, rfl, _, _, _, i5, h5, a5, b5, H⟩;go_wp2_with fail;refine hK.out _ _ ?_ fun hHeld => ?_
     ·exact trivial
     clear hK K;(try simp only [sX, Act.put]);refine wpC 0 fun K hK => ?_;have y0 := H.fa 1 0 rfl rfl;have y1 := H.fa 1 1 rfl rfl;go_simp;clear y0 y1;refine hK.out _ _ ?_ fun hHeld => ?_
     ·exact trivial
     clear hK K;(try simp only [sX, Act.put]);refine wpC 4 fun K hK => ?_;go_simp;refine (moreDo H j HJ.out HV1.out z0 z1 s2 z3 s4 s5).mono ?_;rintro e u4 ⟨nx2, B9, m9, d9, L9, Z9, k9, r0, r1, r2, r3, rfl, hO, hk, H⟩;have HO := Lib.hid (And.intro hO hk);clear hO hk;go_wp2_with fail;refine hK.out _ _ ?_ fun hHeld => ?_
     ·exact trivial
     clear hK K;(try simp only [sX, Act.put]);refine wpT 5 ?_;refine wpT 6 ?_;refine wpT 7 ?_;refine wpC 8 fun K hK => ?_;refine putVol H 1 rfl rfl rfl (fun u5 H => ?_);refine hK.out _ _ ?_ fun hHeld => ?_
     ·exact trivial
     clear hK K;(try simp only [sX, Act.put]);refine wpAnyH_done (by kernel_rfl) ?_ _;clear b0 b1;have HH := Lib.hid H;clear H;go_wp2_with fail;go_roundw
     case rel => exact ⟨k - 1, nx2, B9, m9, d9, L9, X ++ Z9, k9, by go_num, by omega, HO.out.1, HO.out.2, i5, h5, a5, b5, HH.out⟩
     case measure => simp [intOf]; omega
  ·subst hk
   have y0 := H.fa 2 0 rfl rfl;have y1 := H.fa 2 1 rfl rfl;have hm := HSM.out.2.1;go_wp2_with fail;refine (l7Blocks_any nx B m d L _ (VRd.of H 3 rfl).1 (by omega) (NodSz.of HV.out)).mono ?_;rintro e w5 ⟨AA, ca, rfl, oa, fa⟩;replace H := (H.made oa fa).swap;clear oa fa y0 y1;have y0 := H.fa 2 0 rfl rfl;have y1 := H.fa 2 1 rfl rfl;go_wp2_with fail;refine (l7Blocks_any nx1 B1 m1 d1 L1 _ (VRd.of H (j + 4) HJ.out).1 (by omega) (NodSz.of HV1.out)).mono ?_;rintro e w6 ⟨AB, cb, rfl, ob, fb⟩;replace H := H.made ob fb;clear ob fb y0 y1;have HB1 := Lib.hid HV1.out.blocks;have HB0 := Lib.hid HV.out.blocks;obtain ⟨ab, hab⟩ : ∃ z, z = blocksB nx (nodes L) := ⟨_, rfl⟩;have hal : ab.length = 17 := by rw [hab]; exact blocksB_len _ _
   rw [← hab] at H HB0;clear hab;obtain ⟨bb, hbb⟩ : ∃ z, z = blocksB nx1 (nodes L1) := ⟨_, rfl⟩;rw [← hbb] at H HB1;clear hbb;go_wp2_with fail;refine (specDiff_any AA AB 17 ca 17 cb ab bb _ (H.rd 2 rfl) (H.rd 0 rfl) rfl rfl).mono ?_;rintro e w7 ⟨C, q, outs, rfl, ho17, hin, K7⟩;have H9 : Hp [] w0 w7 [.blk g TCUR [.slice A n c, .int .i64 i5, .int .i64 h5], .row 34 2 (.slice C outs.length q) outs.length (outs.flatMap cWrite), .row 9 1 (.slice AA 17 ca) 17 (ab.map Value.string)] := ((H.join K7).sub (.cons_cons _ (.cons _ (.cons_cons _ (.cons_cons _ (List.nil_sublist _)))))).swap;have HIN := Lib.hid (show ∀ x ∈ outs, 0 ≤ x.1 ∧ x.1 ≤ 16 ∧ x.2.size ≤ 20000 from fun x hx => ⟨(hin x hx).1, (hin x hx).2.1, HB1.out _ (hin x hx).2.2⟩);have HAL := Lib.hid hal;clear H K7 hin HB1 HV1 HJ HLN1 HSM1 HV HLN HSM hm hm1 hal;have H := H9;clear H9;obtain ⟨ga, ca2, ea, _⟩ := H.form 2 rfl (by decide);injection ea with ea1 _ ea2;subst ea1 ea2;go_wp2_with fail;refine (HC.below ⟨i5, h5, a5, b5, H⟩ QQ.out 9 (by decide)).mono ?_;rintro e w8 ⟨y, rfl, y0, yh, y1, i6, h6, a6, b6, H6⟩;have y2 := y1 (by decide);have hwy : IntKind.i64.wrap (1 + y) = 1 + y := IntWalk.i64_in _ (by omega);clear H a5 b5 y0 yh y1 y2;go_wp2_with fail;refine (specShowTxn_any (1 + y) C outs.length q outs _ (H6.rd 1 rfl) (by omega)).mono ?_;rintro e w9 ⟨rfl, f9⟩;have HLS := Lib.hid (showT_small (1 + y) outs);obtain ⟨lg, hlg⟩ : ∃ z, z = ofB (showT (1 + y) outs) := ⟨_, rfl⟩;rw [← hlg] at HLS ⊢;clear hlg hwy;have HK := Lib.hid (⟨i6, h6, a6, b6, H6.go f9⟩ : HC [] w0 w9 g A n c _);clear H6 f9 a6 b6;go_wp2_with fail
   go_loopw [11] (fun jv wr => ∃ (i : Nat) (ab : List ByteArray), jv = .int .i64 i ∧ i ≤ outs.length ∧ ab.length = 17 ∧ (∀ t ∈ ab, t.size ≤ 20000) ∧ HC [] w0 wr g A n c [.row 34 2 (.slice C outs.length q) outs.length (outs.flatMap cWrite), .row 9 1 (.slice (some ⟨ga, 0, none⟩) 17 ca) 17 (ab.map Value.string)]) (fun jv _ => outs.length - (intOf jv).toNat)
   case atStart => exact ⟨0, ab, rfl, by omega, HAL.out, HB0.out, HK.out⟩
   case round =>
    clear HK HAL HB0;obtain ⟨i, ab, rfl, hi, hal, hsz, H⟩ := hrel;have HAL := Lib.hid hal;have HSZ := Lib.hid hsz;clear hal hsz
    by_cases hlt : i < outs.length
    ·have hlt1 : (i : Int) < (outs.length : Int) := by omega
     have hi0 : (0 : Int) ≤ (i : Int) := by omega
     obtain ⟨⟨x0, x1⟩, hx⟩ := some_at rfl hlt;have hxb := HIN.out _ (List.mem_of_getElem? hx);simp only at hxb;obtain ⟨z, hz⟩ : ∃ z : Nat, z = x0.toNat := ⟨_, rfl⟩;have hxz : x0 = (z : Int) := by omega
     have hz17 : z < 17 := by omega
     obtain rfl := hxz;have hz0 : (0 : Int) ≤ (z : Int) := by omega
     have hz1 : (z : Int) < 17 := by omega
     have HX2 := Lib.hid hxb.2.2;obtain ⟨yo, hyo⟩ := some_at HAL.out hz17;clear hxb hz
     by_cases hlg : lg = ByteArray.mk #[]
     ·subst hlg
      have HH := Lib.hid H;clear H;go_wp2_with fail;go_roundw
      case rel => exact ⟨i + 1, ab, by go_num, by omega, HAL.out, HSZ.out, HH.out⟩
      case measure => simp [intOf]; omega
     ·have hne : (lg.toList = []) = False := eq_false fun h => by have h2 := beq_eq_false_iff_ne.1 (str_ne hlg); rw [h] at h2; exact h2 (by simp)
      have hne2 : lg.toList.isEmpty = false := by
       cases hh : lg.toList with
       | nil => exact (of_eq_false hne hh).elim
       | cons => rfl
      go_wp2_with fail;refine (H.once QQ.out 3 (by decide)).mono ?_;rintro e wo ⟨xo, rfl, i6, h6, a6, b6, H⟩
      cases xo
      ·skip
       have HH := Lib.hid H;clear H;go_wp2_with fail;go_roundw
       case rel => exact ⟨i + 1, ab, by go_num, by omega, HAL.out, HSZ.out, i6, h6, a6, b6, HH.out⟩
       case measure => simp [intOf]; omega
      ·obtain ⟨go, co, e1, _⟩ := H.form 1 rfl (by omega)
       injection e1 with e11 _ e12;subst e11 e12;go_wp2_with fail;replace H := H.drew;refine wp_region_held_drew (S := fun w' => w'.cell? ⟨go, i * 2, none⟩ = some (.int .i64 z) ∧ w'.cell? ⟨go, i * 2 + 1, none⟩ = some (.string x1)) (by kernel_rfl) ?_ (fun hHeld => ?_)
       ·exact H.wr2 1 rfl hx
       obtain ⟨u0, hu0⟩ : ∃ uu : World, uu = wo.drew := ⟨_, rfl⟩;rw [← hu0] at H hHeld ⊢;clear hu0;refine wpT 0 ?_;refine wpT 1 ?_;refine wpT 2 ?_;refine wpT 3 ?_;refine wpT 4 ?_;refine wpT 5 ?_;refine wpT 6 ?_;refine wpT 7 ?_;refine wpT 8 ?_;refine wpT 9 ?_;refine wpT 10 ?_;refine wpT 11 ?_;refine wpC 12 fun K hK => ?_;have hf := H.free 2 rfl z;have hc := H.atM 2 rfl (j := z) hyo;replace H := H.putM 2 rfl z x1;go_simp;refine hK.out _ _ ?_ fun hHeld => ?_
       ·exact H.wr2 1 rfl hx
       clear hK K;(try simp only [sX, Act.put]);refine wpAnyH_done (by kernel_rfl) ?_ _;have HH := Lib.hid H;clear H;go_wp2_with fail;go_roundw
       case rel => exact ⟨i + 1, ab.set z x1, by go_num, by omega, by rw [List.length_set]; exact HAL.out, (fun t ht => (List.mem_or_eq_of_mem_set ht).elim (HSZ.out t) fun e => by rw [e]; exact HX2.out), i6, h6, a6, b6, HH.out⟩
       case measure => simp [intOf]; omega
    ·have hlt1 : ¬ (i : Int) < (outs.length : Int) := by omega
     obtain ⟨i6, h6, a6, b6, H⟩ := H;have hal := HAL.out;have H5 : Hp [] w0 wr [.blk g TCUR [.slice A n c, .int .i64 i6, .int .i64 h6], .row 34 2 (.slice C outs.length q) outs.length (outs.flatMap cWrite), .row 9 1 (.slice (some ⟨ga, 0, none⟩) 17 ca) ab.length (ab.map Value.string)] := by rw [hal]; exact H
     clear H;go_wp2_with (at_builtin; refine wp_appM (f := Value.string) (H5) rfl _ _ _ rfl Tryz.underlying24 infoString rfl 2 _ _ rfl rfl _ _ (lg) rfl (by simp) rfl (by first | (simp only [maxLen]; omega) | (simp [maxLen]; done) | (simp [maxLen]; omega)) (by first | omega | (simp; done) | (simp; omega)) ?_)
     intro v5 wa H5;obtain ⟨lb, hlb⟩ : ∃ z, z = ab ++ [lg] := ⟨_, rfl⟩;have hll : lb.length = 18 := by rw [hlb, List.length_append, hal]; rfl
     have HLB := Lib.hid (show ∀ t ∈ lb, t.size ≤ 20000 by rw [hlb]; exact fun t ht => (List.mem_append.1 ht).elim (HSZ.out t) fun h => by rw [List.mem_singleton.1 h]; have := HLS.out; omega);have H6 : Hp [] w0 wa [.blk g TCUR [.slice A n c, .int .i64 i6, .int .i64 h6], .row 34 2 (.slice C outs.length q) outs.length (outs.flatMap cWrite), .row 9 1 v5 18 (lb.map Value.string)] := by rw [hlb, List.map_append]; exact H5
     clear H5 hlb;obtain ⟨gl, cl, rfl, _⟩ := H6.form 2 rfl (by decide);have HCL := Lib.hid (own_nc (H6.row 2 rfl));have HLL := Lib.hid hll;clear hll hal;have H := H6;clear H6;go_wp2_with fail;refine (HC.once ⟨i6, h6, a6, b6, H⟩ QQ.out 5 (by decide)).mono ?_;rintro e wb ⟨xo, rfl, i7, h7, a7, b7, H⟩;clear a6 b6
     cases xo
     ·skip
      have HH := Lib.hid H;clear H;go_wp2_with fail;go_ret;exact ⟨_, cl, lb, rfl, HCL.out, HLL.out, fun t ht => Nat.le_trans (HLB.out t ht) (by decide), i7, h7, a7, b7, HH.out.sub (.cons_cons _ (.cons _ (.cons_cons _ (List.nil_sublist _))))⟩
     ·skip
      go_wp2_with fail;refine (HC.below ⟨i7, h7, a7, b7, H⟩ QQ.out 18 (by decide)).mono ?_;rintro e wc ⟨x, rfl, x0, xh, x1, i8, h8, a8, b8, H⟩;have x2 := x1 (by decide);obtain ⟨k, rfl⟩ : ∃ q : Nat, x = q := ⟨x.toNat, by omega⟩;have hk18 : k < 18 := by omega
      have hk180 : (k : Int) < 18 := by omega
      obtain ⟨s, hs⟩ := some_at HLL.out hk18;have hsz := HLB.out s (List.mem_of_getElem? hs);clear xh x1 x2 a7 b7;have cs := H.atM 2 rfl (j := k) hs;go_wp2_with fail;refine (l1Spoil_any ⟨i8, h8, a8, b8, H⟩ QQ.out s (by omega)).mono ?_;rintro e wd ⟨t, rfl, ht, i9, h9, a9, b9, H⟩;clear cs;have hf := H.free 2 rfl k;have hc := H.atM 2 rfl (j := k) hs;have HH := Lib.hid (H.putM 2 rfl k t);have HT := Lib.hid ht;clear H ht hs hsz;go_wp2_with fail;go_ret;exact ⟨_, cl, lb.set k t, rfl, HCL.out, by rw [List.length_set]; exact HLL.out, fun u hu => (List.mem_or_eq_of_mem_set hu).elim (fun h => Nat.le_trans (HLB.out u h) (by decide)) fun e => by rw [e]; exact HT.out, i9, h9, a9, b9, HH.out.sub (.cons_cons _ (.cons _ (.cons_cons _ (List.nil_sublist _))))⟩
def DrewL (w : World) (e : Ending) (w' : World) : Prop := ∃ (gl m d : Nat) (o : List ByteArray), e = .returned (.slice (some ⟨gl, 0, none⟩) m d) ∧ m ≤ d ∧ m ≤ 18 ∧ (∀ t ∈ o, t.size ≤ 2000003) ∧ Rd w' (some ⟨gl, 0, none⟩) m 1 (o.map Value.string) ∧ Fr w w'
set_option maxRecDepth 100000 in
set_option maxHeartbeats 8000000 in
theorem drawMount_any (A : Option Addr) (n c : Nat) (bs : List UInt8) (w : World) (hA : Rd w A n 1 (bs.map cU8)) (hn : n ≤ 1048576) :
 Calls Tryz.prog 5 #[.slice A n c] w (DrewL w) := by
 have HA := Lib.hid hA;clear hA;go_enter Tryz.func5, Tryz.ntmps5;go_wp2_with fail;refine (l1New_any A n c bs _ HA.out hn).mono ?_;rintro e w1 ⟨g, h, rfl, K⟩;have hne := old_ne HA.out (own_new K);have QQ := Lib.hid (show CurP [] w g A n from ⟨⟨bs, HA.out⟩, fun h0 ad he => ⟨by simp, hne h0 ad he⟩, hn⟩);have HK := Lib.hid (show HC [] w w1 g A n c [] from ⟨0, h, by omega, by omega, K⟩);clear K hne;go_wp2_with fail;refine (l1Size_any A n c 30 _ hn (by omega)).mono ?_;rintro e w2 ⟨mo, rfl, m0, m1, f2⟩;have HK2 := Lib.hid (HK.out.go f2);clear f2 HK;go_wp2_with fail;refine (l9Image_any HK2.out QQ.out mo (by omega)).mono ?_;rintro e w3 ⟨B, d, o, rfl, hd, ho, hs, i3, h3, a3, b3, H⟩;have HS := Lib.hid hs;clear hs ho m0 m1 HK2;obtain ⟨gl, dl, e1, _⟩ := H.form 1 rfl (by decide);injection e1 with e11 _ e12;subst e11 e12;have hd17 : (17 : Int) ≤ (d : Int) := by omega
 have HD := Lib.hid hd;go_wp2_with fail;refine (HC.once ⟨i3, h3, a3, b3, H⟩ QQ.out 20 (by decide)).mono ?_;rintro e w4 ⟨x, rfl, i4, h4, a4, b4, H⟩;have HR := Lib.hid (H.rd 1 rfl);have HF := Lib.hid H.fr;clear H a3 b3 a4 b4
 cases x
 ·skip
  go_wp2_with fail;go_ret;exact ⟨gl, 18, d, o, rfl, HD.out, by omega, HS.out, HR.out, HF.out⟩
 ·skip
  go_wp2_with fail;go_ret;exact ⟨gl, 17, d, o.take 17, rfl, by have := HD.out; omega, by omega, fun t ht => HS.out t (List.mem_of_mem_take ht), rd_take17 HR.out, HF.out⟩
end Go.Proofs.YtmpldngnkacnmaaGreatDoor
