/-
  Many texts in one: ReadBlocksS, ReadTxnS, MVolOk3, SlDel.
-/
import Derived.Test.YtmpldngnkacnmaaGreatDoorParse
import Derived.Test.YtmpldngnkacnmaaGreatDoorVolOkS
import Derived.Test.YtmpldngnkacnmaaGreatDoorGf
import Derived.Test.YtmpldngnkacnmaaGreatDoorGl
import Derived.Test.YtmpldngnkacnmaaGreatDoorGm
import Derived.Test.YtmpldngnkacnmaaGreatDoorGg
import Derived.Shelf.RegionOpenPlain
import Derived.Lib.Walk
set_option linter.unusedVariables false
set_option linter.unusedSimpArgs false
namespace Go.Proofs.YtmpldngnkacnmaaGreatDoor
open Go.RowKit
theorem list2 {l : List Nat} (h : l.length = 2) : ∃ x0 x1, l = [x0, x1] := by
 match l, h with
 | [a, b], _ => exact ⟨a, b, rfl⟩
theorem prsEs_names (s : List UInt8) (o : Option Nat) : ∀ k, ∀ e ∈ (prsEs s o k).1, e.2.2.1.size ≤ s.length
 | 0, e, he => by simp [prsEs] at he
 | k + 1, e, he => by
   rw [prsEs] at he
   rcases List.mem_append.1 he with h | h
   ·exact prsEs_names s o k e h
   ·rw [List.mem_singleton.1 h]
    show (ofB (takeP s (varsP s (prsEs s o k).2 1).2).1).size ≤ _
    rw [ofB_size]; exact take_size
theorem ReadSz.snocS {L : List (Value × Nod)} (h : ReadSz L) {V : Value} {t : List UInt8} (ht : t.length ≤ 16777216) (h12 : (prN t).2.2.2.2.length ≤ 12) : ReadSz (L ++ [(V, prN t)]) := fun p hp => by
 rcases List.mem_append.1 hp with h1 | h1
 ·exact h p h1
 ·rw [List.mem_singleton.1 h1]
  refine ⟨?_, h12, fun e he => Nat.le_trans (prsEs_names _ _ _ e he) ht⟩
  show (ofB (prB t).1).size ≤ _
  rw [ofB_size];exact Nat.le_trans take_size ht
def VBGave (w : World) (next : Int) (L : List (Value × Nod)) (e : Ending) (w' : World) : Prop := ∃ (B : Option Addr) (m d : Nat) (bl : List ByteArray), e = .returned (.slice B m d) ∧ bl = (if volB next (nodes L) = true then blocksB next (nodes L) else []) ∧ m ≤ 17 ∧ w'.ownsRow w.heap.size 9 1 (.slice B m d) m (bl.map Value.string) ∧ Fr w w'
set_option maxRecDepth 100000 in
set_option maxHeartbeats 2000000 in
theorem specVolBlocks_any (next : Int) (A : Option Addr) (n c : Nat) (L : List (Value × Nod)) (w : World) (h : RdN w A n L) (hn : n ≤ 1048576) (hnc : n ≤ c) (hs : ReadSz L) :
 Calls Tryz.prog 48 #[.agg #[.int .i64 next, .slice A n c]] w (VBGave w next L) := by
 have H := (Hp.start w).lay_ 28 [.int .i64 next, .slice A n c] rfl;have y0 := H.fa 0 0 rfl rfl;have y1 := H.fa 0 1 rfl rfl;have HR := Lib.hid h;have HS := Lib.hid hs;clear h hs;obtain ⟨vb, hvb⟩ : ∃ b, volB next (nodes L) = b := ⟨_, rfl⟩;have HVB := Lib.hid hvb;clear hvb;go_enter Tryz.func48, Tryz.ntmps48;go_wp2_with fail;refine (specVolOk_any next A n c L _ (HR.out.fr H.fr) hn hnc HS.out.few (fun p hp => (HS.out p hp).2.2)).mono ?_;rintro e w1 ⟨rfl, f1⟩;rw [HVB.out];replace H := H.go f1;clear f1 y0 y1
 cases vb with
 | false =>
   have H2 := H.lit0 9 1;go_wp2_with fail;go_ret;unfold VBGave;exact ⟨_, _, _, [], rfl, by rw [HVB.out]; rfl, by omega, H2.out 0 rfl, H2.fr⟩
 | true =>
   have y0 := H.fa 0 0 rfl rfl;have y1 := H.fa 0 1 rfl rfl;go_wp2_with fail;refine (l7Blocks_any next A n c L _ (HR.out.fr H.fr) hn HS.out.nod).mono ?_;rintro e w2 ⟨B, d, rfl, o2, f2⟩;have H2 := Lib.hid (H.made o2 f2);clear o2 f2 y0 y1;go_wp2_with fail;go_ret;unfold VBGave;exact ⟨_, _, _, blocksB next (nodes L), rfl, by rw [if_pos HVB.out], by omega, H2.out.out 0 rfl, H2.out.fr⟩
set_option maxRecDepth 100000 in
set_option maxHeartbeats 8000000 in
theorem specReadBlocks_any (A : Option Addr) (n c : Nat) (l : List ByteArray) (w : World) (h : Rd w A n 1 (l.map Value.string)) (hn : n ≤ 1048576) (hsz : ∀ t ∈ l, t.size ≤ 16777216) :
 Calls Tryz.prog 21 #[.slice A n c] w (ReadGave w l) := by
 have HL := Lib.hid h.len1;have HR := Lib.hid h;have HSZ := Lib.hid hsz;clear hsz
 by_cases h17 : n = 17
 case neg =>
  have h171 : ¬ (n : Int) = 17 := by omega
  have h172 : ((n : Int) != 17) = true := bne_iff_ne.2 h171;have HNO := Lib.hid (readB_len (l := l) (by rw [HL.out]; exact h17));have H := (Hp.start w).lay_ 28 [.int .i64 0, .slice none 0 0] rfl;go_enter Tryz.func21, Tryz.ntmps21;have e0 := H.fa 0 0 rfl rfl;have e1 := H.fa 0 1 rfl rfl;have f0 := H.bfree 0 rfl 0;have f1 := H.bfree 0 rfl 1;go_wp2_with fail
  ((try simp only [Exit.inBlock, Exit.then]); refine bodyPost_ret (results_cell_tmp_row rfl _ _ w.heap.size 28 #[.int .i64 0, .slice none 0 0] (0, 0) _ rfl (H.blk 0 rfl) Tryz.underlying28 rfl (by kernel_rfl)) rfl ?_)
  exact readGave_no HNO.out H.fr
 have h171 : (n : Int) = 17 := by omega
 have h172 : ((n : Int) != 17) = false := by rw [h171]; rfl
 obtain ⟨t0, ht0⟩ := some_at HL.out (show 0 < n by omega);obtain ⟨bk, of, rfl, c0⟩ := h.get1 ht0;simp only [Nat.add_zero] at c0;have H0 := (Hp.start w).lay_ 28 [.int .i64 0, .slice none 0 0] rfl;have c0' := fr_cellM H0.fr c0;have hs0 := HSZ.out t0 (List.mem_of_getElem? ht0);have HX0 := Lib.hid (txt_at ht0);clear h ht0 c0;obtain ⟨r, hr⟩ : ∃ r, r = toB t0 := ⟨_, rfl⟩;have hrl : r.length ≤ 16777216 := by rw [hr, toB_len]; exact hs0
 have HT0 := Lib.hid (show t0 = ofB r by rw [hr, ofB_toB]);rw [← hr] at HX0;obtain ⟨A, hA⟩ : ∃ A, prH r = A := ⟨_, rfl⟩;have EA := Lib.hid (show varsP r (some 1) 2 = A from hA);have EA' := Lib.hid (show prH (txt l 0) = A by rw [HX0.out, hA]);clear hA hs0 hr;subst h17;obtain rfl := HT0.out;have hsz0 : (ofB r).size ≤ 1099511627776 := by rw [ofB_size]; omega
 go_enter Tryz.func21, Tryz.ntmps21;go_wp2_with fail;clear c0';have hc := specVars_any (ofB r) (some 1) 2 (w.alloc (.cells #[.int .i64 0, .slice none 0 0] 28)) hsz0 (fun b hb => by injection hb with hb; omega) (by omega);rw [toB_ofB, EA.out, show plZ (some 1) = 1 from rfl, show ((2 : Nat) : Int) = 2 from rfl] at hc;refine hc.mono ?_;rintro e w1 ⟨Aa, ca, rfl, o1, f1⟩;have H := H0.made o1 f1;clear hc o1 f1 H0;obtain ⟨la, ao⟩ := A;simp only at H ⊢
 cases ao with
 | none =>
   have HNO := Lib.hid (readS_no1 (l := l) (by rw [EA'.out]));have hm1 : plZ none = -1 := rfl;rw [hm1];have e0 := H.fa 1 0 rfl rfl;have e1 := H.fa 1 1 rfl rfl;have f0 := H.bfree 1 rfl 0;have f1 := H.bfree 1 rfl 1;have H9 := H.bputs 1 rfl [.int .i64 0, .slice none 0 0] rfl;simp only [setsW] at H9;clear H;go_wp2_with fail
   ((try simp only [Exit.inBlock, Exit.then]); refine bodyPost_ret (results_cell_tmp_row rfl _ _ w.heap.size 28 #[.int .i64 0, .slice none 0 0] (0, 0) _ rfl (H9.blk 1 rfl) Tryz.underlying28 rfl (by kernel_rfl)) rfl ?_)
   exact readGave_no HNO.out H9.fr
 | some a =>
   have hal : la.length = 2 := by have := vars_len (s := r) (o := some 1) (k := 2) (a := a) (by rw [EA.out]); rwa [EA.out] at this
   obtain ⟨n2, n3, hax⟩ : ∃ n2 n3, la = [n2, n3] := list2 hal;subst hax;have hb2 : n3 ≤ 562949953421311 := by have := vars_bound r (some 1) 2 n3 (by rw [EA.out]; simp); exact this
   have hk : plZ (some a) = (a : Int) := rfl;rw [hk];clear hk hal;obtain ⟨ga, cga, ea, _⟩ := H.form 0 rfl (by simp);injection ea with ea1 _ ea2;subst ea1 ea2;have z0 := H.atM (f1 := intN) 0 rfl (j := 0) rfl;have z1 := H.atM (f1 := intN) 0 rfl (j := 1) rfl;simp only [intN] at z0 z1;have E2' := Lib.hid (show (prH (txt l 0)).1.getD 0 0 = n2 by rw [EA'.out]; rfl);have E3' := Lib.hid (show (prH (txt l 0)).1.getD 1 0 = n3 by rw [EA'.out]; rfl);have a0 : (0 : Int) ≤ (a : Int) := by omega
   have a1 : ¬ (a : Int) < 0 := by omega
   by_cases h16 : 16 < n3
   ·have h161 : (16 : Int) < (n3 : Int) := by omega
    have HNO := Lib.hid (readS_no2 (l := l) (by rw [E3'.out]; exact h16));have e0 := H.fa 1 0 rfl rfl;have e1 := H.fa 1 1 rfl rfl;have f0 := H.bfree 1 rfl 0;have f1 := H.bfree 1 rfl 1;have H9 := H.bputs 1 rfl [.int .i64 0, .slice none 0 0] rfl;simp only [setsW] at H9;clear H;go_wp2_with fail
    ((try simp only [Exit.inBlock, Exit.then]); refine bodyPost_ret (results_cell_tmp_row rfl _ _ w.heap.size 28 #[.int .i64 0, .slice none 0 0] (0, 0) _ rfl (H9.blk 1 rfl) Tryz.underlying28 rfl (by kernel_rfl)) rfl ?_)
    exact readGave_no HNO.out H9.fr
   ·have h161 : ¬ (16 : Int) < (n3 : Int) := by omega
    have H2 := H.lay_ 28 [.int .i64 (n2 : Int), .slice none 0 0] rfl;have H3 := H2.many0.nil_ 53 5;obtain ⟨gv, hgv⟩ : ∃ x, x = w1.heap.size := ⟨_, rfl⟩;rw [← hgv] at H3;have HGV := Lib.hid hgv;have H1 : Hp [] w (w1.alloc (.cells #[.int .i64 (n2 : Int), .slice none 0 0] 28)) [.row 53 5 (.slice none 0 0) ([] : List (Value × Nod)).length (([] : List (Value × Nod)).flatMap cNV), .many (([] : List (Value × Nod)).map rowE), .blk gv 28 [.int .i64 (n2 : Int), (.slice none 0 0)], .row 3 1 (.slice (some ⟨ga, 0, none⟩) 2 ca) 2 ([n2, n3].map intN), .blk w.heap.size 28 [.int .i64 0, .slice none 0 0]] := H3;clear hgv H H2 H3;go_wp2_with fail;rw [← HGV.out]
    go_loopw [7] (fun kv wr => ∃ (k : Nat) (V : Value) (L : List (Value × Nod)), kv = .int .i64 k ∧ k ≤ n3 ∧ nodes L = prNs l k ∧ ReadSz L ∧ Hp [] w wr [.row 53 5 V L.length (L.flatMap cNV), .many (L.map rowE), .blk gv 28 [.int .i64 (n2 : Int), V], .row 3 1 (.slice (some ⟨ga, 0, none⟩) 2 ca) 2 ([n2, n3].map intN), .blk w.heap.size 28 [.int .i64 0, .slice none 0 0]]) (fun kv _ => n3 - (intOf kv).toNat)
    case atStart => exact ⟨0, _, [], rfl, by omega, rfl, fun p hp => by simp at hp, H1⟩
    case round =>
     clear H1 z0 z1;obtain ⟨k, V, L, rfl, hk, hL, hLs, H⟩ := hrel;have HLN := Lib.hid hL;have HLS := Lib.hid hLs;have hll : L.length ≤ k := by rw [← nodes_len, hL, prNs_len]; exact Nat.le_refl _
     clear hL hLs;have hk0 : (0 : Int) ≤ (k : Int) := by omega
     have z1 := H.atM (f1 := intN) 3 rfl (j := 1) rfl;simp only [intN] at z1
     by_cases hlt : k < n3
     ·have hlt1 : (k : Int) < (n3 : Int) := by omega
      obtain ⟨p, hp1, hp2⟩ : ∃ p : Nat, k + 1 ≤ p ∧ p ≤ k + 1 := ⟨k + 1, Nat.le_refl _, Nat.le_refl _⟩;have hp3 : (1 : Int) + (k : Int) = (p : Int) := by omega
      have hp4 : IntKind.i64.wrap ((1 : Int) + (k : Int)) = (p : Int) := by rw [hp3]; exact IntWalk.i64_in _ (by omega)
      have hp5 : (0 : Int) ≤ (p : Int) := by omega
      have hp6 : (p : Int) < 17 := by omega
      obtain ⟨t, ht⟩ := some_at HL.out (show p < 17 by omega);obtain ⟨bk', of', ea, ct⟩ := (HR.out.fr H.fr).get1 ht;injection ea with ea; injection ea with ea eb; subst ea eb;have hst := HSZ.out t (List.mem_of_getElem? ht);have HTX := Lib.hid (show txt l (k + 1) = toB t by rw [show k + 1 = p by omega]; exact txt_at ht);obtain ⟨⟨x0, x1, x2, x3, xs⟩, hX⟩ : ∃ X, X = prN (toB t) := ⟨_, rfl⟩;have HX := Lib.hid hX;clear ht hX;go_wp2_with fail;have hc := specParse_any (toB t) wr (by rw [toB_len]; exact hst);rw [ofB_toB] at hc;refine hc.mono ?_;rintro e wD (⟨u0, u1, u2, u3, D, m, q, rfl, hno, fD⟩ | ⟨C, q, rfl, h12, K⟩)
      ·replace H := H.go fD
       have HNO := Lib.hid (readS_no3 (l := l) (k := k) (by rw [E3'.out]; exact hlt) (by rw [HTX.out]; exact hno));clear hc ct fD hno z1;have H2 := H.lay_ 53 [.int .i64 u0, .int .i64 u1, .int .i64 u2, .string u3, .slice D m q] rfl;clear H;have H := H2;clear H2;have e0 := H.fa 5 0 rfl rfl;have e1 := H.fa 5 1 rfl rfl;have f0 := H.bfree 5 rfl 0;have f1 := H.bfree 5 rfl 1;have H9 := H.bputs 5 rfl [.int .i64 0, .slice none 0 0] rfl;simp only [setsW] at H9;clear H;go_wp2_with fail
       ((try simp only [Exit.inBlock, Exit.then]); refine bodyPost_ret (results_cell_tmp_row rfl _ _ w.heap.size 28 #[.int .i64 0, .slice none 0 0] (0, 0) _ rfl (H9.blk 5 rfl) Tryz.underlying28 rfl (by kernel_rfl)) rfl ?_)
       exact readGave_no HNO.out H9.fr
      ·rw [← HX.out] at K h12 ⊢
       simp only at K h12 ⊢;replace H := H.join K;clear K hc ct;have H2 := H.lay_ 53 [.int .i64 x0, .int .i64 x1, .int .i64 x2, .string x3, .slice C xs.length q] rfl;obtain ⟨gb, hgb⟩ : ∃ x, x = wD.heap.size := ⟨_, rfl⟩;rw [← hgb] at H2;have HGB := Lib.hid hgb;clear hgb H;have b0 := H2.fa 0 0 rfl rfl;have b1 := H2.fa 0 1 rfl rfl;have b2 := H2.fa 0 2 rfl rfl;have b3 := H2.fa 0 3 rfl rfl;have b4 := H2.fa 0 4 rfl rfl;have b5 := H2.fa 4 1 rfl rfl;have H3 := H2;rw [HGB.out] at H3 b0 b1 b2 b3 b4;clear H2;go_wp2_with (at_builtin; refine wp_appL (f := cNV) (H3) rfl _ _ _ rfl Tryz.underlying26 infoInode rfl (by decide) 2 _ _ rfl rfl _ _ (((.slice C xs.length q, (x0, x1, x2, x3, xs)) : Value × Nod)) rfl (by simp) rfl (by simp [cNV, Value.oneCell']) (by first | (simp only [maxLen]; omega) | (simp [maxLen]; done) | (simp [maxLen]; omega)) (by first | omega | (simp; done) | (simp; omega)) ?_)
       intro v' w6 H6;have p0 := H6.fa 4 1 rfl rfl;have p1 := H6.bfree 4 rfl 1;have H7 := (H6.bput 4 rfl 1 v').tail;have H8_ := Hp.push (r := rowE (.slice C xs.length q, (x0, x1, x2, x3, xs))) H7 1 rfl;have H8 := Lib.hid (show Hp [] w (w6.setCell ⟨gv, 1, none⟩ v') [.row 53 5 v' (L ++ [((.slice C xs.length q, (x0, x1, x2, x3, xs)) : Value × Nod)]).length ((L ++ [((.slice C xs.length q, (x0, x1, x2, x3, xs)) : Value × Nod)]).flatMap cNV), .many ((L ++ [((.slice C xs.length q, (x0, x1, x2, x3, xs)) : Value × Nod)]).map rowE), .blk gv 28 [.int .i64 (n2 : Int), v'], .row 3 1 (.slice (some ⟨ga, 0, none⟩) 2 ca) 2 ([n2, n3].map intN), .blk w.heap.size 28 [.int .i64 0, .slice none 0 0]] from H8_.recast (by simp));have HLN2 := Lib.hid (show nodes (L ++ [((.slice C xs.length q, (x0, x1, x2, x3, xs)) : Value × Nod)]) = prNs l (k + 1) by
        rw [nodes_snoc, prNs, HLN.out, HTX.out, ← HX.out])
       have HLS2 := Lib.hid (show ReadSz (L ++ [((.slice C xs.length q, (x0, x1, x2, x3, xs)) : Value × Nod)]) by
        have := HLS.out.snocS (V := .slice C xs.length q) (t := toB t) (by rw [toB_len]; exact hst) (by rw [← HX.out]; exact h12);rw [← HX.out] at this;exact this)
       obtain ⟨C9, q9, hv9⟩ := H6.shape 2 rfl;clear H3 H6 H7 H8_ b0 b1 b2 b3 b4 b5;subst hv9;go_wp2_with fail;go_roundw
       case rel => exact ⟨k + 1, _, _, by go_num, by omega, HLN2.out, HLS2.out, H8.out⟩
       case measure => simp [intOf]; omega
     ·have hlt1 : ¬ (k : Int) < (n3 : Int) := by omega
      obtain ⟨D, q, rfl⟩ := H.shape 0 rfl;have hcap : L.length ≤ q := own_cap (H.row 0 rfl);have HC9 := Lib.hid hcap;have hl16 : L.length ≤ 16 := by omega
      have HN := Lib.hid (Hp.join2 (r := rowN (.slice D L.length q) L.length L) H);have HRN := Lib.hid (show RdN wr D L.length L from HN.out.rdN 0 rfl);have HKN := Lib.hid (show prNs l ((prH (txt l 0)).1.getD 1 0) = nodes L by rw [E3'.out, show n3 = k by omega, HLN.out]);have y0 := H.fa 2 0 rfl rfl;have y1 := H.fa 2 1 rfl rfl;go_wp2_with fail;refine (specVolBlocks_any (n2 : Int) D L.length q L _ HRN.out (by omega) HC9.out HLS.out).mono ?_;rintro e wW ⟨B, m, d, bl, rfl, hbl, hm17, oW, fW⟩;have HBL := Lib.hid hbl;have HRB := Lib.hid (Rd.of_own oW);replace H := H.go fW;have HN3 := Lib.hid (HN.out.go fW);clear hbl oW fW y0 y1;go_wp2_with fail;refine (specSame_any B (some ⟨bk, of, none⟩) m d 17 c bl l _ HRB.out (HR.out.fr H.fr) (by omega) (by omega)).mono ?_;rintro e wS ⟨rfl, fS⟩;replace H := H.go fS;have HN4 := Lib.hid (HN3.out.go fS);clear fS;obtain ⟨sb, hsb⟩ : ∃ b, sameB bl l = b := ⟨_, rfl⟩;have HSB := Lib.hid hsb;rw [hsb];clear hsb
      cases sb with
      | false =>
        have HNO := Lib.hid (show readB l = none by
         cases hv : volB (n2 : Int) (nodes L) with
         | false => exact readS_no4 (by rw [E2'.out, HKN.out]; exact hv)
         | true =>
           refine readS_no5 (by
            rw [E2'.out, HKN.out];intro e9;have h9 : bl = l := by rw [HBL.out, if_pos hv]; exact e9
            have := HSB.out;rw [sameB_iff.2 h9] at this
            cases this))
        have e0 := H.fa 4 0 rfl rfl;have e1 := H.fa 4 1 rfl rfl;have f0 := H.bfree 4 rfl 0;have f1 := H.bfree 4 rfl 1;have H9 := H.bputs 4 rfl [.int .i64 0, .slice none 0 0] rfl;simp only [setsW] at H9;clear H;go_wp2_with fail
        ((try simp only [Exit.inBlock, Exit.then]); refine bodyPost_ret (results_cell_tmp_row rfl _ _ w.heap.size 28 #[.int .i64 0, .slice none 0 0] (0, 0) _ rfl (H9.blk 4 rfl) Tryz.underlying28 rfl (by kernel_rfl)) rfl ?_)
        exact readGave_no HNO.out H9.fr
      | true =>
        have hbl9 : bl = l := sameB_iff.1 HSB.out;have HVB := Lib.hid (show volB (n2 : Int) (nodes L) = true by
         cases hv : volB (n2 : Int) (nodes L) with
         | true => rfl
         | false =>
           exfalso
           have h9 : bl = [] := by rw [HBL.out, hv]; rfl
           have := HL.out;rw [← hbl9, h9] at this
           cases this)
        have HB9 := Lib.hid (show blocksB (n2 : Int) (nodes L) = l by rw [← hbl9, HBL.out, if_pos HVB.out]);clear hbl9;have y0 := H.fa 2 0 rfl rfl;have y1 := H.fa 2 1 rfl rfl;have e0 := H.fa 4 0 rfl rfl;have e1 := H.fa 4 1 rfl rfl;have f0 := H.bfree 4 rfl 0;have f1 := H.bfree 4 rfl 1;have H9 := HN4.out.bputs 3 rfl [.int .i64 (n2 : Int), .slice D L.length q] rfl;simp only [setsW] at H9;clear H;go_wp2_with fail
        ((try simp only [Exit.inBlock, Exit.then]); refine bodyPost_ret (results_cell_tmp_row rfl _ _ w.heap.size 28 #[.int .i64 (n2 : Int), .slice D L.length q] (0, 0) _ rfl (H9.blk 3 rfl) Tryz.underlying28 rfl (by kernel_rfl)) rfl ?_)
        exact readGave_yes HVB.out HB9.out HLS.out HC9.out (H9.sub (List.cons_sublist_cons.2 (List.nil_sublist _)))
end Go.Proofs.YtmpldngnkacnmaaGreatDoor
namespace Go.Proofs.YtmpldngnkacnmaaGreatDoor
open Go.RowKit
theorem prsOs_in {s : List UInt8} {c : Nat} : ∀ {k a : Nat}, c ≤ s.length → (prsOs s (some c) k).2 = some a → a ≤ s.length
 | 0, a, hc, h => by injection h with h; omega
 | k + 1, a, hc, h => (take_in h).1
set_option maxRecDepth 100000 in
set_option maxHeartbeats 8000000 in
theorem specReadTxn_any (r : List UInt8) (w : World) (hr : r.length ≤ 16777216) :
 Calls Tryz.prog 20 #[.string (ofB r)] w (ReadTGave w r) := by
 have HSR := Lib.hid (ofB_size r);have H0 := (Hp.start w).lay_ 44 [.int .i64 0, .slice none 0 0] rfl;obtain ⟨S, hS⟩ : ∃ S, S = ofB r := ⟨_, rfl⟩;rw [← hS];have HSS := Lib.hid hS;have hTB : toB S = r := by rw [hS, toB_ofB]
 have HTB := Lib.hid hTB;have hSr : S.size = r.length := by rw [hS, ofB_size]
 have HSZ := Lib.hid hSr;have hsz : S.size ≤ 1099511627776 := by omega
 clear hTB hS
 by_cases hlong : 4000 < S.size
 case pos =>
  have hl1 : (4000 : Int) < (S.size : Int) := by omega
  have HNO := Lib.hid (readT_long (s := r) (by rw [← hSr]; exact hlong));clear hSr;have H := H0;have e0 := H.fa 0 0 rfl rfl;have e1 := H.fa 0 1 rfl rfl;have f0 := H.bfree 0 rfl 0;have f1 := H.bfree 0 rfl 1;go_enter Tryz.func20, Tryz.ntmps20;go_wp2_with fail
  ((try simp only [Exit.inBlock, Exit.then]); refine bodyPost_ret (results_cell_tmp_row rfl _ _ w.heap.size 44 #[.int .i64 0, .slice none 0 0] (0, 0) _ rfl (H.blk 0 rfl) Tryz.underlying44 rfl (by kernel_rfl)) rfl ?_)
  exact readTGave_no HNO.out H.fr
 have hl1 : ¬ (4000 : Int) < (S.size : Int) := by omega
 have hrl : r.length ≤ 4000 := by omega
 clear hSr;obtain ⟨A, hA⟩ : ∃ A, tsA r = A := ⟨_, rfl⟩;have EA := Lib.hid (show varsP r (some 5) 2 = A from hA);have EA' := Lib.hid hA;clear hA;go_enter Tryz.func20, Tryz.ntmps20;go_wp2_with fail;have hc := specVars_any S (some 5) 2 (w.alloc (.cells #[.int .i64 0, .slice none 0 0] 44)) hsz (fun b hb => by injection hb with hb; omega) (by omega);rw [HTB.out, EA.out, show plZ (some 5) = 5 from rfl, show ((2 : Nat) : Int) = 2 from rfl] at hc;refine hc.mono ?_;rintro e w1 ⟨Aa, ca, rfl, o1, f1⟩;have H := H0.made o1 f1;clear hc o1 f1 H0;obtain ⟨la, ao⟩ := A;simp only at H ⊢
 cases ao with
 | none =>
   have HNO := Lib.hid (readTS_no1 (s := r) (by rw [EA'.out]));have hm1 : plZ none = -1 := rfl;rw [hm1];have e0 := H.fa 1 0 rfl rfl;have e1 := H.fa 1 1 rfl rfl;have f0 := H.bfree 1 rfl 0;have f1 := H.bfree 1 rfl 1;have H9 := H.bputs 1 rfl [.int .i64 0, .slice none 0 0] rfl;simp only [setsW] at H9;clear H;go_wp2_with fail
   ((try simp only [Exit.inBlock, Exit.then]); refine bodyPost_ret (results_cell_tmp_row rfl _ _ w.heap.size 44 #[.int .i64 0, .slice none 0 0] (0, 0) _ rfl (H9.blk 1 rfl) Tryz.underlying44 rfl (by kernel_rfl)) rfl ?_)
   exact readTGave_no HNO.out H9.fr
 | some a5 =>
   have hal : la.length = 2 := by have := vars_len (s := r) (o := some 5) (k := 2) (a := a5) (by rw [EA.out]); rwa [EA.out] at this
   have hain : a5 ≤ r.length := (vars_in (s := r) (o := some 5) (k := 1) (a := a5) (by rw [EA.out])).1;obtain ⟨n2, n3, hax⟩ : ∃ n2 n3, la = [n2, n3] := list2 hal;subst hax;have hk : plZ (some a5) = (a5 : Int) := rfl;rw [hk];clear hk hal;obtain ⟨ga, cga, ea, _⟩ := H.form 0 rfl (by simp);injection ea with ea1 _ ea2;subst ea1 ea2;have z0 := H.atM (f1 := intN) 0 rfl (j := 0) rfl;have z1 := H.atM (f1 := intN) 0 rfl (j := 1) rfl;simp only [intN] at z0 z1;have E2' := Lib.hid (show (tsA r).1.getD 0 0 = n2 by rw [EA'.out]; rfl);have E3' := Lib.hid (show (tsA r).1.getD 1 0 = n3 by rw [EA'.out]; rfl);have a0 : (0 : Int) ≤ (a5 : Int) := by omega
   have a1 : ¬ (a5 : Int) < 0 := by omega
   by_cases h17 : 17 < n3
   ·have h171 : (17 : Int) < (n3 : Int) := by omega
    have HNO := Lib.hid (readTS_no2 (s := r) (by rw [E3'.out]; exact h17));have e0 := H.fa 1 0 rfl rfl;have e1 := H.fa 1 1 rfl rfl;have f0 := H.bfree 1 rfl 0;have f1 := H.bfree 1 rfl 1;have H9 := H.bputs 1 rfl [.int .i64 0, .slice none 0 0] rfl;simp only [setsW] at H9;clear H;go_wp2_with fail
    ((try simp only [Exit.inBlock, Exit.then]); refine bodyPost_ret (results_cell_tmp_row rfl _ _ w.heap.size 44 #[.int .i64 0, .slice none 0 0] (0, 0) _ rfl (H9.blk 1 rfl) Tryz.underlying44 rfl (by kernel_rfl)) rfl ?_)
    exact readTGave_no HNO.out H9.fr
   ·have h171 : ¬ (17 : Int) < (n3 : Int) := by omega
    have H2 := H.lay_ 44 [.int .i64 (n2 : Int), .slice none 0 0] rfl;have H3 := H2.nil_ 34 2;obtain ⟨gx, hgx⟩ : ∃ x, x = w1.heap.size := ⟨_, rfl⟩;rw [← hgx] at H3;have HGX := Lib.hid hgx;have H1 : Hp [] w (w1.alloc (.cells #[.int .i64 (n2 : Int), .slice none 0 0] 44)) [.row 34 2 (.slice none 0 0) ([] : List WrT).length (([] : List WrT).flatMap cWrite), .blk gx 44 [.int .i64 (n2 : Int), (.slice none 0 0)], .row 3 1 (.slice (some ⟨ga, 0, none⟩) 2 ca) 2 ([n2, n3].map intN), .blk w.heap.size 44 [.int .i64 0, .slice none 0 0]] := H3;clear hgx H H2 H3;go_wp2_with fail;rw [← HGX.out]
    go_loopw [5, 7] (fun av kv wr => ∃ (k a : Nat) (V : Value) (el : List WrT), kv = .int .i64 k ∧ av = .int .i64 a ∧ k ≤ n3 ∧ prsOs r (some a5) k = (el, some a) ∧ Hp [] w wr [.row 34 2 V el.length (el.flatMap cWrite), .blk gx 44 [.int .i64 (n2 : Int), V], .row 3 1 (.slice (some ⟨ga, 0, none⟩) 2 ca) 2 ([n2, n3].map intN), .blk w.heap.size 44 [.int .i64 0, .slice none 0 0]]) (fun _ kv _ => n3 - (intOf kv).toNat)
    case atStart => exact ⟨0, a5, _, [], rfl, rfl, by omega, rfl, H1⟩
    case round =>
     clear H1 z0 z1;obtain ⟨k, a, V, el, rfl, rfl, hk, hes, H⟩ := hrel;have HE0 := Lib.hid hes;have hel : el.length ≤ k := by have := prsOs_len r (some a5) k; rw [hes] at this; exact Nat.le_of_eq this
     have hab : a ≤ 4000 := by have := prsOs_in (s := r) (c := a5) (k := k) (a := a) hain (by rw [hes]); omega
     clear hes;have hk0 : (0 : Int) ≤ (k : Int) := by omega
     have z1 := H.atM (f1 := intN) 2 rfl (j := 1) rfl;simp only [intN] at z1
     by_cases hkn : k < n3
     ·have hk1 : (k : Int) < (n3 : Int) := by omega
      obtain ⟨⟨l1, p1⟩, hV1⟩ : ∃ V, varsP r (some a) 1 = V := ⟨_, rfl⟩;obtain ⟨⟨d2, p2⟩, hT2⟩ : ∃ V, takeP r p1 = V := ⟨_, rfl⟩;have HPE := Lib.hid (show prsO r (some a) = ((((num1 (l1, p1) : Nat) : Int), ofB d2), p2) by
       rw [prsO, hV1];simp only;rw [hT2])
      have B1 := Lib.hid (show ∀ b, p1 = some b → b ≤ 1099511627776 from fun b hb => by
       have := (vars_in (s := r) (o := some a) (k := 0) (a := b) (by rw [hV1]; exact hb)).1;omega)
      have B2 := Lib.hid (show ∀ b, p2 = some b → b ≤ 4000 from fun b hb => by
       have := (take_in (s := r) (o := p1) (b := b) (by rw [hT2]; exact hb)).1;omega)
      have V1 := Lib.hid hV1;have T2 := Lib.hid hT2;clear hV1 hT2;go_wp2_with fail;have hc := specVars_any S (some a) 1 wr hsz (fun b hb => by injection hb with hb; omega) (by omega);rw [HTB.out, V1.out, show plZ (some a) = (a : Int) from rfl, show ((1 : Nat) : Int) = 1 from rfl] at hc;refine hc.mono ?_;rintro e w1 ⟨A1, c1, rfl, o1, f1⟩;replace H := H.made o1 f1;clear hc o1 f1 z1;simp only at H ⊢;go_wp2_with fail;have hc := specTake_any S p1 w1 hsz B1.out;rw [HTB.out, T2.out] at hc;simp only at hc;refine hc.mono ?_;rintro e w2 ⟨rfl, f2⟩;replace H := H.go f2;clear hc f2
      cases p2 with
      | none =>
        have HNO := Lib.hid (readTS_no3 (s := r) (k := k + 1) (by rw [E3'.out]; omega) (by rw [EA'.out, prsOs, HE0.out]; simp only; rw [HPE.out]));have hm1 : plZ none = -1 := rfl;rw [hm1];have e0 := H.fa 4 0 rfl rfl;have e1 := H.fa 4 1 rfl rfl;have f0 := H.bfree 4 rfl 0;have f1 := H.bfree 4 rfl 1;have H9 := H.bputs 4 rfl [.int .i64 0, .slice none 0 0] rfl;simp only [setsW] at H9;clear H;go_wp2_with fail
        ((try simp only [Exit.inBlock, Exit.then]); refine bodyPost_ret (results_cell_tmp_row rfl _ _ w.heap.size 44 #[.int .i64 0, .slice none 0 0] (0, 0) _ rfl (H9.blk 4 rfl) Tryz.underlying44 rfl (by kernel_rfl)) rfl ?_)
        exact readTGave_no HNO.out H9.fr
      | some b =>
        obtain ⟨_, b1, hb1⟩ := take_in (s := r) (o := p1) (b := b) (by rw [T2.out]);obtain ⟨b0, hb0⟩ := vars_some1 (s := r) (o := p1) hb1;obtain ⟨k1, k2, k3⟩ := num1_of (s := r) (o := some a) (a := b0) (by rw [V1.out]; exact hb0);rw [V1.out] at k1 k2;simp only [num1] at k1 k2;obtain ⟨m1, hm1⟩ : ∃ m, m = l1.headD 0 := ⟨_, rfl⟩;rw [← hm1] at k1 k2;have HES := Lib.hid (show prsOs r (some a5) (k + 1) = (el ++ [(((m1 : Int), ofB d2) : WrT)], some b) by
         rw [prsOs, HE0.out];simp only;rw [HPE.out];simp only [num1, ← hm1])
        clear hm1 hb0 hb1;subst k1;obtain ⟨g1, cg1, e1, _⟩ := H.form 0 rfl (by simp);injection e1 with e11 _ e12;subst e11 e12;have hkb : plZ (some b) = (b : Int) := rfl;rw [hkb];clear hkb;have hb00 : (0 : Int) ≤ (b : Int) := by omega
        have hb01 : ¬ (b : Int) < 0 := by omega
        go_wp2_with fail;replace H := H.drew;have y1 := H.atM (f1 := intN) 0 rfl (j := 0) rfl;refine wp_region_held_drew (S := fun w' => w'.cell? ⟨g1, 0, none⟩ = some (.int .i64 (m1 : Int))) (by kernel_rfl) ?_ (fun hHeld => ?_)
        ·exact y1
        obtain ⟨u0, hu0⟩ : ∃ uu : World, uu = w2.drew := ⟨_, rfl⟩;rw [← hu0] at H hHeld ⊢;clear hu0;refine wpT 0 ?_;refine wpT 2 ?_;refine wpT 3 ?_;refine wpT 4 ?_;refine wpT 5 ?_;refine wpT 6 ?_;refine wpAnyH_ready (rs := [1, 7]) (by kernel_rfl) (by simp) ?_;refine (AllReadyH.cons rfl (fun K hK => ?_) (AllReadyH.cons rfl (fun K hK => ?_) AllReadyH.nil))
        ·have zV := H.fa 2 1 rfl rfl
         go_simp;obtain ⟨u1, hv⟩ : ∃ uu : World, uu = u0 := ⟨_, rfl⟩;rw [← hv] at H ⊢;clear hv zV;refine hK.out _ _ ?_ fun hHeld => ?_
         ·exact H.atM (f1 := intN) 0 rfl (j := 0) rfl
         clear hK K;(try simp only [sX, Act.put]);refine wpC 7 fun K hK => ?_;replace H := H.lit 34 2 1 [.int .i64 (m1 : Int), .string (ofB d2)] rfl (by simp [maxLen]);go_simp;obtain ⟨h5, hh5⟩ : ∃ x, x = u1.heap.size := ⟨_, rfl⟩;rw [← hh5] at H ⊢;clear hh5;obtain ⟨u2, hv⟩ : ∃ uu : World, uu = u1.alloc (.cells #[.int .i64 (m1 : Int), .string (ofB d2)] 34) := ⟨_, rfl⟩;rw [← hv] at H ⊢;clear hv;refine hK.out _ _ ?_ fun hHeld => ?_
         ·exact H.atM (f1 := intN) 1 rfl (j := 0) rfl
         clear hK K;(try simp only [sX, Act.put]);refine wpC 8 fun K hK => ?_;refine step_appRd H rfl _ _ _ rfl Tryz.underlying29 infoWrite rfl (by decide) 2 _ _ _ rfl (by simp [Act.eval]) (some ⟨h5, 0, none⟩) 1 1 _ (by simp [Act.eval]) (fun h => nomatch h) (H.rd 0 rfl) (by simp [Value.oneCell']) (by simp only [maxLen]; omega) (by omega) ?_;intro v' u3 H1;replace H := H1;clear H1;obtain ⟨C9, q9, rfl⟩ := H.shape 2 rfl;refine hK.out _ _ ?_ fun hHeld => ?_
         ·exact H.atM (f1 := intN) 1 rfl (j := 0) rfl
         clear hK K;(try simp only [sX, Act.put]);refine wpT 9 ?_;refine wpC 10 fun K hK => ?_;have e0 := H.bfree 3 rfl 1;have s0 := H.fa 3 1 rfl rfl;replace H := H.bput 3 rfl 1 (.slice C9 (el.length + 1) q9);go_simp;refine hK.out _ _ ?_ fun hHeld => ?_
         ·exact H.atM (f1 := intN) 1 rfl (j := 0) rfl
         clear hK K;(try simp only [sX, Act.put]);refine wpAnyH_done (by kernel_rfl) ?_ _;have H8 := Lib.hid (show Hp [] w _ [.row 34 2 (.slice C9 (el.length + 1) q9) (el ++ [(((m1 : Int), ofB d2) : WrT)]).length ((el ++ [(((m1 : Int), ofB d2) : WrT)]).flatMap cWrite), .blk gx 44 [.int .i64 (n2 : Int), (.slice C9 (el.length + 1) q9)], .row 3 1 (.slice (some ⟨ga, 0, none⟩) 2 ca) 2 ([n2, n3].map intN), .blk w.heap.size 44 [.int .i64 0, .slice none 0 0]] from H.tail.tail.recast (by simp [cWrite]));clear H;go_wp2_with fail;go_roundw
         case rel => exact ⟨k + 1, b, _, _, by go_num, rfl, by omega, HES.out, H8.out⟩
         case measure => simp [intOf]; omega
        ·replace H := H.lit 34 2 1 [.int .i64 (m1 : Int), .string (ofB d2)] rfl (by simp [maxLen])
         go_simp;obtain ⟨h5, hh5⟩ : ∃ x, x = u0.heap.size := ⟨_, rfl⟩;rw [← hh5] at H ⊢;clear hh5;obtain ⟨u1, hv⟩ : ∃ uu : World, uu = u0.alloc (.cells #[.int .i64 (m1 : Int), .string (ofB d2)] 34) := ⟨_, rfl⟩;rw [← hv] at H ⊢;clear hv;refine hK.out _ _ ?_ fun hHeld => ?_
         ·exact H.atM (f1 := intN) 1 rfl (j := 0) rfl
         clear hK K;(try simp only [sX, Act.put]);refine wpC 1 fun K hK => ?_;have zV := H.fa 3 1 rfl rfl;go_simp;obtain ⟨u2, hv⟩ : ∃ uu : World, uu = u1 := ⟨_, rfl⟩;rw [← hv] at H ⊢;clear hv zV;refine hK.out _ _ ?_ fun hHeld => ?_
         ·exact H.atM (f1 := intN) 1 rfl (j := 0) rfl
         clear hK K;(try simp only [sX, Act.put]);refine wpC 8 fun K hK => ?_;refine step_appRd H rfl _ _ _ rfl Tryz.underlying29 infoWrite rfl (by decide) 2 _ _ _ rfl (by simp [Act.eval]) (some ⟨h5, 0, none⟩) 1 1 _ (by simp [Act.eval]) (fun h => nomatch h) (H.rd 0 rfl) (by simp [Value.oneCell']) (by simp only [maxLen]; omega) (by omega) ?_;intro v' u3 H1;replace H := H1;clear H1;obtain ⟨C9, q9, rfl⟩ := H.shape 2 rfl;refine hK.out _ _ ?_ fun hHeld => ?_
         ·exact H.atM (f1 := intN) 1 rfl (j := 0) rfl
         clear hK K;(try simp only [sX, Act.put]);refine wpT 9 ?_;refine wpC 10 fun K hK => ?_;have e0 := H.bfree 3 rfl 1;have s0 := H.fa 3 1 rfl rfl;replace H := H.bput 3 rfl 1 (.slice C9 (el.length + 1) q9);go_simp;refine hK.out _ _ ?_ fun hHeld => ?_
         ·exact H.atM (f1 := intN) 1 rfl (j := 0) rfl
         clear hK K;(try simp only [sX, Act.put]);refine wpAnyH_done (by kernel_rfl) ?_ _;have H8 := Lib.hid (show Hp [] w _ [.row 34 2 (.slice C9 (el.length + 1) q9) (el ++ [(((m1 : Int), ofB d2) : WrT)]).length ((el ++ [(((m1 : Int), ofB d2) : WrT)]).flatMap cWrite), .blk gx 44 [.int .i64 (n2 : Int), (.slice C9 (el.length + 1) q9)], .row 3 1 (.slice (some ⟨ga, 0, none⟩) 2 ca) 2 ([n2, n3].map intN), .blk w.heap.size 44 [.int .i64 0, .slice none 0 0]] from H.tail.tail.recast (by simp [cWrite]));clear H;go_wp2_with fail;go_roundw
         case rel => exact ⟨k + 1, b, _, _, by go_num, rfl, by omega, HES.out, H8.out⟩
         case measure => simp [intOf]; omega
     ·have hk1 : ¬ (k : Int) < (n3 : Int) := by omega
      have HTS := Lib.hid (show (tsB r).1 = el by rw [tsB, EA'.out]; show (prsOs r (some a5) n3).1 = el; rw [show n3 = k by omega, HE0.out]);obtain ⟨D, q, rfl⟩ := H.shape 0 rfl;have HCAP := Lib.hid (own_cap (H.row 0 rfl));have HRW := Lib.hid (show ∀ w', Fr wr w' → Rd w' D el.length 2 (el.flatMap cWrite) from fun w' f => (H.rd 0 rfl).fr f);have y0 := H.fa 1 0 rfl rfl;have y1 := H.fa 1 1 rfl rfl;go_wp2_with fail;refine (specShowTxn_any (n2 : Int) D el.length q el _ (HRW.out _ (Below.refl _ _)) (by omega)).mono ?_;rintro e wV ⟨rfl, fV⟩;obtain ⟨T, hT⟩ : ∃ T, T = ofB (showT (n2 : Int) el) := ⟨_, rfl⟩;rw [← hT];have HT := Lib.hid hT;clear hT y0 y1 z1;replace H := H.go fV;clear fV
      by_cases heq : T = S
      ·have HYS := Lib.hid (show showT (n2 : Int) el = r from ofB_inj (by rw [← HT.out, heq, HSS.out]))
       by_cases h0 : r = []
       ·exfalso
        have h1 := EA'.out;rw [h0] at h1;have h2 : (tsA []).2 = none := rfl;rw [h1] at h2
        cases h2
       subst heq;have y0 := H.fa 1 0 rfl rfl;have y1 := H.fa 1 1 rfl rfl;have e0 := H.fa 3 0 rfl rfl;have e1 := H.fa 3 1 rfl rfl;have f0 := H.bfree 3 rfl 0;have f1 := H.bfree 3 rfl 1;have H9 := H.bputs 3 rfl [.int .i64 (n2 : Int), .slice D el.length q] rfl;simp only [setsW] at H9;clear H;go_wp2_with fail
       ((try simp only [Exit.inBlock, Exit.then]); refine bodyPost_ret (results_cell_tmp_row rfl _ _ w.heap.size 44 #[.int .i64 (n2 : Int), .slice D el.length q] (0, 0) _ rfl (H9.blk 3 rfl) Tryz.underlying44 rfl (by kernel_rfl)) rfl ?_)
       exact readTGave_yes HYS.out h0 HCAP.out (H9.sub (by simp))
      ·have hn1 : (T.toList == S.toList) = false := str_ne heq
       have hn2 : (T.toList != S.toList) = true := by simp only [bne, hn1]; rfl
       have HNO := Lib.hid (readTS_no4 (s := r) (by
        rw [E2'.out, HTS.out];intro e9;exact heq (by rw [HT.out, e9, HSS.out])))
       clear heq;have e0 := H.fa 3 0 rfl rfl;have e1 := H.fa 3 1 rfl rfl;have f0 := H.bfree 3 rfl 0;have f1 := H.bfree 3 rfl 1;have H9 := H.bputs 3 rfl [.int .i64 0, .slice none 0 0] rfl;simp only [setsW] at H9;clear H;go_wp2_with fail
       ((try simp only [Exit.inBlock, Exit.then]); refine bodyPost_ret (results_cell_tmp_row rfl _ _ w.heap.size 44 #[.int .i64 0, .slice none 0 0] (0, 0) _ rfl (H9.blk 3 rfl) Tryz.underlying44 rfl (by kernel_rfl)) rfl ?_)
       exact readTGave_no HNO.out H9.fr
end Go.Proofs.YtmpldngnkacnmaaGreatDoor
namespace Go.Proofs.YtmpldngnkacnmaaGreatDoor
open Go.RowKit
theorem count_cons' (a i : Int) (l : List Int) : (a :: l).count i = l.count i + (if i = a then 1 else 0) := by
 rw [List.count_cons]
 by_cases h : i = a
 ·rw [if_pos h, h, if_pos (by simp)]
 ·rw [if_neg h, if_neg (by simpa using fun e => h e.symm)]
theorem VW.dir {next : Int} {l : List Nod} {k : Nat} {x : Nod} (h : VW next l) (hx : l[k]? = some x) (hd : x.2.1 = 2) : DirR x.2.2.2.2 := by
 rcases h.typ x (List.mem_of_getElem? hx) with t | t
 ·omega
 ·exact t.2.2
theorem mem_ids {d : List EntT} {e : EntT} (h : e ∈ d) : e.2.2.2 ∈ idsE d := List.mem_map_of_mem h
theorem of_ids {d : List EntT} {b : Int} (h : b ∈ idsE d) : ∃ e ∈ d, e.2.2.2 = b := by
 obtain ⟨e, h1, h2⟩ := List.mem_map.1 h; exact ⟨e, h1, h2⟩
theorem VW.ids {next : Int} {l : List Nod} {k : Nat} {x : Nod} (h : VW next l) (hx : l[k]? = some x) {b : Int} (hb : b ∈ idsE x.2.2.2.2) : b ≠ 1 ∧ ∃ z ∈ l, z.1 = b := by
 obtain ⟨e, he, rfl⟩ := of_ids hb;exact h.ent x (List.mem_of_getElem? hx) e he
theorem VW.inB_id {next : Int} {l : List Nod} {x : Nod} (h : VW next l) (hx : x ∈ l) : inB x.1 1 100000 = true := by
 have h1 := h.rng x hx;have h2 := h.hi;exact inB_iff.2 ⟨h1.1, by omega⟩
theorem VW.dirs_ne {next : Int} {l : List Nod} (h : VW next l) {x : Nod} (hx : x ∈ l) (hk : x.2.1 ≠ 2) : x.1 ≠ 1 := fun e => by
 obtain ⟨r, hr, r1, r2⟩ := h.root_mem;have := srt_inj h.srt hx hr (e.trans r1.symm);subst this; exact hk r2
theorem kid_sup {l : List Nod} {k : Nat} {x : Nod} {d : List EntT} (hs : Srt l) (hx : l[k]? = some x) (hd : ∀ b ∈ idsE x.2.2.2.2, b ∈ idsE d) {a b : Int} (h : Kid l a b) : Kid (nEnts l k d) a b := by
 rw [nEnts_kid hs hx]
 by_cases e : a = x.1
 ·exact .inl ⟨e, hd b ((kid_at hs hx).1 (e ▸ h))⟩
 ·exact .inr ⟨e, h⟩
theorem make_V {next : Int} {l : List Nod} {k : Nat} {x : Nod} {c : CallT} (h : VOk next l) (hx : l[k]? = some x) (hd : x.2.1 = 2) (hn : nameB (toB c.2.2.1) = true) : VOk (makeP next l k c).1.1 (makeP next l k c).1.2 := by
 unfold makeP;rw [entsOf_eq hx]
 by_cases h1 : (dirAt x.2.2.2.2 (toB c.2.2.1)).isSome = true
 ·rw [if_pos h1]; exact h
 rw [if_neg h1]
 by_cases h2 : 12 ≤ x.2.2.2.2.length ∨ 16 ≤ l.length ∨ 100000 ≤ next
 ·rw [if_pos h2]; exact h
 rw [if_neg h2];have hlo := h.lo;have hxm := List.mem_of_getElem? hx;have hk := (List.getElem?_eq_some_iff.1 hx).1;have hdir := h.toVW.dir hx hd;have hp := add_ids (id := next) hn (by simpa using h1) (inB_iff.2 ⟨by omega, by omega⟩) (by omega : x.2.2.2.2.length < 12);have hdr := addD_R hdir c.2.2.1 next
 generalize (addD x.2.2.2.2 c.2.2.1 next).1 = d at hp hdr
 obtain ⟨n, hnn⟩ : ∃ n : Nod, n = (next, (if c.1 = 2 then 2 else 1), 1, ⟨#[]⟩, []) := ⟨_, rfl⟩
 show VOk (next + 1) (nEnts l k d ++ [(next, (if c.1 = 2 then 2 else 1), 1, ⟨#[]⟩, [])])
 rw [← hnn];have n1 : n.1 = next := by rw [hnn]
 have n3 : n.2.2.1 = 1 := by rw [hnn]
 have n5 : n.2.2.2.2 = [] := by rw [hnn]
 have nt : Typ n := by
  rw [hnn]
  by_cases hc : c.1 = 2
  ·exact .inr ⟨if_pos hc, rfl, dirR_nil⟩
  ·exact .inl ⟨if_neg hc, rfl, Nat.zero_le _⟩
 clear hnn;have hA := h.toVW.app n1 nt n5 (by omega) (by omega);have hx' : (l ++ [n])[k]? = some x := by rw [List.getElem?_append_left hk, hx]
 have he : nEnts l k d ++ [n] = nEnts (l ++ [n]) k d := by rw [nEnts_eq hx, nEnts_eq hx', List.set_append_left _ _ hk]
 rw [he];have hW : VW (next + 1) (nEnts (l ++ [n]) k d) := nEnts_VW hA hx' hd hdr fun e he => by
  rcases List.mem_cons.1 (hp.mem_iff.1 (mem_ids he)) with h3 | h3
  ·rw [h3]; exact ⟨by omega, n, by simp, n1⟩
  ·obtain ⟨h4, z, hz, h5⟩ := h.toVW.ids hx h3
   exact ⟨h4, z, by simp [hz], h5⟩
 have hnm : ∀ i, namedN (nEnts (l ++ [n]) k d) i = namedN l i + (if i = next then 1 else 0) := fun i => by
  have h3 := nEnts_named (d := d) (i := i) hx';rw [hp.count_eq, count_cons', namedN_append] at h3;have h4 : namedN [n] i = 0 := by rw [namedN_cons, n5]; simp [entsN, namedN]
  omega
 have hz0 : namedN l next = 0 := named_zero fun a ⟨y, hy, _, e, he, hen⟩ => by
  obtain ⟨_, z, hz, h5⟩ := h.ent y hy e he;have := h.rng z hz;omega
 have hkid : ∀ a b, Kid l a b → Kid (nEnts (l ++ [n]) k d) a b := fun a b hab =>
  kid_sup hA.srt hx' (fun b hb => hp.mem_iff.2 (List.mem_cons_of_mem _ hb)) ((app_kid n5).2 hab)
 refine ⟨hW, fun y hy => ?_, fun y hy => ?_, fun y hy => ?_⟩
 ·obtain ⟨z, hz, e1, e2, e3⟩ := nEnts_old hA.srt hx' hy
  rw [e2, e3]
  rcases List.mem_append.1 hz with hz | hz
  ·exact h.one z hz
  ·rw [List.mem_singleton.1 hz]; exact fun _ => n3
 ·obtain ⟨z, hz, e1, e2, e3⟩ := nEnts_old hA.srt hx' hy
  rw [e1, e3, hnm]
  rcases List.mem_append.1 hz with hz | hz
  ·have := h.rng z hz
   rcases h.lnk z hz with h4 | h4
   ·exact .inl h4
   ·right; rw [h4, if_neg (by omega)]; rfl
  ·rw [List.mem_singleton.1 hz, n1, n3, if_pos rfl, hz0]; exact .inr rfl
 ·obtain ⟨z, hz, e1, e2, e3⟩ := nEnts_old hA.srt hx' hy
  rw [e1]
  rcases List.mem_append.1 hz with hz | hz
  ·exact rch_mono h.srt hW.srt hkid (h.rch z hz)
  ·rw [List.mem_singleton.1 hz, n1]
   refine rch_step hW.srt (rch_mono h.srt hW.srt hkid (h.rch x hxm)) ?_;rw [nEnts_kid hA.srt hx'];exact .inl ⟨rfl, hp.mem_iff.2 List.mem_cons_self⟩
theorem link_V {next : Int} {l : List Nod} {t xi : Nat} {y x : Nod} {c : CallT} (h : VOk next l) (ht : l[t]? = some y) (hd : y.2.1 = 2) (hx : l[xi]? = some x) (hn : nameB (toB c.2.2.2.2.1) = true) : VOk (linkP next l t xi x c).1.1 (linkP next l t xi x c).1.2 := by
 unfold linkP;rw [entsOf_eq ht]
 by_cases h0 : x.2.1 = 2
 ·rw [if_pos h0]; exact h
 rw [if_neg h0]
 by_cases h1 : (dirAt y.2.2.2.2 (toB c.2.2.2.2.1)).isSome = true
 ·rw [if_pos h1]; exact h
 rw [if_neg h1]
 by_cases h2 : 12 ≤ y.2.2.2.2.length
 ·rw [if_pos h2]; exact h
 rw [if_neg h2];have hxm := List.mem_of_getElem? hx;have hne : xi ≠ t := fun e => by subst e; rw [hx] at ht; injection ht with ht; subst ht; exact h0 hd
 have hdir := h.toVW.dir ht hd;have hp := add_ids (id := x.1) hn (by simpa using h1) (h.toVW.inB_id hxm) (by omega : y.2.2.2.2.length < 12);have hdr := addD_R hdir c.2.2.2.2.1 x.1
 generalize (addD y.2.2.2.2 c.2.2.2.2.1 x.1).1 = d at hp hdr
 show VOk next (nLinks (nEnts l t d) xi (x.2.2.1 + 1))
 have hx1 := h.toVW.dirs_ne hxm h0;have hW1 : VW next (nEnts l t d) := nEnts_VW h.toVW ht hd hdr fun e he => by
  rcases List.mem_cons.1 (hp.mem_iff.1 (mem_ids he)) with h3 | h3
  ·rw [h3]; exact ⟨hx1, x, hxm, rfl⟩
  ·exact h.toVW.ids ht h3
 have hat : (nEnts l t d)[xi]? = some x := by
  rw [nEnts_at ht hx, if_neg hne]
 have hnm : ∀ i, namedN (nEnts l t d) i = namedN l i + (if i = x.1 then 1 else 0) := fun i => by
  have h3 := nEnts_named (d := d) (i := i) ht;rw [hp.count_eq, count_cons'] at h3;omega
 have hkid : ∀ a b, Kid l a b → Kid (nEnts l t d) a b := fun a b hab => kid_sup h.srt ht (fun b hb => hp.mem_iff.2 (List.mem_cons_of_mem _ hb)) hab;have hold := fun {z : Nod} (hz : z ∈ nEnts l t d) => nEnts_old h.srt ht hz
 generalize nEnts l t d = l1 at hW1 hat hnm hkid hold
 unfold nLinks;simp only [hat];obtain ⟨x', hx'⟩ : ∃ x' : Nod, x' = (x.1, x.2.1, x.2.2.1 + 1, x.2.2.2.1, x.2.2.2.2) := ⟨_, rfl⟩;rw [← hx'];have x1 : x'.1 = x.1 := by rw [hx']
 have x2 : x'.2.1 = x.2.1 := by rw [hx']
 have x3 : x'.2.2.1 = x.2.2.1 + 1 := by rw [hx']
 have x5 : x'.2.2.2.2 = x.2.2.2.2 := by rw [hx']
 have xt : Typ x' := by rw [hx']; exact h.typ x hxm
 clear hx';have hW : VW next (l1.set xi x') := hW1.set hat x1 x2 xt (by rw [x5]; exact hW1.ent x (List.mem_of_getElem? hat));have hnm2 : ∀ i, namedN (l1.set xi x') i = namedN l1 i := fun i => by
  have := namedN_set i x' l1 xi x hat;rw [x5] at this; omega
 have hkid2 : ∀ a b, Kid l a b → Kid (l1.set xi x') a b := fun a b hab => by
  rw [set_kid hW1.srt hat x1]
  by_cases e : a = x.1
  ·exact .inl ⟨e, by rw [x5]; exact (kid_at hW1.srt hat).1 (e ▸ hkid a b hab)⟩
  ·exact .inr ⟨e, hkid a b hab⟩
 refine ⟨hW, fun z hz => ?_, fun z hz => ?_, fun z hz => ?_⟩
 ·rcases (set_mem hW1.srt hat).1 hz with rfl | ⟨hz, _⟩
  ·rw [x2]; exact fun e => absurd e h0
  ·obtain ⟨q, hq, e1, e2, e3⟩ := hold hz
   rw [e2, e3]; exact h.one q hq
 ·rw [hnm2, hnm]
  rcases (set_mem hW1.srt hat).1 hz with rfl | ⟨hz, hne2⟩
  ·right; rw [x1, x3, if_pos rfl, (h.lnk x hxm).resolve_left hx1]; rfl
  ·obtain ⟨q, hq, e1, e2, e3⟩ := hold hz
   rw [if_neg hne2, e1, e3];exact h.lnk q hq
 ·rcases (set_mem hW1.srt hat).1 hz with rfl | ⟨hz, hne2⟩
  ·rw [x1]; exact rch_mono h.srt hW.srt hkid2 (h.rch x hxm)
  ·obtain ⟨q, hq, e1, e2, e3⟩ := hold hz
   rw [e1]; exact rch_mono h.srt hW.srt hkid2 (h.rch q hq)
theorem data_V {next : Int} {l : List Nod} {xi : Nat} {x : Nod} {s : ByteArray} (h : VOk next l) (hx : l[xi]? = some x) (h0 : x.2.1 ≠ 2) (hs : s.size ≤ 20) : VOk next (nData l xi s) := by
 have hxm := List.mem_of_getElem? hx;unfold nData;simp only [hx];have xt : Typ (x.1, x.2.1, x.2.2.1, s, x.2.2.2.2) := by
  rcases h.typ x hxm with t | t
  ·exact .inl ⟨t.1, t.2.1, hs⟩
  ·exact absurd t.1 h0
 have hW : VW next (l.set xi (x.1, x.2.1, x.2.2.1, s, x.2.2.2.2)) := h.toVW.set hx rfl rfl xt (h.ent x hxm);have hnm : ∀ i, namedN (l.set xi (x.1, x.2.1, x.2.2.1, s, x.2.2.2.2)) i = namedN l i := fun i => by
  have h9 : namedN (l.set xi (x.1, x.2.1, x.2.2.1, s, x.2.2.2.2)) i + entsN x.2.2.2.2 i = namedN l i + entsN x.2.2.2.2 i := namedN_set i (x.1, x.2.1, x.2.2.1, s, x.2.2.2.2) l xi x hx;omega
 have hkid : ∀ a b, Kid l a b → Kid (l.set xi (x.1, x.2.1, x.2.2.1, s, x.2.2.2.2)) a b := fun a b hab => by
  rw [set_kid (y := (x.1, x.2.1, x.2.2.1, s, x.2.2.2.2)) h.srt hx rfl]
  by_cases e : a = x.1
  ·exact .inl ⟨e, (kid_at h.srt hx).1 (e ▸ hab)⟩
  ·exact .inr ⟨e, hab⟩
 refine ⟨hW, fun z hz => ?_, fun z hz => ?_, fun z hz => ?_⟩
 ·rcases (set_mem h.srt hx).1 hz with rfl | ⟨hz, _⟩
  ·exact h.one x hxm
  ·exact h.one z hz
 ·rw [hnm]
  rcases (set_mem h.srt hx).1 hz with rfl | ⟨hz, _⟩
  ·exact h.lnk x hxm
  ·exact h.lnk z hz
 ·rcases (set_mem h.srt hx).1 hz with rfl | ⟨hz, _⟩
  ·exact rch_mono h.srt hW.srt hkid (h.rch x hxm)
  ·exact rch_mono h.srt hW.srt hkid (h.rch z hz)
theorem unl_V {next : Int} {l : List Nod} {k xi : Nat} {y x : Nod} {s : ByteArray} {e : EntT} (h : VOk next l) (hy : l[k]? = some y) (hd : y.2.1 = 2) (hl : lookD y.2.2.2.2 s = some e) (hx : l[xi]? = some x) (hex : e.2.2.2 = x.1) (h5 : x.2.2.2.2 = []) : VOk next (nLess (nEnts l k (dropD y.2.2.2.2 s).1) x.1) := by
 have hxm := List.mem_of_getElem? hx;have hdir := h.toVW.dir hy hd;have hp := drop_ids hl;have hdr := dropD_R hdir s;rw [hex] at hp
 generalize (dropD y.2.2.2.2 s).1 = d at hp hdr
 have hx1 : x.1 ≠ 1 := (h.toVW.ids hy (hp.mem_iff.2 List.mem_cons_self)).1;have hW : VW next (nEnts l k d) := nEnts_VW h.toVW hy hd hdr fun e he => h.toVW.ids hy (hp.mem_iff.2 (List.mem_cons_of_mem _ (mem_ids he)));have hnm : ∀ i, namedN l i = namedN (nEnts l k d) i + (if i = x.1 then 1 else 0) := fun i => by
  have h3 := nEnts_named (d := d) (i := i) hy;rw [hp.count_eq, count_cons'] at h3;omega
 have hxk : ∀ b, ¬ Kid l x.1 b := fun b hb => by
  have h6 := (kid_at h.srt hx).1 hb;rw [h5] at h6; simp [idsE] at h6
 have hyx : x.1 ≠ y.1 := fun e2 => by
  have := srt_inj h.srt hxm (List.mem_of_getElem? hy) e2;subst this;rw [h5] at hp;exact absurd hp.length_eq (by simp [idsE])
 refine less_V hW (fun z hz => ?_) (fun z hz => ?_) hx1 (fun b hb => ?_) (fun z hz => ?_) ((nEnts_ex h.srt hy).2 ⟨x, hxm, rfl⟩)
 ·obtain ⟨q, hq, e1, e2, e3⟩ := nEnts_old h.srt hy hz
  rw [e2, e3]; exact h.one q hq
 ·obtain ⟨q, hq, e1, e2, e3⟩ := nEnts_old h.srt hy hz
  rw [e1, e3]
  rcases h.lnk q hq with h6 | h6
  ·exact .inl h6
  ·right; rw [h6, hnm]; split <;> simp
 ·rcases (nEnts_kid h.srt hy).1 hb with ⟨e1, _⟩ | ⟨_, h6⟩
  ·exact hyx e1
  ·exact hxk b h6
 ·obtain ⟨q, hq, e1, e2, e3⟩ := nEnts_old h.srt hy hz
  rw [e1];refine rch_drop h.srt hW.srt (fun a b hab => ?_) hxk (h.rch q hq)
  by_cases hb : b = x.1
  ·exact .inr hb
  ·left
   rw [nEnts_kid h.srt hy]
   by_cases e4 : a = y.1
   ·refine .inl ⟨e4, ?_⟩
    have h6 := (kid_at h.srt hy).1 (e4 ▸ hab);exact (List.mem_cons.1 (hp.mem_iff.1 h6)).resolve_left hb
   ·exact .inr ⟨e4, hab⟩
theorem same_V {next : Int} {l : List Nod} {k : Nat} {y : Nod} {d : List EntT} (h : VOk next l) (hy : l[k]? = some y) (hd : y.2.1 = 2) (hdr : DirR d) (hp : (idsE d).Perm (idsE y.2.2.2.2)) : VOk next (nEnts l k d) := by
 have hW : VW next (nEnts l k d) := nEnts_VW h.toVW hy hd hdr fun e he => h.toVW.ids hy (hp.mem_iff.1 (mem_ids he));have hnm : ∀ i, namedN (nEnts l k d) i = namedN l i := fun i => by
  have h3 := nEnts_named (d := d) (i := i) hy;rw [hp.count_eq] at h3;omega
 refine ⟨hW, fun z hz => ?_, fun z hz => ?_, fun z hz => ?_⟩
 ·obtain ⟨q, hq, e1, e2, e3⟩ := nEnts_old h.srt hy hz
  rw [e2, e3]; exact h.one q hq
 ·obtain ⟨q, hq, e1, e2, e3⟩ := nEnts_old h.srt hy hz
  rw [e1, e3, hnm]; exact h.lnk q hq
 ·obtain ⟨q, hq, e1, e2, e3⟩ := nEnts_old h.srt hy hz
  rw [e1];exact rch_mono h.srt hW.srt (fun a b hab => kid_sup h.srt hy (fun b hb => hp.mem_iff.2 hb) hab) (h.rch q hq)
end Go.Proofs.YtmpldngnkacnmaaGreatDoor
namespace Go.Proofs.YtmpldngnkacnmaaGreatDoor
open Go.RowKit
theorem cEnt_one (e : Int × Int × ByteArray × Int) : ∀ u ∈ cEnt e, u.oneCell' = true := by simp [cEnt, Value.oneCell']
end Go.Proofs.YtmpldngnkacnmaaGreatDoor