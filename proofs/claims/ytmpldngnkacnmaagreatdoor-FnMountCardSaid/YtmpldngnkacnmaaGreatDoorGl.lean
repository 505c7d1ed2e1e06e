/-
  Many texts in one: ReadTxnI, ReadBlocksI, MountI.
-/
import Derived.Test.YtmpldngnkacnmaaGreatDoorGj
import Derived.Test.YtmpldngnkacnmaaGreatDoorGk
import Derived.Test.YtmpldngnkacnmaaGreatDoorInodeOk
import Derived.Test.YtmpldngnkacnmaaGreatDoorVolOkI
import Derived.Test.YtmpldngnkacnmaaGreatDoorGf
set_option linter.unusedVariables false
set_option linter.unusedSimpArgs false
namespace Go.Proofs.YtmpldngnkacnmaaGreatDoor
open Go.RowKit
theorem outP_len (st : Sc) : (outP st).2.1.length ≤ st.1.length := Nat.le_trans (pieceP_len _) (numP_len st)
theorem outsP_sz (st : Sc) : ∀ k, (outsP st k).2.1.length ≤ st.1.length
 | 0 => Nat.le_refl _
 | k + 1 => Nat.le_trans (outP_len _) (outsP_sz st k)
def ReadTGave (w : World) (r : List UInt8) (e : Ending) (w' : World) : Prop := match readT r with
 | none => e = .returned (.tuple #[.agg #[.int .i64 0, .slice none 0 0], .bool false]) ∧ Fr w w'
 | some p => ∃ (A : Option Addr) (c : Nat), showT p.1 p.2 = r ∧ e = .returned (.tuple #[.agg #[.int .i64 p.1, .slice A p.2.length c], .bool true]) ∧ p.2.length ≤ c ∧ Hp [] w w' [.row 34 2 (.slice A p.2.length c) p.2.length (p.2.flatMap cWrite)]
theorem readTGave_no {w w' : World} {r : List UInt8} (h : readT r = none) (f : Fr w w') : ReadTGave w r (.returned (.tuple #[.agg #[.int .i64 0, .slice none 0 0], .bool false])) w' := by
 unfold ReadTGave; rw [h]; exact ⟨rfl, f⟩
theorem readTGave_yes {w w' : World} {r : List UInt8} {seq : Int} {A : Option Addr} {c : Nat} {l : List WrT} (h : showT seq l = r) (hs : r ≠ []) (hc : l.length ≤ c) (H : Hp [] w w' [.row 34 2 (.slice A l.length c) l.length (l.flatMap cWrite)]) :
 ReadTGave w r (.returned (.tuple #[.agg #[.int .i64 seq, .slice A l.length c], .bool true])) w' := by
 unfold ReadTGave; rw [readT_yes h hs];exact ⟨A, c, h, rfl, hc, H⟩
set_option maxRecDepth 100000 in
set_option maxHeartbeats 8000000 in
theorem implReadTxn_any (r : List UInt8) (w : World) (hr : r.length ≤ 16777216) :
 Calls Tryz.prog 17 #[.string (ofB r)] w (ReadTGave w r) := by
 obtain ⟨q1, hq1⟩ : ∃ q : Sc, txP1 r = q := ⟨_, rfl⟩;obtain ⟨n2, q2, hq2⟩ : ∃ (n : Nat) (q : Sc), txP2 r = (n, q) := ⟨_, _, rfl⟩;obtain ⟨n3, q3, hq3⟩ : ∃ (n : Nat) (q : Sc), txP3 r = (n, q) := ⟨_, _, rfl⟩;have E1 := Lib.hid (show (cutP (r, false) 5).2 = q1 from hq1);have E2 := Lib.hid (show numP q1 = (n2, q2) by rw [← hq2, txP2, hq1]);have E3 := Lib.hid (show manyP q2 17 = (n3, q3) by rw [← hq3, txP3, hq2]);have E4 := Lib.hid (show txP4 r = outsP q3 n3 by rw [txP4, hq3]);have E2' := Lib.hid (show (txP2 r).1 = n2 by rw [hq2]);have hn17 : n3 ≤ 17 := by have := manyP_le q2 17; rw [E3.out] at this; exact this
 have L1 : q1.1.length ≤ 16777216 := by rw [← E1.out]; exact Nat.le_trans (cutP_len _ _) hr
 have L2 : q2.1.length ≤ 16777216 := by have := numP_len q1; rw [E2.out] at this; exact Nat.le_trans this L1
 have L3 : q3.1.length ≤ 16777216 := by have := manyP_len q2 17; rw [E3.out] at this; exact Nat.le_trans this L2
 clear hq1 hq2 hq3;have H0 := ((Hp.start w).lay_ 44 [.int .i64 0, .slice none 0 0] rfl).lay_ 75 (scanC (r, false)) (g := w.heap.size + 1) (by simp);go_enter Tryz.func17, Tryz.ntmps17;go_wp2_with fail;have hc := scanCut_any (w.heap.size + 1) r false 5 _ (H0.blk 0 rfl) (by omega);rw [show ((5 : Nat) : Int) = 5 from rfl] at hc;refine hc.mono ?_;rintro e wA ⟨rfl, K⟩;rw [E1.out] at K;have H := H0.turnBlk 0 rfl K;clear K hc H0;go_wp2_with fail;refine (scanNumS (w.heap.size + 1) q1 _ (H.blk 0 rfl) (by omega)).mono ?_;rintro e wB ⟨rfl, K⟩;rw [E2.out] at K ⊢;simp only at K ⊢;replace H := H.turnBlk 0 rfl K;clear K;go_wp2_with fail;have H2 := H.lay_ 44 [.int .i64 (n2 : Int), .slice none 0 0] rfl;obtain ⟨gv, hgv⟩ : ∃ x, x = wB.heap.size := ⟨_, rfl⟩;rw [← hgv] at H2 ⊢;have HGV := Lib.hid hgv;clear hgv H;have H := H2;clear H2;have hc := scanMany_any (w.heap.size + 1) q2 17 _ (H.blk 1 rfl) (by omega);rw [show ((17 : Nat) : Int) = 17 from rfl] at hc;refine hc.mono ?_;rintro e wC ⟨rfl, K⟩;rw [E3.out] at K ⊢;simp only at K ⊢;have H1_ := H.turnBlk 1 rfl K;have H1 : Hp [] w wC [.row 34 2 (.slice none 0 0) (outsP q3 0).1.length ((outsP q3 0).1.flatMap cWrite), .blk gv 44 [.int .i64 (n2 : Int), (.slice none 0 0)], .blk (w.heap.size + 1) 75 (scanC (outsP q3 0).2), .blk w.heap.size 44 [.int .i64 0, .slice none 0 0]] := H1_.nil_ 34 2;clear K hc H H1_;go_wp2_with fail
 go_loopw [19] (fun kv wr => ∃ (k : Nat) (V : Value), kv = .int .i64 k ∧ k ≤ n3 ∧ Hp [] w wr [.row 34 2 V (outsP q3 k).1.length ((outsP q3 k).1.flatMap cWrite), .blk gv 44 [.int .i64 (n2 : Int), V], .blk (w.heap.size + 1) 75 (scanC (outsP q3 k).2), .blk w.heap.size 44 [.int .i64 0, .slice none 0 0]]) (fun kv _ => n3 - (intOf kv).toNat)
 case atStart => exact ⟨0, _, rfl, by omega, H1⟩
 case round =>
  clear H1;obtain ⟨k, V, rfl, hk, H⟩ := hrel;have hk0 : (0 : Int) ≤ (k : Int) := by omega
  obtain ⟨el, st, hst⟩ : ∃ (l : List WrT) (q : Sc), outsP q3 k = (l, q) := ⟨_, _, rfl⟩;have S0 : st.1.length ≤ 16777216 := by have := outsP_sz q3 k; rw [hst] at this; exact Nat.le_trans this L3
  have hel : el.length ≤ k := by have := outsP_len q3 k; rw [hst] at this; exact Nat.le_of_eq this
  rw [hst] at H;simp only at H
  by_cases hlt : k < n3
  ·have hlt1 : (k : Int) < (n3 : Int) := by omega
   obtain ⟨m1, s1, hs1⟩ : ∃ (n : Nat) (q : Sc), numP st = (n, q) := ⟨_, _, rfl⟩;obtain ⟨d2, s2, hs2⟩ : ∃ (n : List UInt8) (q : Sc), pieceP s1 = (n, q) := ⟨_, _, rfl⟩;have S1 : s1.1.length ≤ 16777216 := by have := numP_len st; rw [hs1] at this; exact Nat.le_trans this S0
   have F1 := Lib.hid hs1;have F2 := Lib.hid hs2;have HES := Lib.hid (show outsP q3 (k + 1) = (el ++ [(((m1 : Int), ofB d2) : WrT)], s2) by
    rw [outsP, hst];simp only;rw [outP, hs1];simp only;rw [hs2])
   clear hst hs1 hs2;go_wp2_with fail;refine (scanNumS (w.heap.size + 1) st _ (H.blk 2 rfl) (by omega)).mono ?_;rintro e wA ⟨rfl, K⟩;rw [F1.out] at K ⊢;simp only at K ⊢;replace H := H.turnBlk 2 rfl K;clear K;go_wp2_with fail;have H2 := H.lay_ 34 [.int .i64 (m1 : Int), .string (ByteArray.mk #[])] rfl;obtain ⟨ge, hge⟩ : ∃ x, x = wA.heap.size := ⟨_, rfl⟩;rw [← hge] at H2 ⊢;have HGE := Lib.hid hge;clear hge H;have H := H2;clear H2;refine (scanPiece_any (w.heap.size + 1) s1 _ (H.blk 3 rfl) (by omega)).mono ?_;rintro e wB ⟨rfl, K⟩;rw [F2.out] at K ⊢;simp only at K ⊢;replace H := H.turnBlk 3 rfl K;clear K;have t0 := H.fa 0 1 rfl rfl;have t1 := H.bfree 0 rfl 1;have H5 := H.bput 0 rfl 1 (.string (ofB d2));have u0 := H5.fa 0 0 rfl rfl;have u1 := H5.fa 0 1 rfl rfl;have u4 := H5.fa 2 1 rfl rfl;have HX5 : Hp [] w (wB.setCell ⟨ge, 1, none⟩ (.string (ofB d2))) [.blk ge 34 [.int .i64 (m1 : Int), .string (ofB d2)], .row 34 2 V el.length (el.flatMap cWrite), .blk gv 44 [.int .i64 (n2 : Int), V], .blk (w.heap.size + 1) 75 (scanC s2), .blk w.heap.size 44 [.int .i64 0, .slice none 0 0]] := H5;clear H H5;go_wp2_with (at_builtin; refine wp_appL (f := cWrite) (HX5) rfl _ _ _ rfl Tryz.underlying29 infoWrite rfl (by decide) 1 _ _ rfl rfl _ _ ((((m1 : Int), ofB d2) : WrT)) rfl (by simp) rfl (by simp [cWrite, Value.oneCell']) (by first | (simp only [maxLen]; omega) | (simp [maxLen]; done) | (simp [maxLen]; omega)) (by first | omega | (simp; done) | (simp; omega)) ?_)
   intro v' w6 H6;have p0 := H6.fa 2 1 rfl rfl;have p1 := H6.bfree 2 rfl 1;have H7 := H6.bput 2 rfl 1 v';have H8 := Lib.hid (show Hp [] w (w6.setCell ⟨gv, 1, none⟩ v') [.row 34 2 v' (outsP q3 (k + 1)).1.length ((outsP q3 (k + 1)).1.flatMap cWrite), .blk gv 44 [.int .i64 (n2 : Int), v'], .blk (w.heap.size + 1) 75 (scanC (outsP q3 (k + 1)).2), .blk w.heap.size 44 [.int .i64 0, .slice none 0 0]] by rw [HES.out]; exact H7.tail.recast (by simp));obtain ⟨C9, q9, hv9⟩ := H6.shape 1 rfl;clear HX5 H6 H7 t0 t1 u0 u1 u4;subst hv9;go_wp2_with fail;go_roundw
   case rel => exact ⟨k + 1, _, by go_num, by omega, H8.out⟩
   case measure => simp [intOf]; omega
  ·have hlt1 : ¬ (k : Int) < (n3 : Int) := by omega
   have HT4 := Lib.hid (show txP4 r = (el, st) by rw [E4.out, ← show k = n3 by omega, hst]);clear hst;obtain ⟨D, q, rfl⟩ := H.shape 0 rfl;have HCAP := Lib.hid (own_cap (H.row 0 rfl));have HRW := Lib.hid (show ∀ w', Fr wr w' → Rd w' D el.length 2 (el.flatMap cWrite) from fun w' f => (H.rd 0 rfl).fr f);have y0 := H.fa 1 0 rfl rfl;have y1 := H.fa 1 1 rfl rfl;have y2 := H.fa 2 1 rfl rfl
   cases hbad : st.2 with
   | true =>
     rw [hbad] at y2;have HNO := Lib.hid (readTI_no1 (s := r) (by rw [HT4.out]; exact hbad));have e0 := H.fa 3 0 rfl rfl;have e1 := H.fa 3 1 rfl rfl;have f0 := H.bfree 3 rfl 0;have f1 := H.bfree 3 rfl 1;have H9 := H.bputs 3 rfl [.int .i64 0, .slice none 0 0] rfl;simp only [setsW] at H9;clear H;go_wp2_with fail
     ((try simp only [Exit.inBlock, Exit.then]); refine bodyPost_ret (results_cell_tmp_row rfl _ _ w.heap.size 44 #[.int .i64 0, .slice none 0 0] (0, 0) _ rfl (H9.blk 3 rfl) Tryz.underlying44 rfl (by kernel_rfl)) rfl ?_)
     exact readTGave_no HNO.out H9.fr
   | false =>
     rw [hbad] at y2;clear hbad;obtain ⟨S, hS⟩ : ∃ S, S = ofB r := ⟨_, rfl⟩;rw [← hS];have HSS := Lib.hid hS
     by_cases h0 : r = []
     ·have HNO := Lib.hid (show readT r = none by rw [h0]; exact readT_nil)
      have hse : S = ByteArray.mk #[] := by rw [hS, h0]; rfl
      clear hS;subst hse;clear h0;have e0 := H.fa 3 0 rfl rfl;have e1 := H.fa 3 1 rfl rfl;have f0 := H.bfree 3 rfl 0;have f1 := H.bfree 3 rfl 1;have H9 := H.bputs 3 rfl [.int .i64 0, .slice none 0 0] rfl;simp only [setsW] at H9;clear H;go_wp2_with fail
      ((try simp only [Exit.inBlock, Exit.then]); refine bodyPost_ret (results_cell_tmp_row rfl _ _ w.heap.size 44 #[.int .i64 0, .slice none 0 0] (0, 0) _ rfl (H9.blk 3 rfl) Tryz.underlying44 rfl (by kernel_rfl)) rfl ?_)
      exact readTGave_no HNO.out H9.fr
     ·have hne : ¬ S = ByteArray.mk #[] := fun e => h0 (by
       have := congrArg toB (hS.symm.trans e)
       rwa [toB_ofB] at this)
      have hs0 : ¬ S.size = 0 := fun e => hne (ba_empty e);obtain ⟨hsa, hsb, hsc, hsd⟩ := nonempty_facts hs0;clear hS hne hs0;go_wp2_with fail;refine (implShowTxn_any (n2 : Int) D el.length q el _ (HRW.out _ (Below.refl _ _)) (by omega)).mono ?_;rintro e wV ⟨rfl, fV⟩;obtain ⟨T, hT⟩ : ∃ T, T = ofB (showT (n2 : Int) el) := ⟨_, rfl⟩;rw [← hT];have HT := Lib.hid hT;clear hT y0 y1 y2;replace H := H.go fV;clear fV
      by_cases heq : T = S
      ·have HYS := Lib.hid (show showT (n2 : Int) el = r from ofB_inj (by rw [← HT.out, heq, HSS.out]))
       subst heq;have y0 := H.fa 1 0 rfl rfl;have y1 := H.fa 1 1 rfl rfl;have e0 := H.fa 3 0 rfl rfl;have e1 := H.fa 3 1 rfl rfl;have f0 := H.bfree 3 rfl 0;have f1 := H.bfree 3 rfl 1;have H9 := H.bputs 3 rfl [.int .i64 (n2 : Int), .slice D el.length q] rfl;simp only [setsW] at H9;clear H;go_wp2_with fail
       ((try simp only [Exit.inBlock, Exit.then]); refine bodyPost_ret (results_cell_tmp_row rfl _ _ w.heap.size 44 #[.int .i64 (n2 : Int), .slice D el.length q] (0, 0) _ rfl (H9.blk 3 rfl) Tryz.underlying44 rfl (by kernel_rfl)) rfl ?_)
       exact readTGave_yes HYS.out h0 HCAP.out (H9.sub (by simp))
      ·have hn1 : (T.toList == S.toList) = false := str_ne heq
       have hn2 : (T.toList != S.toList) = true := by simp only [bne, hn1]; rfl
       have HNO := Lib.hid (readTI_no2 (s := r) (by
        rw [E2'.out, HT4.out];intro e9;exact heq (by rw [HT.out, e9, HSS.out])))
       clear heq;have e0 := H.fa 3 0 rfl rfl;have e1 := H.fa 3 1 rfl rfl;have f0 := H.bfree 3 rfl 0;have f1 := H.bfree 3 rfl 1;have H9 := H.bputs 3 rfl [.int .i64 0, .slice none 0 0] rfl;simp only [setsW] at H9;clear H;go_wp2_with fail
       ((try simp only [Exit.inBlock, Exit.then]); refine bodyPost_ret (results_cell_tmp_row rfl _ _ w.heap.size 44 #[.int .i64 0, .slice none 0 0] (0, 0) _ rfl (H9.blk 3 rfl) Tryz.underlying44 rfl (by kernel_rfl)) rfl ?_)
       exact readTGave_no HNO.out H9.fr
end Go.Proofs.YtmpldngnkacnmaaGreatDoor
namespace Go.Proofs.YtmpldngnkacnmaaGreatDoor
open Go.RowKit
set_option maxRecDepth 100000 in
set_option maxHeartbeats 8000000 in
theorem implReadBlocks_any (A : Option Addr) (n c : Nat) (l : List ByteArray) (w : World) (h : Rd w A n 1 (l.map Value.string)) (hn : n ≤ 1048576) (hsz : ∀ t ∈ l, t.size ≤ 16777216) (hk : KT w) :
 Calls Tryz.prog 19 #[.slice A n c] w (ReadGave w l) := by
 have HL := Lib.hid h.len1;have HR := Lib.hid h;have HSZ := Lib.hid hsz;have HK := Lib.hid hk;clear hk hsz
 by_cases h17 : n = 17
 case neg =>
  have h171 : ¬ (n : Int) = 17 := by omega
  have h172 : ((n : Int) != 17) = true := bne_iff_ne.2 h171;have HNO := Lib.hid (readB_len (l := l) (by rw [HL.out]; exact h17));have H := (Hp.start w).lay_ 28 [.int .i64 0, .slice none 0 0] rfl;go_enter Tryz.func19, Tryz.ntmps19;have e0 := H.fa 0 0 rfl rfl;have e1 := H.fa 0 1 rfl rfl;have f0 := H.bfree 0 rfl 0;have f1 := H.bfree 0 rfl 1;go_wp2_with fail
  ((try simp only [Exit.inBlock, Exit.then]); refine bodyPost_ret (results_cell_tmp_row rfl _ _ w.heap.size 28 #[.int .i64 0, .slice none 0 0] (0, 0) _ rfl (H.blk 0 rfl) Tryz.underlying28 rfl (by kernel_rfl)) rfl ?_)
  exact readGave_no HNO.out H.fr
 have h171 : (n : Int) = 17 := by omega
 have h172 : ((n : Int) != 17) = false := by rw [h171]; rfl
 obtain ⟨t0, ht0⟩ := some_at HL.out (show 0 < n by omega);obtain ⟨bk, of, rfl, c0⟩ := h.get1 ht0;simp only [Nat.add_zero] at c0;have H00 := (Hp.start w).lay_ 28 [.int .i64 0, .slice none 0 0] rfl;have c0' := fr_cellM H00.fr c0;have hs0 := HSZ.out t0 (List.mem_of_getElem? ht0);have HX0 := Lib.hid (txt_at ht0);clear h ht0 c0;obtain ⟨r, hr⟩ : ∃ r, r = toB t0 := ⟨_, rfl⟩;have hrl : r.length ≤ 16777216 := by rw [hr, toB_len]; exact hs0
 have HT0 := Lib.hid (show t0 = ofB r by rw [hr, ofB_toB]);rw [← hr] at HX0;obtain ⟨q1, hq1⟩ : ∃ q : Sc, hdP1 r = q := ⟨_, rfl⟩;obtain ⟨n2, q2, hq2⟩ : ∃ (n : Nat) (q : Sc), hdP2 r = (n, q) := ⟨_, _, rfl⟩;obtain ⟨n3, q3, hq3⟩ : ∃ (n : Nat) (q : Sc), hdP3 r = (n, q) := ⟨_, _, rfl⟩;have E1 := Lib.hid (show (cutP (r, false) 1).2 = q1 from hq1);have E2 := Lib.hid (show numP q1 = (n2, q2) by rw [← hq2, hdP2, hq1]);have E3 := Lib.hid (show manyP q2 16 = (n3, q3) by rw [← hq3, hdP3, hq2]);have E2' := Lib.hid (show (hdP2 (txt l 0)).1 = n2 by rw [HX0.out, hq2]);have E3' := Lib.hid (show hdP3 (txt l 0) = (n3, q3) by rw [HX0.out, hq3]);have hn16 : n3 ≤ 16 := by have := manyP_le q2 16; rw [E3.out] at this; exact this
 have L1 : q1.1.length ≤ 1099511627776 := by rw [← E1.out]; exact Nat.le_trans (cutP_len _ _) (by simp only; omega)
 have L2 : q2.1.length ≤ 1099511627776 := by have := numP_len q1; rw [E2.out] at this; exact Nat.le_trans this L1
 clear hq1 hq2 hq3 hs0 hr;subst h17;have H0 := H00.lay_ 75 (scanC (r, false)) (g := w.heap.size + 1) (by simp);clear H00;obtain rfl := HT0.out;go_enter Tryz.func19, Tryz.ntmps19;go_wp2_with fail;clear c0';have hc := scanCut_any (w.heap.size + 1) r false 1 _ (H0.blk 0 rfl) (by omega);rw [show ((1 : Nat) : Int) = 1 from rfl] at hc;refine hc.mono ?_;rintro e wA ⟨rfl, K⟩;rw [E1.out] at K;have H := H0.turnBlk 0 rfl K;clear K hc H0;go_wp2_with fail;refine (scanNumS (w.heap.size + 1) q1 _ (H.blk 0 rfl) L1).mono ?_;rintro e wB ⟨rfl, K⟩;rw [E2.out] at K ⊢;simp only at K ⊢;replace H := H.turnBlk 0 rfl K;clear K;go_wp2_with fail;have H2 := H.lay_ 28 [.int .i64 (n2 : Int), .slice none 0 0] rfl;obtain ⟨gv, hgv⟩ : ∃ x, x = wB.heap.size := ⟨_, rfl⟩;rw [← hgv] at H2 ⊢;have HGV := Lib.hid hgv;clear hgv H;have H := H2;clear H2;have hc := scanMany_any (w.heap.size + 1) q2 16 _ (H.blk 1 rfl) L2;rw [show ((16 : Nat) : Int) = 16 from rfl] at hc;refine hc.mono ?_;rintro e wC ⟨rfl, K⟩;rw [E3.out] at K ⊢;simp only at K ⊢;have H1_ := H.turnBlk 1 rfl K;have H1 : Hp [] w wC [.row 53 5 (.slice none 0 0) ([] : List (Value × Nod)).length (([] : List (Value × Nod)).flatMap cNV), .many (([] : List (Value × Nod)).map rowE), .blk gv 28 [.int .i64 (n2 : Int), (.slice none 0 0)], .blk (w.heap.size + 1) 75 (scanC q3), .blk w.heap.size 28 [.int .i64 0, .slice none 0 0]] := H1_.many0.nil_ 53 5;clear K hc H H1_;go_wp2_with fail
 go_loopw [27] (fun kv wr => ∃ (k : Nat) (V : Value) (L : List (Value × Nod)), kv = .int .i64 k ∧ k ≤ n3 ∧ nodes L = nodesP l k ∧ ReadSz L ∧ Hp [] w wr [.row 53 5 V L.length (L.flatMap cNV), .many (L.map rowE), .blk gv 28 [.int .i64 (n2 : Int), V], .blk (w.heap.size + 1) 75 (scanC q3), .blk w.heap.size 28 [.int .i64 0, .slice none 0 0]]) (fun kv _ => n3 - (intOf kv).toNat)
 case atStart => exact ⟨0, _, [], rfl, by omega, rfl, fun p hp => by simp at hp, H1⟩
 case round =>
  clear H1;obtain ⟨k, V, L, rfl, hk, hL, hLs, H⟩ := hrel;have HLN := Lib.hid hL;have HLS := Lib.hid hLs;have hll : L.length ≤ k := by rw [← nodes_len, hL, nodesP_len]; exact Nat.le_refl _
  clear hL hLs;have hk0 : (0 : Int) ≤ (k : Int) := by omega
  by_cases hlt : k < n3
  ·have hlt1 : (k : Int) < (n3 : Int) := by omega
   obtain ⟨p, hp1, hp2⟩ : ∃ p : Nat, k + 1 ≤ p ∧ p ≤ k + 1 := ⟨k + 1, Nat.le_refl _, Nat.le_refl _⟩;have hp3 : (k : Int) + 1 = (p : Int) := by omega
   have hp4 : IntKind.i64.wrap ((k : Int) + 1) = (p : Int) := by rw [hp3]; exact IntWalk.i64_in _ (by omega)
   have hp5 : (0 : Int) ≤ (p : Int) := by omega
   have hp6 : (p : Int) < 17 := by omega
   obtain ⟨t, ht⟩ := some_at HL.out (show p < 17 by omega);obtain ⟨bk', of', ea, ct⟩ := (HR.out.fr H.fr).get1 ht;injection ea with ea; injection ea with ea eb; subst ea eb;have hst := HSZ.out t (List.mem_of_getElem? ht);have HTX := Lib.hid (show txt l (k + 1) = toB t by rw [show k + 1 = p by omega]; exact txt_at ht);obtain ⟨⟨⟨x0, x1, x2, x3, xs⟩, ok⟩, hX⟩ : ∃ X, X = nodR (toB t) := ⟨_, rfl⟩;have HX := Lib.hid hX;clear ht hX;go_wp2_with fail;have hc := implInodeOf_any (toB t) wr (by rw [toB_len]; exact hst) (HK.out.fr H.fr);rw [ofB_toB, ← HX.out] at hc;simp only at hc;refine hc.mono ?_;rintro e wD ⟨V', rfl, K⟩;replace H := H.join K;clear K hc ct;obtain ⟨C, q, rfl⟩ := H.shape 0 rfl
   cases ok with
   | false =>
     have HNO := Lib.hid (readI_no2 (l := l) (k := k) (by rw [E3'.out]; exact hlt) (by rw [HTX.out, ← HX.out]));have H2 := H.lay_ 53 [.int .i64 x0, .int .i64 x1, .int .i64 x2, .string x3, .slice C xs.length q] rfl;clear H;have H := H2;clear H2;have e0 := H.fa 6 0 rfl rfl;have e1 := H.fa 6 1 rfl rfl;have f0 := H.bfree 6 rfl 0;have f1 := H.bfree 6 rfl 1;have H9 := H.bputs 6 rfl [.int .i64 0, .slice none 0 0] rfl;simp only [setsW] at H9;clear H;go_wp2_with fail
     ((try simp only [Exit.inBlock, Exit.then]); refine bodyPost_ret (results_cell_tmp_row rfl _ _ w.heap.size 28 #[.int .i64 0, .slice none 0 0] (0, 0) _ rfl (H9.blk 6 rfl) Tryz.underlying28 rfl (by kernel_rfl)) rfl ?_)
     exact readGave_no HNO.out H9.fr
   | true =>
     have H2 := H.lay_ 53 [.int .i64 x0, .int .i64 x1, .int .i64 x2, .string x3, .slice C xs.length q] rfl;obtain ⟨gb, hgb⟩ : ∃ x, x = wD.heap.size := ⟨_, rfl⟩;rw [← hgb] at H2;have HGB := Lib.hid hgb;clear hgb H;have b0 := H2.fa 0 0 rfl rfl;have b1 := H2.fa 0 1 rfl rfl;have b2 := H2.fa 0 2 rfl rfl;have b3 := H2.fa 0 3 rfl rfl;have b4 := H2.fa 0 4 rfl rfl;have b5 := H2.fa 4 1 rfl rfl;have H3 := H2;rw [HGB.out] at H3 b0 b1 b2 b3 b4;clear H2;go_wp2_with (at_builtin; refine wp_appL (f := cNV) (H3) rfl _ _ _ rfl Tryz.underlying26 infoInode rfl (by decide) 2 _ _ rfl rfl _ _ (((.slice C xs.length q, (x0, x1, x2, x3, xs)) : Value × Nod)) rfl (by simp) rfl (by simp [cNV, Value.oneCell']) (by first | (simp only [maxLen]; omega) | (simp [maxLen]; done) | (simp [maxLen]; omega)) (by first | omega | (simp; done) | (simp; omega)) ?_)
     intro v' w6 H6;have p0 := H6.fa 4 1 rfl rfl;have p1 := H6.bfree 4 rfl 1;have H7 := (H6.bput 4 rfl 1 v').tail;have H8_ := Hp.push (r := rowE (.slice C xs.length q, (x0, x1, x2, x3, xs))) H7 1 rfl;have H8 := Lib.hid (show Hp [] w (w6.setCell ⟨gv, 1, none⟩ v') [.row 53 5 v' (L ++ [((.slice C xs.length q, (x0, x1, x2, x3, xs)) : Value × Nod)]).length ((L ++ [((.slice C xs.length q, (x0, x1, x2, x3, xs)) : Value × Nod)]).flatMap cNV), .many ((L ++ [((.slice C xs.length q, (x0, x1, x2, x3, xs)) : Value × Nod)]).map rowE), .blk gv 28 [.int .i64 (n2 : Int), v'], .blk (w.heap.size + 1) 75 (scanC q3), .blk w.heap.size 28 [.int .i64 0, .slice none 0 0]] from H8_.recast (by simp));have HLN2 := Lib.hid (show nodes (L ++ [((.slice C xs.length q, (x0, x1, x2, x3, xs)) : Value × Nod)]) = nodesP l (k + 1) by
      rw [nodes_snoc, nodesP_take, HLN.out, HTX.out, ← HX.out])
     have HLS2 := Lib.hid (show ReadSz (L ++ [((.slice C xs.length q, (x0, x1, x2, x3, xs)) : Value × Nod)]) by
      have := HLS.out.snoc (V := .slice C xs.length q) (t := toB t) (by rw [toB_len]; exact hst);rw [← HX.out] at this;exact this)
     obtain ⟨C9, q9, hv9⟩ := H6.shape 2 rfl;clear H3 H6 H7 H8_ b0 b1 b2 b3 b4 b5;subst hv9;go_wp2_with fail;go_roundw
     case rel => exact ⟨k + 1, _, _, by go_num, by omega, HLN2.out, HLS2.out, H8.out⟩
     case measure => simp [intOf]; omega
  ·have hlt1 : ¬ (k : Int) < (n3 : Int) := by omega
   obtain ⟨D, q, rfl⟩ := H.shape 0 rfl;have hcap : L.length ≤ q := own_cap (H.row 0 rfl);have HC9 := Lib.hid hcap;have hl16 : L.length ≤ 16 := by omega
   have HN := Lib.hid (Hp.join2 (r := rowN (.slice D L.length q) L.length L) H);have HRN := Lib.hid (show RdN wr D L.length L from HN.out.rdN 0 rfl);have HKN := Lib.hid (show nodesP l (hdP3 (txt l 0)).1 = nodes L by rw [E3'.out, show n3 = k by omega, HLN.out]);have y0 := H.fa 2 0 rfl rfl;have y1 := H.fa 2 1 rfl rfl;have y2 := H.fa 3 1 rfl rfl
   cases hbad : q3.2 with
   | true =>
     rw [hbad] at y2;have HNO := Lib.hid (readI_no1 (l := l) (by rw [E3'.out]; exact hbad));have e0 := H.fa 4 0 rfl rfl;have e1 := H.fa 4 1 rfl rfl;have f0 := H.bfree 4 rfl 0;have f1 := H.bfree 4 rfl 1;have H9 := H.bputs 4 rfl [.int .i64 0, .slice none 0 0] rfl;simp only [setsW] at H9;clear H;go_wp2_with fail
     ((try simp only [Exit.inBlock, Exit.then]); refine bodyPost_ret (results_cell_tmp_row rfl _ _ w.heap.size 28 #[.int .i64 0, .slice none 0 0] (0, 0) _ rfl (H9.blk 4 rfl) Tryz.underlying28 rfl (by kernel_rfl)) rfl ?_)
     exact readGave_no HNO.out H9.fr
   | false =>
     rw [hbad] at y2;go_wp2_with fail;refine (implVolOk_any (n2 : Int) D L.length q L _ HRN.out (by omega) HC9.out HLS.out.few (fun p hp => (HLS.out p hp).2.2) (HK.out.fr H.fr)).mono ?_;rintro e wV ⟨rfl, fV⟩;obtain ⟨vb, hvb⟩ : ∃ b, volB (n2 : Int) (nodes L) = b := ⟨_, rfl⟩;have HVB := Lib.hid hvb;rw [hvb];clear hvb y0 y1 y2;replace H := H.go fV;have HN2 := Lib.hid (HN.out.go fV);have HRN2 := Lib.hid (HRN.out.fr fV);clear fV
     cases vb with
     | false =>
       have HNO := Lib.hid (readI_no3 (l := l) (by rw [E2'.out, HKN.out]; exact HVB.out));have e0 := H.fa 4 0 rfl rfl;have e1 := H.fa 4 1 rfl rfl;have f0 := H.bfree 4 rfl 0;have f1 := H.bfree 4 rfl 1;have H9 := H.bputs 4 rfl [.int .i64 0, .slice none 0 0] rfl;simp only [setsW] at H9;clear H;go_wp2_with fail
       ((try simp only [Exit.inBlock, Exit.then]); refine bodyPost_ret (results_cell_tmp_row rfl _ _ w.heap.size 28 #[.int .i64 0, .slice none 0 0] (0, 0) _ rfl (H9.blk 4 rfl) Tryz.underlying28 rfl (by kernel_rfl)) rfl ?_)
       exact readGave_no HNO.out H9.fr
     | true =>
       have y0 := H.fa 2 0 rfl rfl;have y1 := H.fa 2 1 rfl rfl;go_wp2_with fail;refine (volBlocks_any (n2 : Int) D L.length q L _ HRN2.out (by omega) HLS.out.nod).mono ?_;rintro e wW ⟨B, d, rfl, oW, fW⟩;clear y0 y1;obtain ⟨bl, hbl⟩ : ∃ x, x = blocksB (n2 : Int) (nodes L) := ⟨_, rfl⟩;rw [← hbl] at oW;have HBL := Lib.hid hbl;have HRB := Lib.hid (Rd.of_own oW);replace H := H.go fW;have HN3 := Lib.hid (HN2.out.go fW);clear hbl oW fW;go_wp2_with fail;refine (implSame_any B (some ⟨bk, of, none⟩) 17 d 17 c bl l _ HRB.out (HR.out.fr H.fr) (by omega) (by omega)).mono ?_;rintro e wS ⟨rfl, fS⟩;replace H := H.go fS;have HN4 := Lib.hid (HN3.out.go fS);clear fS;obtain ⟨sb, hsb⟩ : ∃ b, sameB bl l = b := ⟨_, rfl⟩;have HSB := Lib.hid hsb;rw [hsb];clear hsb
       cases sb with
       | false =>
         have HNO := Lib.hid (readI_no4 (l := l) (by
          rw [E2'.out, HKN.out, ← HBL.out];intro e9;have := HSB.out;rw [sameB_iff.2 e9] at this
          cases this))
         have e0 := H.fa 4 0 rfl rfl;have e1 := H.fa 4 1 rfl rfl;have f0 := H.bfree 4 rfl 0;have f1 := H.bfree 4 rfl 1;have H9 := H.bputs 4 rfl [.int .i64 0, .slice none 0 0] rfl;simp only [setsW] at H9;clear H;go_wp2_with fail
         ((try simp only [Exit.inBlock, Exit.then]); refine bodyPost_ret (results_cell_tmp_row rfl _ _ w.heap.size 28 #[.int .i64 0, .slice none 0 0] (0, 0) _ rfl (H9.blk 4 rfl) Tryz.underlying28 rfl (by kernel_rfl)) rfl ?_)
         exact readGave_no HNO.out H9.fr
       | true =>
         have HB9 := Lib.hid (show blocksB (n2 : Int) (nodes L) = l by rw [← HBL.out]; exact sameB_iff.1 HSB.out);have y0 := H.fa 2 0 rfl rfl;have y1 := H.fa 2 1 rfl rfl;have e0 := H.fa 4 0 rfl rfl;have e1 := H.fa 4 1 rfl rfl;have f0 := H.bfree 4 rfl 0;have f1 := H.bfree 4 rfl 1;have H9 := HN4.out.bputs 3 rfl [.int .i64 (n2 : Int), .slice D L.length q] rfl;simp only [setsW] at H9;clear H;go_wp2_with fail
         ((try simp only [Exit.inBlock, Exit.then]); refine bodyPost_ret (results_cell_tmp_row rfl _ _ w.heap.size 28 #[.int .i64 (n2 : Int), .slice D L.length q] (0, 0) _ rfl (H9.blk 3 rfl) Tryz.underlying28 rfl (by kernel_rfl)) rfl ?_)
         exact readGave_yes HVB.out HB9.out HLS.out HC9.out (H9.sub (List.cons_sublist_cons.2 (List.nil_sublist _)))
end Go.Proofs.YtmpldngnkacnmaaGreatDoor
namespace Go.Proofs.YtmpldngnkacnmaaGreatDoor
open Go.RowKit
theorem results_cell_tmp3_row {P : Program} {fn : Func} {p u v x : Tmp} {ty : TypeId} (h : fn.results = #[.cell p ty, .tmp u, .tmp v, .tmp x]) (tmps : Array Value) (w : World) (g : Nat) (t : TypeId) (cs : Array Value) (fr : Nat × Nat) (d : TypeDesc)
 (hp : tmps.getD p undef = .pointer (some ⟨g, 0, none⟩)) (hg : w.heap[g]? = some (.cells cs t fr))
 (hu : P.underlying ty = some d) (hd : (match d with | .struct _ | .array _ _ => true | _ => false) = true) (hi : (P.info? ty).map (·.size) = some cs.size) :
 (results fn tmps).run P w = .ok (.tuple #[.agg cs, tmps.getD u undef, tmps.getD v undef, tmps.getD x undef]) w := by
 have hp' : tmps[p]?.getD undef = .pointer (some ⟨g, 0, none⟩) := by simpa using hp
 simp [results, h, hp', asAddr, run_loadVar_row w g t ty cs fr d hg hu hd hi]
theorem one_strM (l : List ByteArray) : ∀ u ∈ l.map Value.string, u.oneCell' = true := by
 intro u hu;obtain ⟨e, _, rfl⟩ := List.mem_map.1 hu
 rfl
set_option maxRecDepth 100000 in
set_option maxHeartbeats 1000000 in
theorem copyTextsM_any (B : Option Addr) (m d : Nat) (data : List ByteArray) (w : World) (h : Rd w B m 1 (data.map Value.string)) (hc : B = none → d = 0) (hm : m ≤ 1048576) :
 Calls Tryz.prog 18 #[.slice B m d] w fun e w' => Made w 9 1 m (data.map Value.string) e w' := by
 go_enter Tryz.func18, Tryz.ntmps18;go_wp2_with (at_builtin; refine wp_appRd ((Hp.start w).nil_ 9 1) rfl _ _ _ rfl Tryz.underlying24 infoString rfl (by decide) 0 _ _ _ rfl rfl _ _ _ _ rfl (hc) (h) (one_strM _) (by first | (simp only [maxLen]; omega) | (simp [maxLen]; done) | (simp [maxLen]; omega)) (by first | omega | (simp; done) | (simp; omega)) ?_)
 intro v' w9 H9;obtain ⟨B, d, rfl⟩ := H9.shape 0 rfl;have HF := Lib.hid H9;clear H9 h hc;go_wp2_with fail;go_ret;have h9 := HF.out;exact h9.toMade 0 rfl
theorem rd_take17 {w : World} {A : Option Addr} {l : List ByteArray} (h : Rd w A 18 1 (l.map Value.string)) : Rd w A 17 1 ((l.take 17).map Value.string) := by
 have hl := h.len1;refine ⟨by simp [hl], fun _ => ?_⟩;obtain ⟨b, o, rfl, hc⟩ := h.2 (by omega);refine ⟨b, o, rfl, fun j u hu => hc j u ?_⟩;rw [List.map_take, List.getElem?_take] at hu
 split at hu
 ·exact hu
 ·cases hu
theorem readT_ok {s : List UInt8} {p : Int × List WrT} (h : readT s = some p) : txnB p.1 p.2 = true := by
 classical
 rw [readT] at h
 split at h
 ·rename_i hex
  have hc := Classical.choose_spec hex;injection h with h;rw [h] at hc;exact (showT_ok (by rw [hc.1]; exact hc.2)).1
 ·cases h
theorem putAll_len (l : List ByteArray) (o : List WrT) : (putAll l o).length = l.length := by
 induction o generalizing l with
 | nil => rfl
 | cons x o ih => rw [putAll, List.foldl_cons]; exact (ih _).trans (List.length_set ..)
theorem putAll_snoc {l : List ByteArray} {o : List WrT} {k : Nat} {x : WrT} (h : o[k]? = some x) : putAll l (o.take (k + 1)) = (putAll l (o.take k)).set x.1.toNat x.2 := by
 rw [List.take_add_one, h, Option.toList_some, putAll, List.foldl_append]
 rfl
theorem putAll_sz {B : Nat} {l : List ByteArray} {o : List WrT} (hl : ∀ t ∈ l, t.size ≤ B) (ho : ∀ x ∈ o, x.2.size ≤ B) : ∀ t ∈ putAll l o, t.size ≤ B := by
 induction o generalizing l with
 | nil => exact hl
 | cons x o ih =>
   rw [putAll, List.foldl_cons];refine ih (fun t ht => ?_) (fun y hy => ho y (List.mem_cons_of_mem _ hy))
   rcases List.mem_or_eq_of_mem_set ht with h1 | h1
   ·exact hl t h1
   ·rw [h1]; exact ho x List.mem_cons_self
theorem mount_no1 {l : List ByteArray} (hl : l.length = 18) (h : logT l = none) : mountB l = none := by
 rw [mountB, if_neg (by omega), h]
theorem mount_no2 {l : List ByteArray} {seq : Int} {outs : List WrT} (hl : l.length = 18) (h : logT l = some (seq, outs)) (hr : readB (putAll (l.take 17) outs) = none) : mountB l = none := by
 rw [mountB, if_neg (by omega), h];simp only [hr]
theorem mount_yes {l : List ByteArray} {seq : Int} {outs : List WrT} {v : Int × List Nod} (hl : l.length = 18) (h : logT l = some (seq, outs)) (hr : readB (putAll (l.take 17) outs) = some v) : mountB l = some (v, outs, seq) := by
 rw [mountB, if_neg (by omega), h];simp only [hr]
def MountGave (w : World) (l : List ByteArray) (e : Ending) (w' : World) : Prop := match mountB l with
 | none => ∃ (C : Option Addr) (d : Nat), e = .returned (.tuple #[.agg #[.int .i64 0, .slice none 0 0], .slice C 0 d, .int .i64 0, .int .i64 1]) ∧ Hp [] w w' [.row 34 2 (.slice C 0 d) 0 []]
 | some p => ∃ (A : Option Addr) (c : Nat) (L : List (Value × Nod)) (C : Option Addr) (d : Nat), nodes L = p.1.2 ∧ volB p.1.1 p.1.2 = true ∧ ReadSz L ∧ (∀ x ∈ p.2.1, x.2.size ≤ 400) ∧ p.2.1.length ≤ 17 ∧ L.length ≤ c ∧ p.2.1.length ≤ d ∧
  e = .returned (.tuple #[.agg #[.int .i64 p.1.1, .slice A L.length c], .slice C p.2.1.length d, .int .i64 p.2.2, .int .i64 0]) ∧ Hp [] w w' [obN (.slice A L.length c) L.length L, .row 34 2 (.slice C p.2.1.length d) p.2.1.length (p.2.1.flatMap cWrite)]
theorem mountGave_no {w w' : World} {l : List ByteArray} {C : Option Addr} {d : Nat} (h : mountB l = none) (H : Hp [] w w' [.row 34 2 (.slice C 0 d) 0 []]) :
 MountGave w l (.returned (.tuple #[.agg #[.int .i64 0, .slice none 0 0], .slice C 0 d, .int .i64 0, .int .i64 1])) w' := by
 unfold MountGave; rw [h]; exact ⟨C, d, rfl, H⟩
theorem mountGave_yes {w w' : World} {l : List ByteArray} {next seq : Int} {nds : List Nod} {outs : List WrT} {A C : Option Addr} {c d : Nat} {L : List (Value × Nod)} (h : mountB l = some ((next, nds), outs, seq)) (hn : nodes L = nds) (hv : volB next nds = true) (hs : ReadSz L) (ho : ∀ x ∈ outs, x.2.size ≤ 400) (h17 : outs.length ≤ 17) (hc : L.length ≤ c) (hd : outs.length ≤ d)
 (H : Hp [] w w' [obN (.slice A L.length c) L.length L, .row 34 2 (.slice C outs.length d) outs.length (outs.flatMap cWrite)]) :
 MountGave w l (.returned (.tuple #[.agg #[.int .i64 next, .slice A L.length c], .slice C outs.length d, .int .i64 seq, .int .i64 0])) w' := by
 unfold MountGave; rw [h]; exact ⟨A, c, L, C, d, hn, hv, hs, ho, h17, hc, hd, rfl, H⟩
set_option maxRecDepth 100000 in
set_option maxHeartbeats 8000000 in
theorem implMount_any (A : Option Addr) (n c : Nat) (l : List ByteArray) (w : World) (h : Rd w A n 1 (l.map Value.string)) (hc : n ≤ c) (hn : n ≤ 1048576) (hsz : ∀ t ∈ l, t.size ≤ 16777216) (hk : KT w) :
 Calls Tryz.prog 6 #[.slice A n c] w (MountGave w l) := by
 have HL := Lib.hid h.len1;have HR := Lib.hid h;have HSZ := Lib.hid hsz;have HK := Lib.hid hk;clear hk;clear hsz
 by_cases h18 : n = 18
 case neg =>
  have h181 : ¬ (n : Int) = 18 := by omega
  have h182 : ((n : Int) != 18) = true := bne_iff_ne.2 h181;have HNO := Lib.hid (show mountB l = none by rw [mountB, if_pos (by rw [HL.out]; exact h18)]);have H := ((Hp.start w).lay_ 28 [.int .i64 0, .slice none 0 0] rfl);go_enter Tryz.func6, Tryz.ntmps6;have e0 := H.fa 0 0 rfl rfl;have e1 := H.fa 0 1 rfl rfl;have f0 := H.bfree 0 rfl 0;have f1 := H.bfree 0 rfl 1;go_wp2_with fail
  ((try simp only [Exit.inBlock, Exit.then]); refine bodyPost_ret (results_cell_tmp3_row rfl _ _ w.heap.size 28 #[.int .i64 0, .slice none 0 0] (0, 0) _ rfl (H.blk 0 rfl) Tryz.underlying28 rfl (by kernel_rfl)) rfl ?_)
  exact mountGave_no HNO.out (show Hp [] w _ [.row 34 2 (.slice none 0 0) 0 []] from (H.sub (List.nil_sublist _)).nil_ 34 2)
 have h181 : (n : Int) = 18 := by omega
 have h182 : ((n : Int) != 18) = false := by rw [h181]; rfl
 obtain ⟨t0, ht0⟩ := some_at HL.out (show 17 < n by omega);obtain ⟨bk, of, rfl, c0⟩ := h.get1 ht0;have H0 := ((Hp.start w).lay_ 28 [.int .i64 0, .slice none 0 0] rfl).lay_ 44 [.int .i64 0, .slice none 0 0] (g := w.heap.size + 1) (by simp);have c0' := fr_cellM H0.fr c0;have hs0 := HSZ.out t0 (List.mem_of_getElem? ht0);have HX0 := Lib.hid (txt_at ht0);clear h ht0 c0;obtain ⟨r, hr⟩ : ∃ r, r = toB t0 := ⟨_, rfl⟩;have hrl : r.length ≤ 16777216 := by rw [hr, toB_len]; exact hs0
 have HT0 := Lib.hid (show ofB r = t0 by rw [hr, ofB_toB]);rw [← hr] at HX0;have HRE := Lib.hid hr;clear hr hs0;have hcall : ∀ w0, Calls Tryz.prog 17 #[.string t0] w0 (ReadTGave w0 r) := fun w0 => by
  have := implReadTxn_any r w0 hrl
  rwa [HT0.out] at this
 subst h18
 by_cases hemp : t0 = ByteArray.mk #[]
 ·have HLG0 := Lib.hid (show logT l = some (0, []) by rw [logT, HX0.out, if_pos (by rw [HRE.out, hemp]; rfl)])
  clear hcall;subst hemp;obtain ⟨seq, outs, C, d, hlg, hout, ho17, hdd, H⟩ : ∃ (seq : Int) (outs : List WrT) (C : Option Addr) (d : Nat), logT l = some (seq, outs) ∧ (∀ x ∈ outs, 0 ≤ x.1 ∧ x.1 ≤ 16 ∧ x.2.size ≤ 400) ∧ outs.length ≤ 17 ∧ outs.length ≤ d ∧ Hp [] w _ [.row 34 2 (.slice C outs.length d) outs.length (outs.flatMap cWrite), .blk (w.heap.size + 1) 44 [.int .i64 seq, .slice C outs.length d], .blk w.heap.size 28 [.int .i64 0, .slice none 0 0]] := ⟨0, [], none, 0, HLG0.out, (fun x hx => nomatch hx), by simp, by simp, H0.nil_ 34 2⟩;have HLG := Lib.hid hlg;have HOUT := Lib.hid hout;have HO17 := Lib.hid ho17;have HDD := Lib.hid hdd;clear hlg hout H0;go_enter Tryz.func6, Tryz.ntmps6;go_wp2_with fail;clear c0';refine (copyTextsM_any (some ⟨bk, of, none⟩) 17 c (l.take 17) _ (rd_take17 (HR.out.fr H.fr)) (fun h => nomatch h) (by omega)).mono ?_;rintro e wC ⟨B9, d9, rfl, oC, fC⟩;replace H := H.made oC fC;clear oC fC;obtain ⟨ga, cga, ea, _⟩ := H.form 0 rfl (by omega);injection ea with ea1 _ ea2;subst ea1 ea2;have y6 := H.fa 2 1 rfl rfl;have HS0 : Hp [] w wC [.row 9 1 (.slice (some ⟨ga, 0, none⟩) 17 d9) 17 ((putAll (l.take 17) (outs.take 0)).map Value.string), .row 34 2 (.slice C outs.length d) outs.length (outs.flatMap cWrite), .blk (w.heap.size + 1) 44 [.int .i64 seq, .slice C outs.length d], .blk w.heap.size 28 [.int .i64 0, .slice none 0 0]] := H;clear H;go_wp2_with fail
  go_loopw [40] (fun kv wr => ∃ k : Nat, kv = .int .i64 k ∧ k ≤ outs.length ∧ Hp [] w wr [.row 9 1 (.slice (some ⟨ga, 0, none⟩) 17 d9) 17 ((putAll (l.take 17) (outs.take k)).map Value.string), .row 34 2 (.slice C outs.length d) outs.length (outs.flatMap cWrite), .blk (w.heap.size + 1) 44 [.int .i64 seq, .slice C outs.length d], .blk w.heap.size 28 [.int .i64 0, .slice none 0 0]]) (fun kv _ => outs.length - (intOf kv).toNat)
  case atStart => exact ⟨0, rfl, by omega, HS0⟩
  case round =>
   clear HS0 y6;obtain ⟨k, rfl, hk, H⟩ := hrel;have hk0 : (0 : Int) ≤ (k : Int) := by omega
   have y6 := H.fa 2 1 rfl rfl;obtain ⟨T, hT⟩ : ∃ T, T = putAll (l.take 17) (outs.take k) := ⟨_, rfl⟩;have HT := Lib.hid hT;rw [← hT] at H;have HTL := Lib.hid (show T.length = 17 by rw [hT, putAll_len, List.length_take, HL.out]; rfl);clear hT
   by_cases hlt : k < outs.length
   ·have hlt1 : (k : Int) < (outs.length : Int) := by omega
    obtain ⟨⟨x0, x1⟩, hx⟩ := some_at rfl hlt;have hxb := HOUT.out _ (List.mem_of_getElem? hx);obtain ⟨z, hz⟩ : ∃ z : Nat, z = x0.toNat := ⟨_, rfl⟩;have hxz : x0 = (z : Int) := by have := hxb.1; simp only at this; omega
    have hz17 : z < 17 := by have := hxb.2.1; simp only at this; omega
    obtain rfl := hxz;have hz0 : (0 : Int) ≤ (z : Int) := by omega
    have hz1 : (z : Int) < 17 := by omega
    have HES := Lib.hid (show T.set z x1 = putAll (l.take 17) (outs.take (k + 1)) by
     rw [putAll_snoc hx, ← HT.out, ← hz])
    obtain ⟨g1, c1, e1, _⟩ := H.form 1 rfl (by omega);injection e1 with e11 _ e12;obtain ⟨yo, hyo⟩ := some_at HTL.out hz17;rw [e11] at H y6;have HE11 := Lib.hid e11;have ca0 := H.atL 1 rfl cWrite_len (r := 0) hx rfl;have ca1 := H.atL 1 rfl cWrite_len (r := 1) hx rfl;simp only [Nat.add_zero] at ca0;clear hx hxb hz;have H2 := H.lay_ 34 [.int .i64 (z : Int), .string x1] rfl;have t0 := H2.atM 1 rfl (j := z) hyo;have t1 := H2.free 1 rfl z;have H3 := H2.putM 1 rfl z x1;clear hyo;have H9 := Lib.hid H3.tail;clear H H2 H3;go_wp2_with fail;go_roundw
    case rel => exact ⟨k + 1, by go_num, by omega, by have h9 := H9.out; rw [HES.out, ← HE11.out] at h9; exact h9⟩
    case measure => simp [intOf]; omega
   ·have hlt1 : ¬ (k : Int) < (outs.length : Int) := by omega
    have HPT := Lib.hid (show putAll (l.take 17) outs = T by rw [HT.out, show outs.take k = outs from List.take_of_length_le (by omega)]);have HTS := Lib.hid (show ∀ t ∈ T, t.size ≤ 16777216 by
     rw [HT.out];exact putAll_sz (fun t ht => HSZ.out t (List.mem_of_mem_take ht)) (fun x hx => Nat.le_trans (HOUT.out x (List.mem_of_mem_take hx)).2.2 (by omega)))
    have HRW := Lib.hid (H.rd 0 rfl);go_wp2_with fail;refine (implReadBlocks_any (some ⟨ga, 0, none⟩) 17 d9 T _ HRW.out (by omega) HTS.out (HK.out.fr H.fr)).mono ?_;rintro e wR hg;unfold ReadGave at hg;clear y6;obtain ⟨o, ho⟩ : ∃ o, readB T = o := ⟨_, rfl⟩;rw [ho] at hg;have HO := Lib.hid ho;clear ho
    cases o with
    | none =>
      obtain ⟨rfl, fR⟩ := hg;have HNO := Lib.hid (mount_no2 HL.out HLG.out (by rw [HPT.out]; exact HO.out));replace H := (H.go fR).lay_ 28 [.int .i64 0, .slice none 0 0] rfl;clear fR;have e0 := H.fa 4 0 rfl rfl;have e1 := H.fa 4 1 rfl rfl;have f0 := H.bfree 4 rfl 0;have f1 := H.bfree 4 rfl 1;have H9 := H.bputs 4 rfl [.int .i64 0, .slice none 0 0] rfl;simp only [setsW] at H9;clear H;go_wp2_with fail
      ((try simp only [Exit.inBlock, Exit.then]); refine bodyPost_ret (results_cell_tmp3_row rfl _ _ w.heap.size 28 #[.int .i64 0, .slice none 0 0] (0, 0) _ rfl (H9.blk 4 rfl) Tryz.underlying28 rfl (by kernel_rfl)) rfl ?_)
      exact mountGave_no HNO.out (show Hp [] w _ [.row 34 2 (.slice none 0 0) 0 []] from (H9.sub (List.nil_sublist _)).nil_ 34 2)
    | some q9 =>
      obtain ⟨next, nds⟩ := q9;obtain ⟨D, cq, L, hnd, hvb, hbb, hrs, rfl, hcq, Hj⟩ := hg;have HND := Lib.hid hnd;have HVB := Lib.hid hvb;have HRS := Lib.hid hrs;have HCQ := Lib.hid hcq;have HYS := Lib.hid (mount_yes HL.out HLG.out (by rw [HPT.out]; exact HO.out));replace H := H.join Hj;clear Hj hnd hvb hrs hcq hbb;replace H := H.lay_ 28 [.int .i64 next, .slice D L.length cq] rfl;obtain ⟨gv, hgv⟩ : ∃ x, x = wR.heap.size := ⟨_, rfl⟩;rw [← hgv] at H;have HGV := Lib.hid hgv;clear hgv;go_wp2_with fail;rw [← HGV.out];replace H := H.drew;have s0 := H.fa 0 0 rfl rfl;have s1 := H.fa 0 1 rfl rfl;have s2 := H.fa 4 0 rfl rfl;have s3 := H.fa 4 1 rfl rfl;refine wp_region_held_drew (S := fun w' => w'.cell? ⟨gv, 0, none⟩ = some (.int .i64 next) ∧ w'.cell? ⟨gv, 1, none⟩ = some (.slice D L.length cq) ∧ w'.cell? ⟨w.heap.size + 1, 0, none⟩ = some (.int .i64 seq) ∧ w'.cell? ⟨w.heap.size + 1, 1, none⟩ = some (.slice C outs.length d)) (by kernel_rfl) ?_ (fun hHeld => ?_)
      ·exact ⟨s0, s1, s2, s3⟩
      obtain ⟨u0, hu0⟩ : ∃ uu : World, uu = (wR.alloc (.cells #[.int .i64 next, .slice D L.length cq] 28)).drew := ⟨_, rfl⟩;rw [← hu0] at H hHeld ⊢;clear hu0;refine wpT 0 ?_;refine wpT 1 ?_;refine wpT 2 ?_;refine wpT 3 ?_;refine wpT 4 ?_;refine wpC 5 fun K hK => ?_;have e0 := H.bfree 5 rfl 0;have e1 := H.bfree 5 rfl 1;have e2 := H.fa 5 0 rfl rfl;have e3 := H.fa 5 1 rfl rfl;replace H := (H.bput 5 rfl 0 (.int .i64 next)).bput 5 rfl 1 (.slice D L.length cq);go_simp;refine hK.out _ _ ?_ fun hHeld => ?_
      ·exact ⟨H.fa 0 0 rfl rfl, H.fa 0 1 rfl rfl, H.fa 4 0 rfl rfl, H.fa 4 1 rfl rfl⟩
      clear hK K;(try simp only [sX, Act.put]);refine wpT 6 ?_;refine wpT 7 ?_;refine wpT 8 ?_;refine wpAnyH_done (by kernel_rfl) ?_ _;go_wp2_with fail
      ((try simp only [Exit.inBlock, Exit.then]); refine bodyPost_ret (results_cell_tmp3_row rfl _ _ w.heap.size 28 #[.int .i64 next, .slice D L.length cq] (0, 0) _ rfl (H.blk 5 rfl) Tryz.underlying28 rfl (by kernel_rfl)) rfl ?_)
      exact mountGave_yes HYS.out HND.out HVB.out HRS.out (fun x hx => (HOUT.out x hx).2.2) HO17.out HCQ.out HDD.out (H.sub (by simp))
 ·have hs0 : ¬ t0.size = 0 := fun e => hemp (ba_empty e)
  obtain ⟨hsa, hsb, hsc, hsd⟩ := nonempty_facts hs0;have HNE := Lib.hid (show r ≠ [] from fun e => hs0 (by rw [← HT0.out, e]; rfl));clear hemp hs0;go_enter Tryz.func6, Tryz.ntmps6;go_wp2_with fail;clear c0';refine (hcall _).mono ?_;clear hcall;rintro e wT hg;unfold ReadTGave at hg;obtain ⟨o, ho⟩ : ∃ o, readT r = o := ⟨_, rfl⟩;rw [ho] at hg;have HRT := Lib.hid ho;clear ho
  cases o with
  | none =>
    obtain ⟨rfl, fT⟩ := hg;have HNO := Lib.hid (mount_no1 HL.out (show logT l = none by rw [logT, HX0.out, if_neg HNE.out]; exact HRT.out));have H := (H0.go fT).lay_ 44 [.int .i64 0, .slice none 0 0] rfl;clear H0 fT;have e0 := H.fa 2 0 rfl rfl;have e1 := H.fa 2 1 rfl rfl;have f0 := H.bfree 2 rfl 0;have f1 := H.bfree 2 rfl 1;have H9 := H.bputs 2 rfl [.int .i64 0, .slice none 0 0] rfl;simp only [setsW] at H9;clear H;go_wp2_with fail
    ((try simp only [Exit.inBlock, Exit.then]); refine bodyPost_ret (results_cell_tmp3_row rfl _ _ w.heap.size 28 #[.int .i64 0, .slice none 0 0] (0, 0) _ rfl (H9.blk 2 rfl) Tryz.underlying28 rfl (by kernel_rfl)) rfl ?_)
    exact mountGave_no HNO.out (show Hp [] w _ [.row 34 2 (.slice none 0 0) 0 []] from (H9.sub (List.nil_sublist _)).nil_ 34 2)
  | some p9 =>
    obtain ⟨seq, outs⟩ := p9;obtain ⟨C, d, hsh, rfl, hcd, Hj⟩ := hg;have HLG := Lib.hid (show logT l = some (seq, outs) by rw [logT, HX0.out, if_neg HNE.out]; exact HRT.out);have HX := txnB_R (readT_ok HRT.out);have HOUT := Lib.hid HX.outs;have HO17 := Lib.hid HX.len.2;have ho17 : outs.length ≤ 17 := HX.len.2;have HDD := Lib.hid hcd;clear HX hsh;have H := (H0.join Hj).lay_ 44 [.int .i64 seq, .slice C outs.length d] rfl;clear H0 Hj;obtain ⟨gt, hgt⟩ : ∃ x, x = wT.heap.size := ⟨_, rfl⟩;rw [← hgt] at H;have HGT := Lib.hid hgt;clear hgt;have y7 := H.fa 0 0 rfl rfl;have y8 := H.fa 0 1 rfl rfl;have e0 := H.fa 2 0 rfl rfl;have e1 := H.fa 2 1 rfl rfl;have f0 := H.bfree 2 rfl 0;have f1 := H.bfree 2 rfl 1;have H9 := H.bputs 2 rfl [.int .i64 seq, .slice C outs.length d] rfl;simp only [setsW] at H9;rw [HGT.out] at y7 y8 H H9;have H6 := H9.tail;clear H H9;go_wp2_with fail;clear y7 y8 e0 e1 f0 f1;have H := H6;clear H6;refine (copyTextsM_any (some ⟨bk, of, none⟩) 17 c (l.take 17) _ (rd_take17 (HR.out.fr H.fr)) (fun h => nomatch h) (by omega)).mono ?_;rintro e wC ⟨B9, d9, rfl, oC, fC⟩;replace H := H.made oC fC;clear oC fC;obtain ⟨ga, cga, ea, _⟩ := H.form 0 rfl (by omega);injection ea with ea1 _ ea2;subst ea1 ea2;have y6 := H.fa 2 1 rfl rfl;have HS0 : Hp [] w wC [.row 9 1 (.slice (some ⟨ga, 0, none⟩) 17 d9) 17 ((putAll (l.take 17) (outs.take 0)).map Value.string), .row 34 2 (.slice C outs.length d) outs.length (outs.flatMap cWrite), .blk (w.heap.size + 1) 44 [.int .i64 seq, .slice C outs.length d], .blk w.heap.size 28 [.int .i64 0, .slice none 0 0]] := H;clear H;go_wp2_with fail
    go_loopw [40] (fun kv wr => ∃ k : Nat, kv = .int .i64 k ∧ k ≤ outs.length ∧ Hp [] w wr [.row 9 1 (.slice (some ⟨ga, 0, none⟩) 17 d9) 17 ((putAll (l.take 17) (outs.take k)).map Value.string), .row 34 2 (.slice C outs.length d) outs.length (outs.flatMap cWrite), .blk (w.heap.size + 1) 44 [.int .i64 seq, .slice C outs.length d], .blk w.heap.size 28 [.int .i64 0, .slice none 0 0]]) (fun kv _ => outs.length - (intOf kv).toNat)
    case atStart => exact ⟨0, rfl, by omega, HS0⟩
    case round =>
     clear HS0 y6;obtain ⟨k, rfl, hk, H⟩ := hrel;have hk0 : (0 : Int) ≤ (k : Int) := by omega
     have y6 := H.fa 2 1 rfl rfl;obtain ⟨T, hT⟩ : ∃ T, T = putAll (l.take 17) (outs.take k) := ⟨_, rfl⟩;have HT := Lib.hid hT;rw [← hT] at H;have HTL := Lib.hid (show T.length = 17 by rw [hT, putAll_len, List.length_take, HL.out]; rfl);clear hT
     by_cases hlt : k < outs.length
     ·have hlt1 : (k : Int) < (outs.length : Int) := by omega
      obtain ⟨⟨x0, x1⟩, hx⟩ := some_at rfl hlt;have hxb := HOUT.out _ (List.mem_of_getElem? hx);obtain ⟨z, hz⟩ : ∃ z : Nat, z = x0.toNat := ⟨_, rfl⟩;have hxz : x0 = (z : Int) := by have := hxb.1; simp only at this; omega
      have hz17 : z < 17 := by have := hxb.2.1; simp only at this; omega
      obtain rfl := hxz;have hz0 : (0 : Int) ≤ (z : Int) := by omega
      have hz1 : (z : Int) < 17 := by omega
      have HES := Lib.hid (show T.set z x1 = putAll (l.take 17) (outs.take (k + 1)) by
       rw [putAll_snoc hx, ← HT.out, ← hz])
      obtain ⟨g1, c1, e1, _⟩ := H.form 1 rfl (by omega);injection e1 with e11 _ e12;obtain ⟨yo, hyo⟩ := some_at HTL.out hz17;rw [e11] at H y6;have HE11 := Lib.hid e11;have ca0 := H.atL 1 rfl cWrite_len (r := 0) hx rfl;have ca1 := H.atL 1 rfl cWrite_len (r := 1) hx rfl;simp only [Nat.add_zero] at ca0;clear hx hxb hz;have H2 := H.lay_ 34 [.int .i64 (z : Int), .string x1] rfl;have t0 := H2.atM 1 rfl (j := z) hyo;have t1 := H2.free 1 rfl z;have H3 := H2.putM 1 rfl z x1;clear hyo;have H9 := Lib.hid H3.tail;clear H H2 H3;go_wp2_with fail;go_roundw
      case rel => exact ⟨k + 1, by go_num, by omega, by have h9 := H9.out; rw [HES.out, ← HE11.out] at h9; exact h9⟩
      case measure => simp [intOf]; omega
     ·have hlt1 : ¬ (k : Int) < (outs.length : Int) := by omega
      have HPT := Lib.hid (show putAll (l.take 17) outs = T by rw [HT.out, show outs.take k = outs from List.take_of_length_le (by omega)]);have HTS := Lib.hid (show ∀ t ∈ T, t.size ≤ 16777216 by
       rw [HT.out];exact putAll_sz (fun t ht => HSZ.out t (List.mem_of_mem_take ht)) (fun x hx => Nat.le_trans (HOUT.out x (List.mem_of_mem_take hx)).2.2 (by omega)))
      have HRW := Lib.hid (H.rd 0 rfl);go_wp2_with fail;refine (implReadBlocks_any (some ⟨ga, 0, none⟩) 17 d9 T _ HRW.out (by omega) HTS.out (HK.out.fr H.fr)).mono ?_;rintro e wR hg;unfold ReadGave at hg;clear y6;obtain ⟨o, ho⟩ : ∃ o, readB T = o := ⟨_, rfl⟩;rw [ho] at hg;have HO := Lib.hid ho;clear ho
      cases o with
      | none =>
        obtain ⟨rfl, fR⟩ := hg;have HNO := Lib.hid (mount_no2 HL.out HLG.out (by rw [HPT.out]; exact HO.out));replace H := (H.go fR).lay_ 28 [.int .i64 0, .slice none 0 0] rfl;clear fR;have e0 := H.fa 4 0 rfl rfl;have e1 := H.fa 4 1 rfl rfl;have f0 := H.bfree 4 rfl 0;have f1 := H.bfree 4 rfl 1;have H9 := H.bputs 4 rfl [.int .i64 0, .slice none 0 0] rfl;simp only [setsW] at H9;clear H;go_wp2_with fail
        ((try simp only [Exit.inBlock, Exit.then]); refine bodyPost_ret (results_cell_tmp3_row rfl _ _ w.heap.size 28 #[.int .i64 0, .slice none 0 0] (0, 0) _ rfl (H9.blk 4 rfl) Tryz.underlying28 rfl (by kernel_rfl)) rfl ?_)
        exact mountGave_no HNO.out (show Hp [] w _ [.row 34 2 (.slice none 0 0) 0 []] from (H9.sub (List.nil_sublist _)).nil_ 34 2)
      | some q9 =>
        obtain ⟨next, nds⟩ := q9;obtain ⟨D, cq, L, hnd, hvb, hbb, hrs, rfl, hcq, Hj⟩ := hg;have HND := Lib.hid hnd;have HVB := Lib.hid hvb;have HRS := Lib.hid hrs;have HCQ := Lib.hid hcq;have HYS := Lib.hid (mount_yes HL.out HLG.out (by rw [HPT.out]; exact HO.out));replace H := H.join Hj;clear Hj hnd hvb hrs hcq hbb;replace H := H.lay_ 28 [.int .i64 next, .slice D L.length cq] rfl;obtain ⟨gv, hgv⟩ : ∃ x, x = wR.heap.size := ⟨_, rfl⟩;rw [← hgv] at H;have HGV := Lib.hid hgv;clear hgv;go_wp2_with fail;rw [← HGV.out];replace H := H.drew;have s0 := H.fa 0 0 rfl rfl;have s1 := H.fa 0 1 rfl rfl;have s2 := H.fa 4 0 rfl rfl;have s3 := H.fa 4 1 rfl rfl;refine wp_region_held_drew (S := fun w' => w'.cell? ⟨gv, 0, none⟩ = some (.int .i64 next) ∧ w'.cell? ⟨gv, 1, none⟩ = some (.slice D L.length cq) ∧ w'.cell? ⟨w.heap.size + 1, 0, none⟩ = some (.int .i64 seq) ∧ w'.cell? ⟨w.heap.size + 1, 1, none⟩ = some (.slice C outs.length d)) (by kernel_rfl) ?_ (fun hHeld => ?_)
        ·exact ⟨s0, s1, s2, s3⟩
        obtain ⟨u0, hu0⟩ : ∃ uu : World, uu = (wR.alloc (.cells #[.int .i64 next, .slice D L.length cq] 28)).drew := ⟨_, rfl⟩;rw [← hu0] at H hHeld ⊢;clear hu0;refine wpT 0 ?_;refine wpT 1 ?_;refine wpT 2 ?_;refine wpT 3 ?_;refine wpT 4 ?_;refine wpC 5 fun K hK => ?_;have e0 := H.bfree 5 rfl 0;have e1 := H.bfree 5 rfl 1;have e2 := H.fa 5 0 rfl rfl;have e3 := H.fa 5 1 rfl rfl;replace H := (H.bput 5 rfl 0 (.int .i64 next)).bput 5 rfl 1 (.slice D L.length cq);go_simp;refine hK.out _ _ ?_ fun hHeld => ?_
        ·exact ⟨H.fa 0 0 rfl rfl, H.fa 0 1 rfl rfl, H.fa 4 0 rfl rfl, H.fa 4 1 rfl rfl⟩
        clear hK K;(try simp only [sX, Act.put]);refine wpT 6 ?_;refine wpT 7 ?_;refine wpT 8 ?_;refine wpAnyH_done (by kernel_rfl) ?_ _;go_wp2_with fail
        ((try simp only [Exit.inBlock, Exit.then]); refine bodyPost_ret (results_cell_tmp3_row rfl _ _ w.heap.size 28 #[.int .i64 next, .slice D L.length cq] (0, 0) _ rfl (H.blk 5 rfl) Tryz.underlying28 rfl (by kernel_rfl)) rfl ?_)
        exact mountGave_yes HYS.out HND.out HVB.out HRS.out (fun x hx => (HOUT.out x hx).2.2) HO17.out HCQ.out HDD.out (H.sub (by simp))
end Go.Proofs.YtmpldngnkacnmaaGreatDoor