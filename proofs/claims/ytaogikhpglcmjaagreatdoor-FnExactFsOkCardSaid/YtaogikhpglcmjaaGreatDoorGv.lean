/-
  Many texts in one: ReadTxnI, ReadBlocksI.
-/
import Derived.Test.YtaogikhpglcmjaaGreatDoorGr
import Derived.Test.YtaogikhpglcmjaaGreatDoorGu
import Derived.Test.YtaogikhpglcmjaaGreatDoorInodeOk
import Derived.Test.YtaogikhpglcmjaaGreatDoorVolOkI
import Derived.Test.YtaogikhpglcmjaaGreatDoorGs
namespace Go.Proofs.YtaogikhpglcmjaaGreatDoor
open Go.RowKit

set_option linter.unusedVariables false
set_option linter.unusedSimpArgs false
theorem outP_len (st : Sc) : (outP st).2.1.length ≤ st.1.length := Nat.le_trans (pieceP_len _) (numP_len st)
theorem outsP_sz (st : Sc) : ∀ k, (outsP st k).2.1.length ≤ st.1.length
  | 0 => Nat.le_refl _
  | k + 1 => Nat.le_trans (outP_len _) (outsP_sz st k)
/-- What ReadTxn hands back. -/
def ReadTGave (w : World) (r : List UInt8) (e : Ending) (w' : World) : Prop := match readT r with
  | none => e = .returned (.tuple #[.agg #[.int .i64 0, .slice none 0 0], .bool false]) ∧ Fr w w'
  | some p => ∃ (A : Option Addr) (c : Nat), showT p.1 p.2 = r ∧ e = .returned (.tuple #[.agg #[.int .i64 p.1, .slice A p.2.length c], .bool true]) ∧ p.2.length ≤ c ∧ Hp [] w w' [.row 61 2 (.slice A p.2.length c) p.2.length (p.2.flatMap cWrite)]
theorem readTGave_no {w w' : World} {r : List UInt8} (h : readT r = none) (f : Fr w w') : ReadTGave w r (.returned (.tuple #[.agg #[.int .i64 0, .slice none 0 0], .bool false])) w' := by
  unfold ReadTGave; rw [h]; exact ⟨rfl, f⟩
theorem readTGave_yes {w w' : World} {r : List UInt8} {seq : Int} {A : Option Addr} {c : Nat} {l : List WrT} (h : showT seq l = r) (hs : r ≠ []) (hc : l.length ≤ c) (H : Hp [] w w' [.row 61 2 (.slice A l.length c) l.length (l.flatMap cWrite)]) :
    ReadTGave w r (.returned (.tuple #[.agg #[.int .i64 seq, .slice A l.length c], .bool true])) w' := by
  unfold ReadTGave; rw [readT_yes h hs]
  exact ⟨A, c, h, rfl, hc, H⟩
set_option maxRecDepth 100000 in
set_option maxHeartbeats 8000000 in
theorem implReadTxn_any (r : List UInt8) (w : World) (hr : r.length ≤ 16777216) :
    Calls Tryz.prog 24 #[.string (ofB r)] w (ReadTGave w r) := by
  obtain ⟨q1, hq1⟩ : ∃ q : Sc, txP1 r = q := ⟨_, rfl⟩
  obtain ⟨n2, q2, hq2⟩ : ∃ (n : Nat) (q : Sc), txP2 r = (n, q) := ⟨_, _, rfl⟩
  obtain ⟨n3, q3, hq3⟩ : ∃ (n : Nat) (q : Sc), txP3 r = (n, q) := ⟨_, _, rfl⟩
  have E1 := Lib.hid (show (cutP (r, false) 5).2 = q1 from hq1)
  have E2 := Lib.hid (show numP q1 = (n2, q2) by rw [← hq2, txP2, hq1])
  have E3 := Lib.hid (show manyP q2 17 = (n3, q3) by rw [← hq3, txP3, hq2])
  have E4 := Lib.hid (show txP4 r = outsP q3 n3 by rw [txP4, hq3])
  have E2' := Lib.hid (show (txP2 r).1 = n2 by rw [hq2])
  have hn17 : n3 ≤ 17 := by have := manyP_le q2 17; rw [E3.out] at this; exact this
  have L1 : q1.1.length ≤ 16777216 := by rw [← E1.out]; exact Nat.le_trans (cutP_len _ _) hr
  have L2 : q2.1.length ≤ 16777216 := by have := numP_len q1; rw [E2.out] at this; exact Nat.le_trans this L1
  have L3 : q3.1.length ≤ 16777216 := by have := manyP_len q2 17; rw [E3.out] at this; exact Nat.le_trans this L2
  clear hq1 hq2 hq3
  have H0 := ((Hp.start w).lay_ 57 [.int .i64 0, .slice none 0 0] rfl).lay_ 96 (scanC (r, false)) (g := w.heap.size + 1) (by simp)
  go_enter Tryz.func24, Tryz.ntmps24
  go_wp2_with fail
  have hc := scanCut_any (w.heap.size + 1) r false 5 _ (H0.blk 0 rfl) (by omega)
  rw [show ((5 : Nat) : Int) = 5 from rfl] at hc
  refine hc.mono ?_
  rintro e wA ⟨rfl, K⟩
  rw [E1.out] at K
  have H := H0.turnBlk 0 rfl K
  clear K hc H0
  go_wp2_with fail
  refine (scanNumS (w.heap.size + 1) q1 _ (H.blk 0 rfl) (by omega)).mono ?_
  rintro e wB ⟨rfl, K⟩
  rw [E2.out] at K ⊢
  simp only at K ⊢
  replace H := H.turnBlk 0 rfl K
  clear K
  go_wp2_with fail
  have H2 := H.lay_ 57 [.int .i64 (n2 : Int), .slice none 0 0] rfl
  obtain ⟨gv, hgv⟩ : ∃ x, x = wB.heap.size := ⟨_, rfl⟩
  rw [← hgv] at H2 ⊢
  have HGV := Lib.hid hgv
  clear hgv H
  have H := H2
  clear H2
  have hc := scanMany_any (w.heap.size + 1) q2 17 _ (H.blk 1 rfl) (by omega)
  rw [show ((17 : Nat) : Int) = 17 from rfl] at hc
  refine hc.mono ?_
  rintro e wC ⟨rfl, K⟩
  rw [E3.out] at K ⊢
  simp only at K ⊢
  have H1_ := H.turnBlk 1 rfl K
  have H1 : Hp [] w wC [.row 61 2 (.slice none 0 0) (outsP q3 0).1.length ((outsP q3 0).1.flatMap cWrite), .blk gv 57 [.int .i64 (n2 : Int), (.slice none 0 0)], .blk (w.heap.size + 1) 96 (scanC (outsP q3 0).2), .blk w.heap.size 57 [.int .i64 0, .slice none 0 0]] := H1_.nil_ 61 2
  clear K hc H H1_
  go_wp2_with fail
  go_loopw [19] (fun kv wr => ∃ (k : Nat) (V : Value), kv = .int .i64 k ∧ k ≤ n3 ∧ Hp [] w wr [.row 61 2 V (outsP q3 k).1.length ((outsP q3 k).1.flatMap cWrite), .blk gv 57 [.int .i64 (n2 : Int), V], .blk (w.heap.size + 1) 96 (scanC (outsP q3 k).2), .blk w.heap.size 57 [.int .i64 0, .slice none 0 0]]) (fun kv _ => n3 - (intOf kv).toNat)
  case atStart => exact ⟨0, _, rfl, by omega, H1⟩
  case round =>
    clear H1
    obtain ⟨k, V, rfl, hk, H⟩ := hrel
    have hk0 : (0 : Int) ≤ (k : Int) := by omega
    obtain ⟨el, st, hst⟩ : ∃ (l : List WrT) (q : Sc), outsP q3 k = (l, q) := ⟨_, _, rfl⟩
    have S0 : st.1.length ≤ 16777216 := by have := outsP_sz q3 k; rw [hst] at this; exact Nat.le_trans this L3
    have hel : el.length ≤ k := by have := outsP_len q3 k; rw [hst] at this; exact Nat.le_of_eq this
    rw [hst] at H
    simp only at H
    by_cases hlt : k < n3
    · have hlt1 : (k : Int) < (n3 : Int) := by omega
      obtain ⟨m1, s1, hs1⟩ : ∃ (n : Nat) (q : Sc), numP st = (n, q) := ⟨_, _, rfl⟩
      obtain ⟨d2, s2, hs2⟩ : ∃ (n : List UInt8) (q : Sc), pieceP s1 = (n, q) := ⟨_, _, rfl⟩
      have S1 : s1.1.length ≤ 16777216 := by have := numP_len st; rw [hs1] at this; exact Nat.le_trans this S0
      have F1 := Lib.hid hs1
      have F2 := Lib.hid hs2
      have HES := Lib.hid (show outsP q3 (k + 1) = (el ++ [(((m1 : Int), ofB d2) : WrT)], s2) by
        rw [outsP, hst]
        simp only
        rw [outP, hs1]
        simp only
        rw [hs2])
      clear hst hs1 hs2
      go_wp2_with fail
      refine (scanNumS (w.heap.size + 1) st _ (H.blk 2 rfl) (by omega)).mono ?_
      rintro e wA ⟨rfl, K⟩
      rw [F1.out] at K ⊢
      simp only at K ⊢
      replace H := H.turnBlk 2 rfl K
      clear K
      go_wp2_with fail
      have H2 := H.lay_ 61 [.int .i64 (m1 : Int), .string (ByteArray.mk #[])] rfl
      obtain ⟨ge, hge⟩ : ∃ x, x = wA.heap.size := ⟨_, rfl⟩
      rw [← hge] at H2 ⊢
      have HGE := Lib.hid hge
      clear hge H
      have H := H2
      clear H2
      refine (scanPiece_any (w.heap.size + 1) s1 _ (H.blk 3 rfl) (by omega)).mono ?_
      rintro e wB ⟨rfl, K⟩
      rw [F2.out] at K ⊢
      simp only at K ⊢
      replace H := H.turnBlk 3 rfl K
      clear K
      have t0 := H.bat 0 rfl (j := 1) rfl
      have t1 := H.bfree 0 rfl 1
      have H5 := H.bput 0 rfl 1 (.string (ofB d2))
      have u0 := H5.bat 0 rfl (j := 0) rfl
      have u1 := H5.bat 0 rfl (j := 1) rfl
      have u4 := H5.bat 2 rfl (j := 1) rfl
      have HX5 : Hp [] w (wB.setCell ⟨ge, 1, none⟩ (.string (ofB d2))) [.blk ge 61 [.int .i64 (m1 : Int), .string (ofB d2)], .row 61 2 V el.length (el.flatMap cWrite), .blk gv 57 [.int .i64 (n2 : Int), V], .blk (w.heap.size + 1) 96 (scanC s2), .blk w.heap.size 57 [.int .i64 0, .slice none 0 0]] := H5
      clear H H5
      go_wp2_with (at_builtin; refine wp_appL (f := cWrite) (HX5) rfl _ _ _ rfl Tryz.underlying27 infoWrite rfl (by decide) 1 _ _ rfl rfl _ _ ((((m1 : Int), ofB d2) : WrT)) rfl (by simp) rfl (by simp [cWrite, Value.oneCell']) (by first | (simp only [maxLen]; omega) | (simp [maxLen]; done) | (simp [maxLen]; omega)) (by first | omega | (simp; done) | (simp; omega)) ?_)
      intro v' w6 H6
      have p0 := H6.bat 2 rfl (j := 1) rfl
      have p1 := H6.bfree 2 rfl 1
      have H7 := H6.bput 2 rfl 1 v'
      have H8 := Lib.hid (show Hp [] w (w6.setCell ⟨gv, 1, none⟩ v') [.row 61 2 v' (outsP q3 (k + 1)).1.length ((outsP q3 (k + 1)).1.flatMap cWrite), .blk gv 57 [.int .i64 (n2 : Int), v'], .blk (w.heap.size + 1) 96 (scanC (outsP q3 (k + 1)).2), .blk w.heap.size 57 [.int .i64 0, .slice none 0 0]] by rw [HES.out]; exact H7.tail.recast (by simp))
      obtain ⟨C9, q9, hv9⟩ := H6.shape 1 rfl
      clear HX5 H6 H7 t0 t1 u0 u1 u4
      subst hv9
      go_wp2_with fail
      go_roundw
      case rel => exact ⟨k + 1, _, by go_num, by omega, H8.out⟩
      case measure => simp [intOf]; omega
    · have hlt1 : ¬ (k : Int) < (n3 : Int) := by omega
      have HT4 := Lib.hid (show txP4 r = (el, st) by rw [E4.out, ← show k = n3 by omega, hst])
      clear hst
      obtain ⟨D, q, rfl⟩ := H.shape 0 rfl
      have HCAP := Lib.hid (own_cap (H.row 0 rfl))
      have HRW := Lib.hid (show ∀ w', Fr wr w' → Rd w' D el.length 2 (el.flatMap cWrite) from fun w' f => (H.rd 0 rfl).fr f)
      have y0 := H.bat 1 rfl (j := 0) rfl
      have y1 := H.bat 1 rfl (j := 1) rfl
      have y2 := H.bat 2 rfl (j := 1) rfl
      cases hbad : st.2 with
      | true =>
        rw [hbad] at y2
        have HNO := Lib.hid (readTI_no1 (s := r) (by rw [HT4.out]; exact hbad))
        have e0 := H.bat 3 rfl (j := 0) rfl
        have e1 := H.bat 3 rfl (j := 1) rfl
        have f0 := H.bfree 3 rfl 0
        have f1 := H.bfree 3 rfl 1
        have H9 := H.bputs 3 rfl [.int .i64 0, .slice none 0 0] rfl
        simp only [setsW] at H9
        clear H
        go_wp2_with fail
        ((try simp only [Exit.inBlock, Exit.then]); refine bodyPost_ret (results_cell_tmp_row rfl _ _ w.heap.size 57 #[.int .i64 0, .slice none 0 0] (0, 0) _ rfl (H9.blk 3 rfl) Tryz.underlying57 rfl (by kernel_rfl)) rfl ?_)
        exact readTGave_no HNO.out H9.fr
      | false =>
        rw [hbad] at y2
        clear hbad
        obtain ⟨S, hS⟩ : ∃ S, S = ofB r := ⟨_, rfl⟩
        rw [← hS]
        have HSS := Lib.hid hS
        by_cases h0 : r = []
        · have HNO := Lib.hid (show readT r = none by rw [h0]; exact readT_nil)
          have hse : S = ByteArray.mk #[] := by rw [hS, h0]; rfl
          clear hS
          subst hse
          clear h0
          have e0 := H.bat 3 rfl (j := 0) rfl
          have e1 := H.bat 3 rfl (j := 1) rfl
          have f0 := H.bfree 3 rfl 0
          have f1 := H.bfree 3 rfl 1
          have H9 := H.bputs 3 rfl [.int .i64 0, .slice none 0 0] rfl
          simp only [setsW] at H9
          clear H
          go_wp2_with fail
          ((try simp only [Exit.inBlock, Exit.then]); refine bodyPost_ret (results_cell_tmp_row rfl _ _ w.heap.size 57 #[.int .i64 0, .slice none 0 0] (0, 0) _ rfl (H9.blk 3 rfl) Tryz.underlying57 rfl (by kernel_rfl)) rfl ?_)
          exact readTGave_no HNO.out H9.fr
        · have hne : ¬ S = ByteArray.mk #[] := fun e => h0 (by
            have := congrArg toB (hS.symm.trans e)
            rwa [toB_ofB] at this)
          have hs0 : ¬ S.size = 0 := fun e => hne (ba_empty e)
          obtain ⟨hsa, hsb, hsc, hsd⟩ := nonempty_facts hs0
          clear hS hne hs0
          go_wp2_with fail
          refine (implShowTxn_any (n2 : Int) D el.length q el _ (HRW.out _ (Below.refl _ _)) (by omega)).mono ?_
          rintro e wV ⟨rfl, fV⟩
          obtain ⟨T, hT⟩ : ∃ T, T = ofB (showT (n2 : Int) el) := ⟨_, rfl⟩
          rw [← hT]
          have HT := Lib.hid hT
          clear hT y0 y1 y2
          replace H := H.go fV
          clear fV
          by_cases heq : T = S
          · have HYS := Lib.hid (show showT (n2 : Int) el = r from ofB_inj (by rw [← HT.out, heq, HSS.out]))
            subst heq
            have y0 := H.bat 1 rfl (j := 0) rfl
            have y1 := H.bat 1 rfl (j := 1) rfl
            have e0 := H.bat 3 rfl (j := 0) rfl
            have e1 := H.bat 3 rfl (j := 1) rfl
            have f0 := H.bfree 3 rfl 0
            have f1 := H.bfree 3 rfl 1
            have H9 := H.bputs 3 rfl [.int .i64 (n2 : Int), .slice D el.length q] rfl
            simp only [setsW] at H9
            clear H
            go_wp2_with fail
            ((try simp only [Exit.inBlock, Exit.then]); refine bodyPost_ret (results_cell_tmp_row rfl _ _ w.heap.size 57 #[.int .i64 (n2 : Int), .slice D el.length q] (0, 0) _ rfl (H9.blk 3 rfl) Tryz.underlying57 rfl (by kernel_rfl)) rfl ?_)
            exact readTGave_yes HYS.out h0 HCAP.out (H9.sub (by simp))
          · have hn1 : (T.toList == S.toList) = false := str_ne heq
            have hn2 : (T.toList != S.toList) = true := by simp only [bne, hn1]; rfl
            have HNO := Lib.hid (readTI_no2 (s := r) (by
              rw [E2'.out, HT4.out]
              intro e9
              exact heq (by rw [HT.out, e9, HSS.out])))
            clear heq
            have e0 := H.bat 3 rfl (j := 0) rfl
            have e1 := H.bat 3 rfl (j := 1) rfl
            have f0 := H.bfree 3 rfl 0
            have f1 := H.bfree 3 rfl 1
            have H9 := H.bputs 3 rfl [.int .i64 0, .slice none 0 0] rfl
            simp only [setsW] at H9
            clear H
            go_wp2_with fail
            ((try simp only [Exit.inBlock, Exit.then]); refine bodyPost_ret (results_cell_tmp_row rfl _ _ w.heap.size 57 #[.int .i64 0, .slice none 0 0] (0, 0) _ rfl (H9.blk 3 rfl) Tryz.underlying57 rfl (by kernel_rfl)) rfl ?_)
            exact readTGave_no HNO.out H9.fr
end Go.Proofs.YtaogikhpglcmjaaGreatDoor

namespace Go.Proofs.YtaogikhpglcmjaaGreatDoor
open Go.RowKit

set_option linter.unusedVariables false
set_option linter.unusedSimpArgs false
set_option maxRecDepth 100000 in
set_option maxHeartbeats 8000000 in
theorem implReadBlocks_any (A : Option Addr) (n c : Nat) (l : List ByteArray) (w : World) (h : Rd w A n 1 (l.map Value.string)) (hn : n ≤ 1048576) (hsz : ∀ t ∈ l, t.size ≤ 16777216) (hk : KT w) :
    Calls Tryz.prog 26 #[.slice A n c] w (ReadGave w l) := by
  have HL := Lib.hid h.len1
  have HR := Lib.hid h
  have HSZ := Lib.hid hsz
  have HK := Lib.hid hk
  clear hk hsz
  by_cases h17 : n = 17
  case neg =>
    have h171 : ¬ (n : Int) = 17 := by omega
    have h172 : ((n : Int) != 17) = true := bne_iff_ne.2 h171
    have HNO := Lib.hid (readB_len (l := l) (by rw [HL.out]; exact h17))
    have H := (Hp.start w).lay_ 26 [.int .i64 0, .slice none 0 0] rfl
    go_enter Tryz.func26, Tryz.ntmps26
    have e0 := H.bat 0 rfl (j := 0) rfl
    have e1 := H.bat 0 rfl (j := 1) rfl
    have f0 := H.bfree 0 rfl 0
    have f1 := H.bfree 0 rfl 1
    go_wp2_with fail
    ((try simp only [Exit.inBlock, Exit.then]); refine bodyPost_ret (results_cell_tmp_row rfl _ _ w.heap.size 26 #[.int .i64 0, .slice none 0 0] (0, 0) _ rfl (H.blk 0 rfl) Tryz.underlying26 rfl (by kernel_rfl)) rfl ?_)
    exact readGave_no HNO.out H.fr
  have h171 : (n : Int) = 17 := by omega
  have h172 : ((n : Int) != 17) = false := by rw [h171]; rfl
  obtain ⟨t0, ht0⟩ := some_at HL.out (show 0 < n by omega)
  obtain ⟨bk, of, rfl, c0⟩ := h.get1 ht0
  simp only [Nat.add_zero] at c0
  have H00 := (Hp.start w).lay_ 26 [.int .i64 0, .slice none 0 0] rfl
  have c0' := fr_cellM H00.fr c0
  have hs0 := HSZ.out t0 (List.mem_of_getElem? ht0)
  have HX0 := Lib.hid (txt_at ht0)
  clear h ht0 c0
  obtain ⟨r, hr⟩ : ∃ r, r = toB t0 := ⟨_, rfl⟩
  have hrl : r.length ≤ 16777216 := by rw [hr, toB_len]; exact hs0
  have HT0 := Lib.hid (show t0 = ofB r by rw [hr, ofB_toB])
  rw [← hr] at HX0
  obtain ⟨q1, hq1⟩ : ∃ q : Sc, hdP1 r = q := ⟨_, rfl⟩
  obtain ⟨n2, q2, hq2⟩ : ∃ (n : Nat) (q : Sc), hdP2 r = (n, q) := ⟨_, _, rfl⟩
  obtain ⟨n3, q3, hq3⟩ : ∃ (n : Nat) (q : Sc), hdP3 r = (n, q) := ⟨_, _, rfl⟩
  have E1 := Lib.hid (show (cutP (r, false) 1).2 = q1 from hq1)
  have E2 := Lib.hid (show numP q1 = (n2, q2) by rw [← hq2, hdP2, hq1])
  have E3 := Lib.hid (show manyP q2 16 = (n3, q3) by rw [← hq3, hdP3, hq2])
  have E2' := Lib.hid (show (hdP2 (txt l 0)).1 = n2 by rw [HX0.out, hq2])
  have E3' := Lib.hid (show hdP3 (txt l 0) = (n3, q3) by rw [HX0.out, hq3])
  have hn16 : n3 ≤ 16 := by have := manyP_le q2 16; rw [E3.out] at this; exact this
  have L1 : q1.1.length ≤ 1099511627776 := by rw [← E1.out]; exact Nat.le_trans (cutP_len _ _) (by simp only; omega)
  have L2 : q2.1.length ≤ 1099511627776 := by have := numP_len q1; rw [E2.out] at this; exact Nat.le_trans this L1
  clear hq1 hq2 hq3 hs0 hr
  subst h17
  have H0 := H00.lay_ 96 (scanC (r, false)) (g := w.heap.size + 1) (by simp)
  clear H00
  obtain rfl := HT0.out
  go_enter Tryz.func26, Tryz.ntmps26
  go_wp2_with fail
  clear c0'
  have hc := scanCut_any (w.heap.size + 1) r false 1 _ (H0.blk 0 rfl) (by omega)
  rw [show ((1 : Nat) : Int) = 1 from rfl] at hc
  refine hc.mono ?_
  rintro e wA ⟨rfl, K⟩
  rw [E1.out] at K
  have H := H0.turnBlk 0 rfl K
  clear K hc H0
  go_wp2_with fail
  refine (scanNumS (w.heap.size + 1) q1 _ (H.blk 0 rfl) L1).mono ?_
  rintro e wB ⟨rfl, K⟩
  rw [E2.out] at K ⊢
  simp only at K ⊢
  replace H := H.turnBlk 0 rfl K
  clear K
  go_wp2_with fail
  have H2 := H.lay_ 26 [.int .i64 (n2 : Int), .slice none 0 0] rfl
  obtain ⟨gv, hgv⟩ : ∃ x, x = wB.heap.size := ⟨_, rfl⟩
  rw [← hgv] at H2 ⊢
  have HGV := Lib.hid hgv
  clear hgv H
  have H := H2
  clear H2
  have hc := scanMany_any (w.heap.size + 1) q2 16 _ (H.blk 1 rfl) L2
  rw [show ((16 : Nat) : Int) = 16 from rfl] at hc
  refine hc.mono ?_
  rintro e wC ⟨rfl, K⟩
  rw [E3.out] at K ⊢
  simp only at K ⊢
  have H1_ := H.turnBlk 1 rfl K
  have H1 : Hp [] w wC [.row 90 5 (.slice none 0 0) ([] : List (Value × Nod)).length (([] : List (Value × Nod)).flatMap cNV), .many (([] : List (Value × Nod)).map rowE), .blk gv 26 [.int .i64 (n2 : Int), (.slice none 0 0)], .blk (w.heap.size + 1) 96 (scanC q3), .blk w.heap.size 26 [.int .i64 0, .slice none 0 0]] := H1_.many0.nil_ 90 5
  clear K hc H H1_
  go_wp2_with fail
  go_loopw [27] (fun kv wr => ∃ (k : Nat) (V : Value) (L : List (Value × Nod)), kv = .int .i64 k ∧ k ≤ n3 ∧ nodes L = nodesP l k ∧ ReadSz L ∧ Hp [] w wr [.row 90 5 V L.length (L.flatMap cNV), .many (L.map rowE), .blk gv 26 [.int .i64 (n2 : Int), V], .blk (w.heap.size + 1) 96 (scanC q3), .blk w.heap.size 26 [.int .i64 0, .slice none 0 0]]) (fun kv _ => n3 - (intOf kv).toNat)
  case atStart => exact ⟨0, _, [], rfl, by omega, rfl, fun p hp => by simp at hp, H1⟩
  case round =>
    clear H1
    obtain ⟨k, V, L, rfl, hk, hL, hLs, H⟩ := hrel
    have HLN := Lib.hid hL
    have HLS := Lib.hid hLs
    have hll : L.length ≤ k := by rw [← nodes_len, hL, nodesP_len]; exact Nat.le_refl _
    clear hL hLs
    have hk0 : (0 : Int) ≤ (k : Int) := by omega
    by_cases hlt : k < n3
    · have hlt1 : (k : Int) < (n3 : Int) := by omega
      obtain ⟨p, hp1, hp2⟩ : ∃ p : Nat, k + 1 ≤ p ∧ p ≤ k + 1 := ⟨k + 1, Nat.le_refl _, Nat.le_refl _⟩
      have hp3 : (k : Int) + 1 = (p : Int) := by omega
      have hp4 : IntKind.i64.wrap ((k : Int) + 1) = (p : Int) := by rw [hp3]; exact IntWalk.i64_in _ (by omega)
      have hp5 : (0 : Int) ≤ (p : Int) := by omega
      have hp6 : (p : Int) < 17 := by omega
      obtain ⟨t, ht⟩ := some_at HL.out (show p < 17 by omega)
      obtain ⟨bk', of', ea, ct⟩ := (HR.out.fr H.fr).get1 ht
      injection ea with ea; injection ea with ea eb; subst ea eb
      have hst := HSZ.out t (List.mem_of_getElem? ht)
      have HTX := Lib.hid (show txt l (k + 1) = toB t by rw [show k + 1 = p by omega]; exact txt_at ht)
      obtain ⟨⟨⟨x0, x1, x2, x3, xs⟩, ok⟩, hX⟩ : ∃ X, X = nodR (toB t) := ⟨_, rfl⟩
      have HX := Lib.hid hX
      clear ht hX
      go_wp2_with fail
      have hc := implInodeOf_any (toB t) wr (by rw [toB_len]; exact hst) (HK.out.fr H.fr)
      rw [ofB_toB, ← HX.out] at hc
      simp only at hc
      refine hc.mono ?_
      rintro e wD ⟨V', rfl, K⟩
      replace H := H.join K
      clear K hc ct
      obtain ⟨C, q, rfl⟩ := H.shape 0 rfl
      cases ok with
      | false =>
        have HNO := Lib.hid (readI_no2 (l := l) (k := k) (by rw [E3'.out]; exact hlt) (by rw [HTX.out, ← HX.out]))
        have H2 := H.lay_ 90 [.int .i64 x0, .int .i64 x1, .int .i64 x2, .string x3, .slice C xs.length q] rfl
        clear H
        have H := H2
        clear H2
        have e0 := H.bat 6 rfl (j := 0) rfl
        have e1 := H.bat 6 rfl (j := 1) rfl
        have f0 := H.bfree 6 rfl 0
        have f1 := H.bfree 6 rfl 1
        have H9 := H.bputs 6 rfl [.int .i64 0, .slice none 0 0] rfl
        simp only [setsW] at H9
        clear H
        go_wp2_with fail
        ((try simp only [Exit.inBlock, Exit.then]); refine bodyPost_ret (results_cell_tmp_row rfl _ _ w.heap.size 26 #[.int .i64 0, .slice none 0 0] (0, 0) _ rfl (H9.blk 6 rfl) Tryz.underlying26 rfl (by kernel_rfl)) rfl ?_)
        exact readGave_no HNO.out H9.fr
      | true =>
        have H2 := H.lay_ 90 [.int .i64 x0, .int .i64 x1, .int .i64 x2, .string x3, .slice C xs.length q] rfl
        obtain ⟨gb, hgb⟩ : ∃ x, x = wD.heap.size := ⟨_, rfl⟩
        rw [← hgb] at H2
        have HGB := Lib.hid hgb
        clear hgb H
        have b0 := H2.bat 0 rfl (j := 0) rfl
        have b1 := H2.bat 0 rfl (j := 1) rfl
        have b2 := H2.bat 0 rfl (j := 2) rfl
        have b3 := H2.bat 0 rfl (j := 3) rfl
        have b4 := H2.bat 0 rfl (j := 4) rfl
        have b5 := H2.bat 4 rfl (j := 1) rfl
        have H3 := H2
        rw [HGB.out] at H3 b0 b1 b2 b3 b4
        clear H2
        go_wp2_with (at_builtin; refine wp_appL (f := cNV) (H3) rfl _ _ _ rfl Tryz.underlying24 infoInode rfl (by decide) 2 _ _ rfl rfl _ _ (((.slice C xs.length q, (x0, x1, x2, x3, xs)) : Value × Nod)) rfl (by simp) rfl (by simp [cNV, Value.oneCell']) (by first | (simp only [maxLen]; omega) | (simp [maxLen]; done) | (simp [maxLen]; omega)) (by first | omega | (simp; done) | (simp; omega)) ?_)
        intro v' w6 H6
        have p0 := H6.bat 4 rfl (j := 1) rfl
        have p1 := H6.bfree 4 rfl 1
        have H7 := (H6.bput 4 rfl 1 v').tail
        have H8_ := Hp.push (r := rowE (.slice C xs.length q, (x0, x1, x2, x3, xs))) H7 1 rfl
        have H8 := Lib.hid (show Hp [] w (w6.setCell ⟨gv, 1, none⟩ v') [.row 90 5 v' (L ++ [((.slice C xs.length q, (x0, x1, x2, x3, xs)) : Value × Nod)]).length ((L ++ [((.slice C xs.length q, (x0, x1, x2, x3, xs)) : Value × Nod)]).flatMap cNV), .many ((L ++ [((.slice C xs.length q, (x0, x1, x2, x3, xs)) : Value × Nod)]).map rowE), .blk gv 26 [.int .i64 (n2 : Int), v'], .blk (w.heap.size + 1) 96 (scanC q3), .blk w.heap.size 26 [.int .i64 0, .slice none 0 0]] from H8_.recast (by simp))
        have HLN2 := Lib.hid (show nodes (L ++ [((.slice C xs.length q, (x0, x1, x2, x3, xs)) : Value × Nod)]) = nodesP l (k + 1) by
          rw [nodes_snoc, nodesP_take, HLN.out, HTX.out, ← HX.out])
        have HLS2 := Lib.hid (show ReadSz (L ++ [((.slice C xs.length q, (x0, x1, x2, x3, xs)) : Value × Nod)]) by
          have := HLS.out.snoc (V := .slice C xs.length q) (t := toB t) (by rw [toB_len]; exact hst)
          rw [← HX.out] at this
          exact this)
        obtain ⟨C9, q9, hv9⟩ := H6.shape 2 rfl
        clear H3 H6 H7 H8_ b0 b1 b2 b3 b4 b5
        subst hv9
        go_wp2_with fail
        go_roundw
        case rel => exact ⟨k + 1, _, _, by go_num, by omega, HLN2.out, HLS2.out, H8.out⟩
        case measure => simp [intOf]; omega
    · have hlt1 : ¬ (k : Int) < (n3 : Int) := by omega
      obtain ⟨D, q, rfl⟩ := H.shape 0 rfl
      have hcap : L.length ≤ q := own_cap (H.row 0 rfl)
      have HC9 := Lib.hid hcap
      have hl16 : L.length ≤ 16 := by omega
      have HN := Lib.hid (Hp.join2 (r := rowN (.slice D L.length q) L.length L) H)
      have HRN := Lib.hid (show RdN wr D L.length L from HN.out.rdN 0 rfl)
      have HKN := Lib.hid (show nodesP l (hdP3 (txt l 0)).1 = nodes L by rw [E3'.out, show n3 = k by omega, HLN.out])
      have y0 := H.bat 2 rfl (j := 0) rfl
      have y1 := H.bat 2 rfl (j := 1) rfl
      have y2 := H.bat 3 rfl (j := 1) rfl
      cases hbad : q3.2 with
      | true =>
        rw [hbad] at y2
        have HNO := Lib.hid (readI_no1 (l := l) (by rw [E3'.out]; exact hbad))
        have e0 := H.bat 4 rfl (j := 0) rfl
        have e1 := H.bat 4 rfl (j := 1) rfl
        have f0 := H.bfree 4 rfl 0
        have f1 := H.bfree 4 rfl 1
        have H9 := H.bputs 4 rfl [.int .i64 0, .slice none 0 0] rfl
        simp only [setsW] at H9
        clear H
        go_wp2_with fail
        ((try simp only [Exit.inBlock, Exit.then]); refine bodyPost_ret (results_cell_tmp_row rfl _ _ w.heap.size 26 #[.int .i64 0, .slice none 0 0] (0, 0) _ rfl (H9.blk 4 rfl) Tryz.underlying26 rfl (by kernel_rfl)) rfl ?_)
        exact readGave_no HNO.out H9.fr
      | false =>
        rw [hbad] at y2
        go_wp2_with fail
        refine (implVolOk_any (n2 : Int) D L.length q L _ HRN.out (by omega) HC9.out HLS.out.few (fun p hp => (HLS.out p hp).2.2) (HK.out.fr H.fr)).mono ?_
        rintro e wV ⟨rfl, fV⟩
        obtain ⟨vb, hvb⟩ : ∃ b, volB (n2 : Int) (nodes L) = b := ⟨_, rfl⟩
        have HVB := Lib.hid hvb
        rw [hvb]
        clear hvb y0 y1 y2
        replace H := H.go fV
        have HN2 := Lib.hid (HN.out.go fV)
        have HRN2 := Lib.hid (HRN.out.fr fV)
        clear fV
        cases vb with
        | false =>
          have HNO := Lib.hid (readI_no3 (l := l) (by rw [E2'.out, HKN.out]; exact HVB.out))
          have e0 := H.bat 4 rfl (j := 0) rfl
          have e1 := H.bat 4 rfl (j := 1) rfl
          have f0 := H.bfree 4 rfl 0
          have f1 := H.bfree 4 rfl 1
          have H9 := H.bputs 4 rfl [.int .i64 0, .slice none 0 0] rfl
          simp only [setsW] at H9
          clear H
          go_wp2_with fail
          ((try simp only [Exit.inBlock, Exit.then]); refine bodyPost_ret (results_cell_tmp_row rfl _ _ w.heap.size 26 #[.int .i64 0, .slice none 0 0] (0, 0) _ rfl (H9.blk 4 rfl) Tryz.underlying26 rfl (by kernel_rfl)) rfl ?_)
          exact readGave_no HNO.out H9.fr
        | true =>
          have y0 := H.bat 2 rfl (j := 0) rfl
          have y1 := H.bat 2 rfl (j := 1) rfl
          go_wp2_with fail
          refine (volBlocks_any (n2 : Int) D L.length q L _ HRN2.out (by omega) HLS.out.nod).mono ?_
          rintro e wW ⟨B, d, rfl, oW, fW⟩
          clear y0 y1
          obtain ⟨bl, hbl⟩ : ∃ x, x = blocksB (n2 : Int) (nodes L) := ⟨_, rfl⟩
          rw [← hbl] at oW
          have HBL := Lib.hid hbl
          have HRB := Lib.hid (Rd.of_own oW)
          replace H := H.go fW
          have HN3 := Lib.hid (HN2.out.go fW)
          clear hbl oW fW
          go_wp2_with fail
          refine (implSame_any B (some ⟨bk, of, none⟩) 17 d 17 c bl l _ HRB.out (HR.out.fr H.fr) (by omega) (by omega)).mono ?_
          rintro e wS ⟨rfl, fS⟩
          replace H := H.go fS
          have HN4 := Lib.hid (HN3.out.go fS)
          clear fS
          obtain ⟨sb, hsb⟩ : ∃ b, sameB bl l = b := ⟨_, rfl⟩
          have HSB := Lib.hid hsb
          rw [hsb]
          clear hsb
          cases sb with
          | false =>
            have HNO := Lib.hid (readI_no4 (l := l) (by
              rw [E2'.out, HKN.out, ← HBL.out]
              intro e9
              have := HSB.out
              rw [sameB_iff.2 e9] at this
              cases this))
            have e0 := H.bat 4 rfl (j := 0) rfl
            have e1 := H.bat 4 rfl (j := 1) rfl
            have f0 := H.bfree 4 rfl 0
            have f1 := H.bfree 4 rfl 1
            have H9 := H.bputs 4 rfl [.int .i64 0, .slice none 0 0] rfl
            simp only [setsW] at H9
            clear H
            go_wp2_with fail
            ((try simp only [Exit.inBlock, Exit.then]); refine bodyPost_ret (results_cell_tmp_row rfl _ _ w.heap.size 26 #[.int .i64 0, .slice none 0 0] (0, 0) _ rfl (H9.blk 4 rfl) Tryz.underlying26 rfl (by kernel_rfl)) rfl ?_)
            exact readGave_no HNO.out H9.fr
          | true =>
            have HB9 := Lib.hid (show blocksB (n2 : Int) (nodes L) = l by rw [← HBL.out]; exact sameB_iff.1 HSB.out)
            have y0 := H.bat 2 rfl (j := 0) rfl
            have y1 := H.bat 2 rfl (j := 1) rfl
            have e0 := H.bat 4 rfl (j := 0) rfl
            have e1 := H.bat 4 rfl (j := 1) rfl
            have f0 := H.bfree 4 rfl 0
            have f1 := H.bfree 4 rfl 1
            have H9 := HN4.out.bputs 3 rfl [.int .i64 (n2 : Int), .slice D L.length q] rfl
            simp only [setsW] at H9
            clear H
            go_wp2_with fail
            ((try simp only [Exit.inBlock, Exit.then]); refine bodyPost_ret (results_cell_tmp_row rfl _ _ w.heap.size 26 #[.int .i64 (n2 : Int), .slice D L.length q] (0, 0) _ rfl (H9.blk 3 rfl) Tryz.underlying26 rfl (by kernel_rfl)) rfl ?_)
            exact readGave_yes HVB.out HB9.out HLS.out HC9.out (H9.sub (List.cons_sublist_cons.2 (List.nil_sublist _)))
end Go.Proofs.YtaogikhpglcmjaaGreatDoor
