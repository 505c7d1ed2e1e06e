/-
  Many texts in one: ReadBlocksS, FsE.
-/
import Derived.Test.YtaogikhpglcmjaaGreatDoorParse
import Derived.Test.YtaogikhpglcmjaaGreatDoorVolOkS
import Derived.Test.YtaogikhpglcmjaaGreatDoorGs
import Derived.Test.YtaogikhpglcmjaaGreatDoorGq
import Derived.Test.YtaogikhpglcmjaaGreatDoorGt
import Derived.Test.YtaogikhpglcmjaaGreatDoorGw
namespace Go.Proofs.YtaogikhpglcmjaaGreatDoor
open Go.RowKit

set_option linter.unusedVariables false
set_option linter.unusedSimpArgs false
theorem list2 {l : List Nat} (h : l.length = 2) : ∃ x0 x1, l = [x0, x1] := by
  match l, h with
  | [a, b], _ => exact ⟨a, b, rfl⟩
theorem prsEs_names (s : List UInt8) (o : Option Nat) : ∀ k, ∀ e ∈ (prsEs s o k).1, e.2.2.1.size ≤ s.length
  | 0, e, he => by simp [prsEs] at he
  | k + 1, e, he => by
    rw [prsEs] at he
    rcases List.mem_append.1 he with h | h
    · exact prsEs_names s o k e h
    · rw [List.mem_singleton.1 h]
      show (ofB (takeP s (varsP s (prsEs s o k).2 1).2).1).size ≤ _
      rw [ofB_size]; exact take_size
theorem ReadSz.snocS {L : List (Value × Nod)} (h : ReadSz L) {V : Value} {t : List UInt8} (ht : t.length ≤ 16777216) (h12 : (prN t).2.2.2.2.length ≤ 12) : ReadSz (L ++ [(V, prN t)]) := fun p hp => by
  rcases List.mem_append.1 hp with h1 | h1
  · exact h p h1
  · rw [List.mem_singleton.1 h1]
    refine ⟨?_, h12, fun e he => Nat.le_trans (prsEs_names _ _ _ e he) ht⟩
    show (ofB (prB t).1).size ≤ _
    rw [ofB_size]
    exact Nat.le_trans take_size ht
/-- What VolBlocks hands back. -/
def VBGave (w : World) (next : Int) (L : List (Value × Nod)) (e : Ending) (w' : World) : Prop := ∃ (B : Option Addr) (m d : Nat) (bl : List ByteArray), e = .returned (.slice B m d) ∧ bl = (if volB next (nodes L) = true then blocksB next (nodes L) else []) ∧ m ≤ 17 ∧ w'.ownsRow w.heap.size 9 1 (.slice B m d) m (bl.map Value.string) ∧ Fr w w'
set_option maxRecDepth 100000 in
set_option maxHeartbeats 2000000 in
theorem specVolBlocks_any (next : Int) (A : Option Addr) (n c : Nat) (L : List (Value × Nod)) (w : World) (h : RdN w A n L) (hn : n ≤ 1048576) (hnc : n ≤ c) (hs : ReadSz L) :
    Calls Tryz.prog 55 #[.agg #[.int .i64 next, .slice A n c]] w (VBGave w next L) := by
  have H := (Hp.start w).lay_ 26 [.int .i64 next, .slice A n c] rfl
  have y0 := H.bat 0 rfl (j := 0) rfl
  have y1 := H.bat 0 rfl (j := 1) rfl
  have HR := Lib.hid h
  have HS := Lib.hid hs
  clear h hs
  obtain ⟨vb, hvb⟩ : ∃ b, volB next (nodes L) = b := ⟨_, rfl⟩
  have HVB := Lib.hid hvb
  clear hvb
  go_enter Tryz.func55, Tryz.ntmps55
  go_wp2_with fail
  refine (specVolOk_any next A n c L _ (HR.out.fr H.fr) hn hnc HS.out.few (fun p hp => (HS.out p hp).2.2)).mono ?_
  rintro e w1 ⟨rfl, f1⟩
  rw [HVB.out]
  replace H := H.go f1
  clear f1 y0 y1
  cases vb with
  | false =>
    have H2 := H.lit0 9 1
    go_wp2_with fail
    go_ret
    unfold VBGave
    exact ⟨_, _, _, [], rfl, by rw [HVB.out]; rfl, by omega, H2.out 0 rfl, H2.fr⟩
  | true =>
    have y0 := H.bat 0 rfl (j := 0) rfl
    have y1 := H.bat 0 rfl (j := 1) rfl
    go_wp2_with fail
    refine (l7Blocks_any next A n c L _ (HR.out.fr H.fr) hn HS.out.nod).mono ?_
    rintro e w2 ⟨B, d, rfl, o2, f2⟩
    have H2 := Lib.hid (H.made o2 f2)
    clear o2 f2 y0 y1
    go_wp2_with fail
    go_ret
    unfold VBGave
    exact ⟨_, _, _, blocksB next (nodes L), rfl, by rw [if_pos HVB.out], by omega, H2.out.out 0 rfl, H2.out.fr⟩
set_option maxRecDepth 100000 in
set_option maxHeartbeats 8000000 in
theorem specReadBlocks_any (A : Option Addr) (n c : Nat) (l : List ByteArray) (w : World) (h : Rd w A n 1 (l.map Value.string)) (hn : n ≤ 1048576) (hsz : ∀ t ∈ l, t.size ≤ 16777216) :
    Calls Tryz.prog 23 #[.slice A n c] w (ReadGave w l) := by
  have HL := Lib.hid h.len1
  have HR := Lib.hid h
  have HSZ := Lib.hid hsz
  clear hsz
  by_cases h17 : n = 17
  case neg =>
    have h171 : ¬ (n : Int) = 17 := by omega
    have h172 : ((n : Int) != 17) = true := bne_iff_ne.2 h171
    have HNO := Lib.hid (readB_len (l := l) (by rw [HL.out]; exact h17))
    have H := (Hp.start w).lay_ 26 [.int .i64 0, .slice none 0 0] rfl
    go_enter Tryz.func23, Tryz.ntmps23
    have e0 := H.bat 0 rfl (j := 0) rfl
    have e1 := H.bat 0 rfl (j := 1) rfl
    have f0 := H.bfree 0 rfl 0
    have f1 := H.bfree 0 rfl 1
    go_wp2_with fail
    ((try simp only [Exit.inBlock, Exit.then]); refine bodyPost_ret (results_cell_tmp_row rfl _ _ w.heap.size 26 #[.int .i64 0, .slice none 0 0] (0, 0) _ rfl (H.blk 0 rfl) Tryz.underlying26 rfl (by kernel_rfl)) rfl ?_)
    exact readGave_no HNO.out H.fr
  have h171 : (n : Int) = 17 := by omega
  have h172 : ((n : Int) != 17) = false := by rw [h171]; rfl
  obtain ⟨t0, ht0⟩ := some_at HL.out (show 0 < n by omega)
  obtain ⟨bk, of, rfl, c0⟩ := h.get1 ht0
  simp only [Nat.add_zero] at c0
  have H0 := (Hp.start w).lay_ 26 [.int .i64 0, .slice none 0 0] rfl
  have c0' := fr_cellM H0.fr c0
  have hs0 := HSZ.out t0 (List.mem_of_getElem? ht0)
  have HX0 := Lib.hid (txt_at ht0)
  clear h ht0 c0
  obtain ⟨r, hr⟩ : ∃ r, r = toB t0 := ⟨_, rfl⟩
  have hrl : r.length ≤ 16777216 := by rw [hr, toB_len]; exact hs0
  have HT0 := Lib.hid (show t0 = ofB r by rw [hr, ofB_toB])
  rw [← hr] at HX0
  obtain ⟨A, hA⟩ : ∃ A, prH r = A := ⟨_, rfl⟩
  have EA := Lib.hid (show varsP r (some 1) 2 = A from hA)
  have EA' := Lib.hid (show prH (txt l 0) = A by rw [HX0.out, hA])
  clear hA hs0 hr
  subst h17
  obtain rfl := HT0.out
  have hsz0 : (ofB r).size ≤ 1099511627776 := by rw [ofB_size]; omega
  go_enter Tryz.func23, Tryz.ntmps23
  go_wp2_with fail
  clear c0'
  have hc := specVars_any (ofB r) (some 1) 2 (w.alloc (.cells #[.int .i64 0, .slice none 0 0] 26)) hsz0 (fun b hb => by injection hb with hb; omega) (by omega)
  rw [toB_ofB, EA.out, show plZ (some 1) = 1 from rfl, show ((2 : Nat) : Int) = 2 from rfl] at hc
  refine hc.mono ?_
  rintro e w1 ⟨Aa, ca, rfl, o1, f1⟩
  have H := H0.made o1 f1
  clear hc o1 f1 H0
  obtain ⟨la, ao⟩ := A
  simp only at H ⊢
  cases ao with
  | none =>
    have HNO := Lib.hid (readS_no1 (l := l) (by rw [EA'.out]))
    have hm1 : plZ none = -1 := rfl
    rw [hm1]
    have e0 := H.bat 1 rfl (j := 0) rfl
    have e1 := H.bat 1 rfl (j := 1) rfl
    have f0 := H.bfree 1 rfl 0
    have f1 := H.bfree 1 rfl 1
    have H9 := H.bputs 1 rfl [.int .i64 0, .slice none 0 0] rfl
    simp only [setsW] at H9
    clear H
    go_wp2_with fail
    ((try simp only [Exit.inBlock, Exit.then]); refine bodyPost_ret (results_cell_tmp_row rfl _ _ w.heap.size 26 #[.int .i64 0, .slice none 0 0] (0, 0) _ rfl (H9.blk 1 rfl) Tryz.underlying26 rfl (by kernel_rfl)) rfl ?_)
    exact readGave_no HNO.out H9.fr
  | some a =>
    have hal : la.length = 2 := by have := vars_len (s := r) (o := some 1) (k := 2) (a := a) (by rw [EA.out]); rwa [EA.out] at this
    obtain ⟨n2, n3, hax⟩ : ∃ n2 n3, la = [n2, n3] := list2 hal
    subst hax
    have hb2 : n3 ≤ 562949953421311 := by have := vars_bound r (some 1) 2 n3 (by rw [EA.out]; simp); exact this
    have hk : plZ (some a) = (a : Int) := rfl
    rw [hk]
    clear hk hal
    obtain ⟨ga, cga, ea, _⟩ := H.form 0 rfl (by simp)
    injection ea with ea1 _ ea2
    subst ea1 ea2
    have z0 := H.atM (f1 := intN) 0 rfl (j := 0) rfl
    have z1 := H.atM (f1 := intN) 0 rfl (j := 1) rfl
    simp only [intN] at z0 z1
    have E2' := Lib.hid (show (prH (txt l 0)).1.getD 0 0 = n2 by rw [EA'.out]; rfl)
    have E3' := Lib.hid (show (prH (txt l 0)).1.getD 1 0 = n3 by rw [EA'.out]; rfl)
    have a0 : (0 : Int) ≤ (a : Int) := by omega
    have a1 : ¬ (a : Int) < 0 := by omega
    by_cases h16 : 16 < n3
    · have h161 : (16 : Int) < (n3 : Int) := by omega
      have HNO := Lib.hid (readS_no2 (l := l) (by rw [E3'.out]; exact h16))
      have e0 := H.bat 1 rfl (j := 0) rfl
      have e1 := H.bat 1 rfl (j := 1) rfl
      have f0 := H.bfree 1 rfl 0
      have f1 := H.bfree 1 rfl 1
      have H9 := H.bputs 1 rfl [.int .i64 0, .slice none 0 0] rfl
      simp only [setsW] at H9
      clear H
      go_wp2_with fail
      ((try simp only [Exit.inBlock, Exit.then]); refine bodyPost_ret (results_cell_tmp_row rfl _ _ w.heap.size 26 #[.int .i64 0, .slice none 0 0] (0, 0) _ rfl (H9.blk 1 rfl) Tryz.underlying26 rfl (by kernel_rfl)) rfl ?_)
      exact readGave_no HNO.out H9.fr
    · have h161 : ¬ (16 : Int) < (n3 : Int) := by omega
      have H2 := H.lay_ 26 [.int .i64 (n2 : Int), .slice none 0 0] rfl
      have H3 := H2.many0.nil_ 90 5
      obtain ⟨gv, hgv⟩ : ∃ x, x = w1.heap.size := ⟨_, rfl⟩
      rw [← hgv] at H3
      have HGV := Lib.hid hgv
      have H1 : Hp [] w (w1.alloc (.cells #[.int .i64 (n2 : Int), .slice none 0 0] 26)) [.row 90 5 (.slice none 0 0) ([] : List (Value × Nod)).length (([] : List (Value × Nod)).flatMap cNV), .many (([] : List (Value × Nod)).map rowE), .blk gv 26 [.int .i64 (n2 : Int), (.slice none 0 0)], .row 3 1 (.slice (some ⟨ga, 0, none⟩) 2 ca) 2 ([n2, n3].map intN), .blk w.heap.size 26 [.int .i64 0, .slice none 0 0]] := H3
      clear hgv H H2 H3
      go_wp2_with fail
      rw [← HGV.out]
      go_loopw [7] (fun kv wr => ∃ (k : Nat) (V : Value) (L : List (Value × Nod)), kv = .int .i64 k ∧ k ≤ n3 ∧ nodes L = prNs l k ∧ ReadSz L ∧ Hp [] w wr [.row 90 5 V L.length (L.flatMap cNV), .many (L.map rowE), .blk gv 26 [.int .i64 (n2 : Int), V], .row 3 1 (.slice (some ⟨ga, 0, none⟩) 2 ca) 2 ([n2, n3].map intN), .blk w.heap.size 26 [.int .i64 0, .slice none 0 0]]) (fun kv _ => n3 - (intOf kv).toNat)
      case atStart => exact ⟨0, _, [], rfl, by omega, rfl, fun p hp => by simp at hp, H1⟩
      case round =>
        clear H1 z0 z1
        obtain ⟨k, V, L, rfl, hk, hL, hLs, H⟩ := hrel
        have HLN := Lib.hid hL
        have HLS := Lib.hid hLs
        have hll : L.length ≤ k := by rw [← nodes_len, hL, prNs_len]; exact Nat.le_refl _
        clear hL hLs
        have hk0 : (0 : Int) ≤ (k : Int) := by omega
        have z1 := H.atM (f1 := intN) 3 rfl (j := 1) rfl
        simp only [intN] at z1
        by_cases hlt : k < n3
        · have hlt1 : (k : Int) < (n3 : Int) := by omega
          obtain ⟨p, hp1, hp2⟩ : ∃ p : Nat, k + 1 ≤ p ∧ p ≤ k + 1 := ⟨k + 1, Nat.le_refl _, Nat.le_refl _⟩
          have hp3 : (1 : Int) + (k : Int) = (p : Int) := by omega
          have hp4 : IntKind.i64.wrap ((1 : Int) + (k : Int)) = (p : Int) := by rw [hp3]; exact IntWalk.i64_in _ (by omega)
          have hp5 : (0 : Int) ≤ (p : Int) := by omega
          have hp6 : (p : Int) < 17 := by omega
          obtain ⟨t, ht⟩ := some_at HL.out (show p < 17 by omega)
          obtain ⟨bk', of', ea, ct⟩ := (HR.out.fr H.fr).get1 ht
          injection ea with ea; injection ea with ea eb; subst ea eb
          have hst := HSZ.out t (List.mem_of_getElem? ht)
          have HTX := Lib.hid (show txt l (k + 1) = toB t by rw [show k + 1 = p by omega]; exact txt_at ht)
          obtain ⟨⟨x0, x1, x2, x3, xs⟩, hX⟩ : ∃ X, X = prN (toB t) := ⟨_, rfl⟩
          have HX := Lib.hid hX
          clear ht hX
          go_wp2_with fail
          have hc := specParse_any (toB t) wr (by rw [toB_len]; exact hst)
          rw [ofB_toB] at hc
          refine hc.mono ?_
          rintro e wD (⟨u0, u1, u2, u3, D, m, q, rfl, hno, fD⟩ | ⟨C, q, rfl, h12, K⟩)
          · replace H := H.go fD
            have HNO := Lib.hid (readS_no3 (l := l) (k := k) (by rw [E3'.out]; exact hlt) (by rw [HTX.out]; exact hno))
            clear hc ct fD hno z1
            have H2 := H.lay_ 90 [.int .i64 u0, .int .i64 u1, .int .i64 u2, .string u3, .slice D m q] rfl
            clear H
            have H := H2
            clear H2
            have e0 := H.bat 5 rfl (j := 0) rfl
            have e1 := H.bat 5 rfl (j := 1) rfl
            have f0 := H.bfree 5 rfl 0
            have f1 := H.bfree 5 rfl 1
            have H9 := H.bputs 5 rfl [.int .i64 0, .slice none 0 0] rfl
            simp only [setsW] at H9
            clear H
            go_wp2_with fail
            ((try simp only [Exit.inBlock, Exit.then]); refine bodyPost_ret (results_cell_tmp_row rfl _ _ w.heap.size 26 #[.int .i64 0, .slice none 0 0] (0, 0) _ rfl (H9.blk 5 rfl) Tryz.underlying26 rfl (by kernel_rfl)) rfl ?_)
            exact readGave_no HNO.out H9.fr
          · rw [← HX.out] at K h12 ⊢
            simp only at K h12 ⊢
            replace H := H.join K
            clear K hc ct
            have H2 := H.lay_ 90 [.int .i64 x0, .int .i64 x1, .int .i64 x2, .string x3, .slice C xs.length q] rfl
            obtain ⟨gb, hgb⟩ : ∃ x, x = wD.heap.size := ⟨_, rfl⟩
            rw [← hgb] at H2
            have HGB := Lib.hid hgb
            clear hgb H
            have b0 := H2.bat 0 rfl (j := 0) rfl
            have b1 := H2.bat 0 rfl (j := 1) rfl
            have b2 := H2.bat 0 rfl (j := 2) rfl
            have b3 := H2.bat 0 rfl (j := 3) rfl
            have b4 := H2.bat 0 rfl (j := 4) rfl
            have b5 := H2.bat 4 rfl (j := 1) rfl
            have H3 := H2
            rw [HGB.out] at H3 b0 b1 b2 b3 b4
            clear H2
            go_wp2_with (at_builtin; refine wp_appL (f := cNV) (H3) rfl _ _ _ rfl Tryz.underlying24 infoInode rfl (by decide) 2 _ _ rfl rfl _ _ (((.slice C xs.length q, (x0, x1, x2, x3, xs)) : Value × Nod)) rfl (by simp) rfl (by simp [cNV, Value.oneCell']) (by first | (simp only [maxLen]; omega) | (simp [maxLen]; done) | (simp [maxLen]; omega)) (by first | omega | (simp; done) | (simp; omega)) ?_)
            intro v' w6 H6
            have p0 := H6.bat 4 rfl (j := 1) rfl
            have p1 := H6.bfree 4 rfl 1
            have H7 := (H6.bput 4 rfl 1 v').tail
            have H8_ := Hp.push (r := rowE (.slice C xs.length q, (x0, x1, x2, x3, xs))) H7 1 rfl
            have H8 := Lib.hid (show Hp [] w (w6.setCell ⟨gv, 1, none⟩ v') [.row 90 5 v' (L ++ [((.slice C xs.length q, (x0, x1, x2, x3, xs)) : Value × Nod)]).length ((L ++ [((.slice C xs.length q, (x0, x1, x2, x3, xs)) : Value × Nod)]).flatMap cNV), .many ((L ++ [((.slice C xs.length q, (x0, x1, x2, x3, xs)) : Value × Nod)]).map rowE), .blk gv 26 [.int .i64 (n2 : Int), v'], .row 3 1 (.slice (some ⟨ga, 0, none⟩) 2 ca) 2 ([n2, n3].map intN), .blk w.heap.size 26 [.int .i64 0, .slice none 0 0]] from H8_.recast (by simp))
            have HLN2 := Lib.hid (show nodes (L ++ [((.slice C xs.length q, (x0, x1, x2, x3, xs)) : Value × Nod)]) = prNs l (k + 1) by
              rw [nodes_snoc, prNs, HLN.out, HTX.out, ← HX.out])
            have HLS2 := Lib.hid (show ReadSz (L ++ [((.slice C xs.length q, (x0, x1, x2, x3, xs)) : Value × Nod)]) by
              have := HLS.out.snocS (V := .slice C xs.length q) (t := toB t) (by rw [toB_len]; exact hst) (by rw [← HX.out]; exact h12)
              rw [← HX.out] at this
              exact this)
            obtain ⟨C9, q9, hv9⟩ := H6.shape 2 rfl
            clear H3 H6 H7 H8_ b0 b1 b2 b3 b4 b5
            subst hv9
            go_wp2_with fail
            go_roundw
            case rel => exact ⟨k + 1, _, _, by go_num, by omega, HLN2.out, HLS2.out, H8.out⟩
            case measure => simp [intOf]; omega
        · have hlt1 : ¬ (k : Int) < (n3 : Int) := by omega
          obtain ⟨D, q, rfl⟩ := H.shape 0 rfl
          have hcap : L.length ≤ q := own_cap (H.row 0 rfl)
          have HC9 := Lib.hid hcap
          have hl16 : L.length ≤ 16 := by omega
          have HN := Lib.hid (Hp.join2 (r := rowN (.slice D L.length q) L.length L) H)
          have HRN := Lib.hid (show RdN wr D L.length L from HN.out.rdN 0 rfl)
          have HKN := Lib.hid (show prNs l ((prH (txt l 0)).1.getD 1 0) = nodes L by rw [E3'.out, show n3 = k by omega, HLN.out])
          have y0 := H.bat 2 rfl (j := 0) rfl
          have y1 := H.bat 2 rfl (j := 1) rfl
          go_wp2_with fail
          refine (specVolBlocks_any (n2 : Int) D L.length q L _ HRN.out (by omega) HC9.out HLS.out).mono ?_
          rintro e wW ⟨B, m, d, bl, rfl, hbl, hm17, oW, fW⟩
          have HBL := Lib.hid hbl
          have HRB := Lib.hid (Rd.of_own oW)
          replace H := H.go fW
          have HN3 := Lib.hid (HN.out.go fW)
          clear hbl oW fW y0 y1
          go_wp2_with fail
          refine (specSame_any B (some ⟨bk, of, none⟩) m d 17 c bl l _ HRB.out (HR.out.fr H.fr) (by omega) (by omega)).mono ?_
          rintro e wS ⟨rfl, fS⟩
          replace H := H.go fS
          have HN4 := Lib.hid (HN3.out.go fS)
          clear fS
          obtain ⟨sb, hsb⟩ : ∃ b, sameB bl l = b := ⟨_, rfl⟩
          have HSB := Lib.hid hsb
          rw [hsb]
          clear hsb
          cases sb with
          | false =>
            have HNO := Lib.hid (show readB l = none by
              cases hv : volB (n2 : Int) (nodes L) with
              | false => exact readS_no4 (by rw [E2'.out, HKN.out]; exact hv)
              | true =>
                refine readS_no5 (by
                  rw [E2'.out, HKN.out]
                  intro e9
                  have h9 : bl = l := by rw [HBL.out, if_pos hv]; exact e9
                  have := HSB.out
                  rw [sameB_iff.2 h9] at this
                  cases this))
            have e0 := H.bat 4 rfl (j := 0) rfl
            have e1 := H.bat 4 rfl (j := 1) rfl
            have f0 := H.bfree 4 rfl 0
            have f1 := H.bfree 4 rfl 1
            have H9 := H.bputs 4 rfl [.int .i64 0, .slice none 0 0] rfl
            simp only [setsW] at H9
            clear H
            go_wp2_with fail
            ((try simp only [Exit.inBlock, Exit.then]); refine bodyPost_ret (results_cell_tmp_row rfl _ _ w.heap.size 26 #[.int .i64 0, .slice none 0 0] (0, 0) _ rfl (H9.blk 4 rfl) Tryz.underlying26 rfl (by kernel_rfl)) rfl ?_)
            exact readGave_no HNO.out H9.fr
          | true =>
            have hbl9 : bl = l := sameB_iff.1 HSB.out
            have HVB := Lib.hid (show volB (n2 : Int) (nodes L) = true by
              cases hv : volB (n2 : Int) (nodes L) with
              | true => rfl
              | false =>
                exfalso
                have h9 : bl = [] := by rw [HBL.out, hv]; rfl
                have := HL.out
                rw [← hbl9, h9] at this
                cases this)
            have HB9 := Lib.hid (show blocksB (n2 : Int) (nodes L) = l by rw [← hbl9, HBL.out, if_pos HVB.out])
            clear hbl9
            have y0 := H.bat 2 rfl (j := 0) rfl
            have y1 := H.bat 2 rfl (j := 1) rfl
            have e0 := H.bat 4 rfl (j := 0) rfl
            have e1 := H.bat 4 rfl (j := 1) rfl
            have f0 := H.bfree 4 rfl 0
            have f1 := H.bfree 4 rfl 1
            have H9 := HN4.out.bputs 3 rfl [.int .i64 (n2 : Int), .slice D L.length q] rfl
            simp only [setsW] at H9
            clear H
            go_wp2_with fail
            ((try simp only [Exit.inBlock, Exit.then]); refine bodyPost_ret (results_cell_tmp_row rfl _ _ w.heap.size 26 #[.int .i64 (n2 : Int), .slice D L.length q] (0, 0) _ rfl (H9.blk 3 rfl) Tryz.underlying26 rfl (by kernel_rfl)) rfl ?_)
            exact readGave_yes HVB.out HB9.out HLS.out HC9.out (H9.sub (List.cons_sublist_cons.2 (List.nil_sublist _)))
end Go.Proofs.YtaogikhpglcmjaaGreatDoor

namespace Go.Proofs.YtaogikhpglcmjaaGreatDoor
open Go.RowKit

set_option linter.unusedVariables false
set_option linter.unusedSimpArgs false

set_option maxHeartbeats 1000000 in
theorem eqVol_yes (x : Int) (A B : Option Addr) (n m c d : Nat) (L M : List (Value × Nod)) (w : World) (h : RdN w A n L) (h' : RdN w B m M) (he : nodes L = nodes M) (hn : n ≤ 1048576) (hm : m ≤ 1048576) (hL : ∀ p ∈ L, p.2.2.2.2.2.length ≤ 1048576) (hM : ∀ p ∈ M, p.2.2.2.2.2.length ≤ 1048576) :
    Calls Tryz.prog 9 #[.agg #[.int .i64 x, .slice A n c], .agg #[.int .i64 x, .slice B m d]] w fun e w' => e = .returned (.bool true) ∧ Fr w w' := by
  have H := (((Hp.start w).lay_ 26 [.int .i64 x, .slice A n c] rfl).lay_ 26 [.int .i64 x, .slice B m d] (g := w.heap.size + 1) (by simp))
  go_enter Tryz.func9, Tryz.ntmps9
  have y1_0 := H.bat 1 rfl (j := 0) rfl
  have y1_1 := H.bat 1 rfl (j := 1) rfl
  have y0_0 := H.bat 0 rfl (j := 0) rfl
  have y0_1 := H.bat 0 rfl (j := 1) rfl
  go_wp2_with fail
  refine (eqInodeS_any A B n m c d L M _ (h.fr H.fr) (h'.fr H.fr) hn hm hL hM).mono ?_
  rintro e w2 ⟨rfl, f2⟩
  rw [decide_eq_true he]
  have f3 := H.fr.then f2
  go_wp2_with fail
  go_ret
  exact ⟨rfl, f3⟩
set_option maxHeartbeats 1000000 in
theorem eqDev_yes (A B : Option Addr) (n c d : Nat) (l : List ByteArray) (C D : Option Addr) (m q r : Nat) (ws : List (Int × ByteArray)) (w : World) (h : Rd w A n 1 (l.map Value.string)) (h' : Rd w B n 1 (l.map Value.string)) (k : Rd w C m 2 (ws.flatMap cWrite)) (k' : Rd w D m 2 (ws.flatMap cWrite)) (hn : n ≤ 1048576) (hm : m ≤ 1048576) :
    Calls Tryz.prog 48 #[.agg #[.slice A n c, .slice C m q], .agg #[.slice B n d, .slice D m r]] w fun e w' => e = .returned (.bool true) ∧ Fr w w' := by
  have H := (((Hp.start w).lay_ 49 [.slice A n c, .slice C m q] rfl).lay_ 49 [.slice B n d, .slice D m r] (g := w.heap.size + 1) (by simp))
  go_enter Tryz.func48, Tryz.ntmps48
  have y1_0 := H.bat 1 rfl (j := 0) rfl
  have y1_1 := H.bat 1 rfl (j := 1) rfl
  have y0_0 := H.bat 0 rfl (j := 0) rfl
  have y0_1 := H.bat 0 rfl (j := 1) rfl
  go_wp2_with fail
  refine (eqStringS_any A B n n c d l l _ (h.fr H.fr) (h'.fr H.fr) hn hn).mono ?_
  rintro e w2 ⟨rfl, f2⟩
  rw [decide_eq_true rfl]
  replace H := H.go f2.fr
  clear y1_0 y1_1 y0_0 y0_1
  have y1_1 := H.bat 1 rfl (j := 1) rfl
  have y0_1 := H.bat 0 rfl (j := 1) rfl
  go_wp2_with fail
  refine (eqWriteS_any C D m m q r ws ws _ (k.fr H.fr) (k'.fr H.fr) hm hm).mono ?_
  rintro e w3 ⟨rfl, f3⟩
  rw [decide_eq_true rfl]
  have f4 := H.fr.then f3
  go_wp2_with fail
  go_ret
  exact ⟨rfl, f4⟩
set_option maxRecDepth 100000 in
set_option maxHeartbeats 4000000 in
theorem eqFs_yes (up : Bool) (x1 x2 x4 x5 x9 x10 : Int) (n3 n6 n7 n8 : Nat) (l3 l6 : List ByteArray) (l7 : List (Int × ByteArray)) (l8 : List (Int × Int × ByteArray × Int × ByteArray × ByteArray)) (Aa1 : Option Addr) (ca1 : Nat) (Aa2 : Option Addr) (ca2 : Nat) (Aa3 : Option Addr) (ca3 : Nat) (Aa6 : Option Addr) (ca6 : Nat) (Aa7 : Option Addr) (ca7 : Nat) (Aa8 : Option Addr) (ca8 : Nat) (na1 na2 : Nat) (La1 La2 : List (Value × Nod)) (Ab1 : Option Addr) (cb1 : Nat) (Ab2 : Option Addr) (cb2 : Nat) (Ab3 : Option Addr) (cb3 : Nat) (Ab6 : Option Addr) (cb6 : Nat) (Ab7 : Option Addr) (cb7 : Nat) (Ab8 : Option Addr) (cb8 : Nat) (nb1 nb2 : Nat) (Lb1 Lb2 : List (Value × Nod)) (w : World) (ha1 : RdN w Aa1 na1 La1) (ha2 : RdN w Aa2 na2 La2) (ha3 : Rd w Aa3 n3 1 (l3.map Value.string)) (ha6 : Rd w Aa6 n6 1 (l6.map Value.string)) (ha7 : Rd w Aa7 n7 2 (l7.flatMap cWrite)) (ha8 : Rd w Aa8 n8 6 (l8.flatMap cCall)) (hb1 : RdN w Ab1 nb1 Lb1) (hb2 : RdN w Ab2 nb2 Lb2) (hb3 : Rd w Ab3 n3 1 (l3.map Value.string)) (hb6 : Rd w Ab6 n6 1 (l6.map Value.string)) (hb7 : Rd w Ab7 n7 2 (l7.flatMap cWrite)) (hb8 : Rd w Ab8 n8 6 (l8.flatMap cCall)) (e1 : nodes La1 = nodes Lb1) (e2 : nodes La2 = nodes Lb2) (hsa1 : na1 ≤ 1048576) (hsa2 : na2 ≤ 1048576) (hta1 : ∀ p ∈ La1, p.2.2.2.2.2.length ≤ 1048576) (hta2 : ∀ p ∈ La2, p.2.2.2.2.2.length ≤ 1048576) (hsb1 : nb1 ≤ 1048576) (hsb2 : nb2 ≤ 1048576) (htb1 : ∀ p ∈ Lb1, p.2.2.2.2.2.length ≤ 1048576) (htb2 : ∀ p ∈ Lb2, p.2.2.2.2.2.length ≤ 1048576) (hs3 : n3 ≤ 1048576) (hs6 : n6 ≤ 1048576) (hs7 : n7 ≤ 1048576) (hs8 : n8 ≤ 1048576) :
    Calls Tryz.prog 21 #[.agg #[.bool up, .int .i64 x1, .slice Aa1 na1 ca1, .int .i64 x2, .slice Aa2 na2 ca2, .slice Aa3 n3 ca3, .int .i64 x4, .int .i64 x5, .slice Aa6 n6 ca6, .slice Aa7 n7 ca7, .slice Aa8 n8 ca8, .int .i64 x9, .int .i64 x10], .agg #[.bool up, .int .i64 x1, .slice Ab1 nb1 cb1, .int .i64 x2, .slice Ab2 nb2 cb2, .slice Ab3 n3 cb3, .int .i64 x4, .int .i64 x5, .slice Ab6 n6 cb6, .slice Ab7 n7 cb7, .slice Ab8 n8 cb8, .int .i64 x9, .int .i64 x10]] w fun e w' => e = .returned (.bool true) ∧ Fr w w' := by
  have H := (((Hp.start w).lay_ 52 [.bool up, .int .i64 x1, .slice Aa1 na1 ca1, .int .i64 x2, .slice Aa2 na2 ca2, .slice Aa3 n3 ca3, .int .i64 x4, .int .i64 x5, .slice Aa6 n6 ca6, .slice Aa7 n7 ca7, .slice Aa8 n8 ca8, .int .i64 x9, .int .i64 x10] rfl).lay_ 52 [.bool up, .int .i64 x1, .slice Ab1 nb1 cb1, .int .i64 x2, .slice Ab2 nb2 cb2, .slice Ab3 n3 cb3, .int .i64 x4, .int .i64 x5, .slice Ab6 n6 cb6, .slice Ab7 n7 cb7, .slice Ab8 n8 cb8, .int .i64 x9, .int .i64 x10] (g := w.heap.size + 1) (by simp))
  have hup : (up != up) = false := bne_self_eq_false _
  have hup2 : (up == up) = true := beq_self_eq_true _
  go_enter Tryz.func21, Tryz.ntmps21
  have y1_0 := H.bat 1 rfl (j := 0) rfl
  have y1_1 := H.bat 1 rfl (j := 1) rfl
  have y1_2 := H.bat 1 rfl (j := 2) rfl
  have y0_0 := H.bat 0 rfl (j := 0) rfl
  have y0_1 := H.bat 0 rfl (j := 1) rfl
  have y0_2 := H.bat 0 rfl (j := 2) rfl
  go_wp2_with fail
  refine (eqVol_yes x1 _ _ _ _ _ _ La1 Lb1 _ (ha1.fr H.fr) (hb1.fr H.fr) e1 hsa1 hsb1 hta1 htb1).mono ?_
  rintro e w2 ⟨rfl, f2⟩
  replace H := H.go f2
  clear y1_0 y1_1 y1_2 y0_0 y0_1 y0_2
  have y1_3 := H.bat 1 rfl (j := 3) rfl
  have y1_4 := H.bat 1 rfl (j := 4) rfl
  have y0_3 := H.bat 0 rfl (j := 3) rfl
  have y0_4 := H.bat 0 rfl (j := 4) rfl
  go_wp2_with fail
  refine (eqVol_yes x2 _ _ _ _ _ _ La2 Lb2 _ (ha2.fr H.fr) (hb2.fr H.fr) e2 hsa2 hsb2 hta2 htb2).mono ?_
  rintro e w3 ⟨rfl, f3⟩
  replace H := H.go f3
  clear y1_3 y1_4 y0_3 y0_4
  have y1_5 := H.bat 1 rfl (j := 5) rfl
  have y0_5 := H.bat 0 rfl (j := 5) rfl
  go_wp2_with fail
  refine (eqStringS_any _ _ _ _ _ _ l3 l3 _ (ha3.fr H.fr) (hb3.fr H.fr) hs3 hs3).mono ?_
  rintro e w4 ⟨rfl, f4⟩
  rw [decide_eq_true rfl]
  replace H := H.go f4.fr
  clear y1_5 y0_5
  have y1_6 := H.bat 1 rfl (j := 6) rfl
  have y1_7 := H.bat 1 rfl (j := 7) rfl
  have y1_8 := H.bat 1 rfl (j := 8) rfl
  have y1_9 := H.bat 1 rfl (j := 9) rfl
  have y0_6 := H.bat 0 rfl (j := 6) rfl
  have y0_7 := H.bat 0 rfl (j := 7) rfl
  have y0_8 := H.bat 0 rfl (j := 8) rfl
  have y0_9 := H.bat 0 rfl (j := 9) rfl
  go_wp2_with fail
  refine (eqDev_yes _ _ _ _ _ l6 _ _ _ _ _ l7 _ (ha6.fr H.fr) (hb6.fr H.fr) (ha7.fr H.fr) (hb7.fr H.fr) hs6 hs7).mono ?_
  rintro e w5 ⟨rfl, f5⟩
  replace H := H.go f5
  clear y1_6 y1_7 y1_8 y1_9 y0_6 y0_7 y0_8 y0_9
  have y1_10 := H.bat 1 rfl (j := 10) rfl
  have y0_10 := H.bat 0 rfl (j := 10) rfl
  go_wp2_with fail
  refine (eqCallS_any _ _ _ _ _ _ l8 l8 _ (ha8.fr H.fr) (hb8.fr H.fr) hs8 hs8).mono ?_
  rintro e w6 ⟨rfl, f6⟩
  rw [decide_eq_true rfl]
  replace H := H.go f6
  clear y1_10 y0_10
  have y1_11 := H.bat 1 rfl (j := 11) rfl
  have y1_12 := H.bat 1 rfl (j := 12) rfl
  have y0_11 := H.bat 0 rfl (j := 11) rfl
  have y0_12 := H.bat 0 rfl (j := 12) rfl
  go_wp2_with fail
  go_ret
  exact ⟨rfl, H.fr⟩
theorem markVol_any (x : Int) (A : Option Addr) (n c k : Nat) (L : List (Value × Nod)) (w : World) (h : Ob.ok w (obN (.slice A n c) n L)) (hn : n ≤ 1048576) (ht : totN L ≤ 60000000) (hk : k ≤ 900000000000) :
    Calls Tryz.prog 13 #[.agg #[.int .i64 x, .slice A n c], .int .i64 k] w fun e w' => e = .returned (.int .i64 ((k + totN L : Nat) : Int)) ∧ Hp (Row.blocks (rowN (.slice A n c) n L :: L.map rowE)) w w' [obN (.slice A n c) n (marksN L k)] := by
  have H := Hp.lay_ (Hp.start_many h) 26 [.int .i64 x, .slice A n c] rfl
  have y0 := H.bat 0 rfl (j := 0) rfl
  have y1 := H.bat 0 rfl (j := 1) rfl
  go_enter Tryz.func13, Tryz.ntmps13
  go_wp2_with fail
  refine (markInodeS_any A n c k L _ (H.ok _ (List.mem_cons_of_mem _ List.mem_cons_self)) hn ht hk).mono ?_
  rintro e w2 ⟨rfl, K⟩
  have H2 := Lib.hid ((H.turnMany 1 rfl K).tail)
  clear H K y0 y1
  go_wp2_with fail
  go_ret
  exact ⟨rfl, H2.out⟩
theorem heldVol_any (x : Int) (A : Option Addr) (n c k : Nat) (L : List (Value × Nod)) (w : World) (h : RdN w A n (marksN L k)) (hn : n ≤ 1048576) (ht : totN L ≤ 60000000) (hk : k ≤ 900000000000) :
    Calls Tryz.prog 15 #[.agg #[.int .i64 x, .slice A n c], .int .i64 k] w fun e w' => e = .returned (.int .i64 ((k + totN L : Nat) : Int)) ∧ Fr w w' := by
  have H := (Hp.start w).lay_ 26 [.int .i64 x, .slice A n c] rfl
  have y0 := H.bat 0 rfl (j := 0) rfl
  have y1 := H.bat 0 rfl (j := 1) rfl
  go_enter Tryz.func15, Tryz.ntmps15
  go_wp2_with fail
  refine (heldInodeS_any A n c k L _ (h.fr H.fr) hn ht hk).mono ?_
  rintro e w2 ⟨rfl, f2⟩
  have f3 := H.fr.then f2
  obtain ⟨t, hT⟩ : ∃ t, t = k + totN L := ⟨_, rfl⟩
  rw [← hT]
  have ht0 : ¬ ((t : Int) < 0) := by omega
  have HT := Lib.hid hT
  clear hT
  go_wp2_with fail
  go_ret
  exact ⟨congrArg (fun t : Nat => Ending.returned (.int .i64 (t : Int))) HT.out, f3⟩
end Go.Proofs.YtaogikhpglcmjaaGreatDoor
