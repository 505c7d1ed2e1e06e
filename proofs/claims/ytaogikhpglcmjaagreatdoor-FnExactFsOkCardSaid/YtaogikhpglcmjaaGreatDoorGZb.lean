/-
  Many texts in one: ReadTxnS, Law.
-/
import Derived.Test.YtaogikhpglcmjaaGreatDoorGv
import Derived.Test.YtaogikhpglcmjaaGreatDoorGZa
import Derived.Test.YtaogikhpglcmjaaGreatDoorGa
import Derived.ProofKit
import Derived.OpenVars
import Derived.Deep.Slices
import Derived.Deep.Strs
import Derived.Lib.SmallJoins
namespace Go.Proofs.YtaogikhpglcmjaaGreatDoor
open Go.RowKit

set_option linter.unusedVariables false
set_option linter.unusedSimpArgs false
theorem prsOs_in {s : List UInt8} {c : Nat} : ∀ {k a : Nat}, c ≤ s.length → (prsOs s (some c) k).2 = some a → a ≤ s.length
  | 0, a, hc, h => by injection h with h; omega
  | k + 1, a, hc, h => (take_in h).1
set_option maxRecDepth 100000 in
set_option maxHeartbeats 8000000 in
theorem specReadTxn_any (r : List UInt8) (w : World) (hr : r.length ≤ 16777216) :
    Calls Tryz.prog 22 #[.string (ofB r)] w (ReadTGave w r) := by
  have HSR := Lib.hid (ofB_size r)
  have H0 := (Hp.start w).lay_ 57 [.int .i64 0, .slice none 0 0] rfl
  obtain ⟨S, hS⟩ : ∃ S, S = ofB r := ⟨_, rfl⟩
  rw [← hS]
  have HSS := Lib.hid hS
  have hTB : toB S = r := by rw [hS, toB_ofB]
  have HTB := Lib.hid hTB
  have hSr : S.size = r.length := by rw [hS, ofB_size]
  have HSZ := Lib.hid hSr
  have hsz : S.size ≤ 1099511627776 := by omega
  clear hTB hS
  by_cases hlong : 4000 < S.size
  case pos =>
    have hl1 : (4000 : Int) < (S.size : Int) := by omega
    have HNO := Lib.hid (readT_long (s := r) (by rw [← hSr]; exact hlong))
    clear hSr
    have H := H0
    have e0 := H.bat 0 rfl (j := 0) rfl
    have e1 := H.bat 0 rfl (j := 1) rfl
    have f0 := H.bfree 0 rfl 0
    have f1 := H.bfree 0 rfl 1
    go_enter Tryz.func22, Tryz.ntmps22
    go_wp2_with fail
    ((try simp only [Exit.inBlock, Exit.then]); refine bodyPost_ret (results_cell_tmp_row rfl _ _ w.heap.size 57 #[.int .i64 0, .slice none 0 0] (0, 0) _ rfl (H.blk 0 rfl) Tryz.underlying57 rfl (by kernel_rfl)) rfl ?_)
    exact readTGave_no HNO.out H.fr
  have hl1 : ¬ (4000 : Int) < (S.size : Int) := by omega
  have hrl : r.length ≤ 4000 := by omega
  clear hSr
  obtain ⟨A, hA⟩ : ∃ A, tsA r = A := ⟨_, rfl⟩
  have EA := Lib.hid (show varsP r (some 5) 2 = A from hA)
  have EA' := Lib.hid hA
  clear hA
  go_enter Tryz.func22, Tryz.ntmps22
  go_wp2_with fail
  have hc := specVars_any S (some 5) 2 (w.alloc (.cells #[.int .i64 0, .slice none 0 0] 57)) hsz (fun b hb => by injection hb with hb; omega) (by omega)
  rw [HTB.out, EA.out, show plZ (some 5) = 5 from rfl, show ((2 : Nat) : Int) = 2 from rfl] at hc
  refine hc.mono ?_
  rintro e w1 ⟨Aa, ca, rfl, o1, f1⟩
  have H := H0.made o1 f1
  clear hc o1 f1 H0
  obtain ⟨la, ao⟩ := A
  simp only at H ⊢
  cases ao with
  | none =>
    have HNO := Lib.hid (readTS_no1 (s := r) (by rw [EA'.out]))
    have hm1 : plZ none = -1 := rfl
    rw [hm1]
    have e0 := H.bat 1 rfl (j := 0) rfl
    have e1 := H.bat 1 rfl (j := 1) rfl
    have f0 := H.bfree 1 rfl 0
    have f1 := H.bfree 1 rfl 1
    have H9 := H.bputs 1 rfl [.int .i64 0, .slice none 0 0] rfl
    simp only [setsW] at H9
    clear H
    go_wp2_with fail
    ((try simp only [Exit.inBlock, Exit.then]); refine bodyPost_ret (results_cell_tmp_row rfl _ _ w.heap.size 57 #[.int .i64 0, .slice none 0 0] (0, 0) _ rfl (H9.blk 1 rfl) Tryz.underlying57 rfl (by kernel_rfl)) rfl ?_)
    exact readTGave_no HNO.out H9.fr
  | some a5 =>
    have hal : la.length = 2 := by have := vars_len (s := r) (o := some 5) (k := 2) (a := a5) (by rw [EA.out]); rwa [EA.out] at this
    have hain : a5 ≤ r.length := (vars_in (s := r) (o := some 5) (k := 1) (a := a5) (by rw [EA.out])).1
    obtain ⟨n2, n3, hax⟩ : ∃ n2 n3, la = [n2, n3] := list2 hal
    subst hax
    have hk : plZ (some a5) = (a5 : Int) := rfl
    rw [hk]
    clear hk hal
    obtain ⟨ga, cga, ea, _⟩ := H.form 0 rfl (by simp)
    injection ea with ea1 _ ea2
    subst ea1 ea2
    have z0 := H.atM (f1 := intN) 0 rfl (j := 0) rfl
    have z1 := H.atM (f1 := intN) 0 rfl (j := 1) rfl
    simp only [intN] at z0 z1
    have E2' := Lib.hid (show (tsA r).1.getD 0 0 = n2 by rw [EA'.out]; rfl)
    have E3' := Lib.hid (show (tsA r).1.getD 1 0 = n3 by rw [EA'.out]; rfl)
    have a0 : (0 : Int) ≤ (a5 : Int) := by omega
    have a1 : ¬ (a5 : Int) < 0 := by omega
    by_cases h17 : 17 < n3
    · have h171 : (17 : Int) < (n3 : Int) := by omega
      have HNO := Lib.hid (readTS_no2 (s := r) (by rw [E3'.out]; exact h17))
      have e0 := H.bat 1 rfl (j := 0) rfl
      have e1 := H.bat 1 rfl (j := 1) rfl
      have f0 := H.bfree 1 rfl 0
      have f1 := H.bfree 1 rfl 1
      have H9 := H.bputs 1 rfl [.int .i64 0, .slice none 0 0] rfl
      simp only [setsW] at H9
      clear H
      go_wp2_with fail
      ((try simp only [Exit.inBlock, Exit.then]); refine bodyPost_ret (results_cell_tmp_row rfl _ _ w.heap.size 57 #[.int .i64 0, .slice none 0 0] (0, 0) _ rfl (H9.blk 1 rfl) Tryz.underlying57 rfl (by kernel_rfl)) rfl ?_)
      exact readTGave_no HNO.out H9.fr
    · have h171 : ¬ (17 : Int) < (n3 : Int) := by omega
      have H2 := H.lay_ 57 [.int .i64 (n2 : Int), .slice none 0 0] rfl
      have H3 := H2.nil_ 61 2
      obtain ⟨gx, hgx⟩ : ∃ x, x = w1.heap.size := ⟨_, rfl⟩
      rw [← hgx] at H3
      have HGX := Lib.hid hgx
      have H1 : Hp [] w (w1.alloc (.cells #[.int .i64 (n2 : Int), .slice none 0 0] 57)) [.row 61 2 (.slice none 0 0) ([] : List WrT).length (([] : List WrT).flatMap cWrite), .blk gx 57 [.int .i64 (n2 : Int), (.slice none 0 0)], .row 3 1 (.slice (some ⟨ga, 0, none⟩) 2 ca) 2 ([n2, n3].map intN), .blk w.heap.size 57 [.int .i64 0, .slice none 0 0]] := H3
      clear hgx H H2 H3
      go_wp2_with fail
      rw [← HGX.out]
      go_loopw [5, 7] (fun av kv wr => ∃ (k a : Nat) (V : Value) (el : List WrT), kv = .int .i64 k ∧ av = .int .i64 a ∧ k ≤ n3 ∧ prsOs r (some a5) k = (el, some a) ∧ Hp [] w wr [.row 61 2 V el.length (el.flatMap cWrite), .blk gx 57 [.int .i64 (n2 : Int), V], .row 3 1 (.slice (some ⟨ga, 0, none⟩) 2 ca) 2 ([n2, n3].map intN), .blk w.heap.size 57 [.int .i64 0, .slice none 0 0]]) (fun _ kv _ => n3 - (intOf kv).toNat)
      case atStart => exact ⟨0, a5, _, [], rfl, rfl, by omega, rfl, H1⟩
      case round =>
        clear H1 z0 z1
        obtain ⟨k, a, V, el, rfl, rfl, hk, hes, H⟩ := hrel
        have HE0 := Lib.hid hes
        have hel : el.length ≤ k := by have := prsOs_len r (some a5) k; rw [hes] at this; exact Nat.le_of_eq this
        have hab : a ≤ 4000 := by have := prsOs_in (s := r) (c := a5) (k := k) (a := a) hain (by rw [hes]); omega
        clear hes
        have hk0 : (0 : Int) ≤ (k : Int) := by omega
        have z1 := H.atM (f1 := intN) 2 rfl (j := 1) rfl
        simp only [intN] at z1
        by_cases hkn : k < n3
        · have hk1 : (k : Int) < (n3 : Int) := by omega
          obtain ⟨⟨l1, p1⟩, hV1⟩ : ∃ V, varsP r (some a) 1 = V := ⟨_, rfl⟩
          obtain ⟨⟨d2, p2⟩, hT2⟩ : ∃ V, takeP r p1 = V := ⟨_, rfl⟩
          have HPE := Lib.hid (show prsO r (some a) = ((((num1 (l1, p1) : Nat) : Int), ofB d2), p2) by
            rw [prsO, hV1]
            simp only
            rw [hT2])
          have B1 := Lib.hid (show ∀ b, p1 = some b → b ≤ 1099511627776 from fun b hb => by
            have := (vars_in (s := r) (o := some a) (k := 0) (a := b) (by rw [hV1]; exact hb)).1
            omega)
          have B2 := Lib.hid (show ∀ b, p2 = some b → b ≤ 4000 from fun b hb => by
            have := (take_in (s := r) (o := p1) (b := b) (by rw [hT2]; exact hb)).1
            omega)
          have V1 := Lib.hid hV1
          have T2 := Lib.hid hT2
          clear hV1 hT2
          go_wp2_with fail
          have hc := specVars_any S (some a) 1 wr hsz (fun b hb => by injection hb with hb; omega) (by omega)
          rw [HTB.out, V1.out, show plZ (some a) = (a : Int) from rfl, show ((1 : Nat) : Int) = 1 from rfl] at hc
          refine hc.mono ?_
          rintro e w1 ⟨A1, c1, rfl, o1, f1⟩
          replace H := H.made o1 f1
          clear hc o1 f1 z1
          simp only at H ⊢
          go_wp2_with fail
          have hc := specTake_any S p1 w1 hsz B1.out
          rw [HTB.out, T2.out] at hc
          simp only at hc
          refine hc.mono ?_
          rintro e w2 ⟨rfl, f2⟩
          replace H := H.go f2
          clear hc f2
          cases p2 with
          | none =>
            have HNO := Lib.hid (readTS_no3 (s := r) (k := k + 1) (by rw [E3'.out]; omega) (by rw [EA'.out, prsOs, HE0.out]; simp only; rw [HPE.out]))
            have hm1 : plZ none = -1 := rfl
            rw [hm1]
            have e0 := H.bat 4 rfl (j := 0) rfl
            have e1 := H.bat 4 rfl (j := 1) rfl
            have f0 := H.bfree 4 rfl 0
            have f1 := H.bfree 4 rfl 1
            have H9 := H.bputs 4 rfl [.int .i64 0, .slice none 0 0] rfl
            simp only [setsW] at H9
            clear H
            go_wp2_with fail
            ((try simp only [Exit.inBlock, Exit.then]); refine bodyPost_ret (results_cell_tmp_row rfl _ _ w.heap.size 57 #[.int .i64 0, .slice none 0 0] (0, 0) _ rfl (H9.blk 4 rfl) Tryz.underlying57 rfl (by kernel_rfl)) rfl ?_)
            exact readTGave_no HNO.out H9.fr
          | some b =>
            obtain ⟨_, b1, hb1⟩ := take_in (s := r) (o := p1) (b := b) (by rw [T2.out])
            obtain ⟨b0, hb0⟩ := vars_some1 (s := r) (o := p1) hb1
            obtain ⟨k1, k2, k3⟩ := num1_of (s := r) (o := some a) (a := b0) (by rw [V1.out]; exact hb0)
            rw [V1.out] at k1 k2
            simp only [num1] at k1 k2
            obtain ⟨m1, hm1⟩ : ∃ m, m = l1.headD 0 := ⟨_, rfl⟩
            rw [← hm1] at k1 k2
            have HES := Lib.hid (show prsOs r (some a5) (k + 1) = (el ++ [(((m1 : Int), ofB d2) : WrT)], some b) by
              rw [prsOs, HE0.out]
              simp only
              rw [HPE.out]
              simp only [num1, ← hm1])
            clear hm1 hb0 hb1
            subst k1
            obtain ⟨g1, cg1, e1, _⟩ := H.form 0 rfl (by simp)
            injection e1 with e11 _ e12
            subst e11 e12
            have hkb : plZ (some b) = (b : Int) := rfl
            rw [hkb]
            clear hkb
            have hb00 : (0 : Int) ≤ (b : Int) := by omega
            have hb01 : ¬ (b : Int) < 0 := by omega
            go_wp2_with fail
            replace H := H.drew
            have y1 := H.atM (f1 := intN) 0 rfl (j := 0) rfl
            refine wp_region_held_drew (S := fun w' => w'.cell? ⟨g1, 0, none⟩ = some (.int .i64 (m1 : Int))) (by kernel_rfl) ?_ (fun hHeld => ?_)
            · exact y1
            obtain ⟨u0, hu0⟩ : ∃ uu : World, uu = w2.drew := ⟨_, rfl⟩
            rw [← hu0] at H hHeld ⊢
            clear hu0
            refine wpT 0 ?_
            refine wpT 2 ?_
            refine wpT 3 ?_
            refine wpT 4 ?_
            refine wpT 5 ?_
            refine wpT 6 ?_
            refine wpAnyH_ready (rs := [1, 7]) (by kernel_rfl) (by simp) ?_
            refine (AllReadyH.cons rfl (fun K hK => ?_) (AllReadyH.cons rfl (fun K hK => ?_) AllReadyH.nil))
            ·have zV := H.bat 2 rfl (j := 1) rfl
             go_simp
             obtain ⟨u1, hv⟩ : ∃ uu : World, uu = u0 := ⟨_, rfl⟩
             rw [← hv] at H ⊢
             clear hv zV
             refine hK.out _ _ ?_ (fun hHeld => ?_)
             · exact H.atM (f1 := intN) 0 rfl (j := 0) rfl
             clear hK K
             try simp only [sA, sB, sC, Act.put, sD, sE, sF]
             refine wpC 7 fun K hK => ?_
             replace H := H.lit 61 2 1 [.int .i64 (m1 : Int), .string (ofB d2)] rfl (by simp [maxLen])
             go_simp
             obtain ⟨h5, hh5⟩ : ∃ x, x = u1.heap.size := ⟨_, rfl⟩
             rw [← hh5] at H ⊢
             clear hh5
             obtain ⟨u2, hv⟩ : ∃ uu : World, uu = u1.alloc (.cells #[.int .i64 (m1 : Int), .string (ofB d2)] 61) := ⟨_, rfl⟩
             rw [← hv] at H ⊢
             clear hv
             refine hK.out _ _ ?_ (fun hHeld => ?_)
             · exact H.atM (f1 := intN) 1 rfl (j := 0) rfl
             clear hK K
             try simp only [sA, sB, sC, Act.put, sD, sE, sF]
             refine wpC 8 fun K hK => ?_
             refine step_appRd H rfl _ _ _ rfl Tryz.underlying27 infoWrite rfl (by decide) 2 _ _ _ rfl (by simp [Act.eval]) (some ⟨h5, 0, none⟩) 1 1 _ (by simp [Act.eval]) (fun h => nomatch h) (H.rd 0 rfl) (by simp [Value.oneCell']) (by simp only [maxLen]; omega) (by omega) ?_
             intro v' u3 H1
             replace H := H1
             clear H1
             obtain ⟨C9, q9, rfl⟩ := H.shape 2 rfl
             refine hK.out _ _ ?_ (fun hHeld => ?_)
             · exact H.atM (f1 := intN) 1 rfl (j := 0) rfl
             clear hK K
             try simp only [sA, sB, sC, Act.put, sD, sE, sF]
             refine wpT 9 ?_
             refine wpC 10 fun K hK => ?_
             have e0 := H.bfree 3 rfl 1
             have s0 := H.bat 3 rfl (j := 1) rfl
             replace H := H.bput 3 rfl 1 (.slice C9 (el.length + 1) q9)
             go_simp
             refine hK.out _ _ ?_ (fun hHeld => ?_)
             · exact H.atM (f1 := intN) 1 rfl (j := 0) rfl
             clear hK K
             try simp only [sA, sB, sC, Act.put, sD, sE, sF]
             refine wpAnyH_done (by kernel_rfl) ?_ _
             have H8 := Lib.hid (show Hp [] w _ [.row 61 2 (.slice C9 (el.length + 1) q9) (el ++ [(((m1 : Int), ofB d2) : WrT)]).length ((el ++ [(((m1 : Int), ofB d2) : WrT)]).flatMap cWrite), .blk gx 57 [.int .i64 (n2 : Int), (.slice C9 (el.length + 1) q9)], .row 3 1 (.slice (some ⟨ga, 0, none⟩) 2 ca) 2 ([n2, n3].map intN), .blk w.heap.size 57 [.int .i64 0, .slice none 0 0]] from H.tail.tail.recast (by simp [cWrite]))
             clear H
             go_wp2_with fail
             go_roundw
             case rel => exact ⟨k + 1, b, _, _, by go_num, rfl, by omega, HES.out, H8.out⟩
             case measure => simp [intOf]; omega
            ·replace H := H.lit 61 2 1 [.int .i64 (m1 : Int), .string (ofB d2)] rfl (by simp [maxLen])
             go_simp
             obtain ⟨h5, hh5⟩ : ∃ x, x = u0.heap.size := ⟨_, rfl⟩
             rw [← hh5] at H ⊢
             clear hh5
             obtain ⟨u1, hv⟩ : ∃ uu : World, uu = u0.alloc (.cells #[.int .i64 (m1 : Int), .string (ofB d2)] 61) := ⟨_, rfl⟩
             rw [← hv] at H ⊢
             clear hv
             refine hK.out _ _ ?_ (fun hHeld => ?_)
             · exact H.atM (f1 := intN) 1 rfl (j := 0) rfl
             clear hK K
             try simp only [sA, sB, sC, Act.put, sD, sE, sF]
             refine wpC 1 fun K hK => ?_
             have zV := H.bat 3 rfl (j := 1) rfl
             go_simp
             obtain ⟨u2, hv⟩ : ∃ uu : World, uu = u1 := ⟨_, rfl⟩
             rw [← hv] at H ⊢
             clear hv zV
             refine hK.out _ _ ?_ (fun hHeld => ?_)
             · exact H.atM (f1 := intN) 1 rfl (j := 0) rfl
             clear hK K
             try simp only [sA, sB, sC, Act.put, sD, sE, sF]
             refine wpC 8 fun K hK => ?_
             refine step_appRd H rfl _ _ _ rfl Tryz.underlying27 infoWrite rfl (by decide) 2 _ _ _ rfl (by simp [Act.eval]) (some ⟨h5, 0, none⟩) 1 1 _ (by simp [Act.eval]) (fun h => nomatch h) (H.rd 0 rfl) (by simp [Value.oneCell']) (by simp only [maxLen]; omega) (by omega) ?_
             intro v' u3 H1
             replace H := H1
             clear H1
             obtain ⟨C9, q9, rfl⟩ := H.shape 2 rfl
             refine hK.out _ _ ?_ (fun hHeld => ?_)
             · exact H.atM (f1 := intN) 1 rfl (j := 0) rfl
             clear hK K
             try simp only [sA, sB, sC, Act.put, sD, sE, sF]
             refine wpT 9 ?_
             refine wpC 10 fun K hK => ?_
             have e0 := H.bfree 3 rfl 1
             have s0 := H.bat 3 rfl (j := 1) rfl
             replace H := H.bput 3 rfl 1 (.slice C9 (el.length + 1) q9)
             go_simp
             refine hK.out _ _ ?_ (fun hHeld => ?_)
             · exact H.atM (f1 := intN) 1 rfl (j := 0) rfl
             clear hK K
             try simp only [sA, sB, sC, Act.put, sD, sE, sF]
             refine wpAnyH_done (by kernel_rfl) ?_ _
             have H8 := Lib.hid (show Hp [] w _ [.row 61 2 (.slice C9 (el.length + 1) q9) (el ++ [(((m1 : Int), ofB d2) : WrT)]).length ((el ++ [(((m1 : Int), ofB d2) : WrT)]).flatMap cWrite), .blk gx 57 [.int .i64 (n2 : Int), (.slice C9 (el.length + 1) q9)], .row 3 1 (.slice (some ⟨ga, 0, none⟩) 2 ca) 2 ([n2, n3].map intN), .blk w.heap.size 57 [.int .i64 0, .slice none 0 0]] from H.tail.tail.recast (by simp [cWrite]))
             clear H
             go_wp2_with fail
             go_roundw
             case rel => exact ⟨k + 1, b, _, _, by go_num, rfl, by omega, HES.out, H8.out⟩
             case measure => simp [intOf]; omega
        · have hk1 : ¬ (k : Int) < (n3 : Int) := by omega
          have HTS := Lib.hid (show (tsB r).1 = el by rw [tsB, EA'.out]; show (prsOs r (some a5) n3).1 = el; rw [show n3 = k by omega, HE0.out])
          obtain ⟨D, q, rfl⟩ := H.shape 0 rfl
          have HCAP := Lib.hid (own_cap (H.row 0 rfl))
          have HRW := Lib.hid (show ∀ w', Fr wr w' → Rd w' D el.length 2 (el.flatMap cWrite) from fun w' f => (H.rd 0 rfl).fr f)
          have y0 := H.bat 1 rfl (j := 0) rfl
          have y1 := H.bat 1 rfl (j := 1) rfl
          go_wp2_with fail
          refine (specShowTxn_any (n2 : Int) D el.length q el _ (HRW.out _ (Below.refl _ _)) (by omega)).mono ?_
          rintro e wV ⟨rfl, fV⟩
          obtain ⟨T, hT⟩ : ∃ T, T = ofB (showT (n2 : Int) el) := ⟨_, rfl⟩
          rw [← hT]
          have HT := Lib.hid hT
          clear hT y0 y1 z1
          replace H := H.go fV
          clear fV
          by_cases heq : T = S
          · have HYS := Lib.hid (show showT (n2 : Int) el = r from ofB_inj (by rw [← HT.out, heq, HSS.out]))
            by_cases h0 : r = []
            · exfalso
              have h1 := EA'.out
              rw [h0] at h1
              have h2 : (tsA []).2 = none := rfl
              rw [h1] at h2
              cases h2
            subst heq
            have y0 := H.bat 1 rfl (j := 0) rfl
            have y1 := H.bat 1 rfl (j := 1) rfl
            have e0 := H.bat 3 rfl (j := 0) rfl
            have e1 := H.bat 3 rfl (j := 1) rfl
            have f0 := H.bfree 3 rfl 0
            have f1 := H.bfree 3 rfl 1
            have H9 := H.bputs 3 rfl [.int .i64 (n2 : Int), .slice D el.length q] rfl
            simp only [setsW] at H9
            clear H
            go_wp2_with fail
            ((try simp only [Exit.inBlock, Exit.then]); refine bodyPost_ret (results_cell_tmp_row rfl _ _ w.heap.size 57 #[.int .i64 (n2 : Int), .slice D el.length q] (0, 0) _ rfl (H9.blk 3 rfl) Tryz.underlying57 rfl (by kernel_rfl)) rfl ?_)
            exact readTGave_yes HYS.out h0 HCAP.out (H9.sub (by simp))
          · have hn1 : (T.toList == S.toList) = false := str_ne heq
            have hn2 : (T.toList != S.toList) = true := by simp only [bne, hn1]; rfl
            have HNO := Lib.hid (readTS_no4 (s := r) (by
              rw [E2'.out, HTS.out]
              intro e9
              exact heq (by rw [HT.out, e9, HSS.out])))
            clear heq
            have e0 := H.bat 3 rfl (j := 0) rfl
            have e1 := H.bat 3 rfl (j := 1) rfl
            have f0 := H.bfree 3 rfl 0
            have f1 := H.bfree 3 rfl 1
            have H9 := H.bputs 3 rfl [.int .i64 0, .slice none 0 0] rfl
            simp only [setsW] at H9
            clear H
            go_wp2_with fail
            ((try simp only [Exit.inBlock, Exit.then]); refine bodyPost_ret (results_cell_tmp_row rfl _ _ w.heap.size 57 #[.int .i64 0, .slice none 0 0] (0, 0) _ rfl (H9.blk 3 rfl) Tryz.underlying57 rfl (by kernel_rfl)) rfl ?_)
            exact readTGave_no HNO.out H9.fr
end Go.Proofs.YtaogikhpglcmjaaGreatDoor

namespace Go.Proofs.YtaogikhpglcmjaaGreatDoor
open Go.ChangeShapes Go.WideShapes Go.ChangeAt Go.RowKit Go.Deep

theorem own : ownKnob Tryz.prog.godebug = none := by kernel_rfl
theorem laidOut : laidOutB Tryz.prog = true := by kernel_rfl

section
variable {H : Type} {enc : TypeId × Value → H} {P : Program}

/-- The arguments read behind the call as before. -/
theorem trodAll_below (hl : laidOutB P = true) {W W' : World} (hb : Below W.heap.size W W') :
    ∀ {ts : List TypeId} {vs : List Value} {ds : List (DataW H)} {ps : List MemPlace}, (∀ t ∈ ts, P.readableRec t = true ∧ t < P.types.size) → (∀ x ∈ ps, x.block < W.heap.size) →
      DataW.TrodAll enc P W 0 (fun _ => true) true ts vs ds ps → DataW.TrodAll enc P W' 0 (fun b => decide (b < W.heap.size)) true ts vs ds ps
  | [], [], [], _, _, _, h => h
  | t :: ts, v :: vs, d :: ds, ps, hr, hlt, h => by
    obtain ⟨p, q, h1, h2, rfl⟩ := h
    have ht := hr t (by simp)
    exact ⟨p, q, Below.trod hl ht.1 ht.2 h1 hb (fun x hx => hlt x (by simp [hx])), trodAll_below hl hb (fun t' ht' => hr t' (by simp [ht'])) (fun x hx => hlt x (by simp [hx])) h2, rfl⟩
  | [], [], _ :: _, _, _, _, h => h.elim
  | [], _ :: _, [], _, _, _, h => h.elim
  | [], _ :: _, _ :: _, _, _, _, h => h.elim
  | _ :: _, [], [], _, _, _, h => h.elim
  | _ :: _, [], _ :: _, _, _, _, h => h.elim
  | _ :: _, _ :: _, [], _, _, _, h => h.elim

/-- The end of every law: it answers true, and all that was there is as it was. -/
theorem law_post {f : Func} {s : ChangeSpec} {W W' : World} {args : Array Value} {ds gs : List (DataW H)} {before : List MemPlace} {tb : TypeId}
    (hW : DataW.Whole enc P f.params.toList s.vars false W args.toList ds gs before) (hfn : s.fn H (ds ++ gs) = { results := [.lit (.bool true)], args := ds, vars := gs })
    (hrt : f.resultTypes = #[tb]) (htb : P.underlying tb = some .bool) (hl : laidOutB P = true) (hr : (f.params.toList.all fun t => P.readableRec t && decide (t < P.types.size)) = true) (hv : varsRowed P s.vars = true)
    (hfr : Below W.heap.size W W') : s.post enc P f false true false false W args (.bool true) W' := by
  have hlt : ∀ x ∈ before, x.block < W.heap.size := fun x hx => hW.lt x hx
  have hW' := hW
  obtain ⟨p, q, hA, hV, rfl, _, _⟩ := hW'
  have hr' : ∀ t ∈ f.params.toList, P.readableRec t = true ∧ t < P.types.size := fun t ht => by simpa using List.all_eq_true.1 hr t ht
  refine ⟨ds, gs, _, [], p, q, hW, ?_, ?_, ?_, hfr.frame _, fun h => by cases h⟩
  · rw [hfn, hrt]
    exact trodAll_mk1 (shut_bool htb true)
  · rw [hfn]
    exact trodAll_below hl hfr hr' (fun x hx => hlt x (by simp [hx])) hA
  · rw [hfn]
    exact Below.trodVars hl hfr hv hV

/-- A slice that came in reads as a list, k cells an element. -/
theorem rd_of_cells {α : Type} [Inhabited α] (f : α → List Value) (ok : α → Prop) {W : World} {t e : TypeId} {k : Nat} (hk0 : 0 < k) (hk : ∀ x, (f x).length = k) (ht : P.underlying t = some (.slice e)) (hc : P.cellsOf e = k)
    (hel : ∀ n cs y, cs.length = k → DataW.trod enc P W 0 (fun _ => true) true n e cs = some y → ∃ x, cs = f x ∧ ok x)
    {fuel : Nat} {cs0 : List Value} {x0 : DataW H × List MemPlace} (hf : DataW.trod enc P W 0 (fun _ => true) true fuel t cs0 = some x0) :
    ∃ (A : Option Addr) (n c : Nat) (l : List α), cs0 = [.slice A n c] ∧ Rd W A n k (l.flatMap f) ∧ l.length = n ∧ (∀ x ∈ l, ok x) ∧ n ≤ c ∧ c ≤ maxLen := by
  rcases open_slice ht hf with ⟨hcs, _⟩ | ⟨a, n, cap, m, n', D, Pl, hcs, _, hlc, hcm, hm, _, hx⟩
  · subst hcs
    exact ⟨none, 0, 0, [], rfl, ⟨by simp, fun h => absurd h (by omega)⟩, rfl, by simp, Nat.le_refl _, by simp [maxLen]⟩
  · subst hcs
    simp only [if_true] at hm
    rw [hc] at hx
    obtain ⟨F, hF⟩ := choose_lt (α := α) (n := n) (p := fun i x => ok x ∧ ∀ j u, (f x)[j]? = some u → W.cell? (a.add (i * k + j)) = some u) (fun i hi => by
      obtain ⟨cs, h1, h2⟩ := hx i (by omega)
      obtain ⟨_, hlen, hcell⟩ := World.cells?_some h1
      obtain ⟨x, rfl, hok⟩ := hel _ _ _ hlen h2
      refine ⟨x, hok, fun j u hu => ?_⟩
      have hj : j < k := by rw [← hk x]; exact (List.getElem?_eq_some_iff.1 hu).1
      have := hcell j hj
      rw [Go.Deep.add_add] at this
      rw [this, hu])
    subst hm
    have hspot : 0 < n → ∃ b o, a = ⟨b, o, none⟩ := fun hn => by
      have h1 := (hF 0 hn).2 0 _ (List.getElem?_eq_getElem (by rw [hk]; exact hk0))
      obtain ⟨b, o, s⟩ := a
      have := World.cell?_spot h1
      simp [Addr.add] at this
      subst this
      exact ⟨b, o, rfl⟩
    refine ⟨some a, n, m, (List.range n).map F, rfl, ⟨?_, fun hn0 => ?_⟩, by simp, fun x hx => ?_, hlc, hcm⟩
    · rw [flat_len hk]
      simp
    · obtain ⟨b, o, rfl⟩ := hspot hn0
      refine ⟨b, o, rfl, ?_⟩
      intro j u hu
      obtain ⟨i, r, x, rfl, _, hx', hr⟩ := flat_at hk hu
      rw [List.getElem?_map] at hx'
      obtain ⟨i', hi', rfl⟩ := Option.map_eq_some_iff.1 hx'
      obtain ⟨hi, rfl⟩ : i < n ∧ i = i' := by
        rw [List.getElem?_eq_some_iff] at hi'
        obtain ⟨h1, h2⟩ := hi'
        simp at h1 h2
        exact ⟨h1, h2⟩
      have := (hF i hi).2 r u hr
      rwa [Addr.add_lit] at this
    · simp only [List.mem_map, List.mem_range] at hx
      obtain ⟨i, hi, rfl⟩ := hx
      exact (hF i hi).1
/-- .. of a value. -/
theorem rd_of_trod {α : Type} [Inhabited α] (f : α → List Value) (ok : α → Prop) {W : World} {t e : TypeId} {k : Nat} (hk0 : 0 < k) (hk : ∀ x, (f x).length = k) (ht : P.underlying t = some (.slice e)) (hc : P.cellsOf e = k)
    (hel : ∀ n cs y, cs.length = k → DataW.trod enc P W 0 (fun _ => true) true n e cs = some y → ∃ x, cs = f x ∧ ok x)
    {v : Value} {d : DataW H} {p : List MemPlace} (hv : Value.okWide P W .any 0 t v) (h : DataW.Trod enc P W 0 (fun _ => true) true t v d p) :
    ∃ (A : Option Addr) (n c : Nat) (l : List α), v = .slice A n c ∧ Rd W A n k (l.flatMap f) ∧ l.length = n ∧ (∀ x ∈ l, ok x) ∧ n ≤ c ∧ c ≤ maxLen := by
  obtain ⟨A, n, c, rfl⟩ := okWide_slice ht hv
  obtain ⟨fuel, hf⟩ := h
  obtain ⟨A', n', c', l, hcs, r⟩ := rd_of_cells f ok hk0 hk ht hc hel hf
  simp [Value.cells] at hcs
  obtain ⟨rfl, rfl, rfl⟩ := hcs
  exact ⟨_, _, _, l, rfl, r⟩

/-- A slice of flags. -/
theorem rd_bools {W : World} {t e : TypeId} (ht : P.underlying t = some (.slice e)) (he : P.underlying e = some .bool) (hc : P.cellsOf e = 1)
    {v : Value} {d : DataW H} {p : List MemPlace} (hv : Value.okWide P W .any 0 t v) (h : DataW.Trod enc P W 0 (fun _ => true) true t v d p) :
    ∃ (A : Option Addr) (n c : Nat) (l : List Bool), v = .slice A n c ∧ Rd W A n 1 (l.map .bool) ∧ n ≤ c ∧ c ≤ maxLen := by
  obtain ⟨A, n, c, l, rfl, h1, _, _, h2, h3⟩ := rd_of_trod (fun b : Bool => [.bool b]) (fun _ => True) Nat.one_pos (fun _ => rfl) ht hc (fun n cs y _ h => by
    obtain ⟨b, hb, _⟩ := DataW.trod_bool he h
    exact ⟨b, hb, trivial⟩) hv h
  exact ⟨A, n, c, l, rfl, by rwa [← List.map_eq_flatMap] at h1, h2, h3⟩

/-- A number that an int can hold. -/
def I64 (x : Int) : Prop := -9223372036854775808 ≤ x ∧ x ≤ 9223372036854775807
theorem i64_of_wf {x : Int} (h : (Lit.int .i64 x).wf = true) : I64 x := by
  simpa [I64, Lit.wf, IntKind.min, IntKind.max, IntKind.signed, IntKind.bits] using h

/-- A slice of structs of two ints. -/
theorem rd_pairs {W : World} {t e ti : TypeId} {f0 f1 : Field} (ht : P.underlying t = some (.slice e)) (he : P.underlying e = some (.struct #[f0, f1])) (hc : P.cellsOf e = 2)
    (hf0 : f0.type = ti ∧ f0.offset = 0) (hf1 : f1.type = ti ∧ f1.offset = 1) (hti : P.underlying ti = some (.int .i64)) (hci : P.cellsOf ti = 1)
    {v : Value} {d : DataW H} {p : List MemPlace} (hv : Value.okWide P W .any 0 t v) (h : DataW.Trod enc P W 0 (fun _ => true) true t v d p) :
    ∃ (A : Option Addr) (n c : Nat) (l : List (Int × Int)), v = .slice A n c ∧ Rd W A n 2 (l.flatMap fun r => [.int .i64 r.1, .int .i64 r.2]) ∧ (∀ r ∈ l, I64 r.1 ∧ I64 r.2) ∧ n ≤ c ∧ c ≤ maxLen := by
  obtain ⟨A, n, c, l, rfl, h1, _, hok, h2, h3⟩ := rd_of_trod (fun r : Int × Int => [.int .i64 r.1, .int .i64 r.2]) (fun r => I64 r.1 ∧ I64 r.2) (by omega) (fun _ => rfl) ht hc (fun n cs y hl h => by
    obtain ⟨y0, y1, m, _, _, t0, t1⟩ := trod_struct2 he h
    rw [hf0.1, hf0.2, hci] at t0
    rw [hf1.1, hf1.2, hci] at t1
    match cs, hl with
    | [u0, u1], _ =>
      obtain ⟨a, ha, _, wa⟩ := DataW.trod_int hti t0
      obtain ⟨b, hb, _, wb⟩ := DataW.trod_int hti t1
      simp at ha hb
      subst ha hb
      exact ⟨(a, b), rfl, i64_of_wf wa, i64_of_wf wb⟩) hv h
  exact ⟨A, n, c, l, rfl, h1, hok, h2, h3⟩

/-- A slice of structs of three ints. -/
theorem rd_triples {W : World} {t e ti : TypeId} {f0 f1 f2 : Field} (ht : P.underlying t = some (.slice e)) (he : P.underlying e = some (.struct #[f0, f1, f2])) (hc : P.cellsOf e = 3)
    (hf0 : f0.type = ti ∧ f0.offset = 0) (hf1 : f1.type = ti ∧ f1.offset = 1) (hf2 : f2.type = ti ∧ f2.offset = 2) (hti : P.underlying ti = some (.int .i64)) (hci : P.cellsOf ti = 1)
    {v : Value} {d : DataW H} {p : List MemPlace} (hv : Value.okWide P W .any 0 t v) (h : DataW.Trod enc P W 0 (fun _ => true) true t v d p) :
    ∃ (A : Option Addr) (n c : Nat) (l : List (Int × Int × Int)), v = .slice A n c ∧ Rd W A n 3 (l.flatMap fun r => [.int .i64 r.1, .int .i64 r.2.1, .int .i64 r.2.2]) ∧ (∀ r ∈ l, I64 r.1 ∧ I64 r.2.1 ∧ I64 r.2.2) ∧ n ≤ c ∧ c ≤ maxLen := by
  obtain ⟨A, n, c, l, rfl, h1, _, hok, h2, h3⟩ := rd_of_trod (fun r : Int × Int × Int => [.int .i64 r.1, .int .i64 r.2.1, .int .i64 r.2.2]) (fun r => I64 r.1 ∧ I64 r.2.1 ∧ I64 r.2.2) (by omega) (fun _ => rfl) ht hc (fun n cs y hl h => by
    obtain ⟨y0, y1, y2, m, _, _, t0, t1, t2⟩ := trod_struct3 he h
    rw [hf0.1, hf0.2, hci] at t0
    rw [hf1.1, hf1.2, hci] at t1
    rw [hf2.1, hf2.2, hci] at t2
    match cs, hl with
    | [u0, u1, u2], _ =>
      obtain ⟨a, ha, _, wa⟩ := DataW.trod_int hti t0
      obtain ⟨b, hb, _, wb⟩ := DataW.trod_int hti t1
      obtain ⟨c, hc, _, wc⟩ := DataW.trod_int hti t2
      simp at ha hb hc
      subst ha hb hc
      exact ⟨(a, b, c), rfl, i64_of_wf wa, i64_of_wf wb, i64_of_wf wc⟩) hv h
  exact ⟨A, n, c, l, rfl, h1, hok, h2, h3⟩
/-- Slices of flags, of texts, of ints, as cells. -/
theorem rd_bools_of {W : World} {t e : TypeId} (ht : P.underlying t = some (.slice e)) (he : P.underlying e = some .bool) (hc : P.cellsOf e = 1) {fuel : Nat} {v : Value} {x : DataW H × List MemPlace} (hf : DataW.trod enc P W 0 (fun _ => true) true fuel t [v] = some x) :
    ∃ (A : Option Addr) (n c : Nat) (l : List Bool), v = .slice A n c ∧ Rd W A n 1 (l.map .bool) ∧ n ≤ c ∧ c ≤ maxLen := by
  obtain ⟨A, n, c, l, hv, h1, _, _, h2, h3⟩ := rd_of_cells (fun b : Bool => [.bool b]) (fun _ => True) Nat.one_pos (fun _ => rfl) ht hc (fun n cs y _ h => by
    obtain ⟨b, hb, _⟩ := DataW.trod_bool he h
    exact ⟨b, hb, trivial⟩) hf
  exact ⟨A, n, c, l, by simpa using hv, by rwa [← List.map_eq_flatMap] at h1, h2, h3⟩
theorem rd_strings_of {W : World} {t e : TypeId} (ht : P.underlying t = some (.slice e)) (he : P.underlying e = some .string) (hc : P.cellsOf e = 1) {fuel : Nat} {v : Value} {x : DataW H × List MemPlace} (hf : DataW.trod enc P W 0 (fun _ => true) true fuel t [v] = some x) :
    ∃ (A : Option Addr) (n c : Nat) (l : List ByteArray), v = .slice A n c ∧ Rd W A n 1 (l.map .string) ∧ (∀ s ∈ l, s.size ≤ 9223372036854775807) ∧ n ≤ c ∧ c ≤ maxLen := by
  obtain ⟨A, n, c, l, hv, h1, _, hok, h2, h3⟩ := rd_of_cells (fun s : ByteArray => [.string s]) (fun s => s.size ≤ 9223372036854775807) Nat.one_pos (fun _ => rfl) ht hc (fun n cs y _ h => by
    obtain ⟨b, hb, _, hz⟩ := DataW.trod_string he h
    exact ⟨b, hb, by simpa [maxLen] using hz⟩) hf
  exact ⟨A, n, c, l, by simpa using hv, by rwa [← List.map_eq_flatMap] at h1, hok, h2, h3⟩
theorem rd_ints_of {W : World} {t e : TypeId} (ht : P.underlying t = some (.slice e)) (he : P.underlying e = some (.int .i64)) (hc : P.cellsOf e = 1) {fuel : Nat} {v : Value} {x : DataW H × List MemPlace} (hf : DataW.trod enc P W 0 (fun _ => true) true fuel t [v] = some x) :
    ∃ (A : Option Addr) (n c : Nat) (l : List Int), v = .slice A n c ∧ Rd W A n 1 (l.map (Value.int .i64)) ∧ (∀ x ∈ l, I64 x) ∧ n ≤ c ∧ c ≤ maxLen := by
  obtain ⟨A, n, c, l, hv, h1, _, hok, h2, h3⟩ := rd_of_cells (fun x : Int => [.int .i64 x]) I64 Nat.one_pos (fun _ => rfl) ht hc (fun n cs y _ h => by
    obtain ⟨b, hb, _, hw⟩ := DataW.trod_int he h
    exact ⟨b, hb, i64_of_wf hw⟩) hf
  exact ⟨A, n, c, l, by simpa using hv, by rwa [← List.map_eq_flatMap] at h1, hok, h2, h3⟩
theorem rd_ints {W : World} {t e : TypeId} (ht : P.underlying t = some (.slice e)) (he : P.underlying e = some (.int .i64)) (hc : P.cellsOf e = 1)
    {v : Value} {d : DataW H} {p : List MemPlace} (hv : Value.okWide P W .any 0 t v) (h : DataW.Trod enc P W 0 (fun _ => true) true t v d p) :
    ∃ (A : Option Addr) (n c : Nat) (l : List Int), v = .slice A n c ∧ Rd W A n 1 (l.map (Value.int .i64)) ∧ (∀ x ∈ l, I64 x) ∧ n ≤ c ∧ c ≤ maxLen := by
  obtain ⟨A, n, c, rfl⟩ := okWide_slice ht hv
  obtain ⟨fuel, hf⟩ := h
  exact rd_ints_of ht he hc hf
end
end Go.Proofs.YtaogikhpglcmjaaGreatDoor
