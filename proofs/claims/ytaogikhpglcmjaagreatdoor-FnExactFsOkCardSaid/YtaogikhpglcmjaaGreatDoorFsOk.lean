/-
  Is a machine right: FsOk of both builds; isNoVol, l10ZeroVol.
-/
import Derived.Test.YtaogikhpglcmjaaGreatDoorCallOk
import Derived.Test.YtaogikhpglcmjaaGreatDoorDevOk
import Derived.Test.YtaogikhpglcmjaaGreatDoorVolOkI
import Derived.Test.YtaogikhpglcmjaaGreatDoorVolOkS
import Derived.Test.YtaogikhpglcmjaaGreatDoorGv
import Derived.Test.YtaogikhpglcmjaaGreatDoorGZa
namespace Go.Proofs.YtaogikhpglcmjaaGreatDoor
open Go.RowKit

set_option linter.unusedVariables false
set_option linter.unusedSimpArgs false
theorem read_is {w w' : World} {l : List ByteArray} {e : Ending} (h : ReadGave w l e w') : ∃ (x : Int) (A : Option Addr) (n c : Nat), e = .returned (.tuple #[.agg #[.int .i64 x, .slice A n c], .bool (readB l).isSome]) ∧ Fr w w' := by
  unfold ReadGave at h
  cases hb : readB l with
  | none => rw [hb] at h; obtain ⟨rfl, f⟩ := h; exact ⟨0, none, 0, 0, rfl, f⟩
  | some q =>
    obtain ⟨next, nds⟩ := q
    rw [hb] at h
    obtain ⟨A, c, L, h⟩ := h
    obtain ⟨_, _, _, _, he, _, K⟩ := h
    exact ⟨next, A, L.length, c, he, K.fr⟩
def noVolB (x : Int) (n : Nat) : Bool := x == 0 && decide (n = 0)
def fsB (cs dv few sv tr st sq up st5 rd vm st14 vg z1 z2 b0 : Bool) : Bool :=
  cs && dv && few && sv && tr && st && sq && (!(up || st5) || (rd && vm)) && (if st14 = true then up && vg else (up || st5 || (z1 && z2 && b0)))

theorem implNoVol_any (x : Int) (A : Option Addr) (n c : Nat) (w : World) :
    Calls Tryz.prog 47 #[.agg #[.int .i64 x, .slice A n c]] w fun e w' => e = .returned (.bool (noVolB x n)) ∧ Fr w w' := by
  have H := (Hp.start w).lay_ 26 [.int .i64 x, .slice A n c] rfl
  have y0 := H.bat 0 rfl (j := 0) rfl
  have y1 := H.bat 0 rfl (j := 1) rfl
  by_cases h : x = 0
  · have h1 : (x == 0) = true := by simpa using h
    by_cases hn : n = 0
    · have h2 : ((n : Int) == 0) = true := by simp; omega
      have h3 : noVolB x n = true := by simp [noVolB, h, hn]
      rw [h3]
      clear hn h
      go_enter Tryz.func47, Tryz.ntmps47
      go_wp2_with fail
      go_ret
      exact ⟨rfl, H.fr⟩
    · have h2 : ((n : Int) == 0) = false := by simp; omega
      have h3 : noVolB x n = false := by simp [noVolB, hn]
      rw [h3]
      clear h
      go_enter Tryz.func47, Tryz.ntmps47
      go_wp2_with fail
      go_ret
      exact ⟨rfl, H.fr⟩
  · have h1 : (x == 0) = false := by simpa using h
    have h3 : noVolB x n = false := by simp [noVolB, h]
    rw [h3]
    go_enter Tryz.func47, Tryz.ntmps47
    go_wp2_with fail
    go_ret
    exact ⟨rfl, H.fr⟩

theorem specNoVol_any (x : Int) (A : Option Addr) (n c : Nat) (w : World) :
    Calls Tryz.prog 39 #[.agg #[.int .i64 x, .slice A n c]] w fun e w' => e = .returned (.bool (noVolB x n)) ∧ Fr w w' := by
  have H := (Hp.start w).lay_ 26 [.int .i64 x, .slice A n c] rfl
  have y0 := H.bat 0 rfl (j := 0) rfl
  have y1 := H.bat 0 rfl (j := 1) rfl
  by_cases h : x = 0
  · have h1 : (x == 0) = true := by simpa using h
    by_cases hn : n = 0
    · have h2 : ((n : Int) == 0) = true := by simp; omega
      have h3 : noVolB x n = true := by simp [noVolB, h, hn]
      rw [h3]
      clear hn h
      go_enter Tryz.func39, Tryz.ntmps39
      go_wp2_with fail
      go_ret
      exact ⟨rfl, H.fr⟩
    · have h2 : ((n : Int) == 0) = false := by simp; omega
      have h3 : noVolB x n = false := by simp [noVolB, hn]
      rw [h3]
      clear h
      go_enter Tryz.func39, Tryz.ntmps39
      go_wp2_with fail
      go_ret
      exact ⟨rfl, H.fr⟩
  · have h1 : (x == 0) = false := by simpa using h
    have h3 : noVolB x n = false := by simp [noVolB, h]
    rw [h3]
    go_enter Tryz.func39, Tryz.ntmps39
    go_wp2_with fail
    go_ret
    exact ⟨rfl, H.fr⟩

noncomputable def fsOkB (up : Bool) (m1 m2 sq st sv tr : Int) (l1 l2 : List Nod) (base bl : List ByteArray) (pd : List (Int × ByteArray)) (calls : List (Int × Int × ByteArray × Int × ByteArray × ByteArray)) : Bool :=
  fsB (calls.all callB) (devB bl pd) (decide (calls.length ≤ 120)) (inB sv 0 calls.length) (inB tr 0 calls.length) (inB st 0 5) (inB sq 0 1000000) up (st == 5) (readB base).isSome (volB m1 l1) (inB st 1 4) (volB m2 l2) (noVolB m1 l1.length) (noVolB m2 l2.length) (decide (base.length = 0))
set_option maxRecDepth 100000 in
set_option maxHeartbeats 16000000 in
theorem implFsOk_any (up : Bool) (m1 m2 sq st sv tr : Int) (A1 A2 A3 A6 A7 A8 : Option Addr) (n1 n2 n3 n6 n7 n8 c1 c2 c3 c6 c7 c8 : Nat) (L1 L2 : List (Value × Nod)) (base bl : List ByteArray) (pd : List (Int × ByteArray)) (calls : List (Int × Int × ByteArray × Int × ByteArray × ByteArray)) (w : World)
    (h1 : RdN w A1 n1 L1) (hn1 : n1 ≤ 1048576) (hc1 : n1 ≤ c1) (few1 : FewE L1) (sz1 : ∀ p ∈ L1, ∀ e ∈ p.2.2.2.2.2, e.2.2.1.size ≤ 16777216)
    (h2 : RdN w A2 n2 L2) (hn2 : n2 ≤ 1048576) (hc2 : n2 ≤ c2) (few2 : FewE L2) (sz2 : ∀ p ∈ L2, ∀ e ∈ p.2.2.2.2.2, e.2.2.1.size ≤ 16777216)
    (h3 : Rd w A3 n3 1 (base.map Value.string)) (hn3 : n3 ≤ 1048576) (sz3 : ∀ t ∈ base, t.size ≤ 16777216)
    (h6 : Rd w A6 n6 1 (bl.map Value.string)) (hn6 : n6 ≤ 1048576) (h7 : Rd w A7 n7 2 (pd.flatMap cWrite)) (hn7 : n7 ≤ 1048576) (h8 : Rd w A8 n8 6 (calls.flatMap cCall)) (hn8 : n8 ≤ 1048576) (hk : KT w) :
    Calls Tryz.prog 20 #[.agg #[.bool up, .int .i64 m1, .slice A1 n1 c1, .int .i64 m2, .slice A2 n2 c2, .slice A3 n3 c3, .int .i64 sq, .int .i64 st, .slice A6 n6 c6, .slice A7 n7 c7, .slice A8 n8 c8, .int .i64 sv, .int .i64 tr]] w fun e w' => e = .returned (.bool (fsOkB up m1 m2 sq st sv tr (nodes L1) (nodes L2) base bl pd calls)) ∧ Fr w w' := by
  have HLC := Lib.hid (show calls.length = n8 from h8.lenk cCall_len (by omega))
  have HL3 := Lib.hid h3.len1
  have HN1 := Lib.hid (show (nodes L1).length = n1 by rw [nodes_len]; exact h1.len)
  have HN2 := Lib.hid (show (nodes L2).length = n2 by rw [nodes_len]; exact h2.len)
  obtain ⟨q0, hq0⟩ : ∃ q, q = fsOkB up m1 m2 sq st sv tr (nodes L1) (nodes L2) base bl pd calls := ⟨_, rfl⟩
  rw [← hq0]
  rw [fsOkB, HLC.out, HL3.out, HN1.out, HN2.out] at hq0
  obtain ⟨bcs, hbcs⟩ : ∃ b : Bool, calls.all callB = b := ⟨_, rfl⟩
  rw [hbcs] at hq0
  obtain ⟨bdv, hbdv⟩ : ∃ b : Bool, devB bl pd = b := ⟨_, rfl⟩
  rw [hbdv] at hq0
  obtain ⟨bfew, hbfew⟩ : ∃ b : Bool, decide (n8 ≤ 120) = b := ⟨_, rfl⟩
  rw [hbfew] at hq0
  obtain ⟨bsv, hbsv⟩ : ∃ b : Bool, inB sv 0 n8 = b := ⟨_, rfl⟩
  rw [hbsv] at hq0
  obtain ⟨btr, hbtr⟩ : ∃ b : Bool, inB tr 0 n8 = b := ⟨_, rfl⟩
  rw [hbtr] at hq0
  obtain ⟨bst, hbst⟩ : ∃ b : Bool, inB st 0 5 = b := ⟨_, rfl⟩
  rw [hbst] at hq0
  obtain ⟨bsq, hbsq⟩ : ∃ b : Bool, inB sq 0 1000000 = b := ⟨_, rfl⟩
  rw [hbsq] at hq0
  obtain ⟨b5, hb5⟩ : ∃ b : Bool, (st == 5) = b := ⟨_, rfl⟩
  rw [hb5] at hq0
  obtain ⟨brd, hbrd⟩ : ∃ b : Bool, (readB base).isSome = b := ⟨_, rfl⟩
  rw [hbrd] at hq0
  obtain ⟨bvm, hbvm⟩ : ∃ b : Bool, volB m1 (nodes L1) = b := ⟨_, rfl⟩
  rw [hbvm] at hq0
  obtain ⟨b14, hb14⟩ : ∃ b : Bool, inB st 1 4 = b := ⟨_, rfl⟩
  rw [hb14] at hq0
  obtain ⟨bvg, hbvg⟩ : ∃ b : Bool, volB m2 (nodes L2) = b := ⟨_, rfl⟩
  rw [hbvg] at hq0
  obtain ⟨bz1, hbz1⟩ : ∃ b : Bool, noVolB m1 n1 = b := ⟨_, rfl⟩
  rw [hbz1] at hq0
  obtain ⟨bz2, hbz2⟩ : ∃ b : Bool, noVolB m2 n2 = b := ⟨_, rfl⟩
  rw [hbz2] at hq0
  obtain ⟨bb0, hbb0⟩ : ∃ b : Bool, decide (n3 = 0) = b := ⟨_, rfl⟩
  rw [hbb0] at hq0
  have HQ := Lib.hid hq0
  clear hq0
  have HBCS := Lib.hid hbcs
  clear hbcs
  have HBDV := Lib.hid hbdv
  clear hbdv
  have HBFEW := Lib.hid hbfew
  clear hbfew
  have HBSV := Lib.hid hbsv
  clear hbsv
  have HBTR := Lib.hid hbtr
  clear hbtr
  have HBST := Lib.hid hbst
  clear hbst
  have HBSQ := Lib.hid hbsq
  clear hbsq
  have HB5 := Lib.hid hb5
  clear hb5
  have HBRD := Lib.hid hbrd
  clear hbrd
  have HBVM := Lib.hid hbvm
  clear hbvm
  have HB14 := Lib.hid hb14
  clear hb14
  have HBVG := Lib.hid hbvg
  clear hbvg
  have HBZ1 := Lib.hid hbz1
  clear hbz1
  have HBZ2 := Lib.hid hbz2
  clear hbz2
  have HBB0 := Lib.hid hbb0
  clear hbb0
  have H := (Hp.start w).lay_ 52 [.bool up, .int .i64 m1, .slice A1 n1 c1, .int .i64 m2, .slice A2 n2 c2, .slice A3 n3 c3, .int .i64 sq, .int .i64 st, .slice A6 n6 c6, .slice A7 n7 c7, .slice A8 n8 c8, .int .i64 sv, .int .i64 tr] rfl
  go_enter Tryz.func20, Tryz.ntmps20
  have y10 := H.bat 0 rfl (j := 10) rfl
  go_wp2_with fail
  go_loopw [11] (fun iv wr => ∃ i : Nat, iv = .int .i64 i ∧ i ≤ n8 ∧ (calls.take i).all callB = true ∧ Hp [] w wr [.blk w.heap.size 52 [.bool up, .int .i64 m1, .slice A1 n1 c1, .int .i64 m2, .slice A2 n2 c2, .slice A3 n3 c3, .int .i64 sq, .int .i64 st, .slice A6 n6 c6, .slice A7 n7 c7, .slice A8 n8 c8, .int .i64 sv, .int .i64 tr]]) (fun iv _ => n8 - (intOf iv).toNat)
  case atStart => exact ⟨0, rfl, by omega, rfl, H⟩
  case round =>
    clear H
    clear y10
    obtain ⟨i, rfl, hi, hall, H⟩ := hrel
    have HA := Lib.hid hall
    clear hall
    by_cases hlt : i < n8
    ·
      obtain ⟨⟨x0, x1, x2, x3, x4, x5⟩, hx⟩ := some_at HLC.out hlt
      obtain ⟨bk, of, rfl, hcell⟩ := (h8.fr H.fr).elem cCall_len hx (by omega)
      have ca0 := hcell 0 _ rfl; simp only [Nat.add_zero] at ca0
      have ca1 := hcell 1 _ rfl
      have ca2 := hcell 2 _ rfl
      have ca3 := hcell 3 _ rfl
      have ca4 := hcell 4 _ rfl
      have ca5 := hcell 5 _ rfl
      have HX := Lib.hid hx
      clear hx hcell
      have HH := H.lay_ 75 [.int .i64 x0, .int .i64 x1, .string x2, .int .i64 x3, .string x4, .string x5] rfl
      go_wp2_with fail
      refine (implCallOk_any x0 x1 x2 x3 x4 x5 _).mono ?_
      rintro e w2 ⟨rfl, f2⟩
      have H2 := (HH.go f2).tail
      clear f2 HH H ca0 ca1 ca2 ca3 ca4 ca5
      obtain ⟨b, hb⟩ : ∃ b, callB (x0, x1, x2, x3, x4, x5) = b := ⟨_, rfl⟩
      rw [hb]
      have HB := Lib.hid hb
      clear hb
      cases b with
      | false =>
        have HE := Lib.hid (show q0 = false by rw [HQ.out, show bcs = false from HBCS.out.symm.trans (all_no (p := callB) HX.out HB.out)]; simp [fsB])
        go_wp2_with fail
        go_ret
        rw [HE.out]
        exact ⟨rfl, H2.fr⟩
      | true =>
        have HE := Lib.hid (all_take_yes (p := callB) HA.out HX.out HB.out)
        go_wp2_with fail
        go_roundw
        case rel => exact ⟨i + 1, by go_num, by omega, HE.out, H2⟩
        case measure => simp [intOf]; omega
    ·
      obtain rfl : n8 = i := by omega
      obtain rfl : bcs = true := HBCS.out.symm.trans (by have h1 := HA.out; rwa [List.take_of_length_le (by rw [HLC.out]; exact Nat.le_refl _)] at h1)
      have y8 := H.bat 0 rfl (j := 8) rfl
      have y9 := H.bat 0 rfl (j := 9) rfl
      have y10 := H.bat 0 rfl (j := 10) rfl
      go_wp2_with fail
      refine (implDevOk_any A6 n6 c6 bl A7 n7 c7 pd _ (h6.fr H.fr) (h7.fr H.fr) hn6 hn7).mono ?_
      rintro e wz ⟨rfl, fz⟩
      replace H := H.go fz
      clear y8 y9 y10
      clear fz
      have y6 := H.bat 0 rfl (j := 6) rfl
      have y7 := H.bat 0 rfl (j := 7) rfl
      have y11 := H.bat 0 rfl (j := 11) rfl
      have y12 := H.bat 0 rfl (j := 12) rfl
      rw [HBDV.out]
      cases bdv with
      | false =>
        clear y6 y7 y11 y12
        have HE := Lib.hid (show q0 = false by rw [HQ.out]; simp [fsB])
        go_wp2_with fail
        go_ret
        rw [HE.out]
        exact ⟨rfl, H.fr⟩
      | true =>
        cases bfew with
        | false =>
          have h120 : (120 : Int) < (n8 : Int) := by have := of_decide_eq_false HBFEW.out; omega
          have HE := Lib.hid (show q0 = false by rw [HQ.out]; simp [fsB])
          go_wp2_with fail
          go_ret
          rw [HE.out]
          exact ⟨rfl, H.fr⟩
        | true =>
          have h120 : ¬ (120 : Int) < (n8 : Int) := by have := of_decide_eq_true HBFEW.out; omega
          go_wp2_with fail
          refine (within_any sv 0 n8 _).mono ?_
          rintro e _ ⟨rfl, rfl⟩
          rw [HBSV.out]
          cases bsv with
          | false =>
            clear y6 y7 y11 y12
            have HE := Lib.hid (show q0 = false by rw [HQ.out]; simp [fsB])
            go_wp2_with fail
            go_ret
            rw [HE.out]
            exact ⟨rfl, H.fr⟩
          | true =>
            go_wp2_with fail
            refine (within_any tr 0 n8 _).mono ?_
            rintro e _ ⟨rfl, rfl⟩
            rw [HBTR.out]
            cases btr with
            | false =>
              clear y6 y7 y11 y12
              have HE := Lib.hid (show q0 = false by rw [HQ.out]; simp [fsB])
              go_wp2_with fail
              go_ret
              rw [HE.out]
              exact ⟨rfl, H.fr⟩
            | true =>
              go_wp2_with fail
              refine (within_any st 0 5 _).mono ?_
              rintro e _ ⟨rfl, rfl⟩
              rw [HBST.out]
              cases bst with
              | false =>
                clear y6 y7 y11 y12
                have HE := Lib.hid (show q0 = false by rw [HQ.out]; simp [fsB])
                go_wp2_with fail
                go_ret
                rw [HE.out]
                exact ⟨rfl, H.fr⟩
              | true =>
                go_wp2_with fail
                refine (within_any sq 0 1000000 _).mono ?_
                rintro e _ ⟨rfl, rfl⟩
                rw [HBSQ.out]
                cases bsq with
                | false =>
                  clear y6 y7 y11 y12
                  have HE := Lib.hid (show q0 = false by rw [HQ.out]; simp [fsB])
                  go_wp2_with fail
                  go_ret
                  rw [HE.out]
                  exact ⟨rfl, H.fr⟩
                | true =>
                  clear y6 y7 y11 y12
                  have y0 := H.bat 0 rfl (j := 0) rfl
                  have y7 := H.bat 0 rfl (j := 7) rfl
                  cases up with
                  | true =>
                    clear y0 y7
                    have y5 := H.bat 0 rfl (j := 5) rfl
                    have y0 := H.bat 0 rfl (j := 0) rfl
                    have y7 := H.bat 0 rfl (j := 7) rfl
                    go_wp2_with fail
                    refine (implReadBlocks_any A3 n3 c3 base _ (h3.fr H.fr) hn3 sz3 (hk.fr H.fr)).mono ?_
                    rintro e wz hg
                    obtain ⟨x9, A9, n9, c9, rfl, fz⟩ := read_is hg
                    clear hg
                    replace H := (H.go fz).lay_ 26 [.int .i64 x9, .slice A9 n9 c9] rfl
                    clear y5 y0 y7
                    clear fz
                    have y1 := H.bat 1 rfl (j := 1) rfl
                    have y2 := H.bat 1 rfl (j := 2) rfl
                    rw [HBRD.out]
                    cases brd with
                    | false =>
                      clear y1 y2
                      have HE := Lib.hid (show q0 = false by rw [HQ.out]; simp [fsB])
                      go_wp2_with fail
                      go_ret
                      rw [HE.out]
                      exact ⟨rfl, H.fr⟩
                    | true =>
                      go_wp2_with fail
                      refine (implVolOk_any m1 A1 n1 c1 L1 _ (h1.fr H.fr) hn1 hc1 few1 sz1 (hk.fr H.fr)).mono ?_
                      rintro e wz ⟨rfl, fz⟩
                      replace H := H.go fz
                      clear y1 y2
                      clear fz
                      have y0 := H.bat 1 rfl (j := 0) rfl
                      have y7 := H.bat 1 rfl (j := 7) rfl
                      rw [HBVM.out]
                      cases bvm with
                      | false =>
                        clear y0 y7
                        have HE := Lib.hid (show q0 = false by rw [HQ.out]; simp [fsB])
                        go_wp2_with fail
                        go_ret
                        rw [HE.out]
                        exact ⟨rfl, H.fr⟩
                      | true =>
                        go_wp2_with fail
                        refine (within_any st 1 4 _).mono ?_
                        rintro e _ ⟨rfl, rfl⟩
                        rw [HB14.out]
                        cases b14 with
                        | false =>
                          have HE := Lib.hid (show q0 = true by rw [HQ.out]; simp [fsB])
                          go_wp2_with fail
                          go_ret
                          rw [HE.out]
                          exact ⟨rfl, H.fr⟩
                        | true =>
                          have y3 := H.bat 1 rfl (j := 3) rfl
                          have y4 := H.bat 1 rfl (j := 4) rfl
                          go_wp2_with fail
                          refine (implVolOk_any m2 A2 n2 c2 L2 _ (h2.fr H.fr) hn2 hc2 few2 sz2 (hk.fr H.fr)).mono ?_
                          rintro e wz ⟨rfl, fz⟩
                          replace H := H.go fz
                          clear y0 y7 y3 y4
                          clear fz
                          have y0 := H.bat 1 rfl (j := 0) rfl
                          have y7 := H.bat 1 rfl (j := 7) rfl
                          rw [HBVG.out]
                          cases bvg with
                          | false =>
                            clear y0 y7
                            have HE := Lib.hid (show q0 = false by rw [HQ.out]; simp [fsB])
                            go_wp2_with fail
                            go_ret
                            rw [HE.out]
                            exact ⟨rfl, H.fr⟩
                          | true =>
                            have HE := Lib.hid (show q0 = true by rw [HQ.out]; simp [fsB])
                            go_wp2_with fail
                            go_ret
                            rw [HE.out]
                            exact ⟨rfl, H.fr⟩
                  | false =>
                    by_cases hs5 : st = 5
                    ·
                      obtain rfl : b5 = true := HB5.out.symm.trans (by simpa using hs5)
                      obtain rfl : b14 = false := HB14.out.symm.trans (by simp [inB, hs5])
                      have hs5b : (st == 5) = true := by simpa using hs5
                      have hs0b : (st == 0) = false := by rw [hs5]; rfl
                      have hs0c : (st != 0) = true := by rw [hs5]; rfl
                      clear hs5
                      clear y0 y7
                      have y5 := H.bat 0 rfl (j := 5) rfl
                      have y0 := H.bat 0 rfl (j := 0) rfl
                      have y7 := H.bat 0 rfl (j := 7) rfl
                      go_wp2_with fail
                      refine (implReadBlocks_any A3 n3 c3 base _ (h3.fr H.fr) hn3 sz3 (hk.fr H.fr)).mono ?_
                      rintro e wz hg
                      obtain ⟨x9, A9, n9, c9, rfl, fz⟩ := read_is hg
                      clear hg
                      replace H := (H.go fz).lay_ 26 [.int .i64 x9, .slice A9 n9 c9] rfl
                      clear y5 y0 y7
                      clear fz
                      have y1 := H.bat 1 rfl (j := 1) rfl
                      have y2 := H.bat 1 rfl (j := 2) rfl
                      rw [HBRD.out]
                      cases brd with
                      | false =>
                        clear y1 y2
                        have HE := Lib.hid (show q0 = false by rw [HQ.out]; simp [fsB])
                        go_wp2_with fail
                        go_ret
                        rw [HE.out]
                        exact ⟨rfl, H.fr⟩
                      | true =>
                        go_wp2_with fail
                        refine (implVolOk_any m1 A1 n1 c1 L1 _ (h1.fr H.fr) hn1 hc1 few1 sz1 (hk.fr H.fr)).mono ?_
                        rintro e wz ⟨rfl, fz⟩
                        replace H := H.go fz
                        clear y1 y2
                        clear fz
                        have y0 := H.bat 1 rfl (j := 0) rfl
                        have y7 := H.bat 1 rfl (j := 7) rfl
                        rw [HBVM.out]
                        cases bvm with
                        | false =>
                          clear y0 y7
                          have HE := Lib.hid (show q0 = false by rw [HQ.out]; simp [fsB])
                          go_wp2_with fail
                          go_ret
                          rw [HE.out]
                          exact ⟨rfl, H.fr⟩
                        | true =>
                          go_wp2_with fail
                          refine (within_any st 1 4 _).mono ?_
                          rintro e _ ⟨rfl, rfl⟩
                          rw [HB14.out]
                          have HE := Lib.hid (show q0 = true by rw [HQ.out]; simp [fsB])
                          go_wp2_with fail
                          go_ret
                          rw [HE.out]
                          exact ⟨rfl, H.fr⟩
                    ·
                      obtain rfl : b5 = false := HB5.out.symm.trans (by simpa using hs5)
                      have hs5b : (st == 5) = false := by simpa using hs5
                      go_wp2_with fail
                      refine (within_any st 1 4 _).mono ?_
                      rintro e _ ⟨rfl, rfl⟩
                      rw [HB14.out]
                      cases b14 with
                      | true =>
                        have HE := Lib.hid (show q0 = false by rw [HQ.out]; simp [fsB])
                        go_wp2_with fail
                        go_ret
                        rw [HE.out]
                        exact ⟨rfl, H.fr⟩
                      | false =>
                        have hs0 : st = 0 := by have q1 := HBST.out; have q2 := HB14.out; simp [inB] at q1 q2; omega
                        have hs0b : (st == 0) = true := by simpa using hs0
                        have hs0c : (st != 0) = false := by rw [hs0]; rfl
                        clear hs0
                        have y1 := H.bat 0 rfl (j := 1) rfl
                        have y2 := H.bat 0 rfl (j := 2) rfl
                        go_wp2_with fail
                        refine (implNoVol_any m1 A1 n1 c1 _).mono ?_
                        rintro e wz ⟨rfl, fz⟩
                        replace H := H.go fz
                        clear y0 y7 y1 y2
                        clear fz
                        have y3 := H.bat 0 rfl (j := 3) rfl
                        have y4 := H.bat 0 rfl (j := 4) rfl
                        rw [HBZ1.out]
                        cases bz1 with
                        | false =>
                          clear y3 y4
                          have HE := Lib.hid (show q0 = false by rw [HQ.out]; simp [fsB])
                          go_wp2_with fail
                          go_ret
                          rw [HE.out]
                          exact ⟨rfl, H.fr⟩
                        | true =>
                          go_wp2_with fail
                          refine (implNoVol_any m2 A2 n2 c2 _).mono ?_
                          rintro e wz ⟨rfl, fz⟩
                          replace H := H.go fz
                          clear y3 y4
                          clear fz
                          have y5 := H.bat 0 rfl (j := 5) rfl
                          rw [HBZ2.out]
                          cases bz2 with
                          | false =>
                            clear y5
                            have HE := Lib.hid (show q0 = false by rw [HQ.out]; simp [fsB])
                            go_wp2_with fail
                            go_ret
                            rw [HE.out]
                            exact ⟨rfl, H.fr⟩
                          | true =>
                            cases bb0 with
                            | false =>
                              have hb0 : ((n3 : Int) == 0) = false := by have := of_decide_eq_false HBB0.out; simp; omega
                              have HE := Lib.hid (show q0 = false by rw [HQ.out]; simp [fsB])
                              go_wp2_with fail
                              go_ret
                              rw [HE.out]
                              exact ⟨rfl, H.fr⟩
                            | true =>
                              have hb0 : ((n3 : Int) == 0) = true := by have := of_decide_eq_true HBB0.out; simp; omega
                              have HE := Lib.hid (show q0 = true by rw [HQ.out]; simp [fsB])
                              go_wp2_with fail
                              go_ret
                              rw [HE.out]
                              exact ⟨rfl, H.fr⟩
set_option maxRecDepth 100000 in
set_option maxHeartbeats 16000000 in
theorem specFsOk_any (up : Bool) (m1 m2 sq st sv tr : Int) (A1 A2 A3 A6 A7 A8 : Option Addr) (n1 n2 n3 n6 n7 n8 c1 c2 c3 c6 c7 c8 : Nat) (L1 L2 : List (Value × Nod)) (base bl : List ByteArray) (pd : List (Int × ByteArray)) (calls : List (Int × Int × ByteArray × Int × ByteArray × ByteArray)) (w : World)
    (h1 : RdN w A1 n1 L1) (hn1 : n1 ≤ 1048576) (hc1 : n1 ≤ c1) (few1 : FewE L1) (sz1 : ∀ p ∈ L1, ∀ e ∈ p.2.2.2.2.2, e.2.2.1.size ≤ 16777216)
    (h2 : RdN w A2 n2 L2) (hn2 : n2 ≤ 1048576) (hc2 : n2 ≤ c2) (few2 : FewE L2) (sz2 : ∀ p ∈ L2, ∀ e ∈ p.2.2.2.2.2, e.2.2.1.size ≤ 16777216)
    (h3 : Rd w A3 n3 1 (base.map Value.string)) (hn3 : n3 ≤ 1048576) (sz3 : ∀ t ∈ base, t.size ≤ 16777216)
    (h6 : Rd w A6 n6 1 (bl.map Value.string)) (hn6 : n6 ≤ 1048576) (h7 : Rd w A7 n7 2 (pd.flatMap cWrite)) (hn7 : n7 ≤ 1048576) (h8 : Rd w A8 n8 6 (calls.flatMap cCall)) (hn8 : n8 ≤ 1048576) :
    Calls Tryz.prog 18 #[.agg #[.bool up, .int .i64 m1, .slice A1 n1 c1, .int .i64 m2, .slice A2 n2 c2, .slice A3 n3 c3, .int .i64 sq, .int .i64 st, .slice A6 n6 c6, .slice A7 n7 c7, .slice A8 n8 c8, .int .i64 sv, .int .i64 tr]] w fun e w' => e = .returned (.bool (fsOkB up m1 m2 sq st sv tr (nodes L1) (nodes L2) base bl pd calls)) ∧ Fr w w' := by
  have HLC := Lib.hid (show calls.length = n8 from h8.lenk cCall_len (by omega))
  have HL3 := Lib.hid h3.len1
  have HN1 := Lib.hid (show (nodes L1).length = n1 by rw [nodes_len]; exact h1.len)
  have HN2 := Lib.hid (show (nodes L2).length = n2 by rw [nodes_len]; exact h2.len)
  obtain ⟨q0, hq0⟩ : ∃ q, q = fsOkB up m1 m2 sq st sv tr (nodes L1) (nodes L2) base bl pd calls := ⟨_, rfl⟩
  rw [← hq0]
  rw [fsOkB, HLC.out, HL3.out, HN1.out, HN2.out] at hq0
  obtain ⟨bcs, hbcs⟩ : ∃ b : Bool, calls.all callB = b := ⟨_, rfl⟩
  rw [hbcs] at hq0
  obtain ⟨bdv, hbdv⟩ : ∃ b : Bool, devB bl pd = b := ⟨_, rfl⟩
  rw [hbdv] at hq0
  obtain ⟨bfew, hbfew⟩ : ∃ b : Bool, decide (n8 ≤ 120) = b := ⟨_, rfl⟩
  rw [hbfew] at hq0
  obtain ⟨bsv, hbsv⟩ : ∃ b : Bool, inB sv 0 n8 = b := ⟨_, rfl⟩
  rw [hbsv] at hq0
  obtain ⟨btr, hbtr⟩ : ∃ b : Bool, inB tr 0 n8 = b := ⟨_, rfl⟩
  rw [hbtr] at hq0
  obtain ⟨bst, hbst⟩ : ∃ b : Bool, inB st 0 5 = b := ⟨_, rfl⟩
  rw [hbst] at hq0
  obtain ⟨bsq, hbsq⟩ : ∃ b : Bool, inB sq 0 1000000 = b := ⟨_, rfl⟩
  rw [hbsq] at hq0
  obtain ⟨b5, hb5⟩ : ∃ b : Bool, (st == 5) = b := ⟨_, rfl⟩
  rw [hb5] at hq0
  obtain ⟨brd, hbrd⟩ : ∃ b : Bool, (readB base).isSome = b := ⟨_, rfl⟩
  rw [hbrd] at hq0
  obtain ⟨bvm, hbvm⟩ : ∃ b : Bool, volB m1 (nodes L1) = b := ⟨_, rfl⟩
  rw [hbvm] at hq0
  obtain ⟨b14, hb14⟩ : ∃ b : Bool, inB st 1 4 = b := ⟨_, rfl⟩
  rw [hb14] at hq0
  obtain ⟨bvg, hbvg⟩ : ∃ b : Bool, volB m2 (nodes L2) = b := ⟨_, rfl⟩
  rw [hbvg] at hq0
  obtain ⟨bz1, hbz1⟩ : ∃ b : Bool, noVolB m1 n1 = b := ⟨_, rfl⟩
  rw [hbz1] at hq0
  obtain ⟨bz2, hbz2⟩ : ∃ b : Bool, noVolB m2 n2 = b := ⟨_, rfl⟩
  rw [hbz2] at hq0
  obtain ⟨bb0, hbb0⟩ : ∃ b : Bool, decide (n3 = 0) = b := ⟨_, rfl⟩
  rw [hbb0] at hq0
  have HQ := Lib.hid hq0
  clear hq0
  have HBCS := Lib.hid hbcs
  clear hbcs
  have HBDV := Lib.hid hbdv
  clear hbdv
  have HBFEW := Lib.hid hbfew
  clear hbfew
  have HBSV := Lib.hid hbsv
  clear hbsv
  have HBTR := Lib.hid hbtr
  clear hbtr
  have HBST := Lib.hid hbst
  clear hbst
  have HBSQ := Lib.hid hbsq
  clear hbsq
  have HB5 := Lib.hid hb5
  clear hb5
  have HBRD := Lib.hid hbrd
  clear hbrd
  have HBVM := Lib.hid hbvm
  clear hbvm
  have HB14 := Lib.hid hb14
  clear hb14
  have HBVG := Lib.hid hbvg
  clear hbvg
  have HBZ1 := Lib.hid hbz1
  clear hbz1
  have HBZ2 := Lib.hid hbz2
  clear hbz2
  have HBB0 := Lib.hid hbb0
  clear hbb0
  have H := (Hp.start w).lay_ 52 [.bool up, .int .i64 m1, .slice A1 n1 c1, .int .i64 m2, .slice A2 n2 c2, .slice A3 n3 c3, .int .i64 sq, .int .i64 st, .slice A6 n6 c6, .slice A7 n7 c7, .slice A8 n8 c8, .int .i64 sv, .int .i64 tr] rfl
  go_enter Tryz.func18, Tryz.ntmps18
  have y8 := H.bat 0 rfl (j := 8) rfl
  have y9 := H.bat 0 rfl (j := 9) rfl
  go_wp2_with fail
  refine (specDevOk_any A6 n6 c6 bl A7 n7 c7 pd _ (h6.fr H.fr) (h7.fr H.fr) hn6 hn7).mono ?_
  rintro e wz ⟨rfl, fz⟩
  replace H := H.go fz
  clear y8 y9
  clear fz
  have y6 := H.bat 0 rfl (j := 6) rfl
  have y7 := H.bat 0 rfl (j := 7) rfl
  have y10 := H.bat 0 rfl (j := 10) rfl
  have y11 := H.bat 0 rfl (j := 11) rfl
  have y12 := H.bat 0 rfl (j := 12) rfl
  rw [HBDV.out]
  cases bdv with
  | false =>
    clear y6 y7 y10 y11 y12
    have HE := Lib.hid (show q0 = false by rw [HQ.out]; simp [fsB])
    go_wp2_with fail
    go_ret
    rw [HE.out]
    exact ⟨rfl, H.fr⟩
  | true =>
    cases bfew with
    | false =>
      have h120 : (120 : Int) < (n8 : Int) := by have := of_decide_eq_false HBFEW.out; omega
      have HE := Lib.hid (show q0 = false by rw [HQ.out]; simp [fsB])
      go_wp2_with fail
      go_ret
      rw [HE.out]
      exact ⟨rfl, H.fr⟩
    | true =>
      have h120 : ¬ (120 : Int) < (n8 : Int) := by have := of_decide_eq_true HBFEW.out; omega
      go_wp2_with fail
      refine (l1In_any sv 0 n8 _).mono ?_
      rintro e _ ⟨rfl, rfl⟩
      rw [HBSV.out]
      cases bsv with
      | false =>
        clear y6 y7 y10 y11 y12
        have HE := Lib.hid (show q0 = false by rw [HQ.out]; simp [fsB])
        go_wp2_with fail
        go_ret
        rw [HE.out]
        exact ⟨rfl, H.fr⟩
      | true =>
        go_wp2_with fail
        refine (l1In_any tr 0 n8 _).mono ?_
        rintro e _ ⟨rfl, rfl⟩
        rw [HBTR.out]
        cases btr with
        | false =>
          clear y6 y7 y10 y11 y12
          have HE := Lib.hid (show q0 = false by rw [HQ.out]; simp [fsB])
          go_wp2_with fail
          go_ret
          rw [HE.out]
          exact ⟨rfl, H.fr⟩
        | true =>
          go_wp2_with fail
          refine (l1In_any st 0 5 _).mono ?_
          rintro e _ ⟨rfl, rfl⟩
          rw [HBST.out]
          cases bst with
          | false =>
            clear y6 y7 y10 y11 y12
            have HE := Lib.hid (show q0 = false by rw [HQ.out]; simp [fsB])
            go_wp2_with fail
            go_ret
            rw [HE.out]
            exact ⟨rfl, H.fr⟩
          | true =>
            go_wp2_with fail
            refine (l1In_any sq 0 1000000 _).mono ?_
            rintro e _ ⟨rfl, rfl⟩
            rw [HBSQ.out]
            cases bsq with
            | false =>
              clear y6 y7 y10 y11 y12
              have HE := Lib.hid (show q0 = false by rw [HQ.out]; simp [fsB])
              go_wp2_with fail
              go_ret
              rw [HE.out]
              exact ⟨rfl, H.fr⟩
            | true =>
              go_wp2_with fail
              go_loopw [3] (fun iv wr => ∃ i : Nat, iv = .int .i64 i ∧ i ≤ n8 ∧ (calls.take i).all callB = true ∧ Hp [] w wr [.blk w.heap.size 52 [.bool up, .int .i64 m1, .slice A1 n1 c1, .int .i64 m2, .slice A2 n2 c2, .slice A3 n3 c3, .int .i64 sq, .int .i64 st, .slice A6 n6 c6, .slice A7 n7 c7, .slice A8 n8 c8, .int .i64 sv, .int .i64 tr]]) (fun iv _ => n8 - (intOf iv).toNat)
              case atStart => exact ⟨0, rfl, by omega, rfl, H⟩
              case round =>
                clear H
                clear y6 y7 y10 y11 y12
                obtain ⟨i, rfl, hi, hall, H⟩ := hrel
                have HA := Lib.hid hall
                clear hall
                have y10 := H.bat 0 rfl (j := 10) rfl
                by_cases hlt : i < n8
                ·
                  obtain ⟨⟨x0, x1, x2, x3, x4, x5⟩, hx⟩ := some_at HLC.out hlt
                  obtain ⟨bk, of, rfl, hcell⟩ := (h8.fr H.fr).elem cCall_len hx (by omega)
                  have ca0 := hcell 0 _ rfl; simp only [Nat.add_zero] at ca0
                  have ca1 := hcell 1 _ rfl
                  have ca2 := hcell 2 _ rfl
                  have ca3 := hcell 3 _ rfl
                  have ca4 := hcell 4 _ rfl
                  have ca5 := hcell 5 _ rfl
                  have HX := Lib.hid hx
                  clear hx hcell
                  have HH := H
                  go_wp2_with fail
                  refine (specCallOk_any x0 x1 x2 x3 x4 x5 _).mono ?_
                  rintro e w2 ⟨rfl, f2⟩
                  have H2 := (HH.go f2)
                  clear f2 HH H ca0 ca1 ca2 ca3 ca4 ca5
                  clear y10
                  obtain ⟨b, hb⟩ : ∃ b, callB (x0, x1, x2, x3, x4, x5) = b := ⟨_, rfl⟩
                  rw [hb]
                  have HB := Lib.hid hb
                  clear hb
                  cases b with
                  | false =>
                    have HE := Lib.hid (show q0 = false by rw [HQ.out, show bcs = false from HBCS.out.symm.trans (all_no (p := callB) HX.out HB.out)]; simp [fsB])
                    go_wp2_with fail
                    go_ret
                    rw [HE.out]
                    exact ⟨rfl, H2.fr⟩
                  | true =>
                    have HE := Lib.hid (all_take_yes (p := callB) HA.out HX.out HB.out)
                    go_wp2_with fail
                    go_roundw
                    case rel => exact ⟨i + 1, by go_num, by omega, HE.out, H2⟩
                    case measure => simp [intOf]; omega
                ·
                  obtain rfl : n8 = i := by omega
                  obtain rfl : bcs = true := HBCS.out.symm.trans (by have h1 := HA.out; rwa [List.take_of_length_le (by rw [HLC.out]; exact Nat.le_refl _)] at h1)
                  clear y10
                  have y0 := H.bat 0 rfl (j := 0) rfl
                  have y7 := H.bat 0 rfl (j := 7) rfl
                  have y10 := H.bat 0 rfl (j := 10) rfl
                  cases up with
                  | true =>
                    clear y0 y7 y10
                    have y5 := H.bat 0 rfl (j := 5) rfl
                    have y0 := H.bat 0 rfl (j := 0) rfl
                    have y7 := H.bat 0 rfl (j := 7) rfl
                    have y10 := H.bat 0 rfl (j := 10) rfl
                    go_wp2_with fail
                    refine (specReadBlocks_any A3 n3 c3 base _ (h3.fr H.fr) hn3 sz3).mono ?_
                    rintro e wz hg
                    obtain ⟨x9, A9, n9, c9, rfl, fz⟩ := read_is hg
                    clear hg
                    replace H := (H.go fz).lay_ 26 [.int .i64 x9, .slice A9 n9 c9] rfl
                    clear y5 y0 y7 y10
                    clear fz
                    have y1 := H.bat 1 rfl (j := 1) rfl
                    have y2 := H.bat 1 rfl (j := 2) rfl
                    rw [HBRD.out]
                    go_wp2_with fail
                    refine (specVolOk_any m1 A1 n1 c1 L1 _ (h1.fr H.fr) hn1 hc1 few1 sz1).mono ?_
                    rintro e wz ⟨rfl, fz⟩
                    replace H := H.go fz
                    clear y1 y2
                    clear fz
                    have y0 := H.bat 1 rfl (j := 0) rfl
                    have y7 := H.bat 1 rfl (j := 7) rfl
                    rw [HBVM.out]
                    cases bvm with
                    | false =>
                      clear y0 y7
                      have HE := Lib.hid (show q0 = false by rw [HQ.out]; simp [fsB])
                      go_wp2_with fail
                      go_ret
                      rw [HE.out]
                      exact ⟨rfl, H.fr⟩
                    | true =>
                      cases brd with
                      | false =>
                        clear y0 y7
                        have HE := Lib.hid (show q0 = false by rw [HQ.out]; simp [fsB])
                        go_wp2_with fail
                        go_ret
                        rw [HE.out]
                        exact ⟨rfl, H.fr⟩
                      | true =>
                        go_wp2_with fail
                        refine (l1In_any st 1 4 _).mono ?_
                        rintro e _ ⟨rfl, rfl⟩
                        rw [HB14.out]
                        cases b14 with
                        | false =>
                          have HE := Lib.hid (show q0 = true by rw [HQ.out]; simp [fsB])
                          go_wp2_with fail
                          go_ret
                          rw [HE.out]
                          exact ⟨rfl, H.fr⟩
                        | true =>
                          have y3 := H.bat 1 rfl (j := 3) rfl
                          have y4 := H.bat 1 rfl (j := 4) rfl
                          go_wp2_with fail
                          refine (specVolOk_any m2 A2 n2 c2 L2 _ (h2.fr H.fr) hn2 hc2 few2 sz2).mono ?_
                          rintro e wz ⟨rfl, fz⟩
                          replace H := H.go fz
                          clear y0 y7 y3 y4
                          clear fz
                          have y0 := H.bat 1 rfl (j := 0) rfl
                          have y7 := H.bat 1 rfl (j := 7) rfl
                          rw [HBVG.out]
                          cases bvg with
                          | false =>
                            clear y0 y7
                            have HE := Lib.hid (show q0 = false by rw [HQ.out]; simp [fsB])
                            go_wp2_with fail
                            go_ret
                            rw [HE.out]
                            exact ⟨rfl, H.fr⟩
                          | true =>
                            have HE := Lib.hid (show q0 = true by rw [HQ.out]; simp [fsB])
                            go_wp2_with fail
                            go_ret
                            rw [HE.out]
                            exact ⟨rfl, H.fr⟩
                  | false =>
                    by_cases hs5 : st = 5
                    ·
                      obtain rfl : b5 = true := HB5.out.symm.trans (by simpa using hs5)
                      obtain rfl : b14 = false := HB14.out.symm.trans (by simp [inB, hs5])
                      have hs5b : (st == 5) = true := by simpa using hs5
                      have hs0b : (st == 0) = false := by rw [hs5]; rfl
                      have hs0c : (st != 0) = true := by rw [hs5]; rfl
                      clear hs5
                      clear y0 y7 y10
                      have y5 := H.bat 0 rfl (j := 5) rfl
                      have y0 := H.bat 0 rfl (j := 0) rfl
                      have y7 := H.bat 0 rfl (j := 7) rfl
                      have y10 := H.bat 0 rfl (j := 10) rfl
                      go_wp2_with fail
                      refine (specReadBlocks_any A3 n3 c3 base _ (h3.fr H.fr) hn3 sz3).mono ?_
                      rintro e wz hg
                      obtain ⟨x9, A9, n9, c9, rfl, fz⟩ := read_is hg
                      clear hg
                      replace H := (H.go fz).lay_ 26 [.int .i64 x9, .slice A9 n9 c9] rfl
                      clear y5 y0 y7 y10
                      clear fz
                      have y1 := H.bat 1 rfl (j := 1) rfl
                      have y2 := H.bat 1 rfl (j := 2) rfl
                      rw [HBRD.out]
                      go_wp2_with fail
                      refine (specVolOk_any m1 A1 n1 c1 L1 _ (h1.fr H.fr) hn1 hc1 few1 sz1).mono ?_
                      rintro e wz ⟨rfl, fz⟩
                      replace H := H.go fz
                      clear y1 y2
                      clear fz
                      have y0 := H.bat 1 rfl (j := 0) rfl
                      have y7 := H.bat 1 rfl (j := 7) rfl
                      rw [HBVM.out]
                      cases bvm with
                      | false =>
                        clear y0 y7
                        have HE := Lib.hid (show q0 = false by rw [HQ.out]; simp [fsB])
                        go_wp2_with fail
                        go_ret
                        rw [HE.out]
                        exact ⟨rfl, H.fr⟩
                      | true =>
                        cases brd with
                        | false =>
                          clear y0 y7
                          have HE := Lib.hid (show q0 = false by rw [HQ.out]; simp [fsB])
                          go_wp2_with fail
                          go_ret
                          rw [HE.out]
                          exact ⟨rfl, H.fr⟩
                        | true =>
                          go_wp2_with fail
                          refine (l1In_any st 1 4 _).mono ?_
                          rintro e _ ⟨rfl, rfl⟩
                          rw [HB14.out]
                          have HE := Lib.hid (show q0 = true by rw [HQ.out]; simp [fsB])
                          go_wp2_with fail
                          go_ret
                          rw [HE.out]
                          exact ⟨rfl, H.fr⟩
                    ·
                      obtain rfl : b5 = false := HB5.out.symm.trans (by simpa using hs5)
                      have hs5b : (st == 5) = false := by simpa using hs5
                      go_wp2_with fail
                      refine (l1In_any st 1 4 _).mono ?_
                      rintro e _ ⟨rfl, rfl⟩
                      rw [HB14.out]
                      cases b14 with
                      | true =>
                        have HE := Lib.hid (show q0 = false by rw [HQ.out]; simp [fsB])
                        go_wp2_with fail
                        go_ret
                        rw [HE.out]
                        exact ⟨rfl, H.fr⟩
                      | false =>
                        have hs0 : st = 0 := by have q1 := HBST.out; have q2 := HB14.out; simp [inB] at q1 q2; omega
                        have hs0b : (st == 0) = true := by simpa using hs0
                        have hs0c : (st != 0) = false := by rw [hs0]; rfl
                        clear hs0
                        have y1 := H.bat 0 rfl (j := 1) rfl
                        have y2 := H.bat 0 rfl (j := 2) rfl
                        go_wp2_with fail
                        refine (specNoVol_any m1 A1 n1 c1 _).mono ?_
                        rintro e wz ⟨rfl, fz⟩
                        replace H := H.go fz
                        clear y0 y7 y1 y2
                        clear fz
                        have y3 := H.bat 0 rfl (j := 3) rfl
                        have y4 := H.bat 0 rfl (j := 4) rfl
                        rw [HBZ1.out]
                        cases bz1 with
                        | false =>
                          clear y3 y4
                          have HE := Lib.hid (show q0 = false by rw [HQ.out]; simp [fsB])
                          go_wp2_with fail
                          go_ret
                          rw [HE.out]
                          exact ⟨rfl, H.fr⟩
                        | true =>
                          go_wp2_with fail
                          refine (specNoVol_any m2 A2 n2 c2 _).mono ?_
                          rintro e wz ⟨rfl, fz⟩
                          replace H := H.go fz
                          clear y3 y4
                          clear fz
                          have y5 := H.bat 0 rfl (j := 5) rfl
                          rw [HBZ2.out]
                          cases bz2 with
                          | false =>
                            clear y5
                            have HE := Lib.hid (show q0 = false by rw [HQ.out]; simp [fsB])
                            go_wp2_with fail
                            go_ret
                            rw [HE.out]
                            exact ⟨rfl, H.fr⟩
                          | true =>
                            cases bb0 with
                            | false =>
                              have hb0 : ((n3 : Int) == 0) = false := by have := of_decide_eq_false HBB0.out; simp; omega
                              have HE := Lib.hid (show q0 = false by rw [HQ.out]; simp [fsB])
                              go_wp2_with fail
                              go_ret
                              rw [HE.out]
                              exact ⟨rfl, H.fr⟩
                            | true =>
                              have hb0 : ((n3 : Int) == 0) = true := by have := of_decide_eq_true HBB0.out; simp; omega
                              have HE := Lib.hid (show q0 = true by rw [HQ.out]; simp [fsB])
                              go_wp2_with fail
                              go_ret
                              rw [HE.out]
                              exact ⟨rfl, H.fr⟩
end Go.Proofs.YtaogikhpglcmjaaGreatDoor
