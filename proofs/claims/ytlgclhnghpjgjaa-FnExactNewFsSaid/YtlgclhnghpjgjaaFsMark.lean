/-
  Devices and machines marked and held.
-/
import Derived.Test.YtlgclhnghpjgjaaFsE
namespace Go.Proofs.Ytlgclhnghpjgjaa
open Go.RowKit

set_option linter.unusedVariables false
set_option linter.unusedSimpArgs false
set_option maxHeartbeats 1000000 in
theorem markDev_any {W : List Nat} {w0 w : World} {l : List Ob} (A : Option Addr) (n c : Nat) (C : Option Addr) (m q k : Nat) (xs ys : List Value) (i j : Nat) (H : Hp W w0 w l) (hi : l[i]? = some (.row 9 1 (.slice A n c) n xs)) (hj : l[j]? = some (.row 69 2 (.slice C m q) m ys)) (hij : i ≠ j) (hn : n ≤ 1048576) (hm : m ≤ 1048576) (hk : k ≤ 900000000) :
    Calls Try.prog 22 #[.agg #[.slice A n c, .slice C m q], .int .i64 k] w fun e w' => e = .returned (.int .i64 ((k + n + m * 2 : Nat) : Int)) ∧
      Hp W w0 w' ((l.set i (.row 9 1 (.slice A n c) n ((marksString n k).map Value.string))).set j (.row 69 2 (.slice C m q) m ((marksWrite m (k + n)).flatMap cWrite))) := by
  have H1 := H.lay_ 28 [.slice A n c, .slice C m q] rfl
  have y0 := H1.bat 0 rfl (j := 0) rfl
  have y1 := H1.bat 0 rfl (j := 1) rfl
  have hi1 : (Ob.blk w.heap.size 28 [.slice A n c, .slice C m q] :: l)[i + 1]? = some (.row 9 1 (.slice A n c) n xs) := by rw [List.getElem?_cons_succ]; exact hi
  go_enter Try.func22, Try.ntmps22
  go_wp2_with fail
  refine (markStringS_any A n c k 0 xs _ (H1.row (i + 1) hi1) (by omega) (by omega)).mono ?_
  rintro e w2 ⟨rfl, o2, g2⟩
  have H2 := H1.grow (i + 1) hi1 g2 o2 (.inl rfl)
  have hj2 : ((Ob.blk w.heap.size 28 [.slice A n c, .slice C m q] :: l).set (i + 1) (.row 9 1 (.slice A n c) n ((marksString n k).map Value.string)))[j + 1]? = some (.row 69 2 (.slice C m q) m ys) := by
    rw [List.set_cons_succ, List.getElem?_cons_succ, List.getElem?_set_ne hij]; exact hj
  clear y0 y1
  have y1 := H2.bat 0 rfl (j := 1) rfl
  obtain ⟨t, ht⟩ : ∃ t, t = k + n := ⟨_, rfl⟩
  rw [← ht]
  have HT := Lib.hid ht
  have htb : t ≤ 1000000000 := by omega
  clear ht o2 g2
  go_wp2_with fail
  refine (markWriteS_any C m q t 0 ys _ (H2.row (j + 1) hj2) (by omega) (by omega)).mono ?_
  rintro e w3 ⟨rfl, o3, g3⟩
  have H3 : Hp W w0 w3 (Ob.blk w.heap.size 28 [.slice A n c, .slice C m q] :: ((l.set i (.row 9 1 (.slice A n c) n ((marksString n k).map Value.string))).set j (.row 69 2 (.slice C m q) m ((marksWrite m t).flatMap cWrite)))) := H2.grow (j + 1) hj2 g3 o3 (.inl rfl)
  have H4 := Lib.hid H3.tail
  clear H1 H2 H3 y1 o3 g3
  rw [HT.out] at H4
  go_wp2_with fail
  go_ret
  exact ⟨congrArg (fun t : Nat => Ending.returned (.int .i64 ((t + m * 2 : Nat) : Int))) HT.out, H4.out⟩
set_option maxHeartbeats 1000000 in
theorem heldDev_any (A : Option Addr) (n c : Nat) (C : Option Addr) (m q k : Nat) (w : World) (h : Rd w A n 1 ((marksString n k).map Value.string)) (h' : Rd w C m 2 ((marksWrite m (k + n)).flatMap cWrite)) (hn : n ≤ 1048576) (hm : m ≤ 1048576) (hk : k ≤ 900000000) :
    Calls Try.prog 26 #[.agg #[.slice A n c, .slice C m q], .int .i64 k] w fun e w' => e = .returned (.int .i64 ((k + n + m * 2 : Nat) : Int)) ∧ Fr w w' := by
  have H := (Hp.start w).lay_ 28 [.slice A n c, .slice C m q] rfl
  have y0 := H.bat 0 rfl (j := 0) rfl
  have y1 := H.bat 0 rfl (j := 1) rfl
  go_enter Try.func26, Try.ntmps26
  go_wp2_with fail
  refine (heldStringS_any A n c k _ (h.fr H.fr) (by omega) (by omega)).mono ?_
  rintro e w2 ⟨rfl, f2⟩
  replace H := H.go f2
  clear y0 y1 f2
  have y1 := H.bat 0 rfl (j := 1) rfl
  obtain ⟨t, ht⟩ : ∃ t, t = k + n := ⟨_, rfl⟩
  rw [← ht] at h' ⊢
  have HT := Lib.hid ht
  have htb : t ≤ 1000000000 := by omega
  have ht0 : ¬ ((t : Int) < 0) := by omega
  clear ht
  go_wp2_with fail
  refine (heldWriteS_any C m q t _ (h'.fr H.fr) (by omega) (by omega)).mono ?_
  rintro e w3 ⟨rfl, f3⟩
  have f4 := H.fr.then f3
  obtain ⟨t2, ht2⟩ : ∃ t2, t2 = t + m * 2 := ⟨_, rfl⟩
  rw [← ht2]
  have HT2 := Lib.hid ht2
  have ht20 : ¬ ((t2 : Int) < 0) := by omega
  clear ht2
  go_wp2_with fail
  go_ret
  exact ⟨congrArg (fun t : Nat => Ending.returned (.int .i64 (t : Int))) (HT2.out.trans (by rw [HT.out])), f4⟩
set_option maxRecDepth 100000 in
set_option maxHeartbeats 4000000 in
theorem markFs_any {W : List Nat} {w0 w : World} {l : List Ob} (up : Bool) (x1 x2 x4 x5 x9 x10 : Int) (A1 : Option Addr) (n1 c1 : Nat) (A2 : Option Addr) (n2 c2 : Nat) (A3 : Option Addr) (n3 c3 : Nat) (A6 : Option Addr) (n6 c6 : Nat) (A7 : Option Addr) (n7 c7 : Nat) (A8 : Option Addr) (n8 c8 : Nat) (L1 L2 : List (Value × Nod)) (xs3 xs6 ys7 zs8 : List Value) (k : Nat) (H : Hp W w0 w (obN (.slice A1 n1 c1) n1 L1 :: obN (.slice A2 n2 c2) n2 L2 :: .row 9 1 (.slice A3 n3 c3) n3 xs3 :: .row 9 1 (.slice A6 n6 c6) n6 xs6 :: .row 69 2 (.slice A7 n7 c7) n7 ys7 :: .row 57 6 (.slice A8 n8 c8) n8 zs8 :: l)) (hs1 : n1 ≤ 1048576) (hs2 : n2 ≤ 1048576) (hs3 : n3 ≤ 1048576) (hs6 : n6 ≤ 1048576) (hs7 : n7 ≤ 1048576) (hs8 : n8 ≤ 1048576) (ht1 : totN L1 ≤ 60000000) (ht2 : totN L2 ≤ 60000000) (hk : k ≤ 100000) :
    Calls Try.prog 7 #[.agg #[.bool up, .int .i64 x1, .slice A1 n1 c1, .int .i64 x2, .slice A2 n2 c2, .slice A3 n3 c3, .int .i64 x4, .int .i64 x5, .slice A6 n6 c6, .slice A7 n7 c7, .slice A8 n8 c8, .int .i64 x9, .int .i64 x10], .int .i64 k] w fun e w' => e = .returned (.int .i64 ((k + totN L1 + totN L2 + n3 + n6 + n7 * 2 + n8 * 6 : Nat) : Int)) ∧
      Hp W w0 w' (obN (.slice A1 n1 c1) n1 (marksN L1 k) :: obN (.slice A2 n2 c2) n2 (marksN L2 (k + totN L1)) :: .row 9 1 (.slice A3 n3 c3) n3 ((marksString n3 (k + totN L1 + totN L2)).map Value.string) :: .row 9 1 (.slice A6 n6 c6) n6 ((marksString n6 (k + totN L1 + totN L2 + n3)).map Value.string) :: .row 69 2 (.slice A7 n7 c7) n7 ((marksWrite n7 (k + totN L1 + totN L2 + n3 + n6)).flatMap cWrite) :: .row 57 6 (.slice A8 n8 c8) n8 ((marksCall n8 (k + totN L1 + totN L2 + n3 + n6 + n7 * 2)).flatMap cCall) :: l) := by
  replace H := H.lay_ 31 [.bool up, .int .i64 x1, .slice A1 n1 c1, .int .i64 x2, .slice A2 n2 c2, .slice A3 n3 c3, .int .i64 x4, .int .i64 x5, .slice A6 n6 c6, .slice A7 n7 c7, .slice A8 n8 c8, .int .i64 x9, .int .i64 x10] rfl
  go_enter Try.func7, Try.ntmps7
  have y1 := H.bat 0 rfl (j := 1) rfl
  have y2 := H.bat 0 rfl (j := 2) rfl
  have y3 := H.bat 0 rfl (j := 3) rfl
  have y4 := H.bat 0 rfl (j := 4) rfl
  go_wp2_with fail
  refine (markVol_any x1 A1 n1 c1 k L1 _ (H.ok _ (List.mem_of_getElem? (rfl : _[1]? = _))) hs1 ht1 (by omega)).mono ?_
  rintro e w2 ⟨rfl, K⟩
  replace H := H.turnMany 1 rfl K
  clear K y1 y2 y3 y4
  have y3 := H.bat 0 rfl (j := 3) rfl
  have y4 := H.bat 0 rfl (j := 4) rfl
  obtain ⟨t1, hq1⟩ : ∃ t, t = k + totN L1 := ⟨_, rfl⟩
  rw [← hq1]
  have HQ1 := Lib.hid hq1
  have hb1 : t1 ≤ 200000000 := by omega
  clear hq1
  go_wp2_with fail
  refine (markVol_any x2 A2 n2 c2 t1 L2 _ (H.ok _ (List.mem_of_getElem? (rfl : _[2]? = _))) hs2 ht2 (by omega)).mono ?_
  rintro e w3 ⟨rfl, K⟩
  replace H := H.turnMany 2 rfl K
  clear K y3 y4
  have y5 := H.bat 0 rfl (j := 5) rfl
  obtain ⟨t2, hq2⟩ : ∃ t, t = t1 + totN L2 := ⟨_, rfl⟩
  rw [← hq2]
  have HQ2 := Lib.hid hq2
  have hb2 : t2 ≤ 300000000 := by omega
  clear hq2
  go_wp2_with fail
  refine (markStringS_any A3 n3 c3 t2 0 xs3 _ (H.row 3 rfl) (by omega) (by omega)).mono ?_
  rintro e w4 ⟨rfl, o4, g4⟩
  replace H := H.grow 3 rfl g4 o4 (.inl rfl)
  clear o4 g4 y5
  have y8 := H.bat 0 rfl (j := 8) rfl
  have y9 := H.bat 0 rfl (j := 9) rfl
  obtain ⟨t3, hq3⟩ : ∃ t, t = t2 + n3 := ⟨_, rfl⟩
  rw [← hq3]
  have HQ3 := Lib.hid hq3
  have hb3 : t3 ≤ 400000000 := by omega
  clear hq3
  go_wp2_with fail
  refine (markDev_any A6 n6 c6 A7 n7 c7 t3 xs6 ys7 4 5 H rfl rfl (by decide) hs6 hs7 (by omega)).mono ?_
  rintro e w5 ⟨rfl, K⟩
  replace H := K
  clear K y8 y9
  have y10 := H.bat 0 rfl (j := 10) rfl
  obtain ⟨t4, hq4⟩ : ∃ t, t = t3 + n6 + n7 * 2 := ⟨_, rfl⟩
  rw [← hq4]
  have HQ4 := Lib.hid hq4
  have hb4 : t4 ≤ 500000000 := by omega
  clear hq4
  go_wp2_with fail
  refine (markCallS_any A8 n8 c8 t4 0 zs8 _ (H.row 6 rfl) (by omega) (by omega)).mono ?_
  rintro e w6 ⟨rfl, o6, g6⟩
  replace H := (H.grow 6 rfl g6 o6 (.inl rfl)).tail
  have e1 := HQ1.out
  have e2 := HQ2.out
  have e3 := HQ3.out
  have e4 := HQ4.out
  subst e4 e3 e2 e1
  have H9 := Lib.hid H
  clear H o6 g6 y10
  go_wp2_with fail
  go_ret
  exact ⟨rfl, H9.out⟩
set_option maxRecDepth 100000 in
set_option maxHeartbeats 4000000 in
theorem heldFs_any (up : Bool) (x1 x2 x4 x5 x9 x10 : Int) (A1 : Option Addr) (n1 c1 : Nat) (A2 : Option Addr) (n2 c2 : Nat) (A3 : Option Addr) (n3 c3 : Nat) (A6 : Option Addr) (n6 c6 : Nat) (A7 : Option Addr) (n7 c7 : Nat) (A8 : Option Addr) (n8 c8 : Nat) (L1 L2 : List (Value × Nod)) (k : Nat) (w : World) (h1 : RdN w A1 n1 (marksN L1 k)) (h2 : RdN w A2 n2 (marksN L2 (k + totN L1))) (h3 : Rd w A3 n3 1 ((marksString n3 (k + totN L1 + totN L2)).map Value.string)) (h6 : Rd w A6 n6 1 ((marksString n6 (k + totN L1 + totN L2 + n3)).map Value.string)) (h7 : Rd w A7 n7 2 ((marksWrite n7 (k + totN L1 + totN L2 + n3 + n6)).flatMap cWrite)) (h8 : Rd w A8 n8 6 ((marksCall n8 (k + totN L1 + totN L2 + n3 + n6 + n7 * 2)).flatMap cCall)) (hs1 : n1 ≤ 1048576) (hs2 : n2 ≤ 1048576) (hs3 : n3 ≤ 1048576) (hs6 : n6 ≤ 1048576) (hs7 : n7 ≤ 1048576) (hs8 : n8 ≤ 1048576) (ht1 : totN L1 ≤ 60000000) (ht2 : totN L2 ≤ 60000000) (hk : k ≤ 100000) :
    Calls Try.prog 8 #[.agg #[.bool up, .int .i64 x1, .slice A1 n1 c1, .int .i64 x2, .slice A2 n2 c2, .slice A3 n3 c3, .int .i64 x4, .int .i64 x5, .slice A6 n6 c6, .slice A7 n7 c7, .slice A8 n8 c8, .int .i64 x9, .int .i64 x10], .int .i64 k] w fun e w' => e = .returned (.int .i64 ((k + totN L1 + totN L2 + n3 + n6 + n7 * 2 + n8 * 6 : Nat) : Int)) ∧ Fr w w' := by
  have H := (Hp.start w).lay_ 31 [.bool up, .int .i64 x1, .slice A1 n1 c1, .int .i64 x2, .slice A2 n2 c2, .slice A3 n3 c3, .int .i64 x4, .int .i64 x5, .slice A6 n6 c6, .slice A7 n7 c7, .slice A8 n8 c8, .int .i64 x9, .int .i64 x10] rfl
  obtain ⟨t1, hq1⟩ : ∃ t, t = k + totN L1 := ⟨_, rfl⟩
  obtain ⟨t2, hq2⟩ : ∃ t, t = t1 + totN L2 := ⟨_, rfl⟩
  obtain ⟨t3, hq3⟩ : ∃ t, t = t2 + n3 := ⟨_, rfl⟩
  obtain ⟨t4, hq4⟩ : ∃ t, t = t3 + n6 + n7 * 2 := ⟨_, rfl⟩
  obtain ⟨t5, hq5⟩ : ∃ t, t = t4 + n8 * 6 := ⟨_, rfl⟩
  rw [← hq1] at h2 h3 h6 h7 h8 ⊢
  rw [← hq2] at h3 h6 h7 h8 ⊢
  rw [← hq3] at h6 h7 h8 ⊢
  rw [← hq4] at h8 ⊢
  rw [← hq5]
  have hb1 : t1 ≤ 200000000 := by omega
  have hb2 : t2 ≤ 300000000 := by omega
  have hb3 : t3 ≤ 400000000 := by omega
  have hb4 : t4 ≤ 500000000 := by omega
  have hn1 : ¬ ((t1 : Int) < 0) := by omega
  have hn2 : ¬ ((t2 : Int) < 0) := by omega
  have hn3 : ¬ ((t3 : Int) < 0) := by omega
  have hn4 : ¬ ((t4 : Int) < 0) := by omega
  have hn5 : ¬ ((t5 : Int) < 0) := by omega
  have HQ1 := Lib.hid hq1
  have HQ2 := Lib.hid hq2
  have HQ3 := Lib.hid hq3
  have HQ4 := Lib.hid hq4
  have HQ5 := Lib.hid hq5
  clear hq1 hq2 hq3 hq4 hq5
  go_enter Try.func8, Try.ntmps8
  have y1 := H.bat 0 rfl (j := 1) rfl
  have y2 := H.bat 0 rfl (j := 2) rfl
  go_wp2_with fail
  refine (heldVol_any x1 A1 n1 c1 k L1 _ (h1.fr H.fr) hs1 ht1 (by omega)).mono ?_
  rintro e w2 ⟨rfl, f2⟩
  replace H := H.go f2
  rw [← HQ1.out]
  clear f2 y1 y2
  have y3 := H.bat 0 rfl (j := 3) rfl
  have y4 := H.bat 0 rfl (j := 4) rfl
  go_wp2_with fail
  refine (heldVol_any x2 A2 n2 c2 t1 L2 _ (h2.fr H.fr) hs2 ht2 (by omega)).mono ?_
  rintro e w3 ⟨rfl, f3⟩
  replace H := H.go f3
  rw [← HQ2.out]
  clear f3 y3 y4
  have y5 := H.bat 0 rfl (j := 5) rfl
  go_wp2_with fail
  refine (heldStringS_any A3 n3 c3 t2 _ (h3.fr H.fr) (by omega) (by omega)).mono ?_
  rintro e w4 ⟨rfl, f4⟩
  replace H := H.go f4
  rw [← HQ3.out]
  clear f4 y5
  have y8 := H.bat 0 rfl (j := 8) rfl
  have y9 := H.bat 0 rfl (j := 9) rfl
  go_wp2_with fail
  refine (heldDev_any A6 n6 c6 A7 n7 c7 t3 _ (h6.fr H.fr) (h7.fr H.fr) hs6 hs7 (by omega)).mono ?_
  rintro e w5 ⟨rfl, f5⟩
  replace H := H.go f5
  rw [← HQ4.out]
  clear f5 y8 y9
  have y10 := H.bat 0 rfl (j := 10) rfl
  go_wp2_with fail
  refine (heldCallS_any A8 n8 c8 t4 _ (h8.fr H.fr) (by omega) (by omega)).mono ?_
  rintro e w6 ⟨rfl, f6⟩
  replace H := H.go f6
  rw [← HQ5.out]
  clear f6 y10
  go_wp2_with fail
  go_ret
  exact ⟨rfl, H.fr⟩
end Go.Proofs.Ytlgclhnghpjgjaa
