/-
  Volumes, devices and machines in the laws: alike, marked, held.
-/
import Derived.Test.YtlgclhnghpjgjaaNodeS
import Derived.Test.YtlgclhnghpjgjaaWriteS
import Derived.Test.YtlgclhnghpjgjaaCallS
import Derived.Test.YtlgclhnghpjgjaaStrings
namespace Go.Proofs.Ytlgclhnghpjgjaa
open Go.RowKit

set_option linter.unusedVariables false
set_option linter.unusedSimpArgs false

set_option maxHeartbeats 1000000 in
theorem eqVol_yes (x : Int) (A B : Option Addr) (n m c d : Nat) (L M : List (Value × Nod)) (w : World) (h : RdN w A n L) (h' : RdN w B m M) (he : nodes L = nodes M) (hn : n ≤ 1048576) (hm : m ≤ 1048576) (hL : ∀ p ∈ L, p.2.2.2.2.2.length ≤ 1048576) (hM : ∀ p ∈ M, p.2.2.2.2.2.length ≤ 1048576) :
    Calls Try.prog 16 #[.agg #[.int .i64 x, .slice A n c], .agg #[.int .i64 x, .slice B m d]] w fun e w' => e = .returned (.bool true) ∧ Fr w w' := by
  have H := (((Hp.start w).lay_ 24 [.int .i64 x, .slice A n c] rfl).lay_ 24 [.int .i64 x, .slice B m d] (g := w.heap.size + 1) (by simp))
  go_enter Try.func16, Try.ntmps16
  have y1_0 := H.bat 1 rfl (j := 0) rfl
  have y1_1 := H.bat 1 rfl (j := 1) rfl
  have y0_0 := H.bat 0 rfl (j := 0) rfl
  have y0_1 := H.bat 0 rfl (j := 1) rfl
  go_wp2_with fail
  refine (eqInodeS_any A B n m c d L M _ (h.fr H.fr) (h'.fr H.fr) hn hm hL hM).mono ?_
  rintro e w2 ⟨rfl, f2⟩
  rw [decide_eq_true he]
  have f3 := H.fr.then f2
  go_wp2_with fail
  go_ret
  exact ⟨rfl, f3⟩
set_option maxHeartbeats 1000000 in
theorem eqDev_yes (A B : Option Addr) (n c d : Nat) (l : List ByteArray) (C D : Option Addr) (m q r : Nat) (ws : List (Int × ByteArray)) (w : World) (h : Rd w A n 1 (l.map Value.string)) (h' : Rd w B n 1 (l.map Value.string)) (k : Rd w C m 2 (ws.flatMap cWrite)) (k' : Rd w D m 2 (ws.flatMap cWrite)) (hn : n ≤ 1048576) (hm : m ≤ 1048576) :
    Calls Try.prog 18 #[.agg #[.slice A n c, .slice C m q], .agg #[.slice B n d, .slice D m r]] w fun e w' => e = .returned (.bool true) ∧ Fr w w' := by
  have H := (((Hp.start w).lay_ 28 [.slice A n c, .slice C m q] rfl).lay_ 28 [.slice B n d, .slice D m r] (g := w.heap.size + 1) (by simp))
  go_enter Try.func18, Try.ntmps18
  have y1_0 := H.bat 1 rfl (j := 0) rfl
  have y1_1 := H.bat 1 rfl (j := 1) rfl
  have y0_0 := H.bat 0 rfl (j := 0) rfl
  have y0_1 := H.bat 0 rfl (j := 1) rfl
  go_wp2_with fail
  refine (eqStringS_any A B n n c d l l _ (h.fr H.fr) (h'.fr H.fr) hn hn).mono ?_
  rintro e w2 ⟨rfl, f2⟩
  rw [decide_eq_true rfl]
  replace H := H.go f2.fr
  clear y1_0 y1_1 y0_0 y0_1
  have y1_1 := H.bat 1 rfl (j := 1) rfl
  have y0_1 := H.bat 0 rfl (j := 1) rfl
  go_wp2_with fail
  refine (eqWriteS_any C D m m q r ws ws _ (k.fr H.fr) (k'.fr H.fr) hm hm).mono ?_
  rintro e w3 ⟨rfl, f3⟩
  rw [decide_eq_true rfl]
  have f4 := H.fr.then f3
  go_wp2_with fail
  go_ret
  exact ⟨rfl, f4⟩
set_option maxRecDepth 100000 in
set_option maxHeartbeats 4000000 in
theorem eqFs_yes (up : Bool) (x1 x2 x4 x5 x9 x10 : Int) (n3 n6 n7 n8 : Nat) (l3 l6 : List ByteArray) (l7 : List (Int × ByteArray)) (l8 : List (Int × Int × ByteArray × Int × ByteArray × ByteArray)) (Aa1 : Option Addr) (ca1 : Nat) (Aa2 : Option Addr) (ca2 : Nat) (Aa3 : Option Addr) (ca3 : Nat) (Aa6 : Option Addr) (ca6 : Nat) (Aa7 : Option Addr) (ca7 : Nat) (Aa8 : Option Addr) (ca8 : Nat) (na1 na2 : Nat) (La1 La2 : List (Value × Nod)) (Ab1 : Option Addr) (cb1 : Nat) (Ab2 : Option Addr) (cb2 : Nat) (Ab3 : Option Addr) (cb3 : Nat) (Ab6 : Option Addr) (cb6 : Nat) (Ab7 : Option Addr) (cb7 : Nat) (Ab8 : Option Addr) (cb8 : Nat) (nb1 nb2 : Nat) (Lb1 Lb2 : List (Value × Nod)) (w : World) (ha1 : RdN w Aa1 na1 La1) (ha2 : RdN w Aa2 na2 La2) (ha3 : Rd w Aa3 n3 1 (l3.map Value.string)) (ha6 : Rd w Aa6 n6 1 (l6.map Value.string)) (ha7 : Rd w Aa7 n7 2 (l7.flatMap cWrite)) (ha8 : Rd w Aa8 n8 6 (l8.flatMap cCall)) (hb1 : RdN w Ab1 nb1 Lb1) (hb2 : RdN w Ab2 nb2 Lb2) (hb3 : Rd w Ab3 n3 1 (l3.map Value.string)) (hb6 : Rd w Ab6 n6 1 (l6.map Value.string)) (hb7 : Rd w Ab7 n7 2 (l7.flatMap cWrite)) (hb8 : Rd w Ab8 n8 6 (l8.flatMap cCall)) (e1 : nodes La1 = nodes Lb1) (e2 : nodes La2 = nodes Lb2) (hsa1 : na1 ≤ 1048576) (hsa2 : na2 ≤ 1048576) (hta1 : ∀ p ∈ La1, p.2.2.2.2.2.length ≤ 1048576) (hta2 : ∀ p ∈ La2, p.2.2.2.2.2.length ≤ 1048576) (hsb1 : nb1 ≤ 1048576) (hsb2 : nb2 ≤ 1048576) (htb1 : ∀ p ∈ Lb1, p.2.2.2.2.2.length ≤ 1048576) (htb2 : ∀ p ∈ Lb2, p.2.2.2.2.2.length ≤ 1048576) (hs3 : n3 ≤ 1048576) (hs6 : n6 ≤ 1048576) (hs7 : n7 ≤ 1048576) (hs8 : n8 ≤ 1048576) :
    Calls Try.prog 6 #[.agg #[.bool up, .int .i64 x1, .slice Aa1 na1 ca1, .int .i64 x2, .slice Aa2 na2 ca2, .slice Aa3 n3 ca3, .int .i64 x4, .int .i64 x5, .slice Aa6 n6 ca6, .slice Aa7 n7 ca7, .slice Aa8 n8 ca8, .int .i64 x9, .int .i64 x10], .agg #[.bool up, .int .i64 x1, .slice Ab1 nb1 cb1, .int .i64 x2, .slice Ab2 nb2 cb2, .slice Ab3 n3 cb3, .int .i64 x4, .int .i64 x5, .slice Ab6 n6 cb6, .slice Ab7 n7 cb7, .slice Ab8 n8 cb8, .int .i64 x9, .int .i64 x10]] w fun e w' => e = .returned (.bool true) ∧ Fr w w' := by
  have H := (((Hp.start w).lay_ 31 [.bool up, .int .i64 x1, .slice Aa1 na1 ca1, .int .i64 x2, .slice Aa2 na2 ca2, .slice Aa3 n3 ca3, .int .i64 x4, .int .i64 x5, .slice Aa6 n6 ca6, .slice Aa7 n7 ca7, .slice Aa8 n8 ca8, .int .i64 x9, .int .i64 x10] rfl).lay_ 31 [.bool up, .int .i64 x1, .slice Ab1 nb1 cb1, .int .i64 x2, .slice Ab2 nb2 cb2, .slice Ab3 n3 cb3, .int .i64 x4, .int .i64 x5, .slice Ab6 n6 cb6, .slice Ab7 n7 cb7, .slice Ab8 n8 cb8, .int .i64 x9, .int .i64 x10] (g := w.heap.size + 1) (by simp))
  have hup : (up != up) = false := bne_self_eq_false _
  have hup2 : (up == up) = true := beq_self_eq_true _
  go_enter Try.func6, Try.ntmps6
  have y1_0 := H.bat 1 rfl (j := 0) rfl
  have y1_1 := H.bat 1 rfl (j := 1) rfl
  have y1_2 := H.bat 1 rfl (j := 2) rfl
  have y0_0 := H.bat 0 rfl (j := 0) rfl
  have y0_1 := H.bat 0 rfl (j := 1) rfl
  have y0_2 := H.bat 0 rfl (j := 2) rfl
  go_wp2_with fail
  refine (eqVol_yes x1 _ _ _ _ _ _ La1 Lb1 _ (ha1.fr H.fr) (hb1.fr H.fr) e1 hsa1 hsb1 hta1 htb1).mono ?_
  rintro e w2 ⟨rfl, f2⟩
  replace H := H.go f2
  clear y1_0 y1_1 y1_2 y0_0 y0_1 y0_2
  have y1_3 := H.bat 1 rfl (j := 3) rfl
  have y1_4 := H.bat 1 rfl (j := 4) rfl
  have y0_3 := H.bat 0 rfl (j := 3) rfl
  have y0_4 := H.bat 0 rfl (j := 4) rfl
  go_wp2_with fail
  refine (eqVol_yes x2 _ _ _ _ _ _ La2 Lb2 _ (ha2.fr H.fr) (hb2.fr H.fr) e2 hsa2 hsb2 hta2 htb2).mono ?_
  rintro e w3 ⟨rfl, f3⟩
  replace H := H.go f3
  clear y1_3 y1_4 y0_3 y0_4
  have y1_5 := H.bat 1 rfl (j := 5) rfl
  have y0_5 := H.bat 0 rfl (j := 5) rfl
  go_wp2_with fail
  refine (eqStringS_any _ _ _ _ _ _ l3 l3 _ (ha3.fr H.fr) (hb3.fr H.fr) hs3 hs3).mono ?_
  rintro e w4 ⟨rfl, f4⟩
  rw [decide_eq_true rfl]
  replace H := H.go f4.fr
  clear y1_5 y0_5
  have y1_6 := H.bat 1 rfl (j := 6) rfl
  have y1_7 := H.bat 1 rfl (j := 7) rfl
  have y1_8 := H.bat 1 rfl (j := 8) rfl
  have y1_9 := H.bat 1 rfl (j := 9) rfl
  have y0_6 := H.bat 0 rfl (j := 6) rfl
  have y0_7 := H.bat 0 rfl (j := 7) rfl
  have y0_8 := H.bat 0 rfl (j := 8) rfl
  have y0_9 := H.bat 0 rfl (j := 9) rfl
  go_wp2_with fail
  refine (eqDev_yes _ _ _ _ _ l6 _ _ _ _ _ l7 _ (ha6.fr H.fr) (hb6.fr H.fr) (ha7.fr H.fr) (hb7.fr H.fr) hs6 hs7).mono ?_
  rintro e w5 ⟨rfl, f5⟩
  replace H := H.go f5
  clear y1_6 y1_7 y1_8 y1_9 y0_6 y0_7 y0_8 y0_9
  have y1_10 := H.bat 1 rfl (j := 10) rfl
  have y0_10 := H.bat 0 rfl (j := 10) rfl
  go_wp2_with fail
  refine (eqCallS_any _ _ _ _ _ _ l8 l8 _ (ha8.fr H.fr) (hb8.fr H.fr) hs8 hs8).mono ?_
  rintro e w6 ⟨rfl, f6⟩
  rw [decide_eq_true rfl]
  replace H := H.go f6
  clear y1_10 y0_10
  have y1_11 := H.bat 1 rfl (j := 11) rfl
  have y1_12 := H.bat 1 rfl (j := 12) rfl
  have y0_11 := H.bat 0 rfl (j := 11) rfl
  have y0_12 := H.bat 0 rfl (j := 12) rfl
  go_wp2_with fail
  go_ret
  exact ⟨rfl, H.fr⟩
theorem markVol_any (x : Int) (A : Option Addr) (n c k : Nat) (L : List (Value × Nod)) (w : World) (h : Ob.ok w (obN (.slice A n c) n L)) (hn : n ≤ 1048576) (ht : totN L ≤ 60000000) (hk : k ≤ 900000000000) :
    Calls Try.prog 20 #[.agg #[.int .i64 x, .slice A n c], .int .i64 k] w fun e w' => e = .returned (.int .i64 ((k + totN L : Nat) : Int)) ∧ Hp (Row.blocks (rowN (.slice A n c) n L :: L.map rowE)) w w' [obN (.slice A n c) n (marksN L k)] := by
  have H := Hp.lay_ (Hp.start_many h) 24 [.int .i64 x, .slice A n c] rfl
  have y0 := H.bat 0 rfl (j := 0) rfl
  have y1 := H.bat 0 rfl (j := 1) rfl
  go_enter Try.func20, Try.ntmps20
  go_wp2_with fail
  refine (markInodeS_any A n c k L _ (H.ok _ (List.mem_cons_of_mem _ List.mem_cons_self)) hn ht hk).mono ?_
  rintro e w2 ⟨rfl, K⟩
  have H2 := Lib.hid ((H.turnMany 1 rfl K).tail)
  clear H K y0 y1
  go_wp2_with fail
  go_ret
  exact ⟨rfl, H2.out⟩
theorem heldVol_any (x : Int) (A : Option Addr) (n c k : Nat) (L : List (Value × Nod)) (w : World) (h : RdN w A n (marksN L k)) (hn : n ≤ 1048576) (ht : totN L ≤ 60000000) (hk : k ≤ 900000000000) :
    Calls Try.prog 24 #[.agg #[.int .i64 x, .slice A n c], .int .i64 k] w fun e w' => e = .returned (.int .i64 ((k + totN L : Nat) : Int)) ∧ Fr w w' := by
  have H := (Hp.start w).lay_ 24 [.int .i64 x, .slice A n c] rfl
  have y0 := H.bat 0 rfl (j := 0) rfl
  have y1 := H.bat 0 rfl (j := 1) rfl
  go_enter Try.func24, Try.ntmps24
  go_wp2_with fail
  refine (heldInodeS_any A n c k L _ (h.fr H.fr) hn ht hk).mono ?_
  rintro e w2 ⟨rfl, f2⟩
  have f3 := H.fr.then f2
  obtain ⟨t, hT⟩ : ∃ t, t = k + totN L := ⟨_, rfl⟩
  rw [← hT]
  have ht0 : ¬ ((t : Int) < 0) := by omega
  have HT := Lib.hid hT
  clear hT
  go_wp2_with fail
  go_ret
  exact ⟨congrArg (fun t : Nat => Ending.returned (.int .i64 (t : Int))) HT.out, f3⟩
end Go.Proofs.Ytlgclhnghpjgjaa
