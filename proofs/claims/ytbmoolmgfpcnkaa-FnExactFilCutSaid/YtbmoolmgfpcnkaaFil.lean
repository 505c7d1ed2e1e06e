/-
  Fil in the laws: its size, made anew, compared.
-/
import Derived.Test.YtbmoolmgfpcnkaaExtS
import Derived.Test.YtbmoolmgfpcnkaaFilOk
namespace Go.Proofs.Ytbmoolmgfpcnkaa
open Go.RowKit

theorem szFil_any (A : Option Addr) (n c : Nat) (_l : List (Int × Int × Int)) (z : Int) (left : Int) (w : World) (hcap : n ≤ 9223372036854775807) (h0 : 0 ≤ left) (h1 : left ≤ 1048576) :
    Calls Try.prog 8 #[.agg #[.int .i64 z, .slice A n c], .int .i64 left] w fun e w' => e = .returned (.int .i64 (szOf left n)) ∧ Fr w w' := by
  by_cases hlt : left < n
  · go_enter Try.func8, Try.ntmps8
    go_wp2_with fail
    refine (szExtS_any A n c left _ hcap h0 h1).mono ?_
    rintro e w1 ⟨rfl, rfl⟩
    rw [szOf_no hlt]
    go_wp2_with fail
    go_ret
    exact ⟨ret_int (szOf_no hlt).symm, Fr.al (Below.refl _ _) _⟩
  · go_enter Try.func8, Try.ntmps8
    go_wp2_with fail
    refine (szExtS_any A n c left _ hcap h0 h1).mono ?_
    rintro e w1 ⟨rfl, rfl⟩
    rw [szOf_yes (by omega)]
    have hl0 : ¬ left - (n : Int) < 0 := by omega
    go_wp2_with fail
    go_ret
    exact ⟨ret_int (szOf_yes (by omega)).symm, Fr.al (Below.refl _ _) _⟩

set_option maxRecDepth 100000 in
set_option maxHeartbeats 1000000 in
theorem toFil_any (z : Int) (A : Option Addr) (n c : Nat) (l : List (Int × Int × Int)) (w : World) (h : Rd w A n 3 (l.flatMap cExt)) (hn : n ≤ 1048576) :
    Calls Try.prog 11 #[.agg #[.int .i64 z, .slice A n c]] w fun e w' => ∃ g, e = .returned (.agg #[.int .i64 z, .slice (some ⟨g, 0, none⟩) n n]) ∧
      w'.ownsRow w.heap.size 92 3 (.slice (some ⟨g, 0, none⟩) n n) n (l.flatMap cExt) ∧ Fr w w' := by
  have H1 := (((Hp.start w).lay_ 28 [.int .i64 z, .slice A n c] rfl).lay_ 34 [.int .i64 0, .slice none 0 0] (g := w.heap.size + 1) (by simp)).lay_ 34 [.int .i64 z, .slice none 0 0] (g := w.heap.size + 1 + 1) (by simp)
  go_enter Try.func11, Try.ntmps11
  go_wp2_with fail
  refine (toExtS_any A n c l _ (H1.old h) hn).mono ?_
  rintro e w1 ⟨g, rfl, o1, f1⟩
  have H2 := H1.made o1 f1
  have c0 := H2.bat 1 rfl (j := 0) rfl
  have c1 := H2.bat 1 rfl (j := 1) rfl
  have e1 := H2.bfree 1 rfl 1
  have d0 := H2.bat 2 rfl (j := 0) rfl
  have d1 := H2.bat 2 rfl (j := 1) rfl
  have e2 := H2.bfree 2 rfl 0
  have e3 := H2.bfree 2 rfl 1
  have H3 := Lib.hid ((H2.bput 1 rfl 1 (.slice (some ⟨g, 0, none⟩) n n)).bput 2 rfl 0 (.int .i64 z) |>.bput 2 rfl 1 (.slice (some ⟨g, 0, none⟩) n n))
  clear H1 H2 o1 f1
  go_wp2
  exact bodyPost_ret (v := .agg #[.int .i64 z, .slice (some ⟨g, 0, none⟩) n n]) (by simp [results, Try.results11, go_sem, d0, d1]) rfl ⟨g, rfl, H3.out.out 0 rfl, H3.out.fr⟩

set_option maxRecDepth 100000 in
set_option maxHeartbeats 1000000 in
theorem eqFil_yes (A : Option Addr) (n c : Nat) (A' : Option Addr) (n' c' : Nat) (z : Int) (l : List (Int × Int × Int)) (w : World)
    (h : Rd w A n 3 (l.flatMap cExt)) (k : Rd w A' n' 3 (l.flatMap cExt)) (hn : n ≤ 1048576) :
    Calls Try.prog 14 #[.agg #[.int .i64 z, .slice A n c], .agg #[.int .i64 z, .slice A' n' c']] w fun e w' => e = .returned (.bool true) ∧ Fr w w' := by
  have hn' : n' ≤ 1048576 := by have := h.lenk cExt_len (by omega); have := k.lenk cExt_len (by omega); omega
  have H1 := ((Hp.start w).lay_ 34 [.int .i64 z, .slice A n c] rfl).lay_ 34 [.int .i64 z, .slice A' n' c'] (g := w.heap.size + 1) (by simp)
  have G := Lib.hid h
  have G' := Lib.hid k
  clear h k
  go_enter Try.func14, Try.ntmps14
  go_wp2_with fail
  refine (eqExtS_any A A' n n' c c' l l _ (H1.old G.out) (H1.old G'.out) (Nat.le_trans hn (by omega)) (Nat.le_trans hn' (by omega))).mono ?_
  rintro e w1 ⟨rfl, f1⟩
  rw [decide_eq_true rfl]
  have F := Lib.hid (H1.go f1).fr
  go_wp2
  go_ret
  exact ⟨rfl, F.out⟩
end Go.Proofs.Ytbmoolmgfpcnkaa
