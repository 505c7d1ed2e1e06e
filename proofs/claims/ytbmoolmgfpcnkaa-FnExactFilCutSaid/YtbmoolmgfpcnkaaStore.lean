/-
  Stores in the laws: made anew, compared, their budget.
-/
import Derived.Test.YtbmoolmgfpcnkaaBools
import Derived.Test.YtbmoolmgfpcnkaaStrings
namespace Go.Proofs.Ytbmoolmgfpcnkaa
open Go.RowKit

set_option maxRecDepth 100000 in
set_option maxHeartbeats 1000000 in
theorem szStore_any (A : Option Addr) (n c : Nat) (_l : List Bool) (B : Option Addr) (m d : Nat) (ss : List ByteArray) (left : Int) (w : World)
    (hcap : n ≤ 9223372036854775807) (h : Rd w B m 1 (ss.map Value.string)) (ok : ∀ s ∈ ss, s.size ≤ 9223372036854775807) (hcap2 : m ≤ 9223372036854775807) (h0 : 0 ≤ left) (h1 : left ≤ 1048576) :
    Calls Try.prog 7 #[.agg #[.slice A n c, .slice B m d], .int .i64 left] w fun e w' => e = .returned (.int .i64 (szOf left (n + strTot ss))) ∧ Fr w w' := by
  by_cases hlt : left < n
  · have HR := Lib.hid (szOf_no (left := left) (n := n + strTot ss) (by omega))
    go_enter Try.func7, Try.ntmps7
    go_wp2_with fail
    refine (szBoolS_fr A n c left _ hcap h0 h1).mono ?_
    rintro e w1 ⟨rfl, f1⟩
    rw [szOf_no hlt]
    go_wp2_with fail
    go_ret
    exact ⟨ret_int HR.out.symm, (Fr.al (Below.refl _ _) _).then f1⟩
  · by_cases hlt2 : left - n < strTot ss
    · have HR := Lib.hid (szOf_no (left := left) (n := n + strTot ss) (by omega))
      go_enter Try.func7, Try.ntmps7
      go_wp2_with fail
      refine (szBoolS_fr A n c left _ hcap h0 h1).mono ?_
      rintro e w1 ⟨rfl, f1⟩
      rw [szOf_yes (by omega)]
      have c1 : w1.cell? ⟨w.heap.size, 1, none⟩ = some (.slice B m d) := cell_later f1 (by simp)
      go_wp2_with fail
      refine (szStringS_fr B m d ss _ _ ((h.alloc _).fr f1) ok hcap2 (by omega) (by omega)).mono ?_
      rintro e w2 ⟨rfl, f2⟩
      rw [szOf_no hlt2]
      go_wp2_with fail
      go_ret
      exact ⟨ret_int HR.out.symm, ((Fr.al (Below.refl _ _) _).then f1).then f2⟩
    · have HR := Lib.hid (szOf_yes (left := left) (n := n + strTot ss) (by omega))
      go_enter Try.func7, Try.ntmps7
      go_wp2_with fail
      refine (szBoolS_fr A n c left _ hcap h0 h1).mono ?_
      rintro e w1 ⟨rfl, f1⟩
      rw [szOf_yes (by omega)]
      have c1 : w1.cell? ⟨w.heap.size, 1, none⟩ = some (.slice B m d) := cell_later f1 (by simp)
      go_wp2_with fail
      refine (szStringS_fr B m d ss _ _ ((h.alloc _).fr f1) ok hcap2 (by omega) (by omega)).mono ?_
      rintro e w2 ⟨rfl, f2⟩
      rw [szOf_yes (by omega)]
      go_wp2_with fail
      go_ret
      exact ⟨ret_int (by rw [HR.out]; omega), ((Fr.al (Below.refl _ _) _).then f1).then f2⟩

set_option maxRecDepth 100000 in
set_option maxHeartbeats 1000000 in
theorem toStore_any (A : Option Addr) (n c : Nat) (l : List Bool) (B : Option Addr) (m d : Nat) (ss : List ByteArray) (w : World)
    (h : Rd w A n 1 (l.map Value.bool)) (h' : Rd w B m 1 (ss.map Value.string)) (hn : n ≤ 1048576) (hm : m ≤ 1048576) :
    Calls Try.prog 10 #[.agg #[.slice A n c, .slice B m d]] w fun e w' => ∃ g g', e = .returned (.agg #[.slice (some ⟨g, 0, none⟩) n n, .slice (some ⟨g', 0, none⟩) m m]) ∧
      w'.ownsRow w.heap.size 4 1 (.slice (some ⟨g, 0, none⟩) n n) n (l.map Value.bool) ∧ w'.ownsRow w.heap.size 9 1 (.slice (some ⟨g', 0, none⟩) m m) m (ss.map Value.string) ∧ Fr w w' := by
  go_enter Try.func10, Try.ntmps10
  go_wp2_with fail
  refine (toBoolS_any A n c l _ (((h.alloc _).alloc _).alloc _) hn).mono ?_
  rintro e w1 ⟨g, rfl, o1, f1⟩
  have z1 := f1.size
  simp at z1
  have k1 : Bk w1 w.heap.size 25 [.slice A n c, .slice B m d] := Bk.fr (((Bk.new_ w _ _ rfl).al _).al _) f1
  have k2 : Bk w1 (w.heap.size + 1) 31 [.slice none 0 0, .slice none 0 0] := Bk.fr ((Bk.new_ _ _ _ (by simp)).al _) f1
  have k3 : Bk w1 (w.heap.size + 1 + 1) 31 [.slice none 0 0, .slice none 0 0] := Bk.fr (Bk.new_ _ _ _ (by simp)) f1
  have f01 : Fr w w1 := (Fr.al (Fr.al (Fr.al (Below.refl _ _) _) _) _).then f1
  have fs : Fr w (w1.setCell ⟨w.heap.size + 1 + 1, 0, none⟩ (.slice (some ⟨g, 0, none⟩) n n)) := Below.setCell f01 (by simp; omega) _
  have os := ownsRow_setCell_below o1 (a := ⟨w.heap.size + 1 + 1, 0, none⟩) (by simp) (.slice (some ⟨g, 0, none⟩) n n)
  have hs := h'.fr fs
  have FS := Lib.hid fs
  have OS := Lib.hid (own_base os (b' := w.heap.size + 1 + 1 + 1) (by simp))
  have HS := Lib.hid hs
  have c1 := k1.at_ (j := 1) rfl
  have c2 := k3.at_ (j := 0) rfl
  have e2 := k3.free 0
  have K2 := Lib.hid (k2.far (show w.heap.size + 1 ≠ w.heap.size + 1 + 1 by omega) 0 (.slice (some ⟨g, 0, none⟩) n n))
  have K3 := Lib.hid (k3.put 0 (.slice (some ⟨g, 0, none⟩) n n))
  clear f1 o1 f01 fs os hs k2 k3 h h'
  go_wp2_with fail
  clear c1 c2 e2 k1
  refine (toStringS_any B m d ss _ HS.out hm).mono ?_
  rintro e w2 ⟨g', rfl, o2, f2⟩
  have z2 := f2.size
  simp at z2
  have k2 := K2.out.fr f2
  have k3 := K3.out.fr f2
  have c1 := k3.at_ (j := 0) rfl
  have c2 := k3.at_ (j := 1) rfl
  have e2 := k3.free 1
  have c3 := k2.at_ (j := 0) rfl
  have c4 := k2.at_ (j := 1) rfl
  have e3 := k2.free 0
  have e4 := k2.free 1
  have F2 := Lib.hid (FS.out.then f2)
  have OS2 := Lib.hid (own_fr OS.out f2)
  have O2 := Lib.hid (own_base o2 (b' := w.heap.size + 1 + 1 + 1) (by simp; omega))
  clear k2 k3 o2 f2
  go_wp2
  exact bodyPost_ret (v := .agg #[.slice (some ⟨g, 0, none⟩) n n, .slice (some ⟨g', 0, none⟩) m m]) (by simp [results, Try.results10, go_sem, c3, c4]) rfl ⟨g, g', rfl, own_base (ownsRow_setCell_below (ownsRow_setCell_below (ownsRow_setCell_below OS2.out (by simp) _) (by simp) _) (by simp) _) (by omega), own_base (ownsRow_setCell_below (ownsRow_setCell_below (ownsRow_setCell_below O2.out (by simp) _) (by simp) _) (by simp) _) (by omega), Below.setCell (Below.setCell (Below.setCell F2.out (by simp; omega) _) (by simp) _) (by simp) _⟩

set_option maxRecDepth 100000 in
set_option maxHeartbeats 1000000 in
theorem eqStore_yes (A : Option Addr) (n c : Nat) (B : Option Addr) (m d : Nat) (A' : Option Addr) (n' c' : Nat) (B' : Option Addr) (m' d' : Nat) (l : List Bool) (ss : List ByteArray) (w : World)
    (h : Rd w A n 1 (l.map Value.bool)) (h' : Rd w B m 1 (ss.map Value.string)) (k : Rd w A' n' 1 (l.map Value.bool)) (k' : Rd w B' m' 1 (ss.map Value.string)) (hn : n ≤ 1048576) (hm : m ≤ 1048576) :
    Calls Try.prog 13 #[.agg #[.slice A n c, .slice B m d], .agg #[.slice A' n' c', .slice B' m' d']] w fun e w' => e = .returned (.bool true) ∧ Fr w w' := by
  have hn' : n' ≤ 1048576 := by have := h.len1; have := k.len1; omega
  have hm' : m' ≤ 1048576 := by have := h'.len1; have := k'.len1; omega
  go_enter Try.func13, Try.ntmps13
  go_wp2_with fail
  refine (eqBoolS_any A A' n n' c c' l l _ ((h.alloc _).alloc _) ((k.alloc _).alloc _) hn hn').mono ?_
  rintro e w1 ⟨rfl, d1⟩
  rw [decide_eq_true rfl]
  have k1 : Bk w1 w.heap.size 31 [.slice A n c, .slice B m d] := ((Bk.new_ w _ _ rfl).al _).fr d1.fr
  have k2 : Bk w1 (w.heap.size + 1) 31 [.slice A' n' c', .slice B' m' d'] := (Bk.new_ _ _ _ (by simp)).fr d1.fr
  have f1 : Fr w w1 := (Fr.al (Fr.al (Below.refl _ _) _) _).then d1.fr
  have c1 := k1.at_ (j := 1) rfl
  have c2 := k2.at_ (j := 1) rfl
  have F1 := Lib.hid f1
  have HS := Lib.hid (h'.fr f1)
  have HS' := Lib.hid (k'.fr f1)
  clear k1 k2 d1 f1 h h' k k'
  go_wp2_with fail
  refine (eqStringS_any B B' m m' d d' ss ss _ HS.out HS'.out hm hm').mono ?_
  rintro e w2 ⟨rfl, d2⟩
  rw [decide_eq_true rfl]
  go_wp2
  go_ret
  exact ⟨rfl, F1.out.then d2.fr⟩
end Go.Proofs.Ytbmoolmgfpcnkaa
