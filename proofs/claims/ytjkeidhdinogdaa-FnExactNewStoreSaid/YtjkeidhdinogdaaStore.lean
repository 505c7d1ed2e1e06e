/-
  Stores in the laws: made anew, compared, their budget.
-/
import Derived.Test.YtjkeidhdinogdaaBools
import Derived.Test.YtjkeidhdinogdaaStrings
namespace Go.Proofs.Ytjkeidhdinogdaa
open Go.RowKit

set_option maxRecDepth 100000 in
set_option maxHeartbeats 1000000 in
theorem eqStore_yes (A : Option Addr) (n c : Nat) (B : Option Addr) (m d : Nat) (A' : Option Addr) (n' c' : Nat) (B' : Option Addr) (m' d' : Nat) (l : List Bool) (ss : List ByteArray) (w : World)
    (h : Rd w A n 1 (l.map Value.bool)) (h' : Rd w B m 1 (ss.map Value.string)) (k : Rd w A' n' 1 (l.map Value.bool)) (k' : Rd w B' m' 1 (ss.map Value.string)) (hn : n ≤ 1048576) (hm : m ≤ 1048576) :
    Calls Try.prog 6 #[.agg #[.slice A n c, .slice B m d], .agg #[.slice A' n' c', .slice B' m' d']] w fun e w' => e = .returned (.bool true) ∧ Fr w w' := by
  have hn' : n' ≤ 1048576 := by have := h.len1; have := k.len1; omega
  have hm' : m' ≤ 1048576 := by have := h'.len1; have := k'.len1; omega
  go_enter Try.func6, Try.ntmps6
  go_wp2_with fail
  refine (eqBoolS_any A A' n n' c c' l l _ ((h.alloc _).alloc _) ((k.alloc _).alloc _) hn hn').mono ?_
  rintro e w1 ⟨rfl, d1⟩
  rw [decide_eq_true rfl]
  have k1 : Bk w1 w.heap.size 25 [.slice A n c, .slice B m d] := ((Bk.new_ w _ _ rfl).al _).fr d1.fr
  have k2 : Bk w1 (w.heap.size + 1) 25 [.slice A' n' c', .slice B' m' d'] := (Bk.new_ _ _ _ (by simp)).fr d1.fr
  have f1 : Fr w w1 := (Fr.al (Fr.al (Below.refl _ _) _) _).then d1.fr
  have c1 := k1.at_ (j := 1) rfl
  have c2 := k2.at_ (j := 1) rfl
  have F1 := Lib.hid f1
  have HS := Lib.hid (h'.fr f1)
  have HS' := Lib.hid (k'.fr f1)
  clear k1 k2 d1 f1 h h' k k'
  go_wp2_with fail
  refine (eqStringS_any B B' m m' d d' ss ss _ HS.out HS'.out hm hm').mono ?_
  rintro e w2 ⟨rfl, d2⟩
  rw [decide_eq_true rfl]
  go_wp2
  go_ret
  exact ⟨rfl, F1.out.then d2.fr⟩
end Go.Proofs.Ytjkeidhdinogdaa
