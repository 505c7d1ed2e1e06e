/-
The reference draws directories.
-/
import Derived.Test.YtmpldngnkacnmaaGreatDoorGq
import Derived.Test.YtmpldngnkacnmaaGreatDoorGr
namespace Go.Proofs.YtmpldngnkacnmaaGreatDoor
open Go.RowKit
set_option linter.unusedVariables false
set_option linter.unusedSimpArgs false
def TurnD (w : World) (A : Option Addr) (n c : Nat) (d d' : List EntT) (e : Ending) (w' : World) : Prop := ∃ (v' : Value) (b : Bool), e = .returned (.tuple #[v', .bool b]) ∧ ((d' = d ∧ v' = .slice A n c ∧ Fr w w') ∨ Hp [] w w' [.row 90 4 v' d'.length (d'.flatMap cEnt)])
def DrewD (W : List Nat) (w0 : World) (g : Nat) (A : Option Addr) (n c : Nat) (l : List Ob) (P : List EntT → Prop) (e : Ending) (w' : World) : Prop := ∃ (B : Option Addr) (q : Nat) (es : List EntT), e = .returned (.slice B es.length q) ∧ P es ∧ HC W w0 w' g A n c (.row 90 4 (.slice B es.length q) es.length (es.flatMap cEnt) :: l)
section
variable {W : List Nat} {w0 w w' : World} {l : List Ob} {A : Option Addr} {m n c : Nat} {d d' : List EntT} {b : Bool} {e : Ending}
theorem TurnD.held (h : TurnD w A m c d d' e w') (H : Hp W w0 w l) (i : Nat) (hi : l[i]? = some (.row 90 4 (.slice A m c) m (d.flatMap cEnt))) (hm : m = d.length) : ∃ (v : Value) (b : Bool), e = .returned (.tuple #[v, .bool b]) ∧ Hp W w0 w' (l.set i (.row 90 4 v d'.length (d'.flatMap cEnt))) := by
 obtain ⟨v, b, rfl, h | K⟩ := h
 ·obtain ⟨rfl, rfl, f⟩ := h
  refine ⟨_, b, rfl, ?_⟩;subst hm;rw [set_self' _ _ _ hi]; exact H.go f
 ·exact ⟨v, b, rfl, Hp.back i (Hp.vlt i hi) ((H.join K).sub (List.Sublist.cons_cons _ (List.eraseIdx_sublist _ _)))⟩
end
section
variable {W : List Nat} {w0 w : World} {g : Nat} {A : Option Addr} {n c : Nat} {l : List Ob}
theorem DrewD.mk {B : Option Addr} {m q : Nat} {es : List EntT} {P : List EntT → Prop} (hP : P es) (hm : m = es.length) (K : HC W w0 w g A n c (.row 90 4 (.slice B m q) m (es.flatMap cEnt) :: l)) : DrewD W w0 g A n c l P (.returned (.slice B m q)) w := by
 subst hm;exact ⟨B, q, es, rfl, hP, K⟩
end
def FewN (es : List EntT) : Prop := es.length ≤ 13 ∧ ∀ e ∈ es, e.2.2.1.size ≤ 16777216
theorem FewN.set {es : List EntT} (h : FewN es) (k : Nat) {x : EntT} (hx : x.2.2.1.size ≤ 16777216) : FewN (es.set k x) :=
 ⟨by rw [List.length_set]; exact h.1, fun e he => (List.mem_or_eq_of_mem_set he).elim (h.2 e) fun q => by rw [q]; exact hx⟩
end Go.Proofs.YtmpldngnkacnmaaGreatDoor
