/-
VolDo of the reference.
-/
import Derived.Test.YtllonpbhgbhogaaGreatDoorL6Do
import Derived.Test.YtllonpbhgbhogaaGreatDoorGh
import Derived.Test.YtllonpbhgbhogaaGreatDoorGj
namespace Go.Proofs.YtllonpbhgbhogaaGreatDoor
open Go.RowKit
set_option linter.unusedVariables false
set_option linter.unusedSimpArgs false
theorem Hp.instead {W : List Nat} {w0 w w' : World} {l : List Ob} {o o' : Ob} (h : Hp W w0 w l) (i : Nat) (hi : l[i]? = some o) (K : Hp [] w w' [o']) : Hp W w0 w' (l.set i o') :=
 Hp.back i (Hp.vlt i hi) ((h.join K).sub (List.Sublist.cons_cons _ (List.eraseIdx_sublist _ _)))
theorem GotV.held {w0 w1 w2 : World} {W : List Nat} {l : List Ob} {A0 : Option Addr} {n0 c0 : Nat} {L0 : List (Value × Nod)} {out : OutT} {e : Ending} (h : GotV w1 A0 n0 c0 L0 out e w2) (H : Hp W w0 w1 l) (i : Nat) (hi : l[i]? = some (obN (.slice A0 n0 c0) n0 L0)) :
 ∃ A n c L, e = .returned (.tuple #[.agg #[.int .i64 out.1.1, .slice A n c], .agg (resL out.2).toArray]) ∧ nodes L = out.1.2 ∧ Hp W w0 w2 (l.set i (obN (.slice A n c) n L)) := by
 obtain ⟨A, n, c, L, h1, h2, h3⟩ := h;refine ⟨A, n, c, L, h1, h2, ?_⟩
 rcases h3 with ⟨rfl, rfl, rfl, rfl, f⟩ | K
 ·rw [set_self' _ _ _ hi]; exact H.go f
 ·exact H.instead i hi K
end Go.Proofs.YtllonpbhgbhogaaGreatDoor
