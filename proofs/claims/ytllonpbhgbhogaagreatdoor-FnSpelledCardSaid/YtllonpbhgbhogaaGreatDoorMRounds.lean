/-
The rounds of the reference, place by place.
-/
import Derived.Test.YtllonpbhgbhogaaGreatDoorGf
namespace Go.Proofs.YtllonpbhgbhogaaGreatDoor
open Go.RowKit
set_option linter.unusedVariables false
set_option linter.unusedSimpArgs false
theorem belowS_len (l : List Nod) (a : Int) (h : ∀ k, atN l a = some k → Bs l a (start0 l k)) : (belowS l a).length = l.length := by
 unfold belowS; split
 ·simp
 ·rename_i k hk
  exact ((h k hk).rounds _).l1
theorem rounds_no {l : List Nod} (hs : l.Pairwise fun a b => a.1 < b.1) {a : Int} {i : Nat} {x : Nod} (hx : l[i]? = some x) : (belowS l a)[i]? = some (blwB l a x.1) := by
 have hat := nodup_at hs hx;have hlen : i < (belowS l a).length := by
  rw [belowS_len l a fun k hk => start0_Bs hk];exact (List.getElem?_eq_some_iff.1 hx).1
 have h1 := belowS_ok l a i;have h2 : On (belowS l a) i ↔ blwB l a x.1 = true := by
  rw [h1, blwB_iff];refine ⟨fun ⟨b, hb, hbi⟩ => ?_, fun hb => ⟨_, hb, hat⟩⟩;obtain ⟨y, hy, hyb⟩ := atN_some hbi;rw [hx] at hy;injection hy with hy;subst hy;rw [hyb]; exact hb
 obtain ⟨b, hb⟩ : ∃ b, (belowS l a)[i]? = some b := ⟨_, List.getElem?_eq_getElem hlen⟩;rw [hb];unfold On at h2;rw [hb] at h2
 congr 1
 rw [Bool.eq_iff_iff, ← h2]
 simp
end Go.Proofs.YtllonpbhgbhogaaGreatDoor
