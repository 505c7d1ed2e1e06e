/-
  Signs put together: what Compose comes to. No program in sight.
-/
import Derived.Test.YtfmifaneggenoaaDoorMApart
namespace Go.Proofs.YtfmifaneggenoaaDoor

/-- May a sign be put to the letter at place t? -/
def freeC (o : List Int) (t : Int) (c : Int) : Bool :=
  decide ((o.length : Int) - 1 = t) || (decide (0 < cls (o.getD (o.length - 1) 0)) && decide (cls (o.getD (o.length - 1) 0) < cls c))
def cStep (s : List Int × Int) (c : Int) : List Int × Int :=
  if 0 ≤ s.2 ∧ freeC s.1 s.2 c = true ∧ (pairF (s.1.getD s.2.toNat 0) c).2 = true then (s.1.set s.2.toNat (pairF (s.1.getD s.2.toNat 0) c).1, s.2)
  else (s.1 ++ [c], if cls c = 0 then (s.1.length : Int) else s.2)
def compL (l : List Int) : List Int := ((apartL l).foldl cStep ([], -1)).1
theorem cStep_put {o : List Int} {t c : Int} {k : Nat} {y p : Int} (hk : t = (k : Int)) (hy : o[k]? = some y) (hf : freeC o t c = true) (hp : pairF y c = (p, true)) : cStep (o, t) c = (o.set k p, t) := by
  subst hk
  have h1 : o.getD k 0 = y := by simp [List.getD_eq_getElem?_getD, hy]
  rw [cStep]
  simp only [Int.toNat_natCast, h1, hp]
  rw [if_pos ⟨by omega, hf, trivial⟩]
theorem cStep_neg {o : List Int} {t c : Int} (ht : t < 0) : cStep (o, t) c = (o ++ [c], if cls c = 0 then (o.length : Int) else t) := by
  rw [cStep, if_neg (fun h => by have := h.1; simp only at this; omega)]
theorem cStep_nofree {o : List Int} {t c : Int} (hf : freeC o t c = false) : cStep (o, t) c = (o ++ [c], if cls c = 0 then (o.length : Int) else t) := by
  rw [cStep, if_neg (fun h => by rw [hf] at h; cases h.2.1)]
theorem cStep_nopair {o : List Int} {t c : Int} {k : Nat} {y p : Int} (hk : t = (k : Int)) (hy : o[k]? = some y) (hp : pairF y c = (p, false)) : cStep (o, t) c = (o ++ [c], if cls c = 0 then (o.length : Int) else t) := by
  subst hk
  have h1 : o.getD k 0 = y := by simp [List.getD_eq_getElem?_getD, hy]
  rw [cStep]
  simp only [Int.toNat_natCast, h1, hp]
  rw [if_neg (fun h => by cases h.2.2)]
theorem freeC_last {o : List Int} {t c : Int} (h : (o.length : Int) - 1 = t) : freeC o t c = true := by simp [freeC, h]
theorem freeC_mark {o : List Int} {t c y : Int} (hy : o[o.length - 1]? = some y) (h : (o.length : Int) - 1 ≠ t) : freeC o t c = (decide (0 < cls y) && decide (cls y < cls c)) := by
  have h1 : o.getD (o.length - 1) 0 = y := by simp [List.getD_eq_getElem?_getD, hy]
  rw [freeC, h1, decide_eq_false h, Bool.false_or]
/-- Where the walk stands. -/
structure CSt (xs : List Int) (i : Nat) (o : List Int) (t : Int) : Prop where
  st : (xs.take i).foldl cStep ([], -1) = (o, t)
  lo : -1 ≤ t
  hi : t < o.length
  len : o.length ≤ i
theorem CSt.start (xs : List Int) : CSt xs 0 [] (-1) := ⟨rfl, by omega, by simp, by simp⟩
theorem CSt.next {xs : List Int} {i : Nat} {o o' : List Int} {t t' c : Int} (h : CSt xs i o t) (hx : xs[i]? = some c) (he : cStep (o, t) c = (o', t')) (h1 : -1 ≤ t') (h2 : t' < o'.length) (h3 : o'.length ≤ i + 1) : CSt xs (i + 1) o' t' := by
  refine ⟨?_, h1, h2, h3⟩
  rw [List.take_add_one, hx, Option.toList_some, List.foldl_append, h.st]
  exact he
theorem CSt.done {xs : List Int} {i : Nat} {o : List Int} {t : Int} (h : CSt xs i o t) (hi : xs.length ≤ i) : (xs.foldl cStep ([], -1)).1 = o := by
  have := h.st
  rw [List.take_of_length_le hi] at this
  rw [this]
theorem comp_len (l : List Int) : (compL l).length ≤ 27 * l.length := by
  have key : ∀ (xs : List Int) (s : List Int × Int), (xs.foldl cStep s).1.length ≤ s.1.length + xs.length := by
    intro xs
    induction xs with
    | nil => intro s; simp
    | cons c xs ih =>
      intro s
      rw [List.foldl_cons]
      refine Nat.le_trans (ih _) ?_
      rw [cStep]
      split
      · simp only [List.length_set, List.length_cons]; omega
      · simp only [List.length_append, List.length_cons, List.length_nil]; omega
  have h1 := key (apartL l) ([], -1)
  have h2 := apart_len l
  rw [compL]
  simp only [List.length_nil, Nat.zero_add] at h1
  omega
end Go.Proofs.YtfmifaneggenoaaDoor
