/-
  Plain words for memory that all walks of this seat use: a slice that reads as a list of cells ('Rd'), and how that is kept while the call makes blocks of its own. No program in sight.
-/
import Derived.Test.YtbncjalihkpabaaRows
import Derived.WalkKit
import Derived.WalkSpells
import Derived.WalkLawsBesides
import Derived.Lib.Hide
import Derived.Maps.AppendAt
import Derived.Deep.AppendLies
import Derived.Deep.Draws
import Derived.RegionTactic
import Derived.OwnWalk
import Derived.Deep.QuietTactic
import Derived.BigQuiet
namespace Go.Proofs.Ytbncjalihkpabaa
open Go.RowKit

/-- All blocks of w are in w' as they were. -/
abbrev Fr (w w' : World) : Prop := Below w.heap.size w w'

theorem Fr.then {a b c : World} (h : Fr a b) (k : Fr b c) : Fr a c := Below.trans h (Below.mono k h.size)
theorem Fr.drewN_ (w : World) (n : Nat) : Fr w (w.drewN n) := ⟨rfl, rfl, rfl, Nat.le_refl _, fun _ _ => rfl⟩
theorem Fr.of_grown {w w' : World} (h : w.grownBy w' none) : Fr w w' := ⟨h.os, h.tape, h.output, h.size, fun k hk => h.block k hk (by simp)⟩
theorem Fr.grown {w w' : World} (h : Fr w w') (row : Option Nat) : w.grownBy w' row := ⟨h.os, h.tape, h.output, h.size, fun k hk _ => h.block k hk⟩

/-- The slice '.slice A n _' reads as the cells xs, k cells an element. -/
def Rd (w : World) (A : Option Addr) (n k : Nat) (xs : List Value) : Prop :=
  xs.length = n * k ∧ (0 < n → ∃ ad, A = some ad ∧ ∀ j u, xs[j]? = some u → w.cell? (ad.add j) = some u)

section
variable {w w' : World} {A : Option Addr} {n k : Nat} {xs : List Value}

theorem add_block (a : Addr) (i : Nat) : (a.add i).block = a.block := by unfold Addr.add; split <;> rfl

theorem Rd.nil_ : Rd w A 0 k [] := ⟨by simp, fun h => absurd h (by omega)⟩

theorem Rd.keep (h : Rd w A n k xs) (hk : ∀ p : Addr, p.block < w.heap.size → (∀ ad, A = some ad → p.block = ad.block) → w'.cell? p = w.cell? p) : Rd w' A n k xs := by
  refine ⟨h.1, fun hn => ?_⟩
  obtain ⟨ad, rfl, hc⟩ := h.2 hn
  refine ⟨ad, rfl, fun j u hu => ?_⟩
  have hc' := hc j u hu
  exact (hk _ (World.block_lt_of_cell? w _ hc') (fun a ha => by injection ha with ha; subst ha; exact add_block _ _)).trans hc'

theorem Rd.fr (h : Rd w A n k xs) (hf : Fr w w') : Rd w' A n k xs := h.keep fun _ hp _ => hf.cell hp
theorem Rd.drew (h : Rd w A n k xs) : Rd w.drew A n k xs := h
theorem Rd.drewN (h : Rd w A n k xs) (m : Nat) : Rd (w.drewN m) A n k xs := h
theorem Rd.alloc (h : Rd w A n k xs) (o : Obj) : Rd (w.alloc o) A n k xs := h.keep fun p hp _ => World.cell?_alloc_lt w o p hp
theorem Rd.below {B : Nat} (h : Rd w A n k xs) (hf : Below B w w') (hB : ∀ ad, A = some ad → ad.block < B) : Rd w' A n k xs := by
  refine ⟨h.1, fun hn => ?_⟩
  obtain ⟨ad, rfl, hc⟩ := h.2 hn
  exact ⟨ad, rfl, fun j u hu => (hf.cell (by rw [add_block]; exact hB ad rfl)).trans (hc j u hu)⟩
theorem Rd.block (h : Rd w A n k xs) (hn : 0 < n * k) : ∀ ad, A = some ad → ad.block < w.heap.size := by
  intro ad ha
  have hn0 : 0 < n := Nat.pos_of_mul_pos_right hn
  obtain ⟨ad', h1, hc⟩ := h.2 hn0
  rw [h1] at ha
  injection ha with ha
  subst ha
  have hl := h.1
  have := hc 0 xs[0] (List.getElem?_eq_getElem (by omega))
  have := World.block_lt_of_cell? w _ this
  rwa [add_block] at this
/-- another row was written -/
theorem Rd.wrote {row : Option Nat} (h : Rd w A n k xs) (hg : w.grownBy w' row) (hr : ∀ ad, A = some ad → some ad.block ≠ row) : Rd w' A n k xs := by
  refine ⟨h.1, fun hn => ?_⟩
  obtain ⟨ad, rfl, hc⟩ := h.2 hn
  refine ⟨ad, rfl, fun j u hu => ?_⟩
  exact hg.cell (hc j u hu) (by rw [add_block]; exact hr ad rfl)

/-- a cell of it -/
theorem Rd.get {j : Nat} {u : Value} (h : Rd w A n k xs) (hu : xs[j]? = some u) : ∃ ad, A = some ad ∧ w.cell? (ad.add j) = some u := by
  have hj : j < xs.length := (List.getElem?_eq_some_iff.1 hu).1
  have hn : 0 < n := by
    rcases Nat.eq_zero_or_pos n with h0 | h0
    · have := h.1; rw [h0, Nat.zero_mul] at this; omega
    · exact h0
  obtain ⟨ad, e, hc⟩ := h.2 hn
  exact ⟨ad, e, hc j u hu⟩
/-- an element of one cell, of a list of data -/
theorem Rd.get1 {α : Type} {f : α → Value} {l : List α} {j : Nat} {x : α} (h : Rd w A n 1 (l.map f)) (hx : l[j]? = some x) : ∃ ad, A = some ad ∧ w.cell? (ad.add j) = some (f x) :=
  h.get (by simp [hx])
theorem Rd.len1 {α : Type} {f : α → Value} {l : List α} (h : Rd w A n 1 (l.map f)) : l.length = n := by simpa using h.1

theorem Rd.of_own {base : Nat} {e : TypeId} {c : Nat} (h : w.ownsRow base e k (.slice A n c) n xs) : Rd w A n k xs := by
  refine ⟨h.1, fun hn => ?_⟩
  rcases h.2 with ⟨_, h0⟩ | ⟨g, cap, cur, hv, _⟩
  · omega
  · have hA : A = some ⟨g, 0, none⟩ := by injection hv
    subst hA
    exact ⟨_, rfl, h.cells (g := g) rfl⟩
end

/-- A row of the call's own is kept while other blocks are made or written. -/
theorem own_fr {w w' : World} {base : Nat} {e : TypeId} {k n : Nat} {v : Value} {xs : List Value} (h : w.ownsRow base e k v n xs) (hf : Fr w w') : w'.ownsRow base e k v n xs :=
  h.kept (hf.grown none) (by cases hv : v.ownBlock <;> simp)

theorem some_at {α : Type} {l : List α} {n k : Nat} (hl : l.length = n) (h : k < n) : ∃ x, l[k]? = some x := ⟨l[k]'(by omega), List.getElem?_eq_getElem (by omega)⟩

theorem take_eq_step {α : Type} {bs cs : List α} {k : Nat} {x : α} (h : bs.take k = cs.take k) (hb : bs[k]? = some x) (hc : cs[k]? = some x) : bs.take (k + 1) = cs.take (k + 1) := by
  rw [List.take_add_one, List.take_add_one, h, hb, hc]
theorem take_eq_all {α : Type} {bs cs : List α} {n : Nat} (h : bs.take n = cs.take n) (hb : bs.length = n) (hc : cs.length = n) : bs = cs := by
  rwa [List.take_of_length_le (by omega), List.take_of_length_le (by omega)] at h
theorem ne_of_at {α : Type} {bs cs : List α} {k : Nat} {x y : α} (hb : bs[k]? = some x) (hc : cs[k]? = some y) (h : x ≠ y) : bs ≠ cs := by
  rintro rfl
  rw [hb] at hc
  injection hc with hc
  exact h hc

theorem flat_len {α : Type} {f : α → List Value} {k : Nat} (hk : ∀ x, (f x).length = k) : ∀ l : List α, (l.flatMap f).length = l.length * k
  | [] => by simp
  | y :: l => by rw [List.flatMap_cons, List.length_append, flat_len hk l, hk, List.length_cons, Nat.add_mul]; omega
/-- Where a cell of a list of elements of k cells each stands. -/
theorem flat_get {α : Type} {f : α → List Value} {k : Nat} (hk : ∀ x, (f x).length = k) : ∀ {l : List α} {i j : Nat} {x : α} {u : Value}, l[i]? = some x → (f x)[j]? = some u → (l.flatMap f)[i * k + j]? = some u
  | [], i, j, x, u, h, _ => by simp at h
  | y :: l, 0, j, x, u, h, hu => by
    simp at h
    subst h
    rw [List.flatMap_cons, Nat.zero_mul, Nat.zero_add, List.getElem?_append_left (List.getElem?_eq_some_iff.1 hu).1]
    exact hu
  | y :: l, i + 1, j, x, u, h, hu => by
    rw [List.flatMap_cons, List.getElem?_append_right (by rw [hk, Nat.add_mul]; omega), hk, show (i + 1) * k + j - k = i * k + j from by rw [Nat.add_mul]; omega]
    exact flat_get hk (by simpa using h) hu
theorem flat_at {α : Type} {f : α → List Value} {k : Nat} (hk : ∀ x, (f x).length = k) : ∀ {l : List α} {j : Nat} {u : Value}, (l.flatMap f)[j]? = some u → ∃ i r x, j = i * k + r ∧ r < k ∧ l[i]? = some x ∧ (f x)[r]? = some u
  | [], j, u, h => by simp at h
  | y :: l, j, u, h => by
    by_cases hj : j < k
    · rw [List.flatMap_cons, List.getElem?_append_left (by rw [hk]; exact hj)] at h
      exact ⟨0, j, y, by omega, hj, rfl, h⟩
    · rw [List.flatMap_cons, List.getElem?_append_right (by rw [hk]; omega), hk] at h
      obtain ⟨i, r, x, h1, h2, h3, h4⟩ := flat_at hk h
      exact ⟨i + 1, r, x, by rw [Nat.add_mul]; omega, h2, by simpa using h3, h4⟩

/-- One round of a loop that copies element k into a row that the call made. -/
theorem fill_step (xs : List Value) (d u : Value) (k n : Nat) (hx : xs.length = n) (hu : xs[k]? = some u) :
    (xs.take k ++ List.replicate (n - k) d).set k u = xs.take (k + 1) ++ List.replicate (n - (k + 1)) d := by
  have hk : k < n := by rw [← hx]; exact (List.getElem?_eq_some_iff.1 hu).1
  have hl : (xs.take k).length = k := by rw [List.length_take]; omega
  rw [List.set_append, if_neg (by omega), hl, Nat.sub_self, List.take_add_one, hu, show n - k = (n - (k + 1)) + 1 from by omega, List.replicate_succ]
  simp

end Go.Proofs.Ytbncjalihkpabaa
