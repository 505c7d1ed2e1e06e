/-
  Rows of rows of ints, in memory of the call's own and as they are read. No program in sight.
-/
import Derived.Test.YtfmifaneggenoaaDoorInfo
namespace Go.Proofs.YtfmifaneggenoaaDoor
open Go.RowKit

/-- The inner rows, as things of their own. -/
def rowI (v : Value) (l : List Int) : Row := ⟨3, 1, v, l.length, l.map (Value.int .i64)⟩
def inner (vs : List Value) (L : List (List Int)) : List Row := List.zipWith rowI vs L
def rowO (v : Value) (vs : List Value) : Row := ⟨29, 1, v, vs.length, vs.map cSl⟩
theorem inner_at {vs : List Value} {L : List (List Int)} {i : Nat} {v : Value} {l : List Int} (hv : vs[i]? = some v) (hl : L[i]? = some l) : (inner vs L)[i]? = some (rowI v l) := by
  simp [inner, List.getElem?_zipWith, hv, hl]
theorem inner_len {vs : List Value} {L : List (List Int)} (h : vs.length = L.length) : (inner vs L).length = L.length := by simp [inner, h]
theorem inner_set {vs : List Value} {L : List (List Int)} {i : Nat} {v : Value} {l : List Int} (h : vs.length = L.length) (hi : i < L.length) : (inner vs L).set i (rowI v l) = inner (vs.set i v) (L.set i l) := by
  apply List.ext_getElem?
  intro j
  by_cases hij : i = j
  · subst hij
    rw [List.getElem?_set_self (by rw [inner_len h]; exact hi), inner_at (v := v) (l := l) (by rw [List.getElem?_set_self (by omega)]) (by rw [List.getElem?_set_self hi])]
  · rw [List.getElem?_set_ne hij, inner, inner, List.getElem?_zipWith, List.getElem?_zipWith, List.getElem?_set_ne hij, List.getElem?_set_ne hij]
theorem inner_snoc {vs : List Value} {L : List (List Int)} {v : Value} {l : List Int} (h : vs.length = L.length) : inner (vs ++ [v]) (L ++ [l]) = inner vs L ++ [rowI v l] := by
  rw [inner, List.zipWith_append h]; rfl
/-- The list of things: the outer row, and the inner rows. -/
def rowsOb (v : Value) (vs : List Value) (L : List (List Int)) : List Ob := .row 29 1 v vs.length (vs.map cSl) :: (inner vs L).map Row.ob
theorem rowsOb_in {v u : Value} {vs : List Value} {L : List (List Int)} {i : Nat} {l : List Int} (r : List Ob) (hv : vs[i]? = some u) (hl : L[i]? = some l) : (rowsOb v vs L ++ r)[i + 1]? = some (.row 3 1 u l.length (l.map (Value.int .i64))) := by
  have h1 := inner_at hv hl
  have h2 : i < (inner vs L).length := (List.getElem?_eq_some_iff.1 h1).1
  rw [rowsOb, List.cons_append, List.getElem?_cons_succ, List.getElem?_append_left (by simpa using h2), List.getElem?_map, h1]; rfl
theorem rowsOb_set {v u : Value} {vs : List Value} {L : List (List Int)} {i : Nat} {l : List Int} (r : List Ob) (h : vs.length = L.length) (hi : i < L.length) :
    (rowsOb v vs L ++ r).set (i + 1) (.row 3 1 u l.length (l.map (Value.int .i64))) = .row 29 1 v vs.length (vs.map cSl) :: (inner (vs.set i u) (L.set i l)).map Row.ob ++ r := by
  rw [← inner_set h hi, rowsOb, List.cons_append, List.set_cons_succ, List.set_append, if_pos (by rw [List.length_map, inner_len h]; exact hi), List.map_set]; rfl

theorem rowsOb_in0 {v u : Value} {vs : List Value} {L : List (List Int)} {i : Nat} {l : List Int} (hv : vs[i]? = some u) (hl : L[i]? = some l) : (rowsOb v vs L)[i + 1]? = some (.row 3 1 u l.length (l.map (Value.int .i64))) := by
  have := rowsOb_in (v := v) [] hv hl
  rwa [List.append_nil] at this
theorem rowsOb_set0 {v u : Value} {vs : List Value} {L : List (List Int)} {i : Nat} {l : List Int} (h : vs.length = L.length) (hi : i < L.length) :
    (rowsOb v vs L).set (i + 1) (.row 3 1 u l.length (l.map (Value.int .i64))) = .row 29 1 v vs.length (vs.map cSl) :: (inner (vs.set i u) (L.set i l)).map Row.ob := by
  have := rowsOb_set (v := v) (u := u) (l := l) [] h hi
  rwa [List.append_nil, List.append_nil] at this
/-- A row that was just made is put behind the others. -/
theorem rows_push {W : List Nat} {w0 w : World} {v u : Value} {vs : List Value} {L : List (List Int)} {l : List Int} {n : Nat} (h : vs.length = L.length) (hn : n = l.length)
    (H : Hp W w0 w (.row 3 1 u n (l.map (Value.int .i64)) :: .row 29 1 v (vs.length + 1) (vs.map cSl ++ [cSl u]) :: (inner vs L).map Row.ob)) : Hp W w0 w (rowsOb v (vs ++ [u]) (L ++ [l])) := by
  subst hn
  refine H.perm ?_
  have e : (inner (vs ++ [u]) (L ++ [l])).map Row.ob = (inner vs L).map Row.ob ++ [(rowI u l).ob] := by rw [inner_snoc h, List.map_append]; rfl
  rw [rowsOb, e, List.length_append, List.length_singleton, List.map_append, List.map_singleton]
  exact (List.Perm.swap _ _ _).trans (List.Perm.cons _ (List.perm_append_singleton _ _).symm)
theorem inner_shape {W : List Nat} {w0 w : World} {o : Ob} {vs : List Value} {L : List (List Int)} {i : Nat} {v : Value} {l : List Int} (H : Hp W w0 w (o :: (inner vs L).map Row.ob)) (hv : vs[i]? = some v) (hl : L[i]? = some l) : ∃ (B : Option Addr) (d : Nat), v = .slice B l.length d := by
  have h1 : w.ownsRow 0 3 1 v l.length (l.map (Value.int .i64)) := H.row (i + 1) (by rw [List.getElem?_cons_succ, List.getElem?_map, inner_at hv hl]; rfl)
  exact own_shape h1
/-- A part of a slice. -/
theorem Rd.cut {α : Type} {w : World} {b o n f t : Nat} {g : α → Value} {l : List α} (h : Rd w (some ⟨b, o, none⟩) n 1 (l.map g)) (hf : f ≤ t) (ht : t ≤ n) : Rd w (some ⟨b, o + f, none⟩) (t - f) 1 (((l.take t).drop f).map g) := by
  have hl := h.len1
  refine ⟨by rw [List.length_map, List.length_drop, List.length_take]; omega, fun h0 => ⟨b, o + f, rfl, fun j u hu => ?_⟩⟩
  obtain ⟨b', o', e, hc⟩ := h.2 (by omega)
  injection e with e
  injection e with e1 e2
  subst e1 e2
  rw [Nat.add_assoc]
  refine hc (f + j) u ?_
  rw [List.map_drop, List.getElem?_drop, List.map_take, List.getElem?_take] at hu
  split at hu
  · exact hu
  · cases hu

/-- The slice (A, n) reads as rows. -/
def RdR (w : World) (A : Option Addr) (n : Nat) (L : List (List Int)) : Prop :=
  ∃ vs : List Value, vs.length = n ∧ L.length = n ∧ Rd w A n 1 (vs.map cSl) ∧ ∀ (i : Nat) (v : Value) (l : List Int), vs[i]? = some v → L[i]? = some l → ∃ (B : Option Addr) (m d : Nat), v = .slice B m d ∧ Rd w B m 1 (l.map (Value.int .i64))
theorem RdR.fr {w w' : World} {A : Option Addr} {n : Nat} {L : List (List Int)} (h : RdR w A n L) (f : Fr w w') : RdR w' A n L := by
  obtain ⟨vs, h1, h2, h3, h4⟩ := h
  refine ⟨vs, h1, h2, h3.fr f, fun i v l hv hl => ?_⟩
  obtain ⟨B, m, d, e, hr⟩ := h4 i v l hv hl
  exact ⟨B, m, d, e, hr.fr f⟩
theorem RdR.len {w : World} {A : Option Addr} {n : Nat} {L : List (List Int)} (h : RdR w A n L) : L.length = n := by obtain ⟨_, _, h, _⟩ := h; exact h
/-- an inner row -/
theorem RdR.at_ {w : World} {A : Option Addr} {n i : Nat} {L : List (List Int)} {l : List Int} (h : RdR w A n L) (hl : L[i]? = some l) : ∃ (b o : Nat) (B : Option Addr) (d : Nat), A = some ⟨b, o, none⟩ ∧ w.cell? ⟨b, o + i, none⟩ = some (.slice B l.length d) ∧ Rd w B l.length 1 (l.map (Value.int .i64)) := by
  obtain ⟨vs, h1, h2, h3, h4⟩ := h
  have hi := (List.getElem?_eq_some_iff.1 hl).1
  obtain ⟨v, hv⟩ := some_at (l := vs) rfl (show i < vs.length by omega)
  obtain ⟨B, m, d, rfl, hr⟩ := h4 i v l hv hl
  obtain ⟨b, o, hA, hc⟩ := h3.get1 hv
  have hm := hr.len1
  subst hm
  exact ⟨b, o, B, d, hA, hc, hr⟩
theorem RdR.first {w : World} {A : Option Addr} {n m : Nat} {L : List (List Int)} (h : RdR w A n L) (hm : m ≤ n) : RdR w A m (L.take m) := by
  obtain ⟨vs, h1, h2, h3, h4⟩ := h
  refine ⟨vs.take m, by rw [List.length_take]; omega, by rw [List.length_take]; omega, ⟨by rw [List.map_take, List.length_take, List.length_map]; omega, fun h0 => ?_⟩, fun i v l hv hl => ?_⟩
  · obtain ⟨b, o, hA, hc⟩ := h3.2 (by omega)
    refine ⟨b, o, hA, fun j u hu => hc j u ?_⟩
    rw [List.map_take, List.getElem?_take] at hu
    split at hu
    · exact hu
    · cases hu
  · rw [List.getElem?_take] at hv hl
    split at hv
    · rename_i hh
      rw [if_pos hh] at hl
      exact h4 i v l hv hl
    · cases hv

/-- Rows of rows in memory of the call's own, as one thing. -/
def manyR (v : Value) (vs : List Value) (L : List (List Int)) : Ob := .many (rowO v vs :: inner vs L)
theorem many_rd {w : World} {A : Option Addr} {n c : Nat} {vs : List Value} {L : List (List Int)} (h : Ob.ok w (manyR (.slice A n c) vs L)) (hn : vs.length = n) (hl : vs.length = L.length) : RdR w A n L := by
  subst hn
  refine ⟨vs, rfl, hl.symm, Rd.of_own (h.1 (rowO _ vs) List.mem_cons_self), fun i v l hv hl => ?_⟩
  have h1 : w.ownsRow 0 3 1 v l.length (l.map (Value.int .i64)) := h.1 (rowI v l) (List.mem_cons_of_mem _ (List.mem_of_getElem? (inner_at hv hl)))
  obtain ⟨B, d, rfl⟩ := own_shape h1
  exact ⟨B, _, d, rfl, Rd.of_own h1⟩
section
variable {W : List Nat} {w0 w w' : World} {l : List Ob}
theorem Hp.rdR {A : Option Addr} {n c : Nat} {vs : List Value} {L : List (List Int)} (h : Hp W w0 w l) (i : Nat) (hi : l[i]? = some (manyR (.slice A n c) vs L)) (hn : vs.length = n) (hl : vs.length = L.length) : RdR w A n L :=
  many_rd (h.ok _ (List.mem_of_getElem? hi)) hn hl
end
theorem Hp.row_of_many {W : List Nat} {w0 w : World} {l : List Ob} {v : Value} {vs : List Value} {L : List (List Int)} (h : Hp W w0 w l) (hi : manyR v vs L ∈ l) : w.ownsRow 0 29 1 v vs.length (vs.map cSl) :=
  (h.ok _ hi).1 (rowO v vs) List.mem_cons_self
/-- The answer is rows of rows in memory of the call's own. -/
def MadeR (w : World) (L : List (List Int)) (e : Ending) (w' : World) : Prop :=
  ∃ (A : Option Addr) (c : Nat) (vs : List Value), e = .returned (.slice A L.length c) ∧ vs.length = L.length ∧ Hp [] w w' [manyR (.slice A L.length c) vs L]
end Go.Proofs.YtfmifaneggenoaaDoor
