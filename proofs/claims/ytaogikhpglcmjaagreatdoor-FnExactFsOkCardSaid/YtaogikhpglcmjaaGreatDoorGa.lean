/-
  Many texts in one: Kit, MRangesOk, Within, L1In, MKn.
-/
import Derived.Test.YtaogikhpglcmjaaGreatDoorRows
import Derived.WalkKit
import Derived.WalkSpells
import Derived.WalkLawsBesides
import Derived.Lib.Hide
import Derived.Maps.AppendAt
import Derived.Deep.AppendLies
import Derived.Deep.Draws
import Derived.RegionTactic
import Derived.OwnWalk
import Derived.Deep.QuietTactic
import Derived.BigQuiet
namespace Go.Proofs.YtaogikhpglcmjaaGreatDoor
open Go.RowKit

/-- All blocks of w are in w' as they were. -/
abbrev Fr (w w' : World) : Prop := Below w.heap.size w w'

theorem Fr.then {a b c : World} (h : Fr a b) (k : Fr b c) : Fr a c := Below.trans h (Below.mono k h.size)
theorem Fr.drewN_ (w : World) (n : Nat) : Fr w (w.drewN n) := ⟨rfl, rfl, rfl, Nat.le_refl _, fun _ _ => rfl⟩
theorem Fr.drew_ (w : World) : Fr w w.drew := Fr.drewN_ w 1
theorem Fr.of_grown {w w' : World} (h : w.grownBy w' none) : Fr w w' := ⟨h.os, h.tape, h.output, h.size, fun k hk => h.block k hk (by simp)⟩
theorem Fr.grown {w w' : World} (h : Fr w w') (row : Option Nat) : w.grownBy w' row := ⟨h.os, h.tape, h.output, h.size, fun k hk _ => h.block k hk⟩

/-- w' is w after some draws. -/
def Dr (w w' : World) : Prop := ∃ j, w' = w.drewN j
theorem Dr.refl (w : World) : Dr w w := ⟨0, rfl⟩
theorem Dr.on {w w' : World} (h : Dr w w') (n : Nat) : Dr w (w'.drewN n) := by
  obtain ⟨j, rfl⟩ := h
  exact ⟨j + n, by rw [World.drewN_drewN]⟩
theorem Dr.then {a b c : World} (h : Dr a b) (k : Dr b c) : Dr a c := by
  obtain ⟨j, rfl⟩ := k
  exact h.on j
theorem Dr.fr {w w' : World} (h : Dr w w') : Fr w w' := by
  obtain ⟨j, rfl⟩ := h
  exact Fr.drewN_ _ _
theorem Fr.on {w w' : World} (h : Fr w w') (n : Nat) : Fr w (w'.drewN n) := h.then (Fr.drewN_ _ _)
theorem Fr.al {w w' : World} (h : Fr w w') (o : Obj) : Fr w (w'.alloc o) := h.then ((Below.refl _ _).alloc (Nat.le_refl _) _)

/-- The slice (A, n) reads as the cells xs, k cells an element. -/
def Rd (w : World) (A : Option Addr) (n k : Nat) (xs : List Value) : Prop :=
  xs.length = n * k ∧ (0 < n → ∃ b o, A = some ⟨b, o, none⟩ ∧ ∀ j u, xs[j]? = some u → w.cell? ⟨b, o + j, none⟩ = some u)

section
variable {w w' : World} {A : Option Addr} {n k : Nat} {xs : List Value}

theorem Rd.nil_ : Rd w A 0 k [] := ⟨by simp, fun h => absurd h (by omega)⟩

theorem Rd.keep (h : Rd w A n k xs) (hk : ∀ p : Addr, p.block < w.heap.size → (∀ ad, A = some ad → p.block = ad.block) → w'.cell? p = w.cell? p) : Rd w' A n k xs := by
  refine ⟨h.1, fun hn => ?_⟩
  obtain ⟨b, o, rfl, hc⟩ := h.2 hn
  refine ⟨b, o, rfl, fun j u hu => ?_⟩
  have hc' := hc j u hu
  exact (hk _ (World.block_lt_of_cell? w _ hc') (fun a ha => by injection ha with ha; subst ha; rfl)).trans hc'

theorem Rd.fr (h : Rd w A n k xs) (hf : Fr w w') : Rd w' A n k xs := h.keep fun _ hp _ => hf.cell hp
theorem Rd.drew (h : Rd w A n k xs) : Rd w.drew A n k xs := h
theorem Rd.drewN (h : Rd w A n k xs) (m : Nat) : Rd (w.drewN m) A n k xs := h
theorem Rd.alloc (h : Rd w A n k xs) (o : Obj) : Rd (w.alloc o) A n k xs := h.keep fun p hp _ => World.cell?_alloc_lt w o p hp
/-- another row was written -/
theorem Rd.wrote {row : Option Nat} (h : Rd w A n k xs) (hg : w.grownBy w' row) (hr : ∀ ad, A = some ad → some ad.block ≠ row) : Rd w' A n k xs := by
  refine ⟨h.1, fun hn => ?_⟩
  obtain ⟨b, o, rfl, hc⟩ := h.2 hn
  exact ⟨b, o, rfl, fun j u hu => hg.cell (hc j u hu) (hr ⟨b, o, none⟩ rfl)⟩
/-- a cell of it -/
theorem Rd.get {j : Nat} {u : Value} (h : Rd w A n k xs) (hu : xs[j]? = some u) : ∃ b o, A = some ⟨b, o, none⟩ ∧ w.cell? ⟨b, o + j, none⟩ = some u := by
  have hj : j < xs.length := (List.getElem?_eq_some_iff.1 hu).1
  have hn : 0 < n := by
    rcases Nat.eq_zero_or_pos n with h0 | h0
    · have := h.1; rw [h0, Nat.zero_mul] at this; omega
    · exact h0
  obtain ⟨b, o, e, hc⟩ := h.2 hn
  exact ⟨b, o, e, hc j u hu⟩
/-- an element of one cell, of a list of data -/
theorem Rd.get1 {α : Type} {f : α → Value} {l : List α} {j : Nat} {x : α} (h : Rd w A n 1 (l.map f)) (hx : l[j]? = some x) : ∃ b o, A = some ⟨b, o, none⟩ ∧ w.cell? ⟨b, o + j, none⟩ = some (f x) :=
  h.get (by simp [hx])
theorem Rd.len1 {α : Type} {f : α → Value} {l : List α} (h : Rd w A n 1 (l.map f)) : l.length = n := by simpa using h.1

theorem Rd.of_own {base : Nat} {e : TypeId} {c : Nat} (h : w.ownsRow base e k (.slice A n c) n xs) : Rd w A n k xs := by
  refine ⟨h.1, fun hn => ?_⟩
  rcases h.2 with ⟨_, h0⟩ | ⟨g, cap, cur, hv, _⟩
  · omega
  · have hA : A = some ⟨g, 0, none⟩ := by injection hv
    subst hA
    refine ⟨g, 0, rfl, fun j u hu => ?_⟩
    have := h.cells (g := g) rfl j u hu
    rwa [Addr.add_lit] at this
end

/-- A row of the call's own is kept while other blocks are made or written. -/
theorem own_fr {w w' : World} {base : Nat} {e : TypeId} {k n : Nat} {v : Value} {xs : List Value} (h : w.ownsRow base e k v n xs) (hf : Fr w w') : w'.ownsRow base e k v n xs :=
  h.kept (hf.grown none) (by cases hv : v.ownBlock <;> simp)

/-- The answer is a slice of n elements in memory of the call's own; all that was there is as it was. -/
def Made (w : World) (E : TypeId) (k n : Nat) (xs : List Value) (e : Ending) (w' : World) : Prop :=
  ∃ A c, e = .returned (.slice A n c) ∧ w'.ownsRow w.heap.size E k (.slice A n c) n xs ∧ Fr w w'
theorem own_shape {w : World} {base : Nat} {e : TypeId} {k n : Nat} {v : Value} {xs : List Value} (h : w.ownsRow base e k v n xs) : ∃ A c, v = .slice A n c := by
  rcases h.2 with ⟨rfl, rfl⟩ | ⟨g, cap, cur, rfl, _⟩
  · exact ⟨none, 0, rfl⟩
  · exact ⟨_, _, rfl⟩
/-- The cells of a block that has just been laid. -/
theorem news_at (w : World) (cs : Array Value) (t : TypeId) : ∀ j u, cs.toList[j]? = some u → (w.alloc (.cells cs t)).cell? ((⟨w.heap.size, 0, none⟩ : Addr).add j) = some u := by
  intro j u h
  rw [Addr.add_lit, Nat.zero_add, World.cell?_alloc_new]
  simpa using h

theorem news_at_ (w : World) (cs : Array Value) (t : TypeId) {g : Nat} (hg : g = w.heap.size) : ∀ j u, cs.toList[j]? = some u → (w.alloc (.cells cs t)).cell? ((⟨g, 0, none⟩ : Addr).add j) = some u := by subst hg; exact news_at w cs t

theorem Fr.wrote {w wi wj : World} {b : Nat} {e : TypeId} {k n : Nat} {v : Value} {xs : List Value} (h : Fr w wi) (hg : wi.grownBy wj v.ownBlock) (ho : wi.ownsRow b e k v n xs) (hb : w.heap.size ≤ b) : Fr w wj :=
  Below.grown h hg h.size (fun g hg' => Nat.le_trans hb (ho.lt g hg').1)
theorem own_base {w : World} {b b' : Nat} {e : TypeId} {k n : Nat} {v : Value} {xs : List Value} (h : w.ownsRow b e k v n xs) (hb : b' ≤ b) : w.ownsRow b' e k v n xs := by
  refine ⟨h.1, ?_⟩
  rcases h.2 with h2 | ⟨g, cap, cur, hv, hg, r⟩
  · exact .inl h2
  · exact .inr ⟨g, cap, cur, hv, Nat.le_trans hb hg, r⟩
/-- v was there in wa already; the row written was made later. -/
theorem own_kept_before {w w' wa : World} {b b2 : Nat} {e e2 : TypeId} {k k2 n n2 : Nat} {v v2 : Value} {xs xs' ys : List Value} (h : w.ownsRow b e k v n xs) (hg : w.grownBy w' v2.ownBlock)
    (ha : wa.ownsRow b e k v n xs') (hb : wa.heap.size ≤ b2) (h2 : w.ownsRow b2 e2 k2 v2 n2 ys) : w'.ownsRow b e k v n xs := by
  refine h.kept hg ?_
  cases hv : v.ownBlock with
  | none => exact .inl rfl
  | some g =>
    refine .inr fun hne => ?_
    have h3 := (ha.lt g hv).2
    have h4 := (h2.lt g hne.symm).1
    omega
/-- The row written was there in wa already; v was made later. -/
theorem own_kept_after {w w' wa : World} {b b2 : Nat} {e e2 : TypeId} {k k2 n n2 : Nat} {v v2 : Value} {xs ys : List Value} (h : w.ownsRow b e k v n xs) (hg : w.grownBy w' v2.ownBlock)
    (ha : wa.ownsRow b2 e2 k2 v2 n2 ys) (hb : wa.heap.size ≤ b) : w'.ownsRow b e k v n xs := by
  refine h.kept hg ?_
  cases hv : v.ownBlock with
  | none => exact .inl rfl
  | some g =>
    refine .inr fun hne => ?_
    have h3 := (ha.lt g hne.symm).2
    have h4 := (h.lt g hv).1
    omega

theorem own_kept_type {w w' : World} {b b2 : Nat} {e e2 : TypeId} {k k2 n n2 : Nat} {v v2 : Value} {xs ys : List Value} (h : w.ownsRow b e k v n xs) (hg : w.grownBy w' v2.ownBlock)
    (h2 : w.ownsRow b2 e2 k2 v2 n2 ys) (hne : e ≠ e2) : w'.ownsRow b e k v n xs := by
  refine h.kept hg ?_
  rcases h.2 with ⟨rfl, _⟩ | ⟨g, cap, cur, rfl, _, hh, _⟩
  · exact .inl rfl
  · rcases h2.2 with ⟨rfl, _⟩ | ⟨g2, cap2, cur2, rfl, _, hh2, _⟩
    · exact .inr (by simp [Value.ownBlock])
    · refine .inr fun he => ?_
      simp only [Value.ownBlock, Option.some.injEq] at he
      subst he
      rw [hh] at hh2
      injection hh2 with hh2
      injection hh2 with _ ht
      exact hne ht
/-- How many letters a list of texts has; and its places besides. -/
def sizes (l : List ByteArray) : Nat := (l.map (·.size)).sum
def strTot (l : List ByteArray) : Nat := l.length + sizes l
theorem strTot_len (l : List ByteArray) : l.length ≤ strTot l := by unfold strTot; omega
theorem sizes_mem {s : ByteArray} : ∀ {l : List ByteArray}, s ∈ l → s.size ≤ sizes l
  | [], h => by simp at h
  | x :: l, h => by
    simp only [sizes, List.map_cons, List.sum_cons]
    rcases List.mem_cons.1 h with rfl | h
    · omega
    · have := sizes_mem h; simp only [sizes] at this; omega
theorem strTot_mem {l : List ByteArray} {s : ByteArray} (h : s ∈ l) : s.size ≤ strTot l := by have := sizes_mem h; unfold strTot; omega
theorem sizes_step {l : List ByteArray} {k : Nat} {s : ByteArray} (h : l[k]? = some s) : sizes (l.take (k + 1)) = sizes (l.take k) + s.size := by
  rw [List.take_add_one, h]; simp [sizes]
theorem sizes_le (l : List ByteArray) (k : Nat) : sizes (l.take k) ≤ sizes l := by
  have e : sizes l = sizes (l.take k) + sizes (l.drop k) := by
    unfold sizes
    rw [← List.sum_append, ← List.map_append, List.take_append_drop]
  omega
theorem str_ne {x y : ByteArray} (h : x ≠ y) : (x.toList == y.toList) = false := by
  rw [beq_eq_false_iff_ne]
  intro e
  apply h
  have h1 : ∀ z : ByteArray, z.toList = z.data.toList := fun z => by simp [ByteArray.toList_eq]
  rw [h1, h1] at e
  cases x; cases y
  simp_all

/-- What is left of a budget when n things are taken; -1 where it does not suffice. -/
def szOf (left : Int) (n : Nat) : Int := if left < n then -1 else left - n
theorem szOf_no {left : Int} {n : Nat} (h : left < n) : szOf left n = -1 := by simp [szOf, h]
theorem szOf_yes {left : Int} {n : Nat} (h : ¬ left < n) : szOf left n = left - n := by simp [szOf, h]
theorem grown_set {a w : World} {g : Nat} {c n : Nat} {j : Nat} {u : Value} (h : a.grownBy w (Value.slice (some ⟨g, 0, none⟩) n c).ownBlock) : a.grownBy (w.setCell ⟨g, j, none⟩ u) (Value.slice (some ⟨g, 0, none⟩) n c).ownBlock :=
  ⟨h.os, h.tape, h.output, by simpa [World.setCell] using h.size, fun i hi hne => (Below.heap_setCell w ⟨g, j, none⟩ u i (by
    rintro rfl
    exact hne rfl)).trans (h.block i hi hne)⟩
theorem ret_bool {a b : Bool} (h : a = b) : Ending.returned (.bool a) = .returned (.bool b) := by rw [h]
theorem ret_int {a b : Int} (h : a = b) : Ending.returned (.int .i64 a) = .returned (.int .i64 b) := by rw [h]
theorem some_at {α : Type} {l : List α} {n k : Nat} (hl : l.length = n) (h : k < n) : ∃ x, l[k]? = some x := ⟨l[k]'(by omega), List.getElem?_eq_getElem (by omega)⟩

theorem take_eq_step {α : Type} {bs cs : List α} {k : Nat} {x : α} (h : bs.take k = cs.take k) (hb : bs[k]? = some x) (hc : cs[k]? = some x) : bs.take (k + 1) = cs.take (k + 1) := by
  rw [List.take_add_one, List.take_add_one, h, hb, hc]
theorem take_eq_all {α : Type} {bs cs : List α} {n : Nat} (h : bs.take n = cs.take n) (hb : bs.length = n) (hc : cs.length = n) : bs = cs := by
  rwa [List.take_of_length_le (by omega), List.take_of_length_le (by omega)] at h
theorem ne_of_at {α : Type} {bs cs : List α} {k : Nat} {x y : α} (hb : bs[k]? = some x) (hc : cs[k]? = some y) (h : x ≠ y) : bs ≠ cs := by
  rintro rfl
  rw [hb] at hc
  injection hc with hc
  exact h hc

theorem flat_len {α : Type} {f : α → List Value} {k : Nat} (hk : ∀ x, (f x).length = k) : ∀ l : List α, (l.flatMap f).length = l.length * k
  | [] => by simp
  | y :: l => by rw [List.flatMap_cons, List.length_append, flat_len hk l, hk, List.length_cons, Nat.add_mul]; omega
/-- Where a cell of a list of elements of k cells each stands. -/
theorem flat_get {α : Type} {f : α → List Value} {k : Nat} (hk : ∀ x, (f x).length = k) : ∀ {l : List α} {i j : Nat} {x : α} {u : Value}, l[i]? = some x → (f x)[j]? = some u → (l.flatMap f)[i * k + j]? = some u
  | [], i, j, x, u, h, _ => by simp at h
  | y :: l, 0, j, x, u, h, hu => by
    simp at h
    subst h
    rw [List.flatMap_cons, Nat.zero_mul, Nat.zero_add, List.getElem?_append_left (List.getElem?_eq_some_iff.1 hu).1]
    exact hu
  | y :: l, i + 1, j, x, u, h, hu => by
    rw [List.flatMap_cons, List.getElem?_append_right (by rw [hk, Nat.add_mul]; omega), hk, show (i + 1) * k + j - k = i * k + j from by rw [Nat.add_mul]; omega]
    exact flat_get hk (by simpa using h) hu
theorem flat_at {α : Type} {f : α → List Value} {k : Nat} (hk : ∀ x, (f x).length = k) : ∀ {l : List α} {j : Nat} {u : Value}, (l.flatMap f)[j]? = some u → ∃ i r x, j = i * k + r ∧ r < k ∧ l[i]? = some x ∧ (f x)[r]? = some u
  | [], j, u, h => by simp at h
  | y :: l, j, u, h => by
    by_cases hj : j < k
    · rw [List.flatMap_cons, List.getElem?_append_left (by rw [hk]; exact hj)] at h
      exact ⟨0, j, y, by omega, hj, rfl, h⟩
    · rw [List.flatMap_cons, List.getElem?_append_right (by rw [hk]; omega), hk] at h
      obtain ⟨i, r, x, h1, h2, h3, h4⟩ := flat_at hk h
      exact ⟨i + 1, r, x, by rw [Nat.add_mul]; omega, h2, by simpa using h3, h4⟩

theorem own_form {w : World} {base : Nat} {e : TypeId} {k n c : Nat} {A : Option Addr} {xs : List Value} (h : w.ownsRow base e k (.slice A n c) n xs) (hn : 0 < n) : ∃ g, A = some ⟨g, 0, none⟩ ∧ base ≤ g ∧ g < w.heap.size := by
  rcases h.2 with ⟨_, h0⟩ | ⟨g, cap, cur, hv, hb, hh, _⟩
  · omega
  · injection hv with hA
    refine ⟨g, hA, hb, ?_⟩
    exact (Array.getElem?_eq_some_iff.1 hh).1

/-- us written over xs from place p on. -/
def sets : List Value → Nat → List Value → List Value
  | xs, _, [] => xs
  | xs, p, u :: us => sets (xs.set p u) (p + 1) us
theorem sets_mid : ∀ (us pre old rest : List Value), old.length = us.length → sets (pre ++ old ++ rest) pre.length us = pre ++ us ++ rest
  | [], pre, old, rest, h => by
    have : old = [] := List.eq_nil_of_length_eq_zero (by simpa using h)
    subst this
    simp [sets]
  | u :: us, pre, [], rest, h => by simp at h
  | u :: us, pre, o :: old, rest, h => by
    have e : (pre ++ o :: old ++ rest).set pre.length u = (pre ++ [u]) ++ old ++ rest := by simp
    have e2 : pre.length + 1 = (pre ++ [u]).length := by simp
    simp only [sets]
    rw [e, e2, sets_mid us (pre ++ [u]) old rest (by simpa using h)]
    simp
/-- The next element written into a row whose first k elements stand. -/
theorem sets_elem {α : Type} {f : α → List Value} {K k n : Nat} {l : List α} {x : α} {zs : List Value} (hK : ∀ x, (f x).length = K) (hx : l[k]? = some x) (hz : zs.length = n * K) (hk : k < n) :
    sets ((l.take k).flatMap f ++ zs.drop (k * K)) (k * K) (f x) = (l.take (k + 1)).flatMap f ++ zs.drop ((k + 1) * K) := by
  have hkl : k < l.length := (List.getElem?_eq_some_iff.1 hx).1
  have hl : ((l.take k).flatMap f).length = k * K := by rw [flat_len hK, List.length_take]; congr 1; omega
  have hnk : (k + 1) * K ≤ n * K := Nat.mul_le_mul_right _ hk
  have hd : zs.drop (k * K) = (zs.drop (k * K)).take K ++ zs.drop ((k + 1) * K) := by
    rw [Nat.add_mul, Nat.one_mul, ← List.drop_drop, List.take_append_drop]
  have ho : ((zs.drop (k * K)).take K).length = (f x).length := by
    rw [List.length_take, List.length_drop, hz, hK]
    rw [Nat.add_mul] at hnk
    omega
  have hs := sets_mid (f x) ((l.take k).flatMap f) ((zs.drop (k * K)).take K) (zs.drop ((k + 1) * K)) ho
  rw [hl] at hs
  rw [hd, ← List.append_assoc, hs, List.take_add_one, hx]
  simp

/-- All cells of one element. -/
theorem Rd.elem {α : Type} {w : World} {A : Option Addr} {n k i : Nat} {f : α → List Value} {l : List α} {x : α} (hk : ∀ x, (f x).length = k) (h : Rd w A n k (l.flatMap f)) (hx : l[i]? = some x) (hk0 : 0 < k) :
    ∃ b o, A = some ⟨b, o, none⟩ ∧ ∀ j u, (f x)[j]? = some u → w.cell? ⟨b, o + i * k + j, none⟩ = some u := by
  obtain ⟨b, o, hA, _⟩ := h.get (flat_get (j := 0) hk hx (List.getElem?_eq_getElem (by rw [hk]; exact hk0)))
  refine ⟨b, o, hA, fun j u hu => ?_⟩
  obtain ⟨b', o', hA', hc⟩ := h.get (flat_get hk hx hu)
  rw [hA] at hA'
  injection hA' with e
  injection e with e1 e2
  subst e1 e2
  rw [Nat.add_assoc]
  exact hc
theorem Rd.lenk {α : Type} {w : World} {A : Option Addr} {n k : Nat} {f : α → List Value} {l : List α} (hk : ∀ x, (f x).length = k) (hk0 : 0 < k) (h : Rd w A n k (l.flatMap f)) : l.length = n := by
  have := h.1
  rw [flat_len hk] at this
  exact Nat.eq_of_mul_eq_mul_right hk0 this

/-- One round of a loop that copies element k into a row that the call made. -/
theorem fill_step (xs : List Value) (d u : Value) (k n : Nat) (hx : xs.length = n) (hu : xs[k]? = some u) :
    (xs.take k ++ List.replicate (n - k) d).set k u = xs.take (k + 1) ++ List.replicate (n - (k + 1)) d := by
  have hk : k < n := by rw [← hx]; exact (List.getElem?_eq_some_iff.1 hu).1
  have hl : (xs.take k).length = k := by rw [List.length_take]; omega
  rw [List.set_append, if_neg (by omega), hl, Nat.sub_self, List.take_add_one, hu, show n - k = (n - (k + 1)) + 1 from by omega, List.replicate_succ]
  simp

theorem own_nil (w : World) (b : Nat) (e : TypeId) (k : Nat) : w.ownsRow b e k (.slice none 0 0) 0 [] := ⟨by simp, .inl ⟨rfl, rfl⟩⟩

/-- A block that is known whole. -/
def Bk (w : World) (g : Nat) (t : TypeId) (cs : List Value) : Prop := w.heap[g]? = some (.cells cs.toArray t (0, 0))
section
variable {w w' : World} {g : Nat} {t : TypeId} {cs : List Value}
theorem Bk.lt (h : Bk w g t cs) : g < w.heap.size := (Array.getElem?_eq_some_iff.1 h).1
theorem Bk.cell (h : Bk w g t cs) (j : Nat) : w.cell? ⟨g, j, none⟩ = cs[j]? := by
  rw [cell_of_row w g j _ t (0, 0) h]; simp
theorem Bk.free (h : Bk w g t cs) (j : Nat) : w.frozen? ⟨g, j, none⟩ = false := by
  unfold Bk at h
  simp [World.frozen?, h]
theorem Bk.new (w : World) (t : TypeId) (cs : List Value) : Bk (w.alloc (.cells cs.toArray t)) w.heap.size t cs := heap_alloc_new w _
theorem Bk.new_ (w : World) (t : TypeId) (cs : List Value) {g : Nat} (hg : g = w.heap.size) : Bk (w.alloc (.cells cs.toArray t)) g t cs := by subst hg; exact heap_alloc_new w _
theorem Bk.at_ {j : Nat} {u : Value} (h : Bk w g t cs) (hu : cs[j]? = some u) : w.cell? ⟨g, j, none⟩ = some u := by rw [h.cell, hu]
theorem Bk.fr (h : Bk w g t cs) (hf : Fr w w') : Bk w' g t cs := (hf.block g h.lt).trans h
theorem Bk.al (h : Bk w g t cs) (o : Obj) : Bk (w.alloc o) g t cs := h.fr (Fr.al (Below.refl _ _) o)
theorem Bk.put (h : Bk w g t cs) (j : Nat) (u : Value) : Bk (w.setCell ⟨g, j, none⟩ u) g t (cs.set j u) := by
  unfold Bk at h ⊢
  simp [World.setCell, Array.getElem?_modify, h]
theorem Bk.wrote {b2 : Nat} {e2 : TypeId} {k2 n2 : Nat} {v2 : Value} {ys : List Value} (h : Bk w g t cs) (hg : w.grownBy w' v2.ownBlock) (h2 : w.ownsRow b2 e2 k2 v2 n2 ys) (hne : t ≠ e2) : Bk w' g t cs := by
  refine (hg.block g h.lt fun he => ?_).trans h
  rcases h2.2 with ⟨rfl, _⟩ | ⟨g2, cap2, cur2, rfl, _, hh2, _⟩
  · simp [Value.ownBlock] at he
  · simp only [Value.ownBlock, Option.some.injEq] at he
    subst he
    unfold Bk at h
    rw [h] at hh2
    injection hh2 with hh2
    injection hh2 with _ ht
    exact hne ht
theorem Bk.grown {row : Option Nat} (h : Bk w g t cs) (hg : w.grownBy w' row) (hne : some g ≠ row) : Bk w' g t cs := (hg.block g h.lt hne).trans h
theorem Bk.far (h : Bk w g t cs) {b : Nat} (hb : g ≠ b) (j : Nat) (u : Value) : Bk (w.setCell ⟨b, j, none⟩ u) g t cs := (Below.heap_setCell w ⟨b, j, none⟩ u g hb).trans h
end

end Go.Proofs.YtaogikhpglcmjaaGreatDoor

namespace Go.Proofs.YtaogikhpglcmjaaGreatDoor
def inB (x lo hi : Int) : Bool := decide (lo ≤ x) && decide (x ≤ hi)
theorem inB_iff {x lo hi : Int} : inB x lo hi = true ↔ lo ≤ x ∧ x ≤ hi := by simp [inB]
end Go.Proofs.YtaogikhpglcmjaaGreatDoor

namespace Go.Proofs.YtaogikhpglcmjaaGreatDoor
open Go.RowKit

theorem within_any (x lo hi : Int) (w : World) :
    Calls Tryz.prog 45 #[.int .i64 x, .int .i64 lo, .int .i64 hi] w fun e w' => e = .returned (.bool (inB x lo hi)) ∧ w' = w := by
  go_enter Tryz.func45, Tryz.ntmps45
  go_wp2
  all_goals go_ret
  · exact ⟨by simp [inB, *], rfl⟩
  · exact ⟨by simp [inB]; omega, rfl⟩

end Go.Proofs.YtaogikhpglcmjaaGreatDoor

namespace Go.Proofs.YtaogikhpglcmjaaGreatDoor
open Go.RowKit

theorem l1In_any (x lo hi : Int) (w : World) :
    Calls Tryz.prog 36 #[.int .i64 x, .int .i64 lo, .int .i64 hi] w fun e w' => e = .returned (.bool (inB x lo hi)) ∧ w' = w := by
  go_enter Tryz.func36, Tryz.ntmps36
  go_wp2
  all_goals go_ret
  · exact ⟨by simp [inB, *], rfl⟩
  · exact ⟨by simp [inB]; omega, rfl⟩

end Go.Proofs.YtaogikhpglcmjaaGreatDoor

namespace Go.Proofs.YtaogikhpglcmjaaGreatDoor

def knTbl : List (Int × Int) := [(32, 126), (161, 255), (768, 772), (776, 776), (778, 778), (803, 803), (807, 807), (902, 902), (904, 906), (908, 908), (910, 911), (913, 929), (931, 937), (940, 943), (945, 969), (972, 974), (1040, 1103), (469, 470), (7840, 7841), (7852, 7853), (8486, 8486), (8491, 8491), (4352, 4370), (4449, 4469), (4520, 4546), (44032, 55203)]
def knFrom : List Int := [32, 161, 768, 776, 778, 803, 807, 902, 904, 908, 910, 913, 931, 940, 945, 972, 1040, 469, 7840, 7852, 8486, 8491, 4352, 4449, 4520, 44032]
def knTo : List Int := [126, 255, 772, 776, 778, 803, 807, 902, 906, 908, 911, 929, 937, 943, 969, 974, 1103, 470, 7841, 7853, 8486, 8491, 4370, 4469, 4546, 55203]
def kpPairs : List (Int × Int) := [(32, 46), (48, 126), (161, 255), (469, 470), (768, 772), (776, 776), (778, 778), (803, 803), (807, 807), (902, 902), (904, 906), (908, 908), (910, 911), (913, 929), (931, 937), (940, 943), (945, 969), (972, 974), (1040, 1103), (4352, 4370), (4449, 4469), (4520, 4546), (7840, 7841), (7852, 7853), (8486, 8486), (8491, 8491), (44032, 55203)]
theorem knFrom_eq : knFrom = knTbl.map Prod.fst := rfl
theorem knTo_eq : knTo = knTbl.map Prod.snd := rfl
theorem knTbl_len : knTbl.length = 26 := rfl
theorem kpPairs_len : kpPairs.length = 27 := rfl
def knownS (c : Int) : Bool := knTbl.any (fun p => inB c p.1 p.2) && decide (c ≠ 47)
theorem pairs_known (c : Int) : kpPairs.any (fun p => inB c p.1 p.2) = knownS c := by
  rw [Bool.eq_iff_iff]
  simp only [kpPairs, knownS, knTbl, List.any_cons, List.any_nil, Bool.or_eq_true, Bool.and_eq_true, inB_iff, decide_eq_true_eq, Bool.or_false]
  omega
def cPair (p : Int × Int) : List Value := [.int .i64 p.1, .int .i64 p.2]
def kpTab : List Int := kpPairs.flatMap fun p => [p.1, p.2]
end Go.Proofs.YtaogikhpglcmjaaGreatDoor
