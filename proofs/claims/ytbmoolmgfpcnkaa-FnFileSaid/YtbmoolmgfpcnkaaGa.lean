/-
  Many texts in one: Kit, Heap, Info, Bytes, MRangesOk, L1In, Within, RangesOk, MExts, ExtsAid, MFlat, Bools, MParts, Parts, Sort, MBlocks, MPut, Tree, Strings, Store, BitsOk, StoreOk, Str.
-/
import Derived.Test.YtbmoolmgfpcnkaaRows
import Derived.WalkKit
import Derived.WalkSpells
import Derived.WalkLawsBesides
import Derived.Lib.Hide
import Derived.Maps.AppendAt
import Derived.Deep.AppendLies
import Derived.Deep.Draws
import Derived.RegionTactic
import Derived.OwnWalk
import Derived.Deep.QuietTactic
import Derived.BigQuiet
import Derived.Laws.AppendOwnNone
import Derived.Laws.IdiomStrings
import Derived.Deep.RegionLaw
import Derived.Deep.RegionHeld
namespace Go.Proofs.Ytbmoolmgfpcnkaa
open Go.RowKit

/-- All blocks of w are in w' as they were. -/
abbrev Fr (w w' : World) : Prop := Below w.heap.size w w'

theorem Fr.then {a b c : World} (h : Fr a b) (k : Fr b c) : Fr a c := Below.trans h (Below.mono k h.size)
theorem Fr.drewN_ (w : World) (n : Nat) : Fr w (w.drewN n) := ⟨rfl, rfl, rfl, Nat.le_refl _, fun _ _ => rfl⟩
theorem Fr.drew_ (w : World) : Fr w w.drew := Fr.drewN_ w 1
theorem Fr.of_grown {w w' : World} (h : w.grownBy w' none) : Fr w w' := ⟨h.os, h.tape, h.output, h.size, fun k hk => h.block k hk (by simp)⟩
theorem Fr.grown {w w' : World} (h : Fr w w') (row : Option Nat) : w.grownBy w' row := ⟨h.os, h.tape, h.output, h.size, fun k hk _ => h.block k hk⟩

/-- w' is w after some draws. -/
def Dr (w w' : World) : Prop := ∃ j, w' = w.drewN j
theorem Dr.refl (w : World) : Dr w w := ⟨0, rfl⟩
theorem Dr.on {w w' : World} (h : Dr w w') (n : Nat) : Dr w (w'.drewN n) := by
  obtain ⟨j, rfl⟩ := h
  exact ⟨j + n, by rw [World.drewN_drewN]⟩
theorem Dr.then {a b c : World} (h : Dr a b) (k : Dr b c) : Dr a c := by
  obtain ⟨j, rfl⟩ := k
  exact h.on j
theorem Dr.fr {w w' : World} (h : Dr w w') : Fr w w' := by
  obtain ⟨j, rfl⟩ := h
  exact Fr.drewN_ _ _
theorem Fr.on {w w' : World} (h : Fr w w') (n : Nat) : Fr w (w'.drewN n) := h.then (Fr.drewN_ _ _)
theorem Fr.al {w w' : World} (h : Fr w w') (o : Obj) : Fr w (w'.alloc o) := h.then ((Below.refl _ _).alloc (Nat.le_refl _) _)

/-- The slice (A, n) reads as the cells xs, k cells an element. -/
def Rd (w : World) (A : Option Addr) (n k : Nat) (xs : List Value) : Prop :=
  xs.length = n * k ∧ (0 < n → ∃ b o, A = some ⟨b, o, none⟩ ∧ ∀ j u, xs[j]? = some u → w.cell? ⟨b, o + j, none⟩ = some u)

section
variable {w w' : World} {A : Option Addr} {n k : Nat} {xs : List Value}

theorem Rd.nil_ : Rd w A 0 k [] := ⟨by simp, fun h => absurd h (by omega)⟩

theorem Rd.keep (h : Rd w A n k xs) (hk : ∀ p : Addr, p.block < w.heap.size → (∀ ad, A = some ad → p.block = ad.block) → w'.cell? p = w.cell? p) : Rd w' A n k xs := by
  refine ⟨h.1, fun hn => ?_⟩
  obtain ⟨b, o, rfl, hc⟩ := h.2 hn
  refine ⟨b, o, rfl, fun j u hu => ?_⟩
  have hc' := hc j u hu
  exact (hk _ (World.block_lt_of_cell? w _ hc') (fun a ha => by injection ha with ha; subst ha; rfl)).trans hc'

theorem Rd.fr (h : Rd w A n k xs) (hf : Fr w w') : Rd w' A n k xs := h.keep fun _ hp _ => hf.cell hp
theorem Rd.drew (h : Rd w A n k xs) : Rd w.drew A n k xs := h
theorem Rd.drewN (h : Rd w A n k xs) (m : Nat) : Rd (w.drewN m) A n k xs := h
theorem Rd.alloc (h : Rd w A n k xs) (o : Obj) : Rd (w.alloc o) A n k xs := h.keep fun p hp _ => World.cell?_alloc_lt w o p hp
/-- another row was written -/
theorem Rd.wrote {row : Option Nat} (h : Rd w A n k xs) (hg : w.grownBy w' row) (hr : ∀ ad, A = some ad → some ad.block ≠ row) : Rd w' A n k xs := by
  refine ⟨h.1, fun hn => ?_⟩
  obtain ⟨b, o, rfl, hc⟩ := h.2 hn
  exact ⟨b, o, rfl, fun j u hu => hg.cell (hc j u hu) (hr ⟨b, o, none⟩ rfl)⟩
/-- a cell of it -/
theorem Rd.get {j : Nat} {u : Value} (h : Rd w A n k xs) (hu : xs[j]? = some u) : ∃ b o, A = some ⟨b, o, none⟩ ∧ w.cell? ⟨b, o + j, none⟩ = some u := by
  have hj : j < xs.length := (List.getElem?_eq_some_iff.1 hu).1
  have hn : 0 < n := by
    rcases Nat.eq_zero_or_pos n with h0 | h0
    · have := h.1; rw [h0, Nat.zero_mul] at this; omega
    · exact h0
  obtain ⟨b, o, e, hc⟩ := h.2 hn
  exact ⟨b, o, e, hc j u hu⟩
/-- an element of one cell, of a list of data -/
theorem Rd.get1 {α : Type} {f : α → Value} {l : List α} {j : Nat} {x : α} (h : Rd w A n 1 (l.map f)) (hx : l[j]? = some x) : ∃ b o, A = some ⟨b, o, none⟩ ∧ w.cell? ⟨b, o + j, none⟩ = some (f x) :=
  h.get (by simp [hx])
theorem Rd.len1 {α : Type} {f : α → Value} {l : List α} (h : Rd w A n 1 (l.map f)) : l.length = n := by simpa using h.1

theorem Rd.of_own {base : Nat} {e : TypeId} {c : Nat} (h : w.ownsRow base e k (.slice A n c) n xs) : Rd w A n k xs := by
  refine ⟨h.1, fun hn => ?_⟩
  rcases h.2 with ⟨_, h0⟩ | ⟨g, cap, cur, hv, _⟩
  · omega
  · have hA : A = some ⟨g, 0, none⟩ := by injection hv
    subst hA
    refine ⟨g, 0, rfl, fun j u hu => ?_⟩
    have := h.cells (g := g) rfl j u hu
    rwa [Addr.add_lit] at this
end

/-- A row of the call's own is kept while other blocks are made or written. -/
theorem own_fr {w w' : World} {base : Nat} {e : TypeId} {k n : Nat} {v : Value} {xs : List Value} (h : w.ownsRow base e k v n xs) (hf : Fr w w') : w'.ownsRow base e k v n xs :=
  h.kept (hf.grown none) (by cases hv : v.ownBlock <;> simp)

/-- The answer is a slice of n elements in memory of the call's own; all that was there is as it was. -/
def Made (w : World) (E : TypeId) (k n : Nat) (xs : List Value) (e : Ending) (w' : World) : Prop :=
  ∃ A c, e = .returned (.slice A n c) ∧ w'.ownsRow w.heap.size E k (.slice A n c) n xs ∧ Fr w w'
theorem own_shape {w : World} {base : Nat} {e : TypeId} {k n : Nat} {v : Value} {xs : List Value} (h : w.ownsRow base e k v n xs) : ∃ A c, v = .slice A n c := by
  rcases h.2 with ⟨rfl, rfl⟩ | ⟨g, cap, cur, rfl, _⟩
  · exact ⟨none, 0, rfl⟩
  · exact ⟨_, _, rfl⟩
/-- The cells of a block that has just been laid. -/
theorem news_at (w : World) (cs : Array Value) (t : TypeId) : ∀ j u, cs.toList[j]? = some u → (w.alloc (.cells cs t)).cell? ((⟨w.heap.size, 0, none⟩ : Addr).add j) = some u := by
  intro j u h
  rw [Addr.add_lit, Nat.zero_add, World.cell?_alloc_new]
  simpa using h

theorem news_at_ (w : World) (cs : Array Value) (t : TypeId) {g : Nat} (hg : g = w.heap.size) : ∀ j u, cs.toList[j]? = some u → (w.alloc (.cells cs t)).cell? ((⟨g, 0, none⟩ : Addr).add j) = some u := by subst hg; exact news_at w cs t

theorem Fr.wrote {w wi wj : World} {b : Nat} {e : TypeId} {k n : Nat} {v : Value} {xs : List Value} (h : Fr w wi) (hg : wi.grownBy wj v.ownBlock) (ho : wi.ownsRow b e k v n xs) (hb : w.heap.size ≤ b) : Fr w wj :=
  Below.grown h hg h.size (fun g hg' => Nat.le_trans hb (ho.lt g hg').1)
theorem own_base {w : World} {b b' : Nat} {e : TypeId} {k n : Nat} {v : Value} {xs : List Value} (h : w.ownsRow b e k v n xs) (hb : b' ≤ b) : w.ownsRow b' e k v n xs := by
  refine ⟨h.1, ?_⟩
  rcases h.2 with h2 | ⟨g, cap, cur, hv, hg, r⟩
  · exact .inl h2
  · exact .inr ⟨g, cap, cur, hv, Nat.le_trans hb hg, r⟩
/-- v was there in wa already; the row written was made later. -/
theorem own_kept_before {w w' wa : World} {b b2 : Nat} {e e2 : TypeId} {k k2 n n2 : Nat} {v v2 : Value} {xs xs' ys : List Value} (h : w.ownsRow b e k v n xs) (hg : w.grownBy w' v2.ownBlock)
    (ha : wa.ownsRow b e k v n xs') (hb : wa.heap.size ≤ b2) (h2 : w.ownsRow b2 e2 k2 v2 n2 ys) : w'.ownsRow b e k v n xs := by
  refine h.kept hg ?_
  cases hv : v.ownBlock with
  | none => exact .inl rfl
  | some g =>
    refine .inr fun hne => ?_
    have h3 := (ha.lt g hv).2
    have h4 := (h2.lt g hne.symm).1
    omega
/-- The row written was there in wa already; v was made later. -/
theorem own_kept_after {w w' wa : World} {b b2 : Nat} {e e2 : TypeId} {k k2 n n2 : Nat} {v v2 : Value} {xs ys : List Value} (h : w.ownsRow b e k v n xs) (hg : w.grownBy w' v2.ownBlock)
    (ha : wa.ownsRow b2 e2 k2 v2 n2 ys) (hb : wa.heap.size ≤ b) : w'.ownsRow b e k v n xs := by
  refine h.kept hg ?_
  cases hv : v.ownBlock with
  | none => exact .inl rfl
  | some g =>
    refine .inr fun hne => ?_
    have h3 := (ha.lt g hne.symm).2
    have h4 := (h.lt g hv).1
    omega

theorem own_kept_type {w w' : World} {b b2 : Nat} {e e2 : TypeId} {k k2 n n2 : Nat} {v v2 : Value} {xs ys : List Value} (h : w.ownsRow b e k v n xs) (hg : w.grownBy w' v2.ownBlock)
    (h2 : w.ownsRow b2 e2 k2 v2 n2 ys) (hne : e ≠ e2) : w'.ownsRow b e k v n xs := by
  refine h.kept hg ?_
  rcases h.2 with ⟨rfl, _⟩ | ⟨g, cap, cur, rfl, _, hh, _⟩
  · exact .inl rfl
  · rcases h2.2 with ⟨rfl, _⟩ | ⟨g2, cap2, cur2, rfl, _, hh2, _⟩
    · exact .inr (by simp [Value.ownBlock])
    · refine .inr fun he => ?_
      simp only [Value.ownBlock, Option.some.injEq] at he
      subst he
      rw [hh] at hh2
      injection hh2 with hh2
      injection hh2 with _ ht
      exact hne ht
/-- How many letters a list of texts has; and its places besides. -/
def sizes (l : List ByteArray) : Nat := (l.map (·.size)).sum
def strTot (l : List ByteArray) : Nat := l.length + sizes l
theorem strTot_len (l : List ByteArray) : l.length ≤ strTot l := by unfold strTot; omega
theorem sizes_mem {s : ByteArray} : ∀ {l : List ByteArray}, s ∈ l → s.size ≤ sizes l
  | [], h => by simp at h
  | x :: l, h => by
    simp only [sizes, List.map_cons, List.sum_cons]
    rcases List.mem_cons.1 h with rfl | h
    · omega
    · have := sizes_mem h; simp only [sizes] at this; omega
theorem strTot_mem {l : List ByteArray} {s : ByteArray} (h : s ∈ l) : s.size ≤ strTot l := by have := sizes_mem h; unfold strTot; omega
theorem sizes_step {l : List ByteArray} {k : Nat} {s : ByteArray} (h : l[k]? = some s) : sizes (l.take (k + 1)) = sizes (l.take k) + s.size := by
  rw [List.take_add_one, h]; simp [sizes]
theorem sizes_le (l : List ByteArray) (k : Nat) : sizes (l.take k) ≤ sizes l := by
  have e : sizes l = sizes (l.take k) + sizes (l.drop k) := by
    unfold sizes
    rw [← List.sum_append, ← List.map_append, List.take_append_drop]
  omega
theorem str_ne {x y : ByteArray} (h : x ≠ y) : (x.toList == y.toList) = false := by
  rw [beq_eq_false_iff_ne]
  intro e
  apply h
  have h1 : ∀ z : ByteArray, z.toList = z.data.toList := fun z => by simp [ByteArray.toList_eq]
  rw [h1, h1] at e
  cases x; cases y
  simp_all

/-- What is left of a budget when n things are taken; -1 where it does not suffice. -/
def szOf (left : Int) (n : Nat) : Int := if left < n then -1 else left - n
theorem szOf_no {left : Int} {n : Nat} (h : left < n) : szOf left n = -1 := by simp [szOf, h]
theorem szOf_yes {left : Int} {n : Nat} (h : ¬ left < n) : szOf left n = left - n := by simp [szOf, h]
theorem grown_set {a w : World} {g : Nat} {c n : Nat} {j : Nat} {u : Value} (h : a.grownBy w (Value.slice (some ⟨g, 0, none⟩) n c).ownBlock) : a.grownBy (w.setCell ⟨g, j, none⟩ u) (Value.slice (some ⟨g, 0, none⟩) n c).ownBlock :=
  ⟨h.os, h.tape, h.output, by simpa [World.setCell] using h.size, fun i hi hne => (Below.heap_setCell w ⟨g, j, none⟩ u i (by
    rintro rfl
    exact hne rfl)).trans (h.block i hi hne)⟩
theorem ret_bool {a b : Bool} (h : a = b) : Ending.returned (.bool a) = .returned (.bool b) := by rw [h]
theorem ret_int {a b : Int} (h : a = b) : Ending.returned (.int .i64 a) = .returned (.int .i64 b) := by rw [h]
theorem some_at {α : Type} {l : List α} {n k : Nat} (hl : l.length = n) (h : k < n) : ∃ x, l[k]? = some x := ⟨l[k]'(by omega), List.getElem?_eq_getElem (by omega)⟩

theorem take_eq_step {α : Type} {bs cs : List α} {k : Nat} {x : α} (h : bs.take k = cs.take k) (hb : bs[k]? = some x) (hc : cs[k]? = some x) : bs.take (k + 1) = cs.take (k + 1) := by
  rw [List.take_add_one, List.take_add_one, h, hb, hc]
theorem take_eq_all {α : Type} {bs cs : List α} {n : Nat} (h : bs.take n = cs.take n) (hb : bs.length = n) (hc : cs.length = n) : bs = cs := by
  rwa [List.take_of_length_le (by omega), List.take_of_length_le (by omega)] at h
theorem ne_of_at {α : Type} {bs cs : List α} {k : Nat} {x y : α} (hb : bs[k]? = some x) (hc : cs[k]? = some y) (h : x ≠ y) : bs ≠ cs := by
  rintro rfl
  rw [hb] at hc
  injection hc with hc
  exact h hc

theorem flat_len {α : Type} {f : α → List Value} {k : Nat} (hk : ∀ x, (f x).length = k) : ∀ l : List α, (l.flatMap f).length = l.length * k
  | [] => by simp
  | y :: l => by rw [List.flatMap_cons, List.length_append, flat_len hk l, hk, List.length_cons, Nat.add_mul]; omega
/-- Where a cell of a list of elements of k cells each stands. -/
theorem flat_get {α : Type} {f : α → List Value} {k : Nat} (hk : ∀ x, (f x).length = k) : ∀ {l : List α} {i j : Nat} {x : α} {u : Value}, l[i]? = some x → (f x)[j]? = some u → (l.flatMap f)[i * k + j]? = some u
  | [], i, j, x, u, h, _ => by simp at h
  | y :: l, 0, j, x, u, h, hu => by
    simp at h
    subst h
    rw [List.flatMap_cons, Nat.zero_mul, Nat.zero_add, List.getElem?_append_left (List.getElem?_eq_some_iff.1 hu).1]
    exact hu
  | y :: l, i + 1, j, x, u, h, hu => by
    rw [List.flatMap_cons, List.getElem?_append_right (by rw [hk, Nat.add_mul]; omega), hk, show (i + 1) * k + j - k = i * k + j from by rw [Nat.add_mul]; omega]
    exact flat_get hk (by simpa using h) hu
theorem flat_at {α : Type} {f : α → List Value} {k : Nat} (hk : ∀ x, (f x).length = k) : ∀ {l : List α} {j : Nat} {u : Value}, (l.flatMap f)[j]? = some u → ∃ i r x, j = i * k + r ∧ r < k ∧ l[i]? = some x ∧ (f x)[r]? = some u
  | [], j, u, h => by simp at h
  | y :: l, j, u, h => by
    by_cases hj : j < k
    · rw [List.flatMap_cons, List.getElem?_append_left (by rw [hk]; exact hj)] at h
      exact ⟨0, j, y, by omega, hj, rfl, h⟩
    · rw [List.flatMap_cons, List.getElem?_append_right (by rw [hk]; omega), hk] at h
      obtain ⟨i, r, x, h1, h2, h3, h4⟩ := flat_at hk h
      exact ⟨i + 1, r, x, by rw [Nat.add_mul]; omega, h2, by simpa using h3, h4⟩

theorem own_form {w : World} {base : Nat} {e : TypeId} {k n c : Nat} {A : Option Addr} {xs : List Value} (h : w.ownsRow base e k (.slice A n c) n xs) (hn : 0 < n) : ∃ g, A = some ⟨g, 0, none⟩ ∧ base ≤ g ∧ g < w.heap.size := by
  rcases h.2 with ⟨_, h0⟩ | ⟨g, cap, cur, hv, hb, hh, _⟩
  · omega
  · injection hv with hA
    refine ⟨g, hA, hb, ?_⟩
    exact (Array.getElem?_eq_some_iff.1 hh).1

/-- us written over xs from place p on. -/
def sets : List Value → Nat → List Value → List Value
  | xs, _, [] => xs
  | xs, p, u :: us => sets (xs.set p u) (p + 1) us
theorem sets_mid : ∀ (us pre old rest : List Value), old.length = us.length → sets (pre ++ old ++ rest) pre.length us = pre ++ us ++ rest
  | [], pre, old, rest, h => by
    have : old = [] := List.eq_nil_of_length_eq_zero (by simpa using h)
    subst this
    simp [sets]
  | u :: us, pre, [], rest, h => by simp at h
  | u :: us, pre, o :: old, rest, h => by
    have e : (pre ++ o :: old ++ rest).set pre.length u = (pre ++ [u]) ++ old ++ rest := by simp
    have e2 : pre.length + 1 = (pre ++ [u]).length := by simp
    simp only [sets]
    rw [e, e2, sets_mid us (pre ++ [u]) old rest (by simpa using h)]
    simp
/-- The next element written into a row whose first k elements stand. -/
theorem sets_elem {α : Type} {f : α → List Value} {K k n : Nat} {l : List α} {x : α} {zs : List Value} (hK : ∀ x, (f x).length = K) (hx : l[k]? = some x) (hz : zs.length = n * K) (hk : k < n) :
    sets ((l.take k).flatMap f ++ zs.drop (k * K)) (k * K) (f x) = (l.take (k + 1)).flatMap f ++ zs.drop ((k + 1) * K) := by
  have hkl : k < l.length := (List.getElem?_eq_some_iff.1 hx).1
  have hl : ((l.take k).flatMap f).length = k * K := by rw [flat_len hK, List.length_take]; congr 1; omega
  have hnk : (k + 1) * K ≤ n * K := Nat.mul_le_mul_right _ hk
  have hd : zs.drop (k * K) = (zs.drop (k * K)).take K ++ zs.drop ((k + 1) * K) := by
    rw [Nat.add_mul, Nat.one_mul, ← List.drop_drop, List.take_append_drop]
  have ho : ((zs.drop (k * K)).take K).length = (f x).length := by
    rw [List.length_take, List.length_drop, hz, hK]
    rw [Nat.add_mul] at hnk
    omega
  have hs := sets_mid (f x) ((l.take k).flatMap f) ((zs.drop (k * K)).take K) (zs.drop ((k + 1) * K)) ho
  rw [hl] at hs
  rw [hd, ← List.append_assoc, hs, List.take_add_one, hx]
  simp

/-- All cells of one element. -/
theorem Rd.elem {α : Type} {w : World} {A : Option Addr} {n k i : Nat} {f : α → List Value} {l : List α} {x : α} (hk : ∀ x, (f x).length = k) (h : Rd w A n k (l.flatMap f)) (hx : l[i]? = some x) (hk0 : 0 < k) :
    ∃ b o, A = some ⟨b, o, none⟩ ∧ ∀ j u, (f x)[j]? = some u → w.cell? ⟨b, o + i * k + j, none⟩ = some u := by
  obtain ⟨b, o, hA, _⟩ := h.get (flat_get (j := 0) hk hx (List.getElem?_eq_getElem (by rw [hk]; exact hk0)))
  refine ⟨b, o, hA, fun j u hu => ?_⟩
  obtain ⟨b', o', hA', hc⟩ := h.get (flat_get hk hx hu)
  rw [hA] at hA'
  injection hA' with e
  injection e with e1 e2
  subst e1 e2
  rw [Nat.add_assoc]
  exact hc
theorem Rd.lenk {α : Type} {w : World} {A : Option Addr} {n k : Nat} {f : α → List Value} {l : List α} (hk : ∀ x, (f x).length = k) (hk0 : 0 < k) (h : Rd w A n k (l.flatMap f)) : l.length = n := by
  have := h.1
  rw [flat_len hk] at this
  exact Nat.eq_of_mul_eq_mul_right hk0 this

/-- One round of a loop that copies element k into a row that the call made. -/
theorem fill_step (xs : List Value) (d u : Value) (k n : Nat) (hx : xs.length = n) (hu : xs[k]? = some u) :
    (xs.take k ++ List.replicate (n - k) d).set k u = xs.take (k + 1) ++ List.replicate (n - (k + 1)) d := by
  have hk : k < n := by rw [← hx]; exact (List.getElem?_eq_some_iff.1 hu).1
  have hl : (xs.take k).length = k := by rw [List.length_take]; omega
  rw [List.set_append, if_neg (by omega), hl, Nat.sub_self, List.take_add_one, hu, show n - k = (n - (k + 1)) + 1 from by omega, List.replicate_succ]
  simp

theorem own_nil (w : World) (b : Nat) (e : TypeId) (k : Nat) : w.ownsRow b e k (.slice none 0 0) 0 [] := ⟨by simp, .inl ⟨rfl, rfl⟩⟩

/-- A block that is known whole. -/
def Bk (w : World) (g : Nat) (t : TypeId) (cs : List Value) : Prop := w.heap[g]? = some (.cells cs.toArray t (0, 0))
section
variable {w w' : World} {g : Nat} {t : TypeId} {cs : List Value}
theorem Bk.lt (h : Bk w g t cs) : g < w.heap.size := (Array.getElem?_eq_some_iff.1 h).1
theorem Bk.cell (h : Bk w g t cs) (j : Nat) : w.cell? ⟨g, j, none⟩ = cs[j]? := by
  rw [cell_of_row w g j _ t (0, 0) h]; simp
theorem Bk.free (h : Bk w g t cs) (j : Nat) : w.frozen? ⟨g, j, none⟩ = false := by
  unfold Bk at h
  simp [World.frozen?, h]
theorem Bk.new (w : World) (t : TypeId) (cs : List Value) : Bk (w.alloc (.cells cs.toArray t)) w.heap.size t cs := heap_alloc_new w _
theorem Bk.new_ (w : World) (t : TypeId) (cs : List Value) {g : Nat} (hg : g = w.heap.size) : Bk (w.alloc (.cells cs.toArray t)) g t cs := by subst hg; exact heap_alloc_new w _
theorem Bk.at_ {j : Nat} {u : Value} (h : Bk w g t cs) (hu : cs[j]? = some u) : w.cell? ⟨g, j, none⟩ = some u := by rw [h.cell, hu]
theorem Bk.fr (h : Bk w g t cs) (hf : Fr w w') : Bk w' g t cs := (hf.block g h.lt).trans h
theorem Bk.al (h : Bk w g t cs) (o : Obj) : Bk (w.alloc o) g t cs := h.fr (Fr.al (Below.refl _ _) o)
theorem Bk.put (h : Bk w g t cs) (j : Nat) (u : Value) : Bk (w.setCell ⟨g, j, none⟩ u) g t (cs.set j u) := by
  unfold Bk at h ⊢
  simp [World.setCell, Array.getElem?_modify, h]
theorem Bk.wrote {b2 : Nat} {e2 : TypeId} {k2 n2 : Nat} {v2 : Value} {ys : List Value} (h : Bk w g t cs) (hg : w.grownBy w' v2.ownBlock) (h2 : w.ownsRow b2 e2 k2 v2 n2 ys) (hne : t ≠ e2) : Bk w' g t cs := by
  refine (hg.block g h.lt fun he => ?_).trans h
  rcases h2.2 with ⟨rfl, _⟩ | ⟨g2, cap2, cur2, rfl, _, hh2, _⟩
  · simp [Value.ownBlock] at he
  · simp only [Value.ownBlock, Option.some.injEq] at he
    subst he
    unfold Bk at h
    rw [h] at hh2
    injection hh2 with hh2
    injection hh2 with _ ht
    exact hne ht
theorem Bk.grown {row : Option Nat} (h : Bk w g t cs) (hg : w.grownBy w' row) (hne : some g ≠ row) : Bk w' g t cs := (hg.block g h.lt hne).trans h
theorem Bk.far (h : Bk w g t cs) {b : Nat} (hb : g ≠ b) (j : Nat) (u : Value) : Bk (w.setCell ⟨b, j, none⟩ u) g t cs := (Below.heap_setCell w ⟨b, j, none⟩ u g hb).trans h
end

end Go.Proofs.Ytbmoolmgfpcnkaa

namespace Go.Proofs.Ytbmoolmgfpcnkaa
open Go.RowKit

/-- w' is w but for new blocks and for what was written in the blocks of W. -/
structure Gr (W : List Nat) (w w' : World) : Prop where
  os : w'.os = w.os
  tape : w'.tape = w.tape
  output : w'.output = w.output
  size : w.heap.size ≤ w'.heap.size
  block : ∀ k, k < w.heap.size → k ∉ W → w'.heap[k]? = w.heap[k]?
theorem Gr.of_fr {W : List Nat} {w w' : World} (h : Fr w w') : Gr W w w' := ⟨h.os, h.tape, h.output, h.size, fun k hk _ => h.block k hk⟩
theorem Gr.fr {w w' : World} (h : Gr [] w w') : Fr w w' := ⟨h.os, h.tape, h.output, h.size, fun k hk => h.block k hk (by simp)⟩
theorem Gr.refl (W : List Nat) (w : World) : Gr W w w := .of_fr (Below.refl _ _)
theorem Gr.then {W : List Nat} {a b c : World} (h : Gr W a b) (k : Gr W b c) : Gr W a c :=
  ⟨k.os.trans h.os, k.tape.trans h.tape, k.output.trans h.output, Nat.le_trans h.size k.size, fun i hi hn => (k.block i (Nat.lt_of_lt_of_le hi h.size) hn).trans (h.block i hi hn)⟩
/-- What is written later in new blocks, or in those of W. -/
theorem Gr.thenV {W V : List Nat} {a b c : World} (h : Gr W a b) (k : Gr V b c) (hV : ∀ i ∈ V, a.heap.size ≤ i ∨ i ∈ W) : Gr W a c :=
  ⟨k.os.trans h.os, k.tape.trans h.tape, k.output.trans h.output, Nat.le_trans h.size k.size, fun i hi hn => (k.block i (Nat.lt_of_lt_of_le hi h.size) (fun hv => by rcases hV i hv with h1 | h1; omega; exact hn h1)).trans (h.block i hi hn)⟩
theorem Gr.of_grown {w w' : World} {row : Option Nat} (h : w.grownBy w' row) : Gr row.toList w w' :=
  ⟨h.os, h.tape, h.output, h.size, fun k hk hn => h.block k hk (by rintro rfl; simp at hn)⟩
theorem Gr.grown {w w' : World} {row : Option Nat} (h : Gr row.toList w w') : w.grownBy w' row :=
  ⟨h.os, h.tape, h.output, h.size, fun k hk hn => h.block k hk (by intro hm; simp at hm; exact hn hm.symm)⟩
theorem Gr.set (w : World) (g j : Nat) (u : Value) : Gr [g] w (w.setCell ⟨g, j, none⟩ u) :=
  ⟨rfl, rfl, rfl, by simp [World.setCell], fun k _ hn => Below.heap_setCell w _ u k (by simpa using hn)⟩
theorem Gr.cell {W : List Nat} {w w' : World} (h : Gr W w w') {p : Addr} (hp : p.block < w.heap.size) (hn : p.block ∉ W) : w'.cell? p = w.cell? p := World.cell?_of_block (w := w) (h.block p.block hp hn)

/-- A row, as it stands in a thing of many. -/
structure Row where
  E : TypeId
  k : Nat
  v : Value
  n : Nat
  xs : List Value
def Row.ok (w : World) (r : Row) : Prop := w.ownsRow 0 r.E r.k r.v r.n r.xs
def Row.apart (a b : Row) : Prop := ∀ g, a.v.ownBlock = some g → b.v.ownBlock ≠ some g
theorem Row.apart_symm {a b : Row} (h : a.apart b) : b.apart a := fun g h1 h2 => h g h2 h1
/-- A thing of the call's own: a row (a slice from its block's beginning on), a block of cells, or many rows. -/
inductive Ob where
  | row (E : TypeId) (k : Nat) (v : Value) (n : Nat) (xs : List Value)
  | blk (g : Nat) (t : TypeId) (cs : List Value)
  | many (rs : List Row)
def Row.ob (r : Row) : Ob := .row r.E r.k r.v r.n r.xs
def Ob.bid : Ob → Option Nat
  | .row _ _ v _ _ => v.ownBlock
  | .blk g _ _ => some g
  | .many _ => none
def Ob.has : Ob → Nat → Prop
  | .row _ _ v _ _, g => v.ownBlock = some g
  | .blk g' _ _, g => some g' = some g
  | .many rs, g => ∃ r ∈ rs, r.v.ownBlock = some g
theorem Ob.has_bid {o : Ob} {g : Nat} (h : o.bid = some g) : o.has g := by
  cases o with
  | row => exact h
  | blk => exact h
  | many => simp [Ob.bid] at h
def Ob.ok (w : World) : Ob → Prop
  | .row E k v n xs => w.ownsRow 0 E k v n xs
  | .blk g t cs => Bk w g t cs
  | .many rs => (∀ r ∈ rs, r.ok w) ∧ rs.Pairwise Row.apart
def Ob.apart (a b : Ob) : Prop := ∀ g, a.has g → ¬ b.has g
theorem Ob.apart_symm {a b : Ob} (h : a.apart b) : b.apart a := fun g h1 h2 => h g h2 h1
theorem Ob.lt {w : World} {o : Ob} (h : o.ok w) {g : Nat} (hg : o.has g) : g < w.heap.size := by
  cases o with
  | row E k v n xs => exact (World.ownsRow.lt h g hg).2
  | blk g' t cs => simp only [Ob.has, Option.some.injEq] at hg; subst hg; exact Bk.lt h
  | many rs => obtain ⟨r, hr, hv⟩ := hg; exact (World.ownsRow.lt (h.1 r hr) g hv).2
theorem row_kept {W : List Nat} {w w' : World} {E : TypeId} {k n : Nat} {v : Value} {xs : List Value} (h : w.ownsRow 0 E k v n xs) (g : Gr W w w') (hn : ∀ b, v.ownBlock = some b → b ∉ W) : w'.ownsRow 0 E k v n xs := by
  refine ⟨h.1, ?_⟩
  rcases h.2 with h1 | ⟨b, cap, cur, rfl, hb, hh, r⟩
  · exact .inl h1
  · exact .inr ⟨b, cap, cur, rfl, hb, (g.block b (Array.getElem?_eq_some_iff.1 hh).1 (hn b rfl)).trans hh, r⟩
theorem Ob.kept {W : List Nat} {w w' : World} {o : Ob} (h : o.ok w) (g : Gr W w w') (hn : ∀ b, o.has b → b ∉ W) : o.ok w' := by
  cases o with
  | row E k v n xs => exact row_kept h g hn
  | blk b t cs => exact (g.block b (Bk.lt h) (hn b rfl)).trans h
  | many rs => exact ⟨fun r hr => row_kept (h.1 r hr) g fun b hb => hn b ⟨r, hr, hb⟩, h.2⟩

theorem pairwise_at {α : Type} {R : α → α → Prop} (hs : ∀ {a b}, R a b → R b a) {l : List α} (h : l.Pairwise R) {i j : Nat} {a b : α} (ha : l[i]? = some a) (hb : l[j]? = some b) (hij : i ≠ j) : R a b := by
  obtain ⟨hi, rfl⟩ := List.getElem?_eq_some_iff.1 ha
  obtain ⟨hj, rfl⟩ := List.getElem?_eq_some_iff.1 hb
  rw [List.pairwise_iff_getElem] at h
  rcases Nat.lt_or_ge i j with h1 | h1
  · exact h i j hi hj h1
  · exact hs (h j i hj hi (by omega))
theorem pairwise_set {α : Type} {R : α → α → Prop} (hs : ∀ {a b}, R a b → R b a) : ∀ {l : List α} {i : Nat} {a' : α}, l.Pairwise R → (∀ j b, j ≠ i → l[j]? = some b → R a' b) → (l.set i a').Pairwise R
  | [], i, a', _, _ => by simp
  | x :: t, 0, a', h, k => by
    rw [List.set_cons_zero, List.pairwise_cons]
    refine ⟨fun b hb => ?_, (List.pairwise_cons.1 h).2⟩
    obtain ⟨j, hj⟩ := List.getElem?_of_mem hb
    exact k (j + 1) b (by omega) (by simpa using hj)
  | x :: t, i + 1, a', h, k => by
    rw [List.set_cons_succ, List.pairwise_cons]
    refine ⟨fun b hb => ?_, pairwise_set hs (List.pairwise_cons.1 h).2 fun j b hj hb => k (j + 1) b (by omega) (by simpa using hb)⟩
    rcases List.mem_or_eq_of_mem_set hb with h1 | rfl
    · exact (List.pairwise_cons.1 h).1 b h1
    · exact hs (k 0 x (by omega) (by simp))

/-- From w0 on, but for what was written in the blocks of W, nothing old has turned; the call's things are l, each in a place of its own. -/
structure Hp (W : List Nat) (w0 w : World) (l : List Ob) : Prop where
  gr : Gr W w0 w
  ok : ∀ o ∈ l, o.ok w
  own : ∀ o ∈ l, ∀ g, o.has g → w0.heap.size ≤ g ∨ g ∈ W
  ap : l.Pairwise Ob.apart

section
variable {W : List Nat} {w0 w w' : World} {l : List Ob}

theorem Hp.startW (w : World) : Hp W w w [] := ⟨.refl _ _, by simp, by simp, by simp⟩
theorem Hp.start (w : World) : Hp [] w w [] := ⟨.refl _ _, by simp, by simp, by simp⟩
theorem Hp.start_row {b : Nat} {E : TypeId} {k n : Nat} {v : Value} {xs : List Value} (h : w.ownsRow b E k v n xs) : Hp v.ownBlock.toList w w [.row E k v n xs] :=
  ⟨.refl _ _, by simp only [List.mem_singleton, forall_eq]; exact own_base h (Nat.zero_le _), by simp only [List.mem_singleton, forall_eq]; intro g hg; right; simp only [Ob.has] at hg; simp [hg], by simp⟩
theorem Hp.start_blk {g : Nat} {t : TypeId} {cs : List Value} (h : Bk w g t cs) : Hp [g] w w [.blk g t cs] :=
  ⟨.refl _ _, by simp only [List.mem_singleton, forall_eq]; exact h, by simp only [List.mem_singleton, forall_eq]; intro b hb; right; simp only [Ob.has, Option.some.injEq] at hb; simp [hb], by simp⟩
theorem Hp.fr (h : Hp [] w0 w l) : Fr w0 w := h.gr.fr
theorem Hp.size (h : Hp W w0 w l) : w0.heap.size ≤ w.heap.size := h.gr.size
/-- old memory as before, blocks of the call's own kept: whatever makes new blocks only -/
theorem Hp.go (h : Hp W w0 w l) (f : Fr w w') : Hp W w0 w' l :=
  ⟨h.gr.then (.of_fr f), fun o ho => Ob.kept (h.ok o ho) (Gr.of_fr (W := []) f) (by simp), h.own, h.ap⟩
theorem Hp.on (h : Hp W w0 w l) (n : Nat) : Hp W w0 (w.drewN n) l := h.go (Fr.drewN_ _ _)
theorem Hp.drew (h : Hp W w0 w l) : Hp W w0 w.drew l := h.go (Fr.drew_ _)
theorem Hp.al (h : Hp W w0 w l) (o : Obj) : Hp W w0 (w.alloc o) l := h.go (Fr.al (Below.refl _ _) o)
/-- what a callee has made -/
theorem Hp.join {l' : List Ob} (h : Hp W w0 w l) (k : Hp [] w w' l') : Hp W w0 w' (l' ++ l) := by
  have h2 := h.go k.fr
  refine ⟨h2.gr, ?_, ?_, ?_⟩
  · intro o ho
    rcases List.mem_append.1 ho with h1 | h1
    · exact k.ok o h1
    · exact h2.ok o h1
  · intro o ho g hg
    rcases List.mem_append.1 ho with h1 | h1
    · rcases k.own o h1 g hg with h3 | h3
      · exact .inl (Nat.le_trans h.size h3)
      · simp at h3
    · exact h.own o h1 g hg
  · rw [List.pairwise_append]
    refine ⟨k.ap, h.ap, fun a ha b hb g hg hg2 => ?_⟩
    have h3 := Ob.lt (h.ok b hb) hg2
    rcases k.own a ha g hg with h4 | h4
    · omega
    · simp at h4
theorem Hp.one {o : Ob} (f : Fr w w') (ho : o.ok w') (hb : ∀ g, o.has g → w.heap.size ≤ g) : Hp [] w w' [o] :=
  ⟨.of_fr f, by simpa using ho, by simp only [List.mem_singleton, forall_eq]; intro g hg; exact .inl (hb g hg), by simp⟩
theorem Hp.one_row {E : TypeId} {k n : Nat} {v : Value} {xs : List Value} (h : w'.ownsRow w.heap.size E k v n xs) (f : Fr w w') : Hp [] w w' [.row E k v n xs] :=
  Hp.one f (own_base h (Nat.zero_le _)) fun g hg => (h.lt g hg).1
theorem Hp.made {E : TypeId} {k n : Nat} {v : Value} {xs : List Value} (h : Hp W w0 w l) (k_ : w'.ownsRow w.heap.size E k v n xs) (f : Fr w w') : Hp W w0 w' (.row E k v n xs :: l) := h.join (.one_row k_ f)
theorem Hp.lay (h : Hp W w0 w l) (t : TypeId) (cs : List Value) : Hp W w0 (w.alloc (.cells cs.toArray t)) (.blk w.heap.size t cs :: l) :=
  h.join (.one (o := .blk w.heap.size t cs) (Fr.al (Below.refl _ _) (.cells cs.toArray t)) (Bk.new w t cs) fun g hg => by simp only [Ob.has, Option.some.injEq] at hg; omega)
theorem Hp.lit (h : Hp W w0 w l) (E : TypeId) (k n : Nat) (cs : List Value) (hs : cs.length = n * k) (hn : n ≤ maxLen) : Hp W w0 (w.alloc (.cells cs.toArray E)) (.row E k (.slice (some ⟨w.heap.size, 0, none⟩) n n) n cs :: l) :=
  h.made (by simpa using World.ownsRow_lit w cs.toArray n (Nat.le_refl _) hn (by simpa using hs)) (Fr.al (Below.refl _ _) _)
theorem Hp.lit0 (h : Hp W w0 w l) (E : TypeId) (k : Nat) : Hp W w0 (w.alloc (.cells #[] E)) (.row E k (.slice (some ⟨w.heap.size, 0, none⟩) 0 0) 0 [] :: l) := h.lit E k 0 [] (by simp) (Nat.zero_le _)
theorem Hp.nil_ (h : Hp W w0 w l) (E : TypeId) (k : Nat) : Hp W w0 w (.row E k (.slice none 0 0) 0 [] :: l) := h.made (own_nil _ _ _ _) (Below.refl _ _)
theorem Hp.recast {l' : List Ob} (h : Hp W w0 w l) (e : l = l') : Hp W w0 w l' := e ▸ h
/-- some things are forgotten -/
theorem Hp.sub {l' : List Ob} (h : Hp W w0 w l) (hs : l'.Sublist l) : Hp W w0 w l' :=
  ⟨h.gr, fun o ho => h.ok o (hs.subset ho), fun o ho => h.own o (hs.subset ho), h.ap.sublist hs⟩
theorem Hp.tail {o : Ob} (h : Hp W w0 w (o :: l)) : Hp W w0 w l := h.sub (List.sublist_cons_self _ _)
theorem Hp.tail2 {o p : Ob} (h : Hp W w0 w (o :: p :: l)) : Hp W w0 w l := h.tail.tail
theorem Hp.swap {o p : Ob} (h : Hp W w0 w (o :: p :: l)) : Hp W w0 w (p :: o :: l) := by
  refine ⟨h.gr, fun x hx => h.ok x (by simp at hx ⊢; rcases hx with h1 | h1 | h1 <;> simp [h1]), fun x hx => h.own x (by simp at hx ⊢; rcases hx with h1 | h1 | h1 <;> simp [h1]), ?_⟩
  have := h.ap
  simp only [List.pairwise_cons, List.mem_cons, forall_eq_or_imp] at this ⊢
  exact ⟨⟨Ob.apart_symm this.1.1, this.2.1⟩, this.1.2, this.2.2⟩
theorem Hp.drop1 {o p : Ob} (h : Hp W w0 w (o :: p :: l)) : Hp W w0 w (o :: l) := h.swap.tail
theorem Hp.perm {l' : List Ob} (h : Hp W w0 w l) (hp : l.Perm l') : Hp W w0 w l' :=
  ⟨h.gr, fun o ho => h.ok o (hp.mem_iff.2 ho), fun o ho => h.own o (hp.mem_iff.2 ho), (hp.pairwise_iff Ob.apart_symm).1 h.ap⟩
/-- thing i was written, or has grown into other blocks -/
theorem Hp.turnG {o o' : Ob} {V : List Nat} (h : Hp W w0 w l) (i : Nat) (hi : l[i]? = some o) (g : Gr V w w') (hV0 : ∀ b ∈ V, o.has b) (ho : o'.ok w') (hb : ∀ b, o'.has b → o.has b ∨ w.heap.size ≤ b) : Hp W w0 w' (l.set i o') := by
  have hmem := List.mem_of_getElem? hi
  have hV : ∀ b ∈ V, w0.heap.size ≤ b ∨ b ∈ W := fun b hb => h.own o hmem b (hV0 b hb)
  refine ⟨h.gr.thenV g hV, ?_, ?_, ?_⟩
  · intro x hx
    obtain ⟨j, hj⟩ := List.getElem?_of_mem hx
    by_cases hij : i = j
    · subst hij
      rw [List.getElem?_set_self (List.getElem?_eq_some_iff.1 hi).1] at hj
      injection hj with hj; subst hj; exact ho
    · rw [List.getElem?_set_ne hij] at hj
      refine Ob.kept (h.ok x (List.mem_of_getElem? hj)) g fun b hb hb2 => ?_
      exact pairwise_at Ob.apart_symm h.ap hi hj hij b (hV0 b hb2) hb
  · intro x hx b hxb
    rcases List.mem_or_eq_of_mem_set hx with h1 | rfl
    · exact h.own x h1 b hxb
    · rcases hb b hxb with h2 | h2
      · exact h.own o hmem b h2
      · exact .inl (Nat.le_trans h.size h2)
  · refine pairwise_set Ob.apart_symm h.ap fun j b hj hjb c hc hc2 => ?_
    rcases hb c hc with h2 | h2
    · exact pairwise_at Ob.apart_symm h.ap hi hjb (fun e => hj e.symm) c h2 hc2
    · have h3 := Ob.lt (h.ok b (List.mem_of_getElem? hjb)) hc2
      omega
theorem Hp.turn {o o' : Ob} (h : Hp W w0 w l) (i : Nat) (hi : l[i]? = some o) (g : Gr o.bid.toList w w') (ho : o'.ok w') (hb : ∀ b, o'.has b → o.has b ∨ w.heap.size ≤ b) : Hp W w0 w' (l.set i o') :=
  h.turnG i hi g (fun b hb => Ob.has_bid (by simpa using hb)) ho hb
theorem Hp.turnRow {E E' : TypeId} {k k' n n' : Nat} {v v' : Value} {xs xs' : List Value} (h : Hp W w0 w l) (i : Nat) (hi : l[i]? = some (.row E k v n xs)) (g : Gr v.ownBlock.toList w w') (ho : w'.ownsRow 0 E' k' v' n' xs')
    (hb : v'.ownBlock = v.ownBlock ∨ ∀ b, v'.ownBlock = some b → w.heap.size ≤ b) : Hp W w0 w' (l.set i (.row E' k' v' n' xs')) :=
  h.turn i hi g ho fun b hv => hb.elim (fun e => .inl (e.symm.trans hv)) fun e => .inr (e b hv)

/-- rows told apart, or as one thing -/
theorem Hp.unfold {rs : List Row} (h : Hp W w0 w (.many rs :: l)) : Hp W w0 w (rs.map Row.ob ++ l) := by
  have hm := h.ok _ (List.mem_cons_self)
  have hp := List.pairwise_cons.1 h.ap
  refine ⟨h.gr, ?_, ?_, ?_⟩
  · intro o ho
    rcases List.mem_append.1 ho with h1 | h1
    · obtain ⟨r, hr, rfl⟩ := List.mem_map.1 h1; exact hm.1 r hr
    · exact h.ok o (List.mem_cons_of_mem _ h1)
  · intro o ho g hg
    rcases List.mem_append.1 ho with h1 | h1
    · obtain ⟨r, hr, rfl⟩ := List.mem_map.1 h1; exact h.own _ List.mem_cons_self g ⟨r, hr, hg⟩
    · exact h.own o (List.mem_cons_of_mem _ h1) g hg
  · rw [List.pairwise_append]
    refine ⟨List.pairwise_map.2 (hm.2.imp fun h => h), hp.2, fun a ha b hb g hg => ?_⟩
    obtain ⟨r, hr, rfl⟩ := List.mem_map.1 ha
    exact hp.1 b hb g ⟨r, hr, hg⟩
theorem Hp.fold {rs : List Row} (h : Hp W w0 w (rs.map Row.ob ++ l)) : Hp W w0 w (.many rs :: l) := by
  have hp := List.pairwise_append.1 h.ap
  refine ⟨h.gr, ?_, ?_, List.pairwise_cons.2 ⟨fun b hb g hg => ?_, hp.2.1⟩⟩
  · intro o ho
    rcases List.mem_cons.1 ho with rfl | h1
    · exact ⟨fun r hr => h.ok r.ob (List.mem_append_left _ (List.mem_map_of_mem hr)), (List.pairwise_map.1 hp.1).imp fun h => h⟩
    · exact h.ok o (List.mem_append_right _ h1)
  · intro o ho g hg
    rcases List.mem_cons.1 ho with rfl | h1
    · obtain ⟨r, hr, hv⟩ := hg
      exact h.own r.ob (List.mem_append_left _ (List.mem_map_of_mem hr)) g hv
    · exact h.own o (List.mem_append_right _ h1) g hg
  · obtain ⟨r, hr, hv⟩ := hg
    exact hp.2.2 r.ob (List.mem_map_of_mem hr) b hb g hv
/-- a thing of many rows, seen alone: what a callee is handed -/
def Row.blocks (rs : List Row) : List Nat := rs.filterMap fun r => r.v.ownBlock
theorem Row.mem_blocks {rs : List Row} {b : Nat} : b ∈ Row.blocks rs ↔ ∃ r ∈ rs, r.v.ownBlock = some b := by simp [Row.blocks]
theorem Hp.start_many {rs : List Row} (h : Ob.ok w (.many rs)) : Hp (Row.blocks rs) w w [.many rs] :=
  ⟨.refl _ _, by simpa using h, by simp only [List.mem_singleton, forall_eq]; intro g hg; exact .inr (Row.mem_blocks.2 hg), by simp⟩
/-- .. and what came back -/
theorem Hp.turnMany {rs rs' : List Row} (h : Hp W w0 w l) (i : Nat) (hi : l[i]? = some (.many rs)) (k : Hp (Row.blocks rs) w w' [.many rs']) : Hp W w0 w' (l.set i (.many rs')) :=
  h.turnG i hi k.gr (fun _ hb => Row.mem_blocks.1 hb) (k.ok _ List.mem_cons_self) fun b hb => (k.own _ List.mem_cons_self b hb).elim .inr fun h1 => .inl (Row.mem_blocks.1 h1)

section
variable {E : TypeId} {k n c g : Nat} {A : Option Addr} {v : Value} {xs : List Value}
theorem Hp.row (h : Hp W w0 w l) (i : Nat) (hi : l[i]? = some (.row E k v n xs)) : w.ownsRow 0 E k v n xs := h.ok _ (List.mem_of_getElem? hi)
theorem Hp.blk {t : TypeId} {cs : List Value} (h : Hp W w0 w l) (i : Nat) (hi : l[i]? = some (.blk g t cs)) : Bk w g t cs := h.ok _ (List.mem_of_getElem? hi)
theorem Hp.len (h : Hp W w0 w l) (i : Nat) (hi : l[i]? = some (.row E k v n xs)) : xs.length = n * k := (h.row i hi).1
theorem Hp.shape (h : Hp W w0 w l) (i : Nat) (hi : l[i]? = some (.row E k v n xs)) : ∃ A c, v = .slice A n c := own_shape (h.row i hi)
theorem Hp.form (h : Hp W w0 w l) (i : Nat) (hi : l[i]? = some (.row E k v n xs)) (hn : 0 < n) : ∃ g c, v = .slice (some ⟨g, 0, none⟩) n c ∧ g < w.heap.size := by
  obtain ⟨A, c, rfl⟩ := h.shape i hi
  obtain ⟨g, rfl, _, h2⟩ := own_form (h.row i hi) hn
  exact ⟨g, c, rfl, h2⟩
theorem Hp.rd (h : Hp W w0 w l) (i : Nat) (hi : l[i]? = some (.row E k (.slice A n c) n xs)) : Rd w A n k xs := Rd.of_own (h.row i hi)
theorem Hp.brd {t : TypeId} {cs : List Value} (h : Hp W w0 w l) (i : Nat) (hi : l[i]? = some (.blk g t cs)) (hn : cs.length = n * k) : Rd w (some ⟨g, 0, none⟩) n k cs :=
  ⟨hn, fun _ => ⟨g, 0, rfl, fun j u hu => by rw [Nat.zero_add]; exact (h.blk i hi).at_ hu⟩⟩
theorem Hp.at_ (h : Hp W w0 w l) (i : Nat) (hi : l[i]? = some (.row E k (.slice (some ⟨g, 0, none⟩) n c) n xs)) {j : Nat} {u : Value} (hu : xs[j]? = some u) : w.cell? ⟨g, j, none⟩ = some u := by
  have hj := (List.getElem?_eq_some_iff.1 hu).1
  rw [(h.row i hi).cellAt j (by rw [← h.len i hi]; exact hj), hu]
theorem Hp.free (h : Hp W w0 w l) (i : Nat) (hi : l[i]? = some (.row E k (.slice (some ⟨g, 0, none⟩) n c) n xs)) (j : Nat) : w.frozen? ⟨g, j, none⟩ = false := (h.row i hi).frozenAt j
theorem Hp.lt (h : Hp W w0 w l) (i : Nat) {o : Ob} (hi : l[i]? = some o) (hg : o.has g) : g < w.heap.size := Ob.lt (h.ok _ (List.mem_of_getElem? hi)) hg
theorem Hp.put (h : Hp W w0 w l) (i : Nat) (hi : l[i]? = some (.row E k (.slice (some ⟨g, 0, none⟩) n c) n xs)) (j : Nat) (u : Value) : Hp W w0 (w.setCell ⟨g, j, none⟩ u) (l.set i (.row E k (.slice (some ⟨g, 0, none⟩) n c) n (xs.set j u))) := by
  have hs := (h.row i hi).stored j u
  exact h.turnRow i hi (Gr.set w g j u) hs.1 (.inl rfl)
theorem Hp.bat {t : TypeId} {cs : List Value} (h : Hp W w0 w l) (i : Nat) (hi : l[i]? = some (.blk g t cs)) {j : Nat} {u : Value} (hu : cs[j]? = some u) : w.cell? ⟨g, j, none⟩ = some u := (h.blk i hi).at_ hu
theorem Hp.bfree {t : TypeId} {cs : List Value} (h : Hp W w0 w l) (i : Nat) (hi : l[i]? = some (.blk g t cs)) (j : Nat) : w.frozen? ⟨g, j, none⟩ = false := (h.blk i hi).free j
theorem Hp.bput {t : TypeId} {cs : List Value} (h : Hp W w0 w l) (i : Nat) (hi : l[i]? = some (.blk g t cs)) (j : Nat) (u : Value) : Hp W w0 (w.setCell ⟨g, j, none⟩ u) (l.set i (.blk g t (cs.set j u))) :=
  h.turn i hi (Gr.set w g j u) ((h.blk i hi).put j u) (fun _ h => .inl h)
theorem Hp.grow {v' : Value} {n' : Nat} {xs' : List Value} {b : Nat} (h : Hp W w0 w l) (i : Nat) (hi : l[i]? = some (.row E k v n xs)) (hg : w.grownBy w' v.ownBlock) (ho : w'.ownsRow b E k v' n' xs')
    (ha : v'.ownBlock = v.ownBlock ∨ ∀ g, v'.ownBlock = some g → w.heap.size ≤ g) : Hp W w0 w' (l.set i (.row E k v' n' xs')) :=
  h.turnRow i hi (Gr.of_grown hg) (own_base ho (Nat.zero_le _)) ha
/-- what the call hands back -/
theorem Hp.out (h : Hp [] w0 w l) (i : Nat) (hi : l[i]? = some (.row E k v n xs)) : w.ownsRow w0.heap.size E k v n xs := by
  have h1 := h.row i hi
  refine ⟨h1.1, ?_⟩
  rcases h1.2 with h2 | ⟨g, cap, cur, rfl, _, r⟩
  · exact .inl h2
  · refine .inr ⟨g, cap, cur, rfl, ?_, r⟩
    rcases h.own _ (List.mem_of_getElem? hi) g rfl with h3 | h3
    · exact h3
    · simp at h3
theorem Hp.toMade (h : Hp [] w0 w l) (i : Nat) (hi : l[i]? = some (.row E k (.slice A n c) n xs)) : Made w0 E k n xs (.returned (.slice A n c)) w := ⟨A, c, rfl, h.out i hi, h.fr⟩
/-- the one row was handed on, and its heir came back -/
theorem Hp.heir {v' : Value} {n' : Nat} {xs' : List Value} {o : Ob} (h : Hp [] w0 w [o]) (ho : w'.ownsRow w0.heap.size E k v' n' xs') (f : Below w0.heap.size w w') : Hp [] w0 w' [.row E k v' n' xs'] :=
  Hp.one_row ho (h.fr.trans f)
/-- what came in is as it was -/
theorem Hp.old (h : Hp [] w0 w l) (hr : Rd w0 A n k xs) : Rd w A n k xs := hr.fr h.fr
theorem Hp.oldW (h : Hp W w0 w l) (hr : Rd w0 A n k xs) (hA : ∀ ad, A = some ad → ad.block ∉ W) : Rd w A n k xs := by
  refine ⟨hr.1, fun hn => ?_⟩
  obtain ⟨b, o, rfl, hc⟩ := hr.2 hn
  refine ⟨b, o, rfl, fun j u hu => ?_⟩
  have hc' := hc j u hu
  rw [h.gr.cell (World.block_lt_of_cell? w0 _ hc') (hA ⟨b, o, none⟩ rfl)]
  exact hc'
end

/-- A place of a list. (No equation: the walk does not take it for a rule.) -/
def At {α : Type} (l : List α) (k : Nat) (x : α) : Prop := l[k]? = some x
theorem at_some {α : Type} {l : List α} {n k : Nat} (hl : l.length = n) (h : k < n) : ∃ x, At l k x := some_at hl h
theorem At.lt {α : Type} {l : List α} {k : Nat} {x : α} (h : At l k x) : k < l.length := (List.getElem?_eq_some_iff.1 h).1
theorem At.mem {α : Type} {l : List α} {k : Nat} {x : α} (h : At l k x) : x ∈ l := List.mem_of_getElem? h
theorem At.take {α : Type} {l : List α} {k : Nat} {x : α} (h : At l k x) : l.take (k + 1) = l.take k ++ [x] := by rw [List.take_add_one, h]; rfl

theorem flat_set {α : Type} {f : α → List Value} {k : Nat} (hk : ∀ x, (f x).length = k) : ∀ {l : List α} {i r : Nat} {x x' : α} {u : Value}, l[i]? = some x → r < k → f x' = (f x).set r u → (l.flatMap f).set (i * k + r) u = (l.set i x').flatMap f
  | [], i, r, x, x', u, h, _, _ => by simp at h
  | y :: l, 0, r, x, x', u, h, hr, hf => by
    simp at h
    subst h
    rw [List.flatMap_cons, Nat.zero_mul, Nat.zero_add, List.set_append, if_pos (by rw [hk]; exact hr), List.set_cons_zero, List.flatMap_cons, hf]
  | y :: l, i + 1, r, x, x', u, h, hr, hf => by
    rw [List.flatMap_cons, List.set_append, if_neg (by rw [hk, Nat.add_mul]; omega), hk, show (i + 1) * k + r - k = i * k + r from by rw [Nat.add_mul]; omega, flat_set hk (by simpa using h) hr hf, List.set_cons_succ, List.flatMap_cons]

section
variable {α : Type} {f : α → List Value} {f1 : α → Value} {E : TypeId} {k n c g : Nat} {L : List α}
theorem Hp.atL (h : Hp W w0 w l) (i : Nat) (hi : l[i]? = some (.row E k (.slice (some ⟨g, 0, none⟩) n c) n (L.flatMap f))) (hk : ∀ x, (f x).length = k) {j r : Nat} {x : α} {u : Value} (hx : L[j]? = some x) (hu : (f x)[r]? = some u) : w.cell? ⟨g, j * k + r, none⟩ = some u :=
  h.at_ i hi (flat_get hk hx hu)
theorem Hp.atM (h : Hp W w0 w l) (i : Nat) (hi : l[i]? = some (.row E 1 (.slice (some ⟨g, 0, none⟩) n c) n (L.map f1))) {j : Nat} {x : α} (hx : L[j]? = some x) : w.cell? ⟨g, j, none⟩ = some (f1 x) :=
  h.at_ i hi (by simp [hx])
theorem Hp.putL (h : Hp W w0 w l) (i : Nat) (hi : l[i]? = some (.row E k (.slice (some ⟨g, 0, none⟩) n c) n (L.flatMap f))) (hk : ∀ x, (f x).length = k) (j r : Nat) {x : α} (x' : α) (u : Value) (hx : L[j]? = some x) (hr : r < k) (hf : f x' = (f x).set r u) :
    Hp W w0 (w.setCell ⟨g, j * k + r, none⟩ u) (l.set i (.row E k (.slice (some ⟨g, 0, none⟩) n c) n ((L.set j x').flatMap f))) := by
  have h1 := h.put i hi (j * k + r) u
  rwa [flat_set hk hx hr hf] at h1
theorem Hp.putM (h : Hp W w0 w l) (i : Nat) (hi : l[i]? = some (.row E 1 (.slice (some ⟨g, 0, none⟩) n c) n (L.map f1))) (j : Nat) (x' : α) :
    Hp W w0 (w.setCell ⟨g, j, none⟩ (f1 x')) (l.set i (.row E 1 (.slice (some ⟨g, 0, none⟩) n c) n ((L.set j x').map f1))) := by
  have h1 := h.put i hi j (f1 x')
  rwa [← List.map_set] at h1
end

section
variable {P : Program} {ops : Array Oper} {rest : List Oper} {o : Oper} {a : Act} {Q : Exit → Act → World → Prop} {E : TypeId} {z : Value} {k bytes : Nat}

/-- 'append(s, x..)' on a row of the call's own. -/
theorem wp_app (H : Hp W w0 w l) (hgd : o.guard = none) (s x : Operand) (t : TypeId) (ho : o.op = .call { callee := .builtin .append, args := #[s, x], argTypes := #[t, t] })
    (ht : P.underlying t = some (.slice E)) (hI : (P.info? E).map (fun i => (i.zero, i.size, i.bytes)) = some (some z, k, bytes)) (hzs : z.cells.size = k) (hsz : 0 < k)
    (i : Nat) (v : Value) (n : Nat) (xs : List Value) (hrow : l[i]? = some (.row E k v n xs)) (hs : a.eval s = v) (ad : Addr) (m c : Nat) (ys : List Value) (hx : a.eval x = .slice (some ad) m c)
    (hl : ys.length = m * k) (hnews : ∀ j u, ys[j]? = some u → w.cell? (ad.add j) = some u) (h1 : ∀ u ∈ ys, u.oneCell' = true) (h63 : n + m ≤ maxLen) (hbytes : (n + m) * bytes ≤ 140737488355328)
    (h : ∀ v' w', Hp W w0 w' (l.set i (.row E k v' (n + m) (xs ++ ys))) → wpList P ops Q rest (a.put o.dst v') w') : wpList P ops Q (o :: rest) a w := by
  obtain ⟨inf, hi, hz, hsize, hby⟩ := info_parts hI
  exact wpList_append_own_at w hgd s x t ho 0 E inf z k bytes ht hi hz hsize hby hzs hsz v n xs hs (H.row i hrow) ad m c ys hx hl hnews h1 h63 hbytes (Nat.zero_le _)
    fun v' w' h2 h3 _ h5 => h v' w' (H.grow i hrow h3 h2 (h5.imp id fun e g hg => by rw [e] at hg; injection hg with hg; omega))
/-- .. of one element, that was just laid in a block of its own. -/
theorem wp_app1 (H : Hp W w0 w l) (hgd : o.guard = none) (s x : Operand) (t : TypeId) (ho : o.op = .call { callee := .builtin .append, args := #[s, x], argTypes := #[t, t] })
    (ht : P.underlying t = some (.slice E)) (hI : (P.info? E).map (fun i => (i.zero, i.size, i.bytes)) = some (some z, k, bytes)) (hzs : z.cells.size = k) (hsz : 0 < k)
    (i : Nat) (v : Value) (n : Nat) (xs : List Value) (hrow : l[i]? = some (.row E k v n xs)) (hs : a.eval s = v) (g m c : Nat) (T : TypeId) (ys : List Value) (hx : a.eval x = .slice (some ⟨g, 0, none⟩) m c) (hg : g = w.heap.size)
    (hl : ys.length = m * k) (h1 : ∀ u ∈ ys, u.oneCell' = true) (h63 : n + m ≤ maxLen) (hbytes : (n + m) * bytes ≤ 140737488355328)
    (h : ∀ v' w', Hp W w0 w' (l.set i (.row E k v' (n + m) (xs ++ ys))) → wpList P ops Q rest (a.put o.dst v') w') : wpList P ops Q (o :: rest) a (w.alloc (.cells ys.toArray T)) := by
  subst hg
  exact wp_app (H.al (.cells ys.toArray T)) hgd s x t ho ht hI hzs hsz i v n xs hrow hs ⟨w.heap.size, 0, none⟩ m c ys hx hl (by simpa using news_at w ys.toArray T) h1 h63 hbytes h
/-- .. in words of lists: elements of k cells. -/
theorem wp_appL {α : Type} {f : α → List Value} (H : Hp W w0 w l) (hgd : o.guard = none) (s x : Operand) (t : TypeId) (ho : o.op = .call { callee := .builtin .append, args := #[s, x], argTypes := #[t, t] })
    (ht : P.underlying t = some (.slice E)) (hI : (P.info? E).map (fun i => (i.zero, i.size, i.bytes)) = some (some z, k, bytes)) (hzs : z.cells.size = k) (hsz : 0 < k)
    (i : Nat) (v : Value) (L : List α) (hrow : l[i]? = some (.row E k v L.length (L.flatMap f))) (hs : a.eval s = v) (g : Nat) (T : TypeId) (y : α) (hx : a.eval x = .slice (some ⟨g, 0, none⟩) 1 1) (hg : g = w.heap.size)
    (hl : (f y).length = k) (h1 : ∀ u ∈ f y, u.oneCell' = true) (h63 : L.length + 1 ≤ maxLen) (hbytes : (L.length + 1) * bytes ≤ 140737488355328)
    (h : ∀ v' w', Hp W w0 w' (l.set i (.row E k v' (L ++ [y]).length ((L ++ [y]).flatMap f))) → wpList P ops Q rest (a.put o.dst v') w') : wpList P ops Q (o :: rest) a (w.alloc (.cells (f y).toArray T)) := by
  refine wp_app1 H hgd s x t ho ht hI hzs hsz i v _ _ hrow hs g 1 1 T (f y) hx hg (by omega) h1 h63 hbytes fun v' w' h' => h v' w' ?_
  rwa [List.length_append, List.length_singleton, List.flatMap_append, List.flatMap_singleton]
/-- .. elements of one cell. -/
theorem wp_appM {α : Type} {f : α → Value} (H : Hp W w0 w l) (hgd : o.guard = none) (s x : Operand) (t : TypeId) (ho : o.op = .call { callee := .builtin .append, args := #[s, x], argTypes := #[t, t] })
    (ht : P.underlying t = some (.slice E)) (hI : (P.info? E).map (fun i => (i.zero, i.size, i.bytes)) = some (some z, 1, bytes)) (hzs : z.cells.size = 1)
    (i : Nat) (v : Value) (L : List α) (hrow : l[i]? = some (.row E 1 v L.length (L.map f))) (hs : a.eval s = v) (g : Nat) (T : TypeId) (y : α) (hx : a.eval x = .slice (some ⟨g, 0, none⟩) 1 1) (hg : g = w.heap.size)
    (h1 : (f y).oneCell' = true) (h63 : L.length + 1 ≤ maxLen) (hbytes : (L.length + 1) * bytes ≤ 140737488355328)
    (h : ∀ v' w', Hp W w0 w' (l.set i (.row E 1 v' (L ++ [y]).length ((L ++ [y]).map f))) → wpList P ops Q rest (a.put o.dst v') w') : wpList P ops Q (o :: rest) a (w.alloc (.cells #[f y] T)) := by
  refine wp_app1 H hgd s x t ho ht hI hzs Nat.one_pos i v _ _ hrow hs g 1 1 T [f y] hx hg (by simp) (by simpa using h1) h63 hbytes fun v' w' h' => h v' w' ?_
  rwa [List.length_append, List.length_singleton, List.map_append, List.map_singleton]
/-- 'append(s, t...)', t a slice that reads as a list. -/
theorem wp_appRd (H : Hp W w0 w l) (hgd : o.guard = none) (s x : Operand) (t : TypeId) (ho : o.op = .call { callee := .builtin .append, args := #[s, x], argTypes := #[t, t] })
    (ht : P.underlying t = some (.slice E)) (hI : (P.info? E).map (fun i => (i.zero, i.size, i.bytes)) = some (some z, k, bytes)) (hzs : z.cells.size = k) (hsz : 0 < k)
    (i : Nat) (v : Value) (n : Nat) (xs : List Value) (hrow : l[i]? = some (.row E k v n xs)) (hs : a.eval s = v) (A : Option Addr) (m c : Nat) (ys : List Value) (hx : a.eval x = .slice A m c) (hc : A = none → c = 0)
    (hrd : Rd w A m k ys) (h1 : ∀ u ∈ ys, u.oneCell' = true) (h63 : n + m ≤ maxLen) (hbytes : (n + m) * bytes ≤ 140737488355328)
    (h : ∀ v' w', Hp W w0 w' (l.set i (.row E k v' (n + m) (xs ++ ys))) → wpList P ops Q rest (a.put o.dst v') w') : wpList P ops Q (o :: rest) a w := by
  cases A with
  | none =>
    have hm : m = 0 := by
      rcases Nat.eq_zero_or_pos m with h0 | h0
      · exact h0
      · obtain ⟨b, o, e, _⟩ := hrd.2 h0; cases e
    subst hm
    obtain rfl := hc rfl
    have hys : ys = [] := List.eq_nil_of_length_eq_zero (by simpa using hrd.1)
    subst hys
    obtain ⟨inf, hi, hz, hsize, hby⟩ := info_parts hI
    refine wpList_append_own_none hgd s x t ho 0 E inf k ht hi v n xs hs (H.row i hrow) hx (h v w ?_)
    have h2 := H.turnRow i hrow (Gr.refl _ w) (H.row i hrow) (.inl rfl)
    simpa using h2
  | some ad =>
    refine wp_app H hgd s x t ho ht hI hzs hsz i v n xs hrow hs ad m c ys hx hrd.1 (fun j u hu => ?_) h1 h63 hbytes h
    obtain ⟨b, o, e, hcell⟩ := hrd.get hu
    injection e with e
    subst e
    rw [Addr.add_lit]
    exact hcell
/-- 'make([]T, n)'. -/
theorem wp_mk (H : Hp W w0 w l) (hg : o.guard = none) (x c : Operand) (t : TypeId) (hop : o.op = Op.makeSlice t x c)
    (ht : P.underlying t = some (.slice E)) (hI : (P.info? E).map (fun i => (i.zero, i.size, i.bytes)) = some (some z, k, bytes)) (hz1 : z.cells = #[z]) (hk : k = 1) (n : Nat)
    (kl kc : IntKind) (I C : Int) (hl : a.eval x = .int kl I) (hc : a.eval c = .int kc C) (hI2 : I = (n : Int)) (hC : C = (n : Int)) (b2 : bytes * n ≤ 281474976710656) (b3 : n ≤ maxLen)
    (h : ∀ w', Hp W w0 w' (.row E 1 (.slice (some ⟨w.heap.size, 0, none⟩) n n) n (List.replicate n z) :: l) → wpList P ops Q rest (a.put o.dst (.slice (some ⟨w.heap.size, 0, none⟩) n n)) w') :
    wpList P ops Q (o :: rest) a w := by
  obtain ⟨inf, hi, hz, hsize, hby⟩ := info_parts hI
  subst hk
  refine wpList_make_full w hg x c t hop w.heap.size E inf z 1 ht hi hz hsize kl kc I C n hl hc hI2 hC (by rw [hby]; exact b2) b3 (Nat.le_refl _) fun w' h1 h2 => h w' ?_
  rw [hz1, Nat.mul_one, toList_madeCells_one] at h1
  exact H.made h1 (Fr.of_grown h2)
/-- 'make([]T, 0, n)'. -/
theorem wp_mk0 (H : Hp W w0 w l) (hg : o.guard = none) (x c : Operand) (t : TypeId) (hop : o.op = Op.makeSlice t x c)
    (ht : P.underlying t = some (.slice E)) (hI : (P.info? E).map (fun i => (i.zero, i.size, i.bytes)) = some (some z, k, bytes)) (n : Nat)
    (kl kc : IntKind) (C : Int) (hl : a.eval x = .int kl 0) (hc : a.eval c = .int kc C) (hC : C = (n : Int)) (b2 : bytes * n ≤ 281474976710656) (b3 : n ≤ maxLen)
    (h : ∀ w', Hp W w0 w' (.row E k (.slice (some ⟨w.heap.size, 0, none⟩) 0 n) 0 [] :: l) → wpList P ops Q rest (a.put o.dst (.slice (some ⟨w.heap.size, 0, none⟩) 0 n)) w') :
    wpList P ops Q (o :: rest) a w := by
  obtain ⟨inf, hi, hz, hsize, hby⟩ := info_parts hI
  exact wpList_make_own w hg x c t hop w.heap.size E inf z k ht hi hz hsize kl kc C n hl hc hC (by rw [hby]; exact b2) b3 (Nat.le_refl _) fun w' h1 h2 => h w' (H.made h1 (Fr.of_grown h2))
end
end

/-- Two slices come back, each in memory of its own. -/
def Gives2 (w : World) (E0 : TypeId) (k0 n0 : Nat) (xs0 : List Value) (E1 : TypeId) (k1 n1 : Nat) (xs1 : List Value) (e : Ending) (w' : World) : Prop :=
  ∃ A0 c0 A1 c1, e = .returned (.tuple #[.slice A0 n0 c0, .slice A1 n1 c1]) ∧ Hp [] w w' [.row E0 k0 (.slice A0 n0 c0) n0 xs0, .row E1 k1 (.slice A1 n1 c1) n1 xs1]
def Made2 (w : World) (E0 : TypeId) (k0 n0 : Nat) (xs0 : List Value) (E1 : TypeId) (k1 n1 : Nat) (xs1 : List Value) (e : Ending) (w' : World) : Prop :=
  ∃ A0 c0 A1 c1, e = .returned (.tuple #[.slice A0 n0 c0, .slice A1 n1 c1]) ∧ w'.ownsRow w.heap.size E0 k0 (.slice A0 n0 c0) n0 xs0 ∧ w'.ownsRow w.heap.size E1 k1 (.slice A1 n1 c1) n1 xs1 ∧ Fr w w'
theorem Gives2.made {w w' : World} {E0 E1 : TypeId} {k0 n0 k1 n1 : Nat} {xs0 xs1 : List Value} {e : Ending} (h : Gives2 w E0 k0 n0 xs0 E1 k1 n1 xs1 e w') : Made2 w E0 k0 n0 xs0 E1 k1 n1 xs1 e w' := by
  obtain ⟨A0, c0, A1, c1, rfl, H⟩ := h
  exact ⟨A0, c0, A1, c1, rfl, H.out 0 rfl, H.out 1 rfl, H.fr⟩
end Go.Proofs.Ytbmoolmgfpcnkaa

namespace Go.Proofs.Ytbmoolmgfpcnkaa
def cU8 (b : UInt8) : Value := .int .u8 b.toNat
def cSl (v : Value) : Value := v
theorem infoInt : (Try.prog.info? 3).map (fun i => (i.zero, i.size, i.bytes)) = some (some (.int .i64 0), 1, 8) := by kernel_rfl
theorem infoBool : (Try.prog.info? 4).map (fun i => (i.zero, i.size, i.bytes)) = some (some (.bool false), 1, 1) := by kernel_rfl
theorem infoString : (Try.prog.info? 9).map (fun i => (i.zero, i.size, i.bytes)) = some (some (.string ⟨#[]⟩), 1, 16) := by kernel_rfl
theorem infoU8 : (Try.prog.info? 5).map (fun i => (i.zero, i.size, i.bytes)) = some (some (.int .u8 0), 1, 1) := by kernel_rfl
theorem infoInts : (Try.prog.info? 52).map (fun i => (i.zero, i.size, i.bytes)) = some (some (.slice none 0 0), 1, 24) := by kernel_rfl
end Go.Proofs.Ytbmoolmgfpcnkaa

namespace Go.Proofs.Ytbmoolmgfpcnkaa
open Go.RowKit

/-- Bytes as a text. -/
def ofB (l : List UInt8) : ByteArray := ⟨l.toArray⟩
def toB (s : ByteArray) : List UInt8 := s.data.toList
theorem toB_ofB (l : List UInt8) : toB (ofB l) = l := by simp [toB, ofB]
theorem ofB_toB (s : ByteArray) : ofB (toB s) = s := by simp [toB, ofB]
theorem toB_len (s : ByteArray) : (toB s).length = s.size := by simp [toB]
theorem ofB_size (l : List UInt8) : (ofB l).size = l.length := by simp [ofB, ByteArray.size]
theorem ofB_inj {l l' : List UInt8} (h : ofB l = ofB l') : l = l' := by rw [← toB_ofB l, ← toB_ofB l', h]
theorem toList_B (s : ByteArray) : s.toList = toB s := by simp [ByteArray.toList_eq, toB]
theorem cmpB (s t : ByteArray) : (s.toList == t.toList) = decide (toB s = toB t) := by
  rw [toList_B, toList_B, Bool.eq_iff_iff]; simp
theorem toB_extract (s : ByteArray) (k m : Nat) : toB (s.extract k m) = ((toB s).drop k).take (m - k) := by
  simp [toB, ByteArray.data_extract]
theorem toB_append (s t : ByteArray) : toB (s ++ t) = toB s ++ toB t := by simp [toB, ByteArray.data_append]
theorem ofB_append (a b : List UInt8) : ofB a ++ ofB b = ofB (a ++ b) := by
  have h := toB_append (ofB a) (ofB b)
  rw [toB_ofB, toB_ofB] at h
  rw [← h, ofB_toB]
theorem extract_ofB (l : List UInt8) (a b : Nat) : (ofB l).extract a b = ofB ((l.drop a).take (b - a)) := by
  have h := toB_extract (ofB l) a b
  rw [toB_ofB] at h
  rw [← h, ofB_toB]
/-- 'string(b)'. -/
theorem run_str {P : Program} {w : World} (src dst e : TypeId) {A : Option Addr} {n c : Nat} {l : List UInt8} (hs : P.underlying src = some (.slice e)) (he : P.underlying e = some (.int .u8)) (hd : P.underlying dst = some .string)
    (hr : Rd w A n 1 (l.map cU8)) : (convert src dst (.slice A n c)).run P w = .ok (.string (ofB l)) w := by
  have hl := hr.len1
  cases A with
  | none =>
    have h0 : n = 0 := by
      rcases Nat.eq_zero_or_pos n with h0 | h0
      · exact h0
      · obtain ⟨b, o, e, _⟩ := hr.2 h0; cases e
    subst h0
    have : l = [] := List.eq_nil_of_length_eq_zero hl
    subst this
    rw [run_convert_bytes_string w src dst e none 0 c hs he hd]
    simp [Conv.bytesToString, Sem.run_pure, ofB]
    rfl
  | some a =>
    subst hl
    refine run_convert_bytes_back w src dst e a c l hs he hd fun j hj => ?_
    obtain ⟨b, o, e, hc⟩ := hr.get1 (List.getElem?_eq_getElem hj)
    injection e with e
    subst e
    rw [Addr.add_lit]
    exact hc

section
variable {W : List Nat} {w0 w w' : World} {l : List Ob}
theorem Hp.lay_ (h : Hp W w0 w l) (t : TypeId) (cs : List Value) {g : Nat} (hg : g = w.heap.size) : Hp W w0 (w.alloc (.cells cs.toArray t)) (.blk g t cs :: l) := by subst hg; exact h.lay t cs
/-- rows of elements of different types lie apart -/
theorem rows_apart {E E2 : TypeId} {k n k2 n2 : Nat} {v v2 : Value} {xs ys : List Value} {b b2 : Nat} (h : w.ownsRow b E k v n xs) (h2 : w.ownsRow b2 E2 k2 v2 n2 ys) (hne : E ≠ E2) : (Ob.row E k v n xs).apart (.row E2 k2 v2 n2 ys) := by
  intro g hg hg2
  rcases h.2 with ⟨rfl, _⟩ | ⟨g1, cap, cur, rfl, _, hh, _⟩
  · simp [Ob.has, Value.ownBlock] at hg
  · rcases h2.2 with ⟨rfl, _⟩ | ⟨g3, cap2, cur2, rfl, _, hh2, _⟩
    · simp [Ob.has, Value.ownBlock] at hg2
    · simp only [Ob.has, Value.ownBlock, Option.some.injEq] at hg hg2
      subst hg
      subst hg2
      rw [hh] at hh2
      injection hh2 with hh2
      injection hh2 with _ ht
      exact hne ht
theorem Hp.cons_row {E : TypeId} {k n : Nat} {v : Value} {xs : List Value} {l' : List Ob} (h : Hp [] w w' l') (o : w'.ownsRow w.heap.size E k v n xs) (ha : ∀ x ∈ l', (Ob.row E k v n xs).apart x) : Hp [] w w' (.row E k v n xs :: l') := by
  refine ⟨h.gr, ?_, ?_, List.pairwise_cons.2 ⟨ha, h.ap⟩⟩
  · intro x hx
    rcases List.mem_cons.1 hx with rfl | h1
    · exact own_base o (Nat.zero_le _)
    · exact h.ok x h1
  · intro x hx g hg
    rcases List.mem_cons.1 hx with rfl | h1
    · exact .inl (o.lt g hg).1
    · exact h.own x h1 g hg
variable {E E2 E3 : TypeId} {k n k2 n2 k3 n3 : Nat} {v v2 v3 : Value} {xs ys zs : List Value}
theorem Hp.made2 (h : Hp W w0 w l) (o : w'.ownsRow w.heap.size E k v n xs) (o2 : w'.ownsRow w.heap.size E2 k2 v2 n2 ys) (f : Fr w w') (hne : E ≠ E2) : Hp W w0 w' (.row E k v n xs :: .row E2 k2 v2 n2 ys :: l) :=
  h.join ((Hp.one_row o2 f).cons_row o (by simpa using rows_apart o o2 hne))
theorem Hp.made3 (h : Hp W w0 w l) (o : w'.ownsRow w.heap.size E k v n xs) (o2 : w'.ownsRow w.heap.size E2 k2 v2 n2 ys) (o3 : w'.ownsRow w.heap.size E3 k3 v3 n3 zs) (f : Fr w w') (h12 : E ≠ E2) (h13 : E ≠ E3) (h23 : E2 ≠ E3) :
    Hp W w0 w' (.row E k v n xs :: .row E2 k2 v2 n2 ys :: .row E3 k3 v3 n3 zs :: l) :=
  h.join (((Hp.one_row o3 f).cons_row o2 (by simpa using rows_apart o2 o3 h23)).cons_row o (by simpa using ⟨rows_apart o o2 h12, rows_apart o o3 h13⟩))
end
end Go.Proofs.Ytbmoolmgfpcnkaa

namespace Go.Proofs.Ytbmoolmgfpcnkaa
def inB (x lo hi : Int) : Bool := decide (lo ≤ x) && decide (x ≤ hi)
theorem inB_iff {x lo hi : Int} : inB x lo hi = true ↔ lo ≤ x ∧ x ≤ hi := by simp [inB]
theorem all_step {p : Nat → Bool} {k : Nat} (h : ∀ j, j < k → p j = true) (hk : p k = true) : ∀ j, j < k + 1 → p j = true := by
  intro j hj
  rcases Nat.lt_or_ge j k with h1 | h1
  · exact h j h1
  · obtain rfl : j = k := by omega
    exact hk
end Go.Proofs.Ytbmoolmgfpcnkaa

namespace Go.Proofs.Ytbmoolmgfpcnkaa
open Go.RowKit

theorem l1In_any (x lo hi : Int) (w : World) :
    Calls Try.prog 45 #[.int .i64 x, .int .i64 lo, .int .i64 hi] w fun e w' => e = .returned (.bool (inB x lo hi)) ∧ w' = w := by
  go_enter Try.func45, Try.ntmps45
  go_wp2
  all_goals go_ret
  · exact ⟨by simp [inB, *], rfl⟩
  · exact ⟨by simp [inB]; omega, rfl⟩

end Go.Proofs.Ytbmoolmgfpcnkaa

namespace Go.Proofs.Ytbmoolmgfpcnkaa
open Go.RowKit

theorem within_any (x lo hi : Int) (w : World) :
    Calls Try.prog 56 #[.int .i64 x, .int .i64 lo, .int .i64 hi] w fun e w' => e = .returned (.bool (inB x lo hi)) ∧ w' = w := by
  go_enter Try.func56, Try.ntmps56
  go_wp2
  all_goals go_ret
  · exact ⟨by simp [inB, *], rfl⟩
  · exact ⟨by simp [inB]; omega, rfl⟩

end Go.Proofs.Ytbmoolmgfpcnkaa

namespace Go.Proofs.Ytbmoolmgfpcnkaa
open Go.RowKit

end Go.Proofs.Ytbmoolmgfpcnkaa

namespace Go.Proofs.Ytbmoolmgfpcnkaa
open Go.RowKit

/-- Is an extent (at, block, len) within a file and a store? -/
def eRange (e : Int × Int × Int) : Bool := inB e.2.2 1 12 && inB e.1 0 (12 - e.2.2) && inB e.2.1 0 (24 - e.2.2)
/-- Does it stand behind the one ahead, and not go on from it? -/
def eGap (p e : Int × Int × Int) : Bool := !(decide (e.1 < p.1 + p.2.2) || (decide (e.1 = p.1 + p.2.2) && decide (e.2.1 = p.2.1 + p.2.2)))
def inE (e : Int × Int × Int) (b : Nat) : Bool := decide (e.2.1 ≤ (b : Int)) && decide ((b : Int) < e.2.1 + e.2.2)
def usedBy (l : List (Int × Int × Int)) (i b : Nat) : Bool := (l.take i).any fun e => inE e b
def eAt (l : List (Int × Int × Int)) (i : Nat) : Bool :=
  eRange (l.getD i (0, 0, 0)) && (decide (i = 0) || eGap (l.getD (i - 1) (0, 0, 0)) (l.getD i (0, 0, 0))) && (List.range 24).all fun b => !(inE (l.getD i (0, 0, 0)) b && usedBy l i b)
def eOk (l : List (Int × Int × Int)) : Bool := (List.range l.length).all (eAt l)

section
variable {l : List (Int × Int × Int)} {i n : Nat} {e p : Int × Int × Int}
theorem eOk_yes (hl : l.length = n) (h : ∀ j, j < n → eAt l j = true) : eOk l = true := by
  subst hl
  simpa [eOk] using h
theorem eOk_no (hl : l.length = n) (hk : i < n) (h : eAt l i = false) : eOk l = false := by
  subst hl
  simp only [eOk, List.all_eq_false, List.mem_range]
  exact ⟨i, hk, by simp [h]⟩
theorem eAt_range (hx : l[i]? = some e) (h : eRange e = false) : eAt l i = false := by simp [eAt, hx, h]
theorem eAt_gap (hx : l[i + 1]? = some e) (hp : l[i]? = some p) (h : eGap p e = false) : eAt l (i + 1) = false := by simp [eAt, hx, hp, h]
theorem eAt_used {m : Nat} (hx : l[i]? = some e) (hm : m < 24) (hi : inE e m = true) (hu : usedBy l i m = true) : eAt l i = false := by
  have : ((List.range 24).all fun b => !(inE (l.getD i (0, 0, 0)) b && usedBy l i b)) = false := by
    rw [List.all_eq_false]
    exact ⟨m, List.mem_range.2 hm, by simp [hx, hi, hu]⟩
  rw [eAt, this, Bool.and_false]
theorem eAt_zero (hx : l[0]? = some e) (hr : eRange e = true) (hu : ∀ m, m < 24 → inE e m = true → usedBy l 0 m = false) : eAt l 0 = true := by
  have : ((List.range 24).all fun b => !(inE (l.getD 0 (0, 0, 0)) b && usedBy l 0 b)) = true := by
    rw [List.all_eq_true]
    intro m hm
    have h1 := hu m (List.mem_range.1 hm)
    cases h2 : inE e m with
    | false => simp [hx, h2]
    | true => simp [h1 h2]
  rw [eAt, this]
  simp [hx, hr]
theorem eAt_succ (hx : l[i + 1]? = some e) (hp : l[i]? = some p) (hr : eRange e = true) (hg : eGap p e = true) (hu : ∀ m, m < 24 → inE e m = true → usedBy l (i + 1) m = false) : eAt l (i + 1) = true := by
  have : ((List.range 24).all fun b => !(inE (l.getD (i + 1) (0, 0, 0)) b && usedBy l (i + 1) b)) = true := by
    rw [List.all_eq_true]
    intro m hm
    have h1 := hu m (List.mem_range.1 hm)
    cases h2 : inE e m with
    | false => simp [hx, h2]
    | true => simp [h1 h2]
  rw [eAt, this]
  simp [hx, hp, hr, hg]
theorem eAt_yes {k : Nat} (hx : l[k]? = some e) (hr : eRange e = true) (hg : k = 0 ∨ ∃ p, l[k - 1]? = some p ∧ eGap p e = true) (hu : ∀ m, m < 24 → inE e m = true → usedBy l k m = false) : eAt l k = true := by
  rcases Nat.eq_zero_or_pos k with h0 | h0
  · subst h0; exact eAt_zero hx hr hu
  · obtain ⟨i, rfl⟩ : ∃ i, k = i + 1 := ⟨k - 1, by omega⟩
    rcases hg with h1 | ⟨p, hp, hg⟩
    · omega
    · exact eAt_succ hx hp hr hg hu
theorem eAt_gap_ {k : Nat} (h0 : 0 < k) (hx : l[k]? = some e) (hp : l[k - 1]? = some p) (h : eGap p e = false) : eAt l k = false := by
  obtain ⟨i, rfl⟩ : ∃ i, k = i + 1 := ⟨k - 1, by omega⟩
  exact eAt_gap hx hp h
theorem eRange_iff : eRange e = true ↔ 1 ≤ e.2.2 ∧ e.2.2 ≤ 12 ∧ 0 ≤ e.1 ∧ e.1 ≤ 12 - e.2.2 ∧ 0 ≤ e.2.1 ∧ e.2.1 ≤ 24 - e.2.2 := by
  simp [eRange, inB]; omega
theorem inE_iff {b : Nat} : inE e b = true ↔ e.2.1 ≤ (b : Int) ∧ (b : Int) < e.2.1 + e.2.2 := by simp [inE]
theorem eAt_rng (hx : l[i]? = some e) (h : eAt l i = true) : eRange e = true := by
  simp only [eAt, List.getD, hx, Option.getD_some, Bool.and_eq_true] at h
  exact h.1.1

/-- The flags of the blocks that extents ahead of i use, and of those from lo to hi. -/
def uArr (l : List (Int × Int × Int)) (i lo hi : Nat) : List Value := (List.range 24).map fun b => Value.bool (usedBy l i b || (decide (lo ≤ b) && decide (b < hi)))
theorem uArr_len {lo hi : Nat} : (uArr l i lo hi).length = 24 := by simp [uArr]
theorem uArr_get {lo m : Nat} (hm : m < 24) : (uArr l i lo m)[m]? = some (.bool (usedBy l i m)) := by simp [uArr, hm]
theorem uArr_set {lo m : Nat} (_hm : m < 24) (h1 : lo ≤ m) : (uArr l i lo m).set m (.bool true) = uArr l i lo (m + 1) := by
  apply List.ext_getElem?
  intro j
  rw [List.getElem?_set]
  by_cases hj : j < 24
  · by_cases e : m = j
    · subst e
      simp [uArr, hj, h1]
    · simp only [e, if_false, uArr, List.getElem?_map, List.getElem?_range hj, Option.map_some, Option.some.injEq, Value.bool.injEq]
      congr 2
      rw [decide_eq_decide]
      omega
  · rw [List.getElem?_eq_none (l := uArr l i lo m) (by rw [uArr_len]; omega), List.getElem?_eq_none (l := uArr l i lo (m + 1)) (by rw [uArr_len]; omega), uArr_len]
    rw [if_neg (by omega)]
theorem usedBy_succ (hx : l[i]? = some e) (b : Nat) : usedBy l (i + 1) b = (usedBy l i b || inE e b) := by
  rw [usedBy, List.take_add_one, hx, List.any_append]
  simp [usedBy]
theorem uArr_next {B N : Nat} {a : Int} (hx : l[i]? = some (a, (B : Int), (N : Int))) : uArr l i B (B + N) = uArr l (i + 1) 0 0 := by
  simp only [uArr, List.map_inj_left, List.mem_range, Value.bool.injEq]
  intro b _
  rw [usedBy_succ hx]
  simp [inE]
  congr 2
  rw [decide_eq_decide]
  omega
theorem uArr_start : uArr l 0 0 0 = List.replicate 24 (.bool false) := by
  simp only [uArr, usedBy, List.take_zero, List.any_nil]
  rw [List.eq_replicate_iff]
  refine ⟨by simp, fun b hb => ?_⟩
  simp only [List.mem_map, List.mem_range] at hb
  obtain ⟨m, _, rfl⟩ := hb
  simp
theorem uArr_lo {lo : Nat} : uArr l i 0 0 = uArr l i lo lo := by
  simp only [uArr, List.map_inj_left, List.mem_range, Value.bool.injEq]
  intro b _
  congr 1
  have : (decide (lo ≤ b) && decide (b < lo)) = false := by simp
  rw [this]; simp
end

end Go.Proofs.Ytbmoolmgfpcnkaa

namespace Go.Proofs.Ytbmoolmgfpcnkaa
open Go.RowKit
theorem all_false {f : Nat → Bool} {B t : Nat} (h : ∀ q, q < t → f (B + q) = false) (ht : f (B + t) = false) : ∀ q, q < t + 1 → f (B + q) = false := by
  intro q hq
  rcases Nat.lt_or_ge q t with h1 | h1
  · exact h q h1
  · obtain rfl : q = t := by omega
    exact ht
theorem used_none {f : Nat → Bool} {a : Int} {B N : Nat} (h : ∀ q, q < N → f (B + q) = false) : ∀ m, m < 24 → inE (a, (B : Int), (N : Int)) m = true → f m = false := by
  intro m _ hm
  rw [inE_iff] at hm
  simp only at hm
  have := h (m - B) (by omega)
  rwa [show B + (m - B) = m from by omega] at this

/-- A beginning and a length within a size. -/
def isP (x n size : Int) : Bool := inB x 0 (size - 1) && inB n 1 (size - x)
theorem eRange_isP (e : Int × Int × Int) : eRange e = (isP e.1 e.2.2 12 && isP e.2.1 e.2.2 24) := by
  rw [Bool.eq_iff_iff]
  simp [eRange, isP, inB]
  omega
theorem isP_iff {x n size : Int} : isP x n size = true ↔ 0 ≤ x ∧ x ≤ size - 1 ∧ 1 ≤ n ∧ n ≤ size - x := by simp [isP, inB]; omega
end Go.Proofs.Ytbmoolmgfpcnkaa

namespace Go.Proofs.Ytbmoolmgfpcnkaa
open Go.RowKit

/-- The blocks of extent e put in, as far as j of them. -/
def putE (e : Int × Int × Int) (m : List Int) : Nat → List Int
  | 0 => m
  | j + 1 => (putE e m j).set (e.1.toNat + j) (e.2.1 + j)
def flatStep (m : List Int) (e : Int × Int × Int) : List Int := putE e m e.2.2.toNat
def flatTo (l : List (Int × Int × Int)) (k : Nat) : List Int := (l.take k).foldl flatStep (List.replicate 12 (-1))
def flatL (l : List (Int × Int × Int)) : List Int := l.foldl flatStep (List.replicate 12 (-1))
theorem putE_len (e : Int × Int × Int) (m : List Int) : ∀ j, (putE e m j).length = m.length
  | 0 => rfl
  | j + 1 => by rw [putE, List.length_set, putE_len e m j]
theorem foldl_len : ∀ (l : List (Int × Int × Int)) (m : List Int), (l.foldl flatStep m).length = m.length
  | [], m => rfl
  | e :: l, m => by rw [List.foldl_cons, foldl_len l, flatStep, putE_len]
theorem flatTo_len (l : List (Int × Int × Int)) (k : Nat) : (flatTo l k).length = 12 := by rw [flatTo, foldl_len]; simp
theorem flatL_len (l : List (Int × Int × Int)) : (flatL l).length = 12 := by rw [flatL, foldl_len]; simp
theorem flatTo_succ {l : List (Int × Int × Int)} {k : Nat} {e : Int × Int × Int} (h : l[k]? = some e) : flatTo l (k + 1) = putE e (flatTo l k) e.2.2.toNat := by
  rw [flatTo, List.take_add_one, h]; simp [flatTo, flatStep]
theorem flatTo_all {l : List (Int × Int × Int)} {k : Nat} (h : l.length ≤ k) : flatTo l k = flatL l := by rw [flatTo, List.take_of_length_le h, flatL]
/-- What stands in the list. -/
def BlkOk (m : List Int) : Prop := ∀ x ∈ m, -1 ≤ x ∧ x ≤ 23
theorem putE_ok {e : Int × Int × Int} {m : List Int} (h : BlkOk m) (h0 : 0 ≤ e.2.1) : ∀ j : Nat, e.2.1 + (j : Int) ≤ 24 → BlkOk (putE e m j)
  | 0, _ => h
  | j + 1, hj => by
    intro x hx
    rw [putE] at hx
    rcases List.mem_or_eq_of_mem_set hx with h1 | rfl
    · exact putE_ok h h0 j (by omega) x h1
    · omega
theorem flatL_ok {l : List (Int × Int × Int)} (h : ∀ e ∈ l, eRange e = true) : BlkOk (flatL l) := by
  have key : ∀ (l : List (Int × Int × Int)) (m : List Int), (∀ e ∈ l, eRange e = true) → BlkOk m → BlkOk (l.foldl flatStep m) := by
    intro l
    induction l with
    | nil => intro m _ hm; exact hm
    | cons e l ih =>
      intro m he hm
      rw [List.foldl_cons]
      refine ih _ (fun x hx => he x (by simp [hx])) ?_
      have h1 := eRange_iff.1 (he e (by simp))
      exact putE_ok hm (by omega) _ (by omega)
  exact key l _ h (by intro x hx; simp at hx; omega)
theorem eOk_ranges {l : List (Int × Int × Int)} (h : eOk l = true) : ∀ e ∈ l, eRange e = true := by
  intro e he
  obtain ⟨k, hk⟩ := List.getElem?_of_mem he
  have hkl := (List.getElem?_eq_some_iff.1 hk).1
  simp only [eOk, List.all_eq_true, List.mem_range] at h
  exact eAt_rng hk (h k hkl)

theorem fill_neg {k : Nat} (h : k < 12) : (List.replicate k (-1 : Int) ++ List.replicate (12 - k) 0).set k (-1) = List.replicate (k + 1) (-1) ++ List.replicate (12 - (k + 1)) 0 := by
  rw [List.set_append, if_neg (by simp), List.length_replicate, Nat.sub_self, show 12 - k = (12 - (k + 1)) + 1 from by omega, List.replicate_succ, List.set_cons_zero, List.replicate_succ']
  simp
/-- One file block more: the extent that it makes, or goes on with. -/
def extPut (o : List (Int × Int × Int)) (e : Int × Int × Int) : List (Int × Int × Int) := o ++ [e]
def extGrow (o : List (Int × Int × Int)) : List (Int × Int × Int) :=
  match o.getLast? with
  | none => []
  | some q => o.dropLast ++ [(q.1, q.2.1, q.2.2 + 1)]
theorem extGrow_snoc (o : List (Int × Int × Int)) (q : Int × Int × Int) : extGrow (o ++ [q]) = o ++ [(q.1, q.2.1, q.2.2 + 1)] := by simp [extGrow]
/-- Does block i go on from the one ahead? -/
def goesOn (m : List Int) (i : Nat) : Bool := decide (0 < i) && decide (0 ≤ m.getD (i - 1) (-1)) && decide (m.getD i (-1) = m.getD (i - 1) (-1) + 1)
def extsTo (m : List Int) : Nat → List (Int × Int × Int)
  | 0 => []
  | i + 1 => if m.getD i (-1) < 0 then extsTo m i else if goesOn m i then extGrow (extsTo m i) else extsTo m i ++ [((i : Int), m.getD i (-1), 1)]
def extsL (m : List Int) : List (Int × Int × Int) := extsTo m m.length
/-- What the last extent says of the last block. -/
def lastE (m : List Int) (i : Nat) (o : List (Int × Int × Int)) : Prop :=
  (0 < i → 0 ≤ m.getD (i - 1) (-1) → ∃ (o' : List (Int × Int × Int)) (a b n : Int), o = o' ++ [(a, b, n)] ∧ a + n = i ∧ b + n = m.getD (i - 1) (-1) + 1) ∧
  (∀ (o' : List (Int × Int × Int)) (a b n : Int), o = o' ++ [(a, b, n)] → 0 ≤ a ∧ 1 ≤ n ∧ a + n ≤ i ∧ (a + n = i → 0 < i ∧ 0 ≤ m.getD (i - 1) (-1)) ∧ -1 ≤ b ∧ b ≤ 23 ∧ n ≤ 12 ∧ b + n ≤ 24)
theorem extsTo_last {m : List Int} (hm : BlkOk m) (hl : m.length = 12) : ∀ i, i ≤ 12 → lastE m i (extsTo m i)
  | 0, _ => ⟨fun h => absurd h (by omega), fun o' a b n h => by simp [extsTo] at h⟩
  | i + 1, hi => by
    have ih := extsTo_last hm hl i (by omega)
    have hx : -1 ≤ m.getD i (-1) ∧ m.getD i (-1) ≤ 23 := by
      rw [List.getD_eq_getElem?_getD, List.getElem?_eq_getElem (by omega), Option.getD_some]
      exact hm _ (List.getElem_mem _)
    rw [extsTo]
    split
    · rename_i hn
      refine ⟨fun _ h0 => by simp only [Nat.add_sub_cancel] at h0; omega, fun o' a b n h => ?_⟩
      have := ih.2 o' a b n h
      simp only [Nat.add_sub_cancel]
      omega
    · split
      · rename_i hn hg
        simp only [goesOn, Bool.and_eq_true, decide_eq_true_eq] at hg
        obtain ⟨o', a, b, n, ho, h1, h2⟩ := ih.1 hg.1.1 hg.1.2
        have h3 := ih.2 o' a b n ho
        rw [ho, extGrow_snoc]
        refine ⟨fun _ _ => ⟨o', a, b, n + 1, rfl, by omega, by simp only [Nat.add_sub_cancel]; omega⟩, fun o2 a2 b2 n2 h => ?_⟩
        obtain ⟨h4, h5⟩ := List.append_inj' h rfl
        simp only [List.cons.injEq, Prod.mk.injEq, and_true] at h5
        obtain ⟨rfl, rfl, rfl⟩ := h5
        simp only [Nat.add_sub_cancel]
        omega
      · rename_i hn hg
        refine ⟨fun _ _ => ⟨extsTo m i, i, m.getD i (-1), 1, rfl, by omega, by simp⟩, fun o2 a2 b2 n2 h => ?_⟩
        obtain ⟨h4, h5⟩ := List.append_inj' h rfl
        simp only [List.cons.injEq, Prod.mk.injEq, and_true] at h5
        obtain ⟨rfl, rfl, rfl⟩ := h5
        simp only [Nat.add_sub_cancel]
        omega
theorem extsTo_skip {m : List Int} {i : Nat} {x : Int} (hx : m[i]? = some x) (h : x < 0) : extsTo m (i + 1) = extsTo m i := by simp [extsTo, hx, h]
theorem extsTo_app {m : List Int} {i : Nat} {x : Int} (hx : m[i]? = some x) (h : ¬ x < 0) (hg : goesOn m i = false) : extsTo m (i + 1) = extsTo m i ++ [((i : Int), x, 1)] := by simp [extsTo, hx, h, hg]
theorem extsTo_grow {m : List Int} {i : Nat} {x : Int} (hx : m[i]? = some x) (h : ¬ x < 0) (hg : goesOn m i = true) : extsTo m (i + 1) = extGrow (extsTo m i) := by simp [extsTo, hx, h, hg]
theorem goesOn_zero (m : List Int) : goesOn m 0 = false := by simp [goesOn]
theorem goesOn_succ {m : List Int} {i : Nat} {x y : Int} (hx : m[i + 1]? = some x) (hy : m[i]? = some y) : goesOn m (i + 1) = (decide (0 ≤ y) && decide (x = y + 1)) := by simp [goesOn, hx, hy]
theorem goesOn_nil {m : List Int} {i : Nat} (hL : lastE m i []) : goesOn m i = false := by
  rw [Bool.eq_false_iff]
  intro hg
  simp only [goesOn, Bool.and_eq_true, decide_eq_true_eq] at hg
  obtain ⟨o', a, b, n, ho, _⟩ := hL.1 hg.1.1 hg.1.2
  simp at ho
theorem goesOn_last {m : List Int} {i : Nat} {o' : List (Int × Int × Int)} {a b n x : Int} (hL : lastE m i (o' ++ [(a, b, n)])) (hx : m[i]? = some x) : goesOn m i = (decide (a + n = i) && decide (b + n = x)) := by
  have hxx : m.getD i (-1) = x := by simp [hx]
  have h2 := hL.2 o' a b n rfl
  rw [Bool.eq_iff_iff]
  simp only [goesOn, Bool.and_eq_true, decide_eq_true_eq, hxx]
  constructor
  · rintro ⟨⟨h3, h4⟩, h5⟩
    obtain ⟨o2, a2, b2, n2, ho, h6, h7⟩ := hL.1 h3 h4
    obtain ⟨_, h8⟩ := List.append_inj' ho rfl
    simp only [List.cons.injEq, Prod.mk.injEq, and_true] at h8
    omega
  · rintro ⟨h3, h4⟩
    have h5 := h2.2.2.2.1 h3
    obtain ⟨o2, a2, b2, n2, ho, h6, h7⟩ := hL.1 h5.1 h5.2
    obtain ⟨_, h8⟩ := List.append_inj' ho rfl
    simp only [List.cons.injEq, Prod.mk.injEq, and_true] at h8
    omega
theorem set_snoc {α : Type} (o : List α) (q q' : α) : (o ++ [q]).set o.length q' = o ++ [q'] := by simp
theorem extsTo_len (m : List Int) : ∀ i, (extsTo m i).length ≤ i
  | 0 => by simp [extsTo]
  | i + 1 => by
    have ih := extsTo_len m i
    rw [extsTo]
    split
    · omega
    · split
      · rcases List.eq_nil_or_concat (extsTo m i) with h | ⟨o, q, h⟩
        · rw [h]; simp [extGrow]
        · rw [List.concat_eq_append] at h
          rw [h, extGrow_snoc]
          rw [h] at ih
          simp only [List.length_append, List.length_cons, List.length_nil] at ih ⊢
          omega
      · simp only [List.length_append, List.length_cons, List.length_nil]; omega

/-- Cut at n: what is left, what is gone. -/
def cutTo (m : List Int) (n : Int) : Nat → List Int × List Int
  | 0 => (m, [])
  | i + 1 => let s := cutTo m n i
    if n ≤ (i : Int) ∧ 0 ≤ m.getD i (-1) then (s.1.set i (-1), s.2 ++ [m.getD i (-1)]) else s
theorem cutTo_len (m : List Int) (n : Int) : ∀ i, (cutTo m n i).1.length = m.length ∧ (cutTo m n i).2.length ≤ i
  | 0 => ⟨rfl, by simp [cutTo]⟩
  | i + 1 => by
    have ih := cutTo_len m n i
    simp only [cutTo]
    split
    · simp only [List.length_set, List.length_append, List.length_cons, List.length_nil]; omega
    · exact ⟨ih.1, by omega⟩
theorem cutTo_at (m : List Int) (n : Int) : ∀ i j, i ≤ j → (cutTo m n i).1[j]? = m[j]?
  | 0, j, _ => rfl
  | i + 1, j, h => by
    simp only [cutTo]
    split
    · simp only
      rw [List.getElem?_set_ne (by omega), cutTo_at m n i j (by omega)]
    · exact cutTo_at m n i j (by omega)
theorem cutTo_ok {m : List Int} (h : BlkOk m) (n : Int) : ∀ i, BlkOk (cutTo m n i).1
  | 0 => h
  | i + 1 => by
    simp only [cutTo]
    split
    · intro x hx
      rcases List.mem_or_eq_of_mem_set hx with h1 | rfl
      · exact cutTo_ok h n i x h1
      · omega
    · exact cutTo_ok h n i
def cutExts (l : List (Int × Int × Int)) (n : Int) : List (Int × Int × Int) := if eOk l then extsL (cutTo (flatL l) n 12).1 else []
def cutGone (l : List (Int × Int × Int)) (n : Int) : List Int := if eOk l then (cutTo (flatL l) n 12).2 else []
theorem extsL_len (m : List Int) : (extsL m).length ≤ m.length := extsTo_len m _
theorem cutExts_len (l : List (Int × Int × Int)) (n : Int) : (cutExts l n).length ≤ 12 := by
  unfold cutExts
  split
  · have h1 := extsL_len (cutTo (flatL l) n 12).1
    rwa [(cutTo_len (flatL l) n 12).1, flatL_len] at h1
  · simp
theorem cutGone_len (l : List (Int × Int × Int)) (n : Int) : (cutGone l n).length ≤ 12 := by
  unfold cutGone
  split
  · exact (cutTo_len (flatL l) n 12).2
  · simp
def blockAtL (l : List (Int × Int × Int)) (i : Int) : Int := if eOk l && inB i 0 11 then (flatL l).getD i.toNat (-1) else -1
end Go.Proofs.Ytbmoolmgfpcnkaa

namespace Go.Proofs.Ytbmoolmgfpcnkaa
open Go.RowKit


set_option maxHeartbeats 400000 in
theorem toBoolS_any (A : Option Addr) (n c : Nat) (l : List Bool) (w : World) (h : Rd w A n 1 (l.map Value.bool)) (hn : n ≤ 1048576) :
    Calls Try.prog 50 #[.slice A n c] w fun e w' => ∃ g, e = .returned (.slice (some ⟨g, 0, none⟩) n n) ∧ w'.ownsRow w.heap.size 4 1 (.slice (some ⟨g, 0, none⟩) n n) n (l.map Value.bool) ∧ Fr w w' := by
  obtain ⟨i0, hi, hz0, hz1, hz2⟩ := info_parts infoBool
  go_enter Try.func50, Try.ntmps50
  go_wp2_with (at_make; refine wpList_make_full _ rfl _ _ 22 rfl w.heap.size 4 i0 _ 1 Try.underlying22 hi hz0 hz1 _ _ _ _ n rfl rfl rfl rfl ?c1 ?c2 ?c3 ?_)
  case c1 => rw [hz2]; omega
  case c2 => simp only [maxLen]; omega
  case c3 => omega
  intro w1 hown hg
  have hw1 : Fr w w1 := Fr.of_grown hg
  clear hg
  rw [toList_madeCells_one] at hown
  go_wp2_with fail
  go_loopw [4] (fun i wr => ∃ k : Nat, k ≤ n ∧ i = .int .i64 k ∧ wr.ownsRow w.heap.size 4 1 (.slice (some ⟨w.heap.size, 0, none⟩) n n) n ((l.map Value.bool).take k ++ List.replicate (n - k) (.bool false)) ∧ Fr w wr)
    (fun i _ => n - (intOf i).toNat)
  case atStart => exact ⟨0, Nat.zero_le _, rfl, by simpa using hown, hw1⟩
  case round =>
    clear hown hw1
    obtain ⟨k, hk, rfl, hown, hfr⟩ := hrel
    by_cases hlt : k < n
    · obtain ⟨b, hb⟩ := some_at h.len1 hlt
      obtain ⟨bk, of, rfl, hc⟩ := (h.fr hfr).get1 hb
      have hst := hown.stored k (Value.bool b)
      rw [fill_step (l.map Value.bool) (.bool false) (Value.bool b) k n (by simpa using h.1) (by simp [hb])] at hst
      have HST := Lib.hid hst
      have hf := hown.frozenAt k
      have ⟨d, hd⟩ : ∃ d, wr.cell? ⟨w.heap.size, k, none⟩ = some d := by rw [hown.cellAt k (by omega)]; exact ⟨_, List.getElem?_eq_getElem (by have := h.len1; simp; omega)⟩
      have HF := Lib.hid hfr
      clear hst hown hfr hb h
      go_wp2
      go_roundw
      case rel => exact ⟨k + 1, by omega, by go_num, HST.out.1, Below.setCell HF.out (Nat.le_refl _) _⟩
      case measure => simp [intOf]; omega
    · obtain rfl : k = n := by omega
      have hx : (l.map Value.bool).take k = l.map Value.bool := List.take_of_length_le (by have := h.1; omega)
      rw [hx, Nat.sub_self, List.replicate_zero, List.append_nil] at hown
      go_wp2
      go_ret
      exact ⟨w.heap.size, rfl, hown, hfr⟩

set_option maxHeartbeats 400000 in
theorem eqBoolS_any (A B : Option Addr) (n m c d : Nat) (bs cs : List Bool) (w : World) (h : Rd w A n 1 (bs.map Value.bool)) (h' : Rd w B m 1 (cs.map Value.bool)) (hn : n ≤ 1048576) (hm : m ≤ 1048576) :
    Calls Try.prog 60 #[.slice A n c, .slice B m d] w fun e w' => e = .returned (.bool (decide (bs = cs))) ∧ Dr w w' := by
  have hl := h.len1
  have hl' := h'.len1
  have HL := Lib.hid hl
  have HL' := Lib.hid hl'
  clear hl hl'
  by_cases hnm : n = m
  · subst hnm
    go_enter Try.func60, Try.ntmps60
    go_wp2_with fail
    go_loopw [5] (fun i wr => ∃ k : Nat, k ≤ n ∧ i = .int .i64 k ∧ bs.take k = cs.take k ∧ Dr w wr) (fun i _ => n - (intOf i).toNat)
    case atStart => exact ⟨0, Nat.zero_le _, rfl, by simp, Dr.refl _⟩
    case round =>
      obtain ⟨k, hk, rfl, htake, hfr⟩ := hrel
      have HT := Lib.hid htake
      clear htake
      by_cases hlt : k < n
      · obtain ⟨x, hx⟩ := some_at HL.out hlt
        obtain ⟨y, hy⟩ := some_at HL'.out hlt
        obtain ⟨bk, of, rfl, hc⟩ := (h.fr hfr.fr).get1 hx
        obtain ⟨bk', of', rfl, hc'⟩ := (h'.fr hfr.fr).get1 hy
        have HX := Lib.hid hx
        have HY := Lib.hid hy
        have HF := Lib.hid hfr
        clear h h' hx hy hfr
        by_cases hxy : x = y
        · subst hxy
          go_wp2_with fail
          go_quiet (fail)
          go_wp2
          go_roundw
          case rel => exact ⟨k + 1, by omega, by go_num, take_eq_step HT.out HX.out HY.out, Dr.on HF.out _⟩
          case measure => simp [intOf]; omega
        · have hne : (x == y) = false := by simpa using hxy
          have e : bs ≠ cs := ne_of_at HX.out HY.out hxy
          have HE := Lib.hid e
          clear hxy e
          go_wp2_with fail
          go_quiet (fail)
          go_wp2
          go_ret
          exact ⟨by simp [HE.out], Dr.on HF.out _⟩
      · go_wp2
        go_ret
        have e : bs = cs := take_eq_all (n := n) (by rw [show n = k from by omega]; exact HT.out) HL.out HL'.out
        exact ⟨by simp [e], hfr⟩
  · go_enter Try.func60, Try.ntmps60
    go_wp2
    go_ret
    have e : bs ≠ cs := by rintro rfl; exact hnm (HL.out.symm.trans HL'.out)
    exact ⟨by simp [e], Dr.refl _⟩

/-- The marks of n elements, from the number k on. -/
def marksBool (n k : Nat) : List Bool := (List.range n).map fun (i : Nat) => (((k : Int) + (i : Int)) % 3 == 0)
theorem marksBool_at {n k i : Nat} (h : i < n) : (marksBool n k)[i]? = some ((((k : Int) + (i : Int)) % 3 == 0)) := by simp [marksBool, h]
theorem marksBool_take (n k i : Nat) (h : i ≤ n) : (marksBool n k).take i = marksBool i k := by
  rw [marksBool, marksBool, ← List.map_take, List.take_range, Nat.min_eq_left h]

set_option maxHeartbeats 1000000 in
theorem markBoolS_any (A : Option Addr) (n c k base : Nat) (xs : List Value) (w : World) (h : w.ownsRow base 4 1 (.slice A n c) n xs) (hn : n ≤ 16777216) (hk : k ≤ 1099511627776) :
    Calls Try.prog 63 #[.slice A n c, .int .i64 k] w fun e w' => e = .returned (.int .i64 ((k + n : Nat) : Int)) ∧ w'.ownsRow base 4 1 (.slice A n c) n ((marksBool n k).map Value.bool) ∧ w.grownBy w' (Value.slice A n c).ownBlock := by
  have hxl := h.1
  have HX := Lib.hid hxl
  have H := Lib.hid h
  clear hxl h
  go_enter Try.func63, Try.ntmps63
  go_wp2_with fail
  go_loopw [1, 5] (fun v i wr => ∃ j : Nat, j ≤ n ∧ i = .int .i64 j ∧ v = .int .i64 ((k + j : Nat) : Int) ∧ wr.ownsRow base 4 1 (.slice A n c) n ((marksBool j k).map Value.bool ++ xs.drop j) ∧ w.grownBy wr (Value.slice A n c).ownBlock)
    (fun _ i _ => n - (intOf i).toNat)
  case atStart => exact ⟨0, Nat.zero_le _, rfl, by simp, by simpa [marksBool] using H.out, World.grownBy.refl _ _⟩
  case round =>
    obtain ⟨i, hi, rfl, rfl, hown, hgr⟩ := hrel
    by_cases hlt : i < n
    · obtain ⟨g, rfl, _, _⟩ := own_form hown (by omega)
      have hst := (hown.stored i (Value.bool ((((k : Int) + (i : Int)) % 3 == 0)))).1
      have hse := sets_elem (f := fun x => [Value.bool x]) (K := 1) (l := marksBool n k) (x := (((k : Int) + (i : Int)) % 3 == 0)) (fun _ => rfl) (marksBool_at hlt) HX.out hlt
      rw [marksBool_take _ _ _ (by omega), marksBool_take _ _ _ (by omega), ← List.map_eq_flatMap, ← List.map_eq_flatMap, Nat.mul_one, Nat.mul_one] at hse
      have HST := Lib.hid hst
      have HSE := Lib.hid hse
      have HG := Lib.hid hgr
      have hf0 := hown.frozenAt i
      have ⟨d0, hd0⟩ : ∃ d, wr.cell? ⟨g, i, none⟩ = some d := by rw [hown.cellAt _ (by omega)]; exact ⟨_, List.getElem?_eq_getElem (by have := hown.1; omega)⟩
      clear hst hse hown hgr
      go_wp2
      go_roundw
      case rel => exact ⟨i + 1, by omega, by go_num, by rw [← Nat.add_assoc]; go_num, by rw [← HSE.out]; simpa [sets] using HST.out, grown_set HG.out⟩
      case measure => simp [intOf]; omega
    · obtain rfl : i = n := by omega
      rw [List.drop_of_length_le (by have := HX.out; omega), List.append_nil] at hown
      go_wp2
      go_ret
      exact ⟨rfl, hown, hgr⟩

set_option maxHeartbeats 1000000 in
theorem heldBoolS_any (A : Option Addr) (n c k : Nat) (w : World) (h : Rd w A n 1 ((marksBool n k).map Value.bool)) (hn : n ≤ 16777216) (hk : k ≤ 1099511627776) :
    Calls Try.prog 66 #[.slice A n c, .int .i64 k] w fun e w' => e = .returned (.int .i64 ((k + n : Nat) : Int)) ∧ Fr w w' := by
  go_enter Try.func66, Try.ntmps66
  go_wp2_with fail
  go_loopw [1, 5] (fun v i wr => ∃ j : Nat, j ≤ n ∧ i = .int .i64 j ∧ v = .int .i64 ((k + j : Nat) : Int) ∧ Fr w wr) (fun _ i _ => n - (intOf i).toNat)
  case atStart => exact ⟨0, Nat.zero_le _, rfl, by simp, Below.refl _ _⟩
  case round =>
    obtain ⟨i, hi, rfl, rfl, hfr⟩ := hrel
    by_cases hlt : i < n
    · obtain ⟨bk, of, rfl, hc⟩ := (h.fr hfr).get1 (marksBool_at hlt)
      have ca : wr.cell? ⟨bk, of + i, none⟩ = some (.bool (((k : Int) + (i : Int)) % 3 == 0)) := by simpa using hc
      have HF := Lib.hid hfr
      clear h hc hfr
      go_wp2
      go_roundw
      case rel => exact ⟨i + 1, by omega, by go_num, by rw [← Nat.add_assoc]; go_num, HF.out⟩
      case measure => simp [intOf]; omega
    · obtain rfl : i = n := by omega
      go_wp2
      go_ret
      exact ⟨rfl, hfr⟩

theorem szBoolS_fr (A : Option Addr) (n c : Nat) (left : Int) (w : World) (hn : n ≤ 9223372036854775807) (h0 : 0 ≤ left) (h1 : left ≤ 1048576) :
    Calls Try.prog 40 #[.slice A n c, .int .i64 left] w fun e w' => e = .returned (.int .i64 (szOf left n)) ∧ Fr w w' := by
  by_cases hlt : left < n
  all_goals
    go_enter Try.func40, Try.ntmps40
    go_wp2
    go_ret
    exact ⟨ret_int (by unfold szOf; split <;> omega), Below.refl _ _⟩

end Go.Proofs.Ytbmoolmgfpcnkaa


namespace Go.Proofs.Ytbmoolmgfpcnkaa

/-- The program's rows: signs, letters, mark. -/
def rowTbl : List (List Int × List Int × Int) :=
  [([192, 200, 204, 210, 217, 224, 232, 236, 242, 249], [65, 69, 73, 79, 85, 97, 101, 105, 111, 117], 768),
   ([193, 201, 205, 211, 218, 221, 225, 233, 237, 243, 250, 253], [65, 69, 73, 79, 85, 89, 97, 101, 105, 111, 117, 121], 769),
   ([194, 202, 206, 212, 219, 226, 234, 238, 244, 251], [65, 69, 73, 79, 85, 97, 101, 105, 111, 117], 770),
   ([195, 209, 213, 227, 241, 245], [65, 78, 79, 97, 110, 111], 771),
   ([196, 203, 207, 214, 220, 228, 235, 239, 246, 252, 255], [65, 69, 73, 79, 85, 97, 101, 105, 111, 117, 121], 776),
   ([197, 229], [65, 97], 778),
   ([199, 231], [67, 99], 807),
   ([902, 904, 905, 906, 908, 910, 911], [913, 917, 919, 921, 927, 933, 937], 769),
   ([940, 941, 942, 943, 972, 973, 974], [945, 949, 951, 953, 959, 965, 969], 769),
   ([469, 470], [220, 252], 772),
   ([7840, 7841], [65, 97], 803),
   ([7852, 7853], [7840, 7841], 770),
   ([8486, 8491], [937, 197], 0)]
/-- The reference's eight rows: signs, letters (bytes), mark. -/
def rows8 : List (List Int × List UInt8 × Int) :=
  [([192, 200, 204, 210, 217, 224, 232, 236, 242, 249], [65, 69, 73, 79, 85, 97, 101, 105, 111, 117], 768),
   ([193, 201, 205, 211, 218, 221, 225, 233, 237, 243, 250, 253], [65, 69, 73, 79, 85, 89, 97, 101, 105, 111, 117, 121], 769),
   ([194, 202, 206, 212, 219, 226, 234, 238, 244, 251], [65, 69, 73, 79, 85, 97, 101, 105, 111, 117], 770),
   ([195, 209, 213, 227, 241, 245], [65, 78, 79, 97, 110, 111], 771),
   ([196, 203, 207, 214, 220, 228, 235, 239, 246, 252, 255], [65, 69, 73, 79, 85, 97, 101, 105, 111, 117, 121], 776),
   ([197, 229], [65, 97], 778),
   ([199, 231], [67, 99], 807),
   ([7840, 7841], [65, 97], 803)]
def greekP : List (Int × Int) := [(902, 913), (904, 917), (905, 919), (906, 921), (908, 927), (910, 933), (911, 937), (940, 945), (941, 949), (942, 951), (943, 953), (972, 959), (973, 965), (974, 969)]
def casesP : List (Int × List Int) := [(469, [220, 772]), (470, [252, 772]), (7852, [7840, 770]), (7853, [7841, 770]), (8486, [937]), (8491, [197])]
def hangulP (c : Int) : List Int := [4352 + (c - 44032) / 588, 4449 + (c - 44032) % 588 / 28] ++ if 0 < (c - 44032) % 28 then [4519 + (c - 44032) % 28] else []
/-- What is at c's place of a row. -/
def rowHit (c : Int) : List Int → List UInt8 → Int → List Int
  | x :: xs, y :: ys, m => if x = c then [(y.toNat : Int), m] else rowHit c xs ys m
  | _, _, _ => []
def pickP (c : Int) : List Int :=
  match (rows8.map fun r => rowHit c r.1 r.2.1 r.2.2).find? (fun l => decide (0 < l.length)) with
  | some l => l
  | none => match greekP.find? (fun p => decide (p.1 = c)) with
    | some p => [p.2, 769]
    | none => match casesP.find? (fun p => decide (p.1 = c)) with
      | some p => p.2
      | none => []
/-- The parts of a sign. -/
def partsS (c : Int) : List Int := if 0 < (pickP c).length then pickP c else if inB c 44032 55203 then hangulP c else []

theorem rowHit_at {c : Int} {m : Int} : ∀ {xs : List Int} {ys : List UInt8} {k : Nat} {y : UInt8}, xs[k]? = some c → ys[k]? = some y → (∀ (j : Nat) (x : Int), j < k → xs[j]? = some x → x ≠ c) → rowHit c xs ys m = [(y.toNat : Int), m]
  | [], _, k, _, h, _, _ => by simp at h
  | _ :: _, [], k, _, _, h, _ => by simp at h
  | x :: xs, y' :: ys, 0, y, h, h', _ => by
    simp only [List.getElem?_cons_zero, Option.some.injEq] at h h'
    subst h h'
    simp [rowHit]
  | x :: xs, y' :: ys, k + 1, y, h, h', hn => by
    simp only [List.getElem?_cons_succ] at h h'
    have h0 := hn 0 x (by omega) rfl
    rw [rowHit, if_neg h0]
    exact rowHit_at h h' fun j z hj hz => hn (j + 1) z (by omega) (by simpa using hz)
theorem rowHit_no {c : Int} {m : Int} : ∀ {xs : List Int} {ys : List UInt8}, (∀ x ∈ xs, x ≠ c) → rowHit c xs ys m = []
  | [], _, _ => by simp [rowHit]
  | _ :: _, [], _ => by simp [rowHit]
  | x :: xs, y' :: ys, hn => by
    rw [rowHit, if_neg (hn x (by simp))]
    exact rowHit_no fun z hz => hn z (by simp [hz])
theorem find_first {α : Type} {p : α → Bool} : ∀ {l : List α} {k : Nat} {x : α}, l[k]? = some x → p x = true → (∀ (j : Nat) (y : α), j < k → l[j]? = some y → p y = false) → l.find? p = some x
  | [], _, _, h, _, _ => by simp at h
  | y :: l, 0, x, h, hp, _ => by
    simp only [List.getElem?_cons_zero, Option.some.injEq] at h
    subst h
    simp [hp]
  | y :: l, k + 1, x, h, hp, hn => by
    rw [List.find?_cons, hn 0 y (by omega) rfl]
    exact find_first (by simpa using h) hp fun j z hj hz => hn (j + 1) z (by omega) (by simpa using hz)
theorem find_none {α : Type} {p : α → Bool} {l : List α} (h : ∀ (j : Nat) (y : α), l[j]? = some y → p y = false) : l.find? p = none := by
  rw [List.find?_eq_none]
  intro x hx
  obtain ⟨j, hj⟩ := List.mem_iff_getElem?.1 hx
  simp [h j x hj]
/-- A sign of the reference's rows. -/
theorem parts_row {c : Int} {i : Nat} {r : List Int × List UInt8 × Int} {l : List Int} (hr : rows8[i]? = some r) (hl : l = rowHit c r.1 r.2.1 r.2.2) (h0 : 0 < l.length) (hn : ∀ (j : Nat) (r' : List Int × List UInt8 × Int), j < i → rows8[j]? = some r' → rowHit c r'.1 r'.2.1 r'.2.2 = []) : partsS c = l := by
  have hf : (rows8.map fun r => rowHit c r.1 r.2.1 r.2.2).find? (fun l => decide (0 < l.length)) = some l := by
    refine find_first (k := i) (by rw [List.getElem?_map, hr, hl]; rfl) (by simpa using h0) fun j y hj hy => ?_
    rw [List.getElem?_map] at hy
    cases hr' : rows8[j]? with
    | none => rw [hr'] at hy; cases hy
    | some r' =>
      rw [hr'] at hy
      simp only [Option.map_some, Option.some.injEq] at hy
      rw [← hy, hn j r' hj hr']
      rfl
  have hp : pickP c = l := by rw [pickP, hf]
  rw [partsS, hp, if_pos h0]
def NoRow (c : Int) : Prop := ∀ (j : Nat) (r' : List Int × List UInt8 × Int), rows8[j]? = some r' → rowHit c r'.1 r'.2.1 r'.2.2 = []
theorem noRow_pick {c : Int} (h : NoRow c) : (rows8.map fun r => rowHit c r.1 r.2.1 r.2.2).find? (fun l => decide (0 < l.length)) = none := by
  refine find_none fun j y hy => ?_
  rw [List.getElem?_map] at hy
  cases hr' : rows8[j]? with
  | none => rw [hr'] at hy; cases hy
  | some r' =>
    rw [hr'] at hy
    simp only [Option.map_some, Option.some.injEq] at hy
    rw [← hy, h j r' hr']
    rfl
theorem parts_greek {c : Int} {k : Nat} {b : Int} (h : NoRow c) (hk : greekP[k]? = some (c, b)) (hn : ∀ (j : Nat) (p : Int × Int), j < k → greekP[j]? = some p → p.1 ≠ c) : partsS c = [b, 769] := by
  have hf : greekP.find? (fun p => decide (p.1 = c)) = some (c, b) := find_first hk (by simp) fun j y hj hy => by simpa using hn j y hj hy
  have hp : pickP c = [b, 769] := by rw [pickP, noRow_pick h, hf]
  rw [partsS, hp]
  rfl
def NoGreek (c : Int) : Prop := ∀ (j : Nat) (p : Int × Int), greekP[j]? = some p → p.1 ≠ c
theorem noGreek_find {c : Int} (h : NoGreek c) : greekP.find? (fun p => decide (p.1 = c)) = none := find_none fun j y hy => by simpa using h j y hy
theorem parts_case {c : Int} {l : List Int} (h : NoRow c) (hg : NoGreek c) (hl : casesP.find? (fun p => decide (p.1 = c)) = some (c, l)) (h0 : 0 < l.length) : partsS c = l := by
  have hp : pickP c = l := by rw [pickP, noRow_pick h, noGreek_find hg, hl]
  rw [partsS, hp, if_pos h0]
theorem parts_rest {c : Int} (h : NoRow c) (hg : NoGreek c) (hl : casesP.find? (fun p => decide (p.1 = c)) = none) : partsS c = if inB c 44032 55203 then hangulP c else [] := by
  have hp : pickP c = [] := by rw [pickP, noRow_pick h, noGreek_find hg, hl]
  rw [partsS, hp]
  rfl

/-- The pairs that make a sign (beside the Hangul ones). -/
def pairT : List ((Int × Int) × Int) := rowTbl.flatMap fun r => if 0 < r.2.2 then (r.2.1.zip r.1).map fun x => ((x.1, r.2.2), x.2) else []
def candS : List (Int × Int) := [(192, 255), (469, 470), (902, 974), (7840, 7853)]
def lookT (a b : Int) : Option Int := (pairT.find? fun e => decide (e.1 = (a, b))).map (·.2)
/-- What Pair comes to. -/
def pairF (a b : Int) : Int × Bool :=
  if inB a 4352 4370 && inB b 4449 4469 then (44032 + 588 * (a - 4352) + 28 * (b - 4449), true)
  else if (inB a 44032 55203 && decide ((a - 44032) % 28 = 0)) && inB b 4520 4546 then (a + b - 4519, true)
  else match lookT a b with
    | some c => (c, true)
    | none => (0, false)
theorem look_none {a b : Int} (h : ∀ e ∈ pairT, e.1 ≠ (a, b)) : lookT a b = none := by
  rw [lookT, List.find?_eq_none.2 (by intro e he; simpa using h e he)]
  rfl
theorem look_mem {a b : Int} {e : (Int × Int) × Int} (h : e ∈ pairT) (hk : e.1 = (a, b)) : ∃ c, lookT a b = some c := by
  cases hl : pairT.find? fun e => decide (e.1 = (a, b)) with
  | none => exact absurd hk (by simpa using List.find?_eq_none.1 hl e h)
  | some y => exact ⟨y.2, by rw [lookT, hl]; rfl⟩
/-- The program's rows: a letter of a row that has a mark. -/
def rowsGood : Bool := rowTbl.all fun r => decide (r.1.length = r.2.1.length) && (decide (¬ 0 < r.2.2) || (r.2.1.zip r.1).all fun x => lookT x.1 r.2.2 == some x.2)
theorem rows_good : rowsGood = true := by decide +kernel
theorem pair_row {a b : Int} {i k : Nat} {r : List Int × List Int × Int} {c : Int} (hr : rowTbl[i]? = some r) (hk : r.2.1[k]? = some a) (hc : r.1[k]? = some c) (hm : r.2.2 = b) (hb : 0 < b) : lookT a b = some c := by
  have h1 := List.all_eq_true.1 rows_good r (List.mem_of_getElem? hr)
  simp only [Bool.and_eq_true, Bool.or_eq_true, decide_eq_true_eq] at h1
  rcases h1.2 with h2 | h2
  · omega
  · have h3 := List.all_eq_true.1 h2 (a, c) (List.mem_of_getElem? (i := k) (by rw [List.getElem?_zip_eq_some]; exact ⟨hk, hc⟩))
    rw [← hm]
    simpa using h3
theorem rows_len {i : Nat} {r : List Int × List Int × Int} (hr : rowTbl[i]? = some r) : r.1.length = r.2.1.length := by
  have h1 := List.all_eq_true.1 rows_good r (List.mem_of_getElem? hr)
  simp only [Bool.and_eq_true, decide_eq_true_eq] at h1
  exact h1.1
theorem pair_norow {a b : Int} (h : ∀ (i : Nat) (r : List Int × List Int × Int), rowTbl[i]? = some r → 0 < r.2.2 → r.2.2 = b → a ∉ r.2.1) : lookT a b = none := by
  refine look_none fun e he hk => ?_
  obtain ⟨r, hr, he⟩ := List.mem_flatMap.1 he
  split at he
  · rename_i hm
    obtain ⟨x, hx, rfl⟩ := List.mem_map.1 he
    simp only [Prod.mk.injEq] at hk
    obtain ⟨i, hi⟩ := List.mem_iff_getElem?.1 hr
    exact h i r hi hm hk.2 (hk.1 ▸ (List.of_mem_zip hx).1)
  · simp at he
/-- The reference's search: a sign of the four stretches that has just these parts. -/
def candGood : Bool := (candS.all fun p => (List.range (p.2 - p.1 + 1).toNat).all fun (j : Nat) => match partsS (p.1 + (j : Int)) with
  | [x, y] => lookT x y == some (p.1 + (j : Int))
  | _ => true) && pairT.all fun e => decide (partsS e.2 = [e.1.1, e.1.2]) && candS.any fun p => inB e.2 p.1 p.2
theorem cand_good : candGood = true := by decide +kernel
theorem pair_cand {a b c : Int} {p : Int × Int} (hp : p ∈ candS) (hc : p.1 ≤ c ∧ c ≤ p.2) (h : partsS c = [a, b]) : lookT a b = some c := by
  have h1 := cand_good
  rw [candGood, Bool.and_eq_true] at h1
  have h2 := List.all_eq_true.1 (List.all_eq_true.1 h1.1 p hp) (c - p.1).toNat (by rw [List.mem_range]; omega)
  rw [show p.1 + ((c - p.1).toNat : Int) = c by omega, h] at h2
  simpa using h2
theorem pair_nocand {a b : Int} (h : ∀ p ∈ candS, ∀ c, p.1 ≤ c → c ≤ p.2 → partsS c ≠ [a, b]) : lookT a b = none := by
  have h1 := cand_good
  rw [candGood, Bool.and_eq_true] at h1
  refine look_none fun e he hk => ?_
  have h2 := List.all_eq_true.1 h1.2 e he
  simp only [Bool.and_eq_true, decide_eq_true_eq, List.any_eq_true, inB_iff] at h2
  obtain ⟨h3, p, hp, h4, h5⟩ := h2
  refine h p hp e.2 h4 h5 ?_
  rw [h3, hk]
end Go.Proofs.Ytbmoolmgfpcnkaa

namespace Go.Proofs.Ytbmoolmgfpcnkaa
open Go.RowKit

theorem toB_at' {s : ByteArray} {j : Nat} {b : UInt8} (h : (toB s)[j]? = some b) (hj : j < s.size) : s[j] = b := by
  have h1 : (toB s)[j]? = some (s.data[j]'hj) := by
    rw [toB, Array.getElem?_toList]; exact Array.getElem?_eq_getElem hj
  rw [h] at h1
  injection h1 with h1
  exact h1.symm
def bI (b : UInt8) : Int := (b.toNat : Int)
def sigL (s : ByteArray) : List Int := (toB s).map bI
theorem sigL_len (s : ByteArray) : (sigL s).length = s.size := by rw [sigL, List.length_map, toB_len]
theorem alloc_size (w : World) (cs : Array Value) (t : TypeId) : (w.alloc (.cells cs t)).heap.size = w.heap.size + 1 := Array.size_push _

set_option linter.unusedVariables false
def RowD (w : World) (fs ls : List Int) (m : Int) (e : Ending) (w' : World) : Prop :=
  ∃ A c B d, e = .returned (.tuple #[.slice A fs.length c, .slice B ls.length d, .int .i64 m]) ∧ Hp [] w w' [.row 3 1 (.slice B ls.length d) ls.length (ls.map (Value.int .i64)), .row 3 1 (.slice A fs.length c) fs.length (fs.map (Value.int .i64))]

set_option maxRecDepth 100000 in
set_option maxHeartbeats 2000000 in
/-- slices.Index on ints. -/
theorem index_any (A : Option Addr) (n c : Nat) (l : List Int) (x : Int) (w : World) (h : Rd w A n 1 (l.map (Value.int .i64))) (hn : n ≤ 1048576) :
    Calls Try.prog 96 #[.slice A n c, .int .i64 x] w fun e w' => ∃ r : Int, e = .returned (.int .i64 r) ∧ ((r = -1 ∧ x ∉ l) ∨ ∃ k : Nat, r = k ∧ k < n ∧ l[k]? = some x) ∧ w = w' := by
  have HL := Lib.hid h.len1
  have G := Lib.hid h
  clear h
  go_enter Try.func96, Try.ntmps96
  go_wp2_with fail
  go_loopw [5, 8] (fun jv iv wr => ∃ i : Nat, iv = .int .i64 i ∧ i ≤ n ∧ x ∉ l.take i ∧ wr = w) (fun _ iv _ => n - (intOf iv).toNat)
  case atStart => exact ⟨0, rfl, by omega, by simp, rfl⟩
  case round =>
    obtain ⟨i, rfl, hi, hno, rfl⟩ := hrel
    by_cases hlt : i < n
    · obtain ⟨y, hy⟩ := some_at HL.out hlt
      obtain ⟨bk, of, rfl, hc⟩ := G.out.get1 hy
      have hi0 : (0 : Int) ≤ (i : Int) := by omega
      have hi1 : (i : Int) < (n : Int) := by omega
      have HY := Lib.hid hy
      have HO := Lib.hid hno
      clear hy hno
      by_cases hxy : x = y
      · subst hxy
        go_wp2_with fail
        go_ret
        exact ⟨_, rfl, Or.inr ⟨i, rfl, hlt, HY.out⟩, rfl⟩
      · go_wp2_with fail
        go_roundw
        case rel => exact ⟨i + 1, by go_num, by omega, by rw [At.take HY.out, List.mem_append, not_or]; exact ⟨HO.out, by simpa using hxy⟩, trivial⟩
        case measure => simp [intOf]; omega
    · have HO := Lib.hid hno
      clear hno
      go_wp2_with fail
      go_ret
      refine ⟨_, rfl, Or.inl ⟨rfl, ?_⟩, rfl⟩
      have := HO.out
      rwa [List.take_of_length_le (by rw [HL.out]; omega)] at this

end Go.Proofs.Ytbmoolmgfpcnkaa

namespace Go.Proofs.Ytbmoolmgfpcnkaa
open Go.RowKit

def Ups (k : Nat) (ys : List Int) : Prop := ∀ p q x y, p < q → q < k → ys[p]? = some x → ys[q]? = some y → x ≤ y
def Exc (k j : Nat) (ys : List Int) : Prop := ∀ p q x y, p < q → q ≤ k → q ≠ j → ys[p]? = some x → ys[q]? = some y → x ≤ y
theorem Exc.start {k : Nat} {ys : List Int} (h : Ups k ys) : Exc k k ys := fun p q x y h1 h2 h3 hx hy => h p q x y h1 (by omega) hx hy
theorem Exc.stop {k j : Nat} {ys : List Int} (h : Exc k j ys) (hj : j = 0 ∨ ∃ x y, ys[j - 1]? = some x ∧ ys[j]? = some y ∧ x ≤ y ∧ 0 < j) : Ups (k + 1) ys := by
  intro p q x y h1 h2 hx hy
  by_cases hq : q = j
  · subst hq
    rcases hj with h0 | ⟨x', y', hx', hy', hxy, hj0⟩
    · omega
    · rw [hy] at hy'
      injection hy' with hy'
      subst hy'
      by_cases hp : p = q - 1
      · subst hp
        rw [hx] at hx'
        injection hx' with hx'
        omega
      · have := h p (q - 1) x x' (by omega) (by omega) (by omega) hx hx'
        omega
  · exact h p q x y h1 (by omega) hq hx hy
/-- Places j - 1 and j exchanged. -/
def swp (ys : List Int) (j : Nat) (x y : Int) : List Int := (ys.set j x).set (j - 1) y
theorem swp_at {ys : List Int} {j : Nat} {x y : Int} (hx : ys[j - 1]? = some x) (hy : ys[j]? = some y) (hj : 0 < j) (p : Nat) : (swp ys j x y)[p]? = if p = j - 1 then some y else if p = j then some x else ys[p]? := by
  have hjl := (List.getElem?_eq_some_iff.1 hy).1
  unfold swp
  rw [List.getElem?_set, List.getElem?_set]
  by_cases h1 : p = j - 1
  · subst h1; simp; omega
  · by_cases h2 : p = j
    · subst h2
      rw [if_neg (by omega), if_pos rfl, if_pos hjl, if_neg h1, if_pos rfl]
    · rw [if_neg (by omega), if_neg (by omega), if_neg h1, if_neg h2]
theorem Exc.swap {k j : Nat} {ys : List Int} {x y : Int} (h : Exc k j ys) (hx : ys[j - 1]? = some x) (hy : ys[j]? = some y) (hj : 0 < j) (hjk : j ≤ k) (hlt : y < x) : Exc k (j - 1) (swp ys j x y) := by
  intro p q u v h1 h2 h3 hu hv
  rw [swp_at hx hy hj] at hu hv
  rw [if_neg h3] at hv
  by_cases hq : q = j
  · rw [if_pos hq] at hv
    injection hv with hv
    subst hv
    by_cases hp : p = j - 1
    · rw [if_pos hp] at hu
      injection hu with hu
      omega
    · rw [if_neg hp, if_neg (by omega)] at hu
      exact h p (j - 1) u x (by omega) (by omega) (by omega) hu hx
  · rw [if_neg hq] at hv
    by_cases hp : p = j - 1
    · rw [if_pos hp] at hu
      injection hu with hu
      subst hu
      exact h j q y v (by omega) h2 hq hy hv
    · rw [if_neg hp] at hu
      by_cases hp2 : p = j
      · rw [if_pos hp2] at hu
        injection hu with hu
        subst hu
        exact h (j - 1) q x v (by omega) h2 hq hx hv
      · rw [if_neg hp2] at hu
        exact h p q u v h1 h2 hq hu hv
theorem swp_perm {ys : List Int} {j : Nat} {x y : Int} (hx : ys[j - 1]? = some x) (hy : ys[j]? = some y) (hj : 0 < j) : (swp ys j x y).Perm ys := by
  obtain ⟨i, rfl⟩ : ∃ i, j = i + 1 := ⟨j - 1, by omega⟩
  simp only [Nat.add_sub_cancel] at hx
  have e : ys = ys.take i ++ x :: y :: ys.drop (i + 2) := by
    have h1 : ys.drop i = x :: ys.drop (i + 1) := by
      obtain ⟨hk, rfl⟩ := List.getElem?_eq_some_iff.1 hx
      exact List.drop_eq_getElem_cons hk
    have h2 : ys.drop (i + 1) = y :: ys.drop (i + 2) := by
      obtain ⟨hk, rfl⟩ := List.getElem?_eq_some_iff.1 hy
      exact List.drop_eq_getElem_cons hk
    rw [← h2, ← h1, List.take_append_drop]
  have hl : (ys.take i).length = i := by have := (List.getElem?_eq_some_iff.1 hx).1; rw [List.length_take]; omega
  have e2 : swp ys (i + 1) x y = ys.take i ++ y :: x :: ys.drop (i + 2) := by
    unfold swp
    simp only [Nat.add_sub_cancel]
    conv => lhs; rw [e]
    rw [List.set_append, if_neg (by omega), hl, show i + 1 - i = 1 from by omega, List.set_cons_succ, List.set_cons_zero, List.set_append, if_neg (by omega), hl, Nat.sub_self, List.set_cons_zero]
  rw [e2]
  conv => rhs; rw [e]
  exact List.Perm.append_left _ (List.Perm.swap _ _ _)

theorem isNaN_any (x : Int) (w : World) : Calls Try.prog 119 #[.int .i64 x] w fun e w' => e = .returned (.bool false) ∧ w' = w := by
  go_enter Try.func119, Try.ntmps119
  go_wp2
  go_ret
  exact ⟨rfl, rfl⟩
theorem less_any (x y : Int) (w : World) : Calls Try.prog 109 #[.int .i64 x, .int .i64 y] w fun e w' => e = .returned (.bool (decide (x < y))) ∧ w' = w := by
  go_enter Try.func109, Try.ntmps109
  go_wp2_with fail
  refine (isNaN_any x _).mono ?_
  rintro e w' ⟨rfl, rfl⟩
  go_wp2
  go_ret
  exact ⟨rfl, rfl⟩

set_option maxRecDepth 100000 in
set_option maxHeartbeats 4000000 in
theorem isort_any (g n c base : Nat) (xs : List Int) (w : World) (h : w.ownsRow base 3 1 (.slice (some ⟨g, 0, none⟩) n c) n (xs.map (Value.int .i64))) (hn : n ≤ 1000) :
    Calls Try.prog 103 #[.slice (some ⟨g, 0, none⟩) n c, .int .i64 0, .int .i64 n] w fun e w' => ∃ ys : List Int, e = .returned (.tuple #[]) ∧ ys.Perm xs ∧ Ups n ys ∧ Hp [g] w w' [.row 3 1 (.slice (some ⟨g, 0, none⟩) n c) n (ys.map (Value.int .i64))] := by
  have H0 : Hp [g] w w [.row 3 1 (.slice (some ⟨g, 0, none⟩) n c) n (xs.map (Value.int .i64))] := Hp.start_row h
  have HL := Lib.hid (show xs.length = n by have := h.1; simpa using this)
  clear h
  go_enter Try.func103, Try.ntmps103
  go_wp2_with fail
  go_loopw [6] (fun i wr => ∃ (k : Nat) (ys : List Int), i = .int .i64 k ∧ 1 ≤ k ∧ (k ≤ n ∨ k = 1) ∧ ys.Perm xs ∧ Ups k ys ∧ Hp [g] w wr [.row 3 1 (.slice (some ⟨g, 0, none⟩) n c) n (ys.map (Value.int .i64))]) (fun i _ => n - (intOf i).toNat)
  case atStart => exact ⟨1, xs, rfl, by omega, .inr rfl, List.Perm.refl _, fun p q x y h1 h2 => by omega, H0⟩
  case round =>
    clear H0
    obtain ⟨k, ys, rfl, hk1, hk2, hp, hu, H⟩ := hrel
    by_cases hlt : k < n
    · obtain ⟨wo, rfl⟩ : ∃ wo : World, wo = wr := ⟨_, rfl⟩
      have HP := Lib.hid hp
      have HU := Lib.hid hu
      clear hp hu
      go_wp2_with fail
      go_loopw [7] (fun v wi => ∃ (j : Nat) (zs : List Int), v = .int .i64 j ∧ j ≤ k ∧ zs.Perm xs ∧ Exc k j zs ∧ Hp [g] w wi [.row 3 1 (.slice (some ⟨g, 0, none⟩) n c) n (zs.map (Value.int .i64))]) (fun v _ => (intOf v).toNat)
      case atStart => exact ⟨k, ys, rfl, Nat.le_refl _, HP.out, .start HU.out, H⟩
      case round =>
        clear H HP HU
        obtain ⟨j, zs, rfl, hj, hp, hex, H⟩ := hrel
        have HP := Lib.hid hp
        have HE := Lib.hid hex
        have hzl : zs.length = n := by rw [hp.length_eq]; exact HL.out
        have HZ := Lib.hid hzl
        clear hp hex hzl
        rcases Nat.eq_zero_or_pos j with hj0 | hj0
        · subst hj0
          have HUP := Lib.hid (HE.out.stop (.inl rfl))
          go_wp2_with fail
          refine wp_region_quiet_lit (by kernel_rfl) (by kernel_rfl) ?_
          repeat (any_goals (first | go_big_quiet_step ((fail)) | quiet_step ((fail)) | (refine wpQuiet_step (fun K hK => ?_); go_simp; split <;> (refine hK _ ?_; clear hK K))))
          all_goals (refine wpQuiet_nil ?_; intro _ hw_; obtain ⟨nq, hw__⟩ := hw_; subst hw__)
          go_wp2_with fail
          go_roundw
          case rel => exact ⟨k + 1, zs, by go_num, by omega, by omega, HP.out, HUP.out, H.on nq⟩
          case measure => simp [intOf]; omega
        · obtain ⟨y, hy⟩ := at_some HZ.out (show j < n by omega)
          obtain ⟨x, hx⟩ := at_some HZ.out (show j - 1 < n by omega)
          obtain ⟨j, rfl⟩ : ∃ q, j = q + 1 := ⟨j - 1, by omega⟩
          simp only [Nat.add_sub_cancel] at hx
          have cy := H.atM 0 rfl hy
          have cx := H.atM 0 rfl hx
          have fy := H.free 0 rfl (j + 1)
          have fx := H.free 0 rfl j
          have hj1 : (0 : Int) < ((j + 1 : Nat) : Int) := by omega
          have hw1 : IntKind.i64.wrap ((j : Int)) = (j : Int) := IntWalk.i64_in _ (by omega)
          have hi0 : (0 : Int) ≤ (j : Int) + 1 := by omega
          have hi1 : (j : Int) + 1 < (n : Int) := by omega
          have hi2 : (0 : Int) ≤ (j : Int) := by omega
          have hi3 : (j : Int) < (n : Int) := by omega
          by_cases hxy : y < x
          · have hd : decide (y < x) = true := by simpa using hxy
            go_wp2_with fail
            refine wp_region_quiet_lit (by kernel_rfl) (by kernel_rfl) ?_
            repeat (any_goals (first | go_big_quiet_step ((go_at_call 109; exact Calls.quiet_of_same (less_any y x _))) | quiet_step ((go_at_call 109; exact Calls.quiet_of_same (less_any y x _))) | (refine wpQuiet_step (fun K hK => ?_); go_simp; split <;> (refine hK _ ?_; clear hK K))))
            all_goals (refine wpQuiet_nil ?_; intro _ hw_; obtain ⟨nq, hw__⟩ := hw_; subst hw__)
            go_wp2_with fail
            replace H := H.on nq
            obtain ⟨w8, hw8⟩ : ∃ q : World, q = wr.drewN nq := ⟨_, rfl⟩
            rw [← hw8] at H ⊢
            clear hw8 cx cy fx fy
            have cy := H.atM 0 rfl hy
            have cx := H.atM 0 rfl hx
            have fy := H.free 0 rfl (j + 1)
            have fx := H.free 0 rfl j
            go_region
            go_wp2_with fail
            have H9 := Lib.hid ((H.putM 0 rfl (j + 1) x).putM 0 rfl j y).drew
            go_roundw
            case rel => exact ⟨j, swp zs (j + 1) x y, rfl, by omega, (swp_perm (j := j + 1) hx hy (by omega)).trans HP.out, HE.out.swap (j := j + 1) hx hy (by omega) hj hxy, H9.out⟩
            case measure => simp [intOf]
          · have hd : decide (y < x) = false := by simpa using hxy
            have HUP := Lib.hid (HE.out.stop (.inr ⟨x, y, hx, hy, by omega, by omega⟩))
            go_wp2_with fail
            refine wp_region_quiet_lit (by kernel_rfl) (by kernel_rfl) ?_
            repeat (any_goals (first | go_big_quiet_step ((go_at_call 109; exact Calls.quiet_of_same (less_any y x _))) | quiet_step ((go_at_call 109; exact Calls.quiet_of_same (less_any y x _))) | (refine wpQuiet_step (fun K hK => ?_); go_simp; split <;> (refine hK _ ?_; clear hK K))))
            all_goals (refine wpQuiet_nil ?_; intro _ hw_; obtain ⟨nq, hw__⟩ := hw_; subst hw__)
            go_wp2_with fail
            go_roundw
            case rel => exact ⟨k + 1, zs, by go_num, by omega, by omega, HP.out, HUP.out, H.on nq⟩
            case measure => simp [intOf]; omega
    · have HU := Lib.hid (show Ups n ys from fun p q x y h1 h2 hx hy => hu p q x y h1 (by omega) hx hy)
      have HP := Lib.hid hp
      clear hu hp
      go_wp2_with fail
      go_end0
      exact ⟨ys, rfl, HP.out, HU.out, H⟩

set_option maxRecDepth 100000 in
set_option maxHeartbeats 4000000 in
theorem pdq_any (g n c base : Nat) (k : Int) (xs : List Int) (w : World) (h : w.ownsRow base 3 1 (.slice (some ⟨g, 0, none⟩) n c) n (xs.map (Value.int .i64))) (hn : n ≤ 12) :
    Calls Try.prog 97 #[.slice (some ⟨g, 0, none⟩) n c, .int .i64 0, .int .i64 n, .int .i64 k] w fun e w' => ∃ ys : List Int, e = .returned (.tuple #[]) ∧ ys.Perm xs ∧ Ups n ys ∧ Hp [g] w w' [.row 3 1 (.slice (some ⟨g, 0, none⟩) n c) n (ys.map (Value.int .i64))] := by
  have hd : decide ((n : Int) ≤ 12) = true := by simp; omega
  go_enter Try.func97, Try.ntmps97
  go_wp2_with fail
  refine wp_loop_rounds 1 ?_
  rw [rounds_succ]
  go_wp2_with fail
  refine (isort_any g n c base xs _ h (by omega)).mono ?_
  rintro e w1 ⟨ys, rfl, hp, hu, H⟩
  go_wp2_with fail
  refine bodyPost_ret (results_none rfl _ _ _) rfl ?_
  exact ⟨ys, rfl, hp, hu, H⟩

set_option maxRecDepth 100000 in
set_option maxHeartbeats 1000000 in
theorem len64_any (m : Nat) (hm : m ≤ 12) (w : World) : Calls Try.prog 113 #[.int .u64 m] w fun e w' => ∃ k : Int, e = .returned (.int .i64 k) ∧ w' = w := by
  have h1 : ¬ (4294967296 : Int) ≤ m := by omega
  have h2 : ¬ (65536 : Int) ≤ m := by omega
  have h3 : ¬ (256 : Int) ≤ m := by omega
  have h4 : (m : Int) % 256 = m := by omega
  have h5 : (m : Int) < 256 := by omega
  have h6 : (0 : Int) ≤ m := by omega
  go_enter Try.func113, Try.ntmps113
  go_wp2
  go_ret
  exact ⟨⟨_, rfl⟩, rfl⟩
theorem blen_any (m : Nat) (hm : m ≤ 12) (w : World) : Calls Try.prog 98 #[.int .u64 m] w fun e w' => ∃ k : Int, e = .returned (.int .i64 k) ∧ w' = w := by
  go_enter Try.func98, Try.ntmps98
  go_wp2_with fail
  refine (len64_any m hm _).mono ?_
  rintro e w' ⟨k, rfl, rfl⟩
  go_wp2
  go_ret
  first | exact ⟨⟨_, rfl⟩, rfl⟩ | exact ⟨_, rfl, rfl⟩

set_option maxRecDepth 100000 in
set_option maxHeartbeats 1000000 in
theorem sort_any (g n c base : Nat) (xs : List Int) (w : World) (h : w.ownsRow base 3 1 (.slice (some ⟨g, 0, none⟩) n c) n (xs.map (Value.int .i64))) (hn : n ≤ 12) :
    Calls Try.prog 79 #[.slice (some ⟨g, 0, none⟩) n c] w fun e w' => ∃ ys : List Int, e = .returned (.tuple #[]) ∧ ys.Perm xs ∧ Ups n ys ∧ Hp [g] w w' [.row 3 1 (.slice (some ⟨g, 0, none⟩) n c) n (ys.map (Value.int .i64))] := by
  go_enter Try.func79, Try.ntmps79
  go_wp2_with fail
  refine (blen_any n hn _).mono ?_
  rintro e w0 ⟨k, rfl, rfl⟩
  go_wp2_with fail
  refine (pdq_any g n c base k xs _ h hn).mono ?_
  rintro e w1 ⟨ys, rfl, hp, hu, H⟩
  have HP := Lib.hid hp
  have HU := Lib.hid hu
  clear hp hu h
  go_wp2_with fail
  go_end0
  exact ⟨ys, rfl, HP.out, HU.out, H⟩
end Go.Proofs.Ytbmoolmgfpcnkaa

namespace Go.Proofs.Ytbmoolmgfpcnkaa

def blocksOfL (l : List (Int × Int × Int)) : List Int := if eOk l then ((List.range 24).filter fun b : Nat => (flatL l).contains (b : Int)).map (fun b : Nat => (b : Int)) else []
def blocksTo (l : List (Int × Int × Int)) (k : Nat) : List Int := ((List.range k).filter fun b : Nat => (flatL l).contains (b : Int)).map (fun b : Nat => (b : Int))
theorem blocksTo_succ (l : List (Int × Int × Int)) (k : Nat) : blocksTo l (k + 1) = if (flatL l).contains (k : Int) then blocksTo l k ++ [(k : Int)] else blocksTo l k := by
  unfold blocksTo
  rw [List.range_succ, List.filter_append, List.map_append]
  by_cases h : (flatL l).contains (k : Int) = true
  · rw [if_pos h]; simp only [List.filter_cons, h, if_true, List.filter_nil, List.map_cons, List.map_nil]
  · rw [if_neg h]; simp only [List.filter_cons, h, List.filter_nil]; simp
theorem blocksTo_len (l : List (Int × Int × Int)) (k : Nat) : (blocksTo l k).length ≤ k := by
  unfold blocksTo
  rw [List.length_map]
  exact Nat.le_trans (List.length_filter_le _ _) (by simp)
theorem blocksOfL_len (l : List (Int × Int × Int)) : (blocksOfL l).length ≤ 24 := by
  unfold blocksOfL
  split
  · exact blocksTo_len l 24
  · simp

theorem putE_at {e : Int × Int × Int} {m : List Int} (h0 : 0 ≤ e.1) : ∀ (j i : Nat) (x : Int), (putE e m j)[i]? = some x → m[i]? = some x ∨ (e.1 ≤ i ∧ (i : Int) < e.1 + j ∧ x = e.2.1 + (i - e.1))
  | 0, i, x, h => .inl h
  | j + 1, i, x, h => by
    rw [putE, List.getElem?_set] at h
    split at h
    · rename_i hi
      split at h
      · injection h with h
        right
        omega
      · cases h
    · rcases putE_at h0 j i x h with h1 | h1
      · exact .inl h1
      · right; omega
theorem flatTo_from {l : List (Int × Int × Int)} (hr : ∀ e ∈ l, eRange e = true) : ∀ (k i : Nat) (x : Int), k ≤ l.length → (flatTo l k)[i]? = some x → x = -1 ∨ ∃ q e, q < k ∧ l[q]? = some e ∧ e.1 ≤ i ∧ (i : Int) < e.1 + e.2.2 ∧ x = e.2.1 + (i - e.1)
  | 0, i, x, _, h => by
    left
    rw [flatTo, List.take_zero, List.foldl_nil, List.getElem?_replicate] at h
    split at h
    · injection h with h; exact h.symm
    · cases h
  | k + 1, i, x, hk, h => by
    obtain ⟨e, he⟩ := some_at (l := l) rfl (show k < l.length by omega)
    have hre := eRange_iff.1 (hr e (List.mem_of_getElem? he))
    rw [flatTo_succ he] at h
    rcases putE_at (by omega) _ _ _ h with h1 | ⟨h1, h2, h3⟩
    · rcases flatTo_from hr k i x (by omega) h1 with h4 | ⟨q, e', h4, h5⟩
      · exact .inl h4
      · exact .inr ⟨q, e', by omega, h5⟩
    · exact .inr ⟨k, e, by omega, he, h1, by omega, h3⟩
theorem eOk_apart {l : List (Int × Int × Int)} (h : eOk l = true) {q q' : Nat} {e e' : Int × Int × Int} (he : l[q]? = some e) (he' : l[q']? = some e') (hlt : q < q') {b : Nat} (hb : b < 24) (h1 : inE e b = true) (h2 : inE e' b = true) : False := by
  have hq := (List.getElem?_eq_some_iff.1 he').1
  have ha : eAt l q' = true := by
    simp only [eOk, List.all_eq_true, List.mem_range] at h
    exact h q' hq
  have hu : usedBy l q' b = true := by
    rw [usedBy, List.any_eq_true]
    refine ⟨e, ?_, h1⟩
    rw [List.mem_iff_getElem?]
    exact ⟨q, by rw [List.getElem?_take, if_pos hlt, he]⟩
  rw [eAt_used he' hb h2 hu] at ha
  cases ha
theorem flat_once {l : List (Int × Int × Int)} (h : eOk l = true) {i j : Nat} {x : Int} (hi : (flatL l)[i]? = some x) (hj : (flatL l)[j]? = some x) (hx : 0 ≤ x) : i = j := by
  have hr := eOk_ranges h
  rw [← flatTo_all (Nat.le_refl _)] at hi hj
  rcases flatTo_from hr _ _ _ (Nat.le_refl _) hi with h1 | ⟨q, e, _, he, a1, a2, a3⟩
  · omega
  · rcases flatTo_from hr _ _ _ (Nat.le_refl _) hj with h1 | ⟨q', e', _, he', b1, b2, b3⟩
    · omega
    · have ee := eRange_iff.1 (hr e (List.mem_of_getElem? he))
      have ee' := eRange_iff.1 (hr e' (List.mem_of_getElem? he'))
      have hb : x.toNat < 24 := by omega
      have i1 : inE e x.toNat = true := inE_iff.2 (by omega)
      have i2 : inE e' x.toNat = true := inE_iff.2 (by omega)
      rcases Nat.lt_trichotomy q q' with h2 | h2 | h2
      · exact (eOk_apart h he he' h2 hb i1 i2).elim
      · subst h2
        rw [he] at he'
        injection he' with he'
        subst he'
        omega
      · exact (eOk_apart h he' he h2 hb i2 i1).elim
theorem cutTo_zero (m : List Int) (hl : m.length = 12) : ∀ i, i ≤ 12 → (cutTo m 0 i).2 = (m.take i).filter fun x => decide (0 ≤ x)
  | 0, _ => by simp [cutTo]
  | i + 1, hi => by
    obtain ⟨x, hx⟩ := some_at hl (show i < 12 by omega)
    have ih := cutTo_zero m hl i (by omega)
    have hg : m.getD i (-1) = x := by simp [List.getD_eq_getElem?_getD, hx]
    rw [List.take_add_one, hx, List.filter_append]
    simp only [cutTo, hg]
    by_cases h : 0 ≤ x
    · rw [if_pos ⟨by omega, h⟩]; simp [ih, h]
    · rw [if_neg (fun k => h k.2), ih]; simp [h]
theorem sorted_ext : ∀ {a b : List Int}, a.Pairwise (· < ·) → b.Pairwise (· < ·) → (∀ x, x ∈ a ↔ x ∈ b) → a = b
  | [], [], _, _, _ => rfl
  | [], y :: b, _, _, h => absurd ((h y).2 (by simp)) (by simp)
  | x :: a, [], _, _, h => absurd ((h x).1 (by simp)) (by simp)
  | x :: a, y :: b, ha, hb, h => by
    have ha' := List.pairwise_cons.1 ha
    have hb' := List.pairwise_cons.1 hb
    have hxy : x = y := by
      rcases List.mem_cons.1 ((h x).1 (by simp)) with h1 | h1
      · exact h1
      · rcases List.mem_cons.1 ((h y).2 (by simp)) with h2 | h2
        · exact h2.symm
        · have := hb'.1 x h1; have := ha'.1 y h2; omega
    subst hxy
    rw [sorted_ext ha'.2 hb'.2 fun z => ?_]
    constructor
    · intro hz
      have := ha'.1 z hz
      rcases List.mem_cons.1 ((h z).1 (by simp [hz])) with h1 | h1
      · omega
      · exact h1
    · intro hz
      have := hb'.1 z hz
      rcases List.mem_cons.1 ((h z).2 (by simp [hz])) with h1 | h1
      · omega
      · exact h1
theorem cutGone_zero {l : List (Int × Int × Int)} (h : eOk l = true) : cutGone l 0 = (flatL l).filter fun x => decide (0 ≤ x) := by
  rw [cutGone, if_pos h, cutTo_zero _ (flatL_len l) 12 (Nat.le_refl _), List.take_of_length_le (by rw [flatL_len]; omega)]
/-- Sorted, what CutAt hands back is the list of the reference. -/
theorem blocks_sorted {l : List (Int × Int × Int)} (h : eOk l = true) {ys : List Int} (hp : ys.Perm (cutGone l 0)) (hu : Ups (cutGone l 0).length ys) : ys = blocksOfL l := by
  have hb := flatL_ok (eOk_ranges h)
  have hm : ∀ x, x ∈ ys ↔ x ∈ flatL l ∧ 0 ≤ x := fun x => by rw [hp.mem_iff, cutGone_zero h, List.mem_filter]; simp
  have hnd : ys.Pairwise (· ≠ ·) := by
    rw [hp.pairwise_iff (fun h => Ne.symm h), cutGone_zero h, List.pairwise_filter, List.pairwise_iff_getElem]
    intro i j hi hj hij h1 _ he
    simp only [decide_eq_true_eq] at h1
    have := flat_once h (x := (flatL l)[i]) (List.getElem?_eq_getElem hi) (by rw [he]; exact List.getElem?_eq_getElem hj) h1
    omega
  have hs : ys.Pairwise (· < ·) := by
    rw [List.pairwise_iff_getElem] at hnd ⊢
    intro i j hi hj hij
    have h1 := hu i j _ _ hij (by rw [← hp.length_eq]; exact hj) (List.getElem?_eq_getElem hi) (List.getElem?_eq_getElem hj)
    have h2 := hnd i j hi hj hij
    omega
  have e : blocksOfL l = blocksTo l 24 := by rw [blocksOfL, if_pos h]; rfl
  rw [e]
  refine sorted_ext hs ?_ fun x => ?_
  · unfold blocksTo
    rw [List.pairwise_map]
    refine List.Pairwise.filter _ ?_
    exact List.pairwise_lt_range.imp fun h => by omega
  · rw [hm]
    unfold blocksTo
    simp only [List.mem_map, List.mem_filter, List.mem_range, List.contains_iff_mem]
    constructor
    · rintro ⟨h1, h2⟩
      have := hb x h1
      exact ⟨x.toNat, ⟨by omega, by rw [Int.toNat_of_nonneg h2]; exact h1⟩, Int.toNat_of_nonneg h2⟩
    · rintro ⟨b, ⟨_, h1⟩, rfl⟩
      exact ⟨h1, by omega⟩
end Go.Proofs.Ytbmoolmgfpcnkaa

namespace Go.Proofs.Ytbmoolmgfpcnkaa
open Go.RowKit

/-- The extents of the first i blocks. -/
def EInv (m : List Int) (i : Nat) (o : List (Int × Int × Int)) : Prop :=
  (∀ e ∈ o, 0 ≤ e.1 ∧ 1 ≤ e.2.2 ∧ e.1 + e.2.2 ≤ i ∧ 0 ≤ e.2.1 ∧ ∀ p : Nat, e.1 ≤ p → (p : Int) < e.1 + e.2.2 → m.getD p (-1) = e.2.1 + ((p : Int) - e.1)) ∧
  o.Pairwise (fun p e => p.1 + p.2.2 ≤ e.1 ∧ ¬ (p.1 + p.2.2 = e.1 ∧ e.2.1 = p.2.1 + p.2.2)) ∧
  ∀ p : Nat, p < i → 0 ≤ m.getD p (-1) → ∃ e ∈ o, e.1 ≤ p ∧ (p : Int) < e.1 + e.2.2
theorem extsTo_inv {m : List Int} (hm : BlkOk m) (hl : m.length = 12) : ∀ i, i ≤ 12 → EInv m i (extsTo m i)
  | 0, _ => ⟨by simp [extsTo], by simp [extsTo], by intro p h; omega⟩
  | i + 1, hi => by
    obtain ⟨A, B, C⟩ := extsTo_inv hm hl i (by omega)
    have hL := extsTo_last hm hl i (by omega)
    obtain ⟨x, hx⟩ := some_at hl (show i < 12 by omega)
    have hxd : m.getD i (-1) = x := by simp [hx]
    by_cases h0 : x < 0
    · rw [extsTo_skip hx h0]
      refine ⟨fun e he => ?_, B, fun p hp h1 => ?_⟩
      · obtain ⟨a1, a2, a3, a4, a5⟩ := A e he
        exact ⟨a1, a2, by omega, a4, a5⟩
      · by_cases hpi : p = i
        · subst hpi; omega
        · exact C p (by omega) h1
    · cases hg : goesOn m i with
      | false =>
        rw [extsTo_app hx h0 hg]
        refine ⟨fun e he => ?_, ?_, fun p hp h1 => ?_⟩
        · rcases List.mem_append.1 he with h1 | h1
          · obtain ⟨a1, a2, a3, a4, a5⟩ := A e h1
            exact ⟨a1, a2, by omega, a4, a5⟩
          · rw [List.mem_singleton] at h1
            subst h1
            refine ⟨by simp only; omega, by simp, by simp only; omega, by simp only; omega, fun p h1 h2 => ?_⟩
            simp only at h1 h2 ⊢
            obtain rfl : p = i := by omega
            omega
        · rw [List.pairwise_append]
          refine ⟨B, by simp, fun p hp e he => ?_⟩
          rw [List.mem_singleton] at he
          subst he
          obtain ⟨a1, a2, a3, a4, a5⟩ := A p hp
          refine ⟨by simp only; omega, fun hh => ?_⟩
          simp only at hh
          have h5 := a5 (i - 1) (by omega) (by omega)
          have hi0 : 0 < i := by omega
          have : goesOn m i = true := by
            simp only [goesOn, Bool.and_eq_true, decide_eq_true_eq]
            exact ⟨⟨hi0, by omega⟩, by omega⟩
          rw [hg] at this
          cases this
        · by_cases hpi : p = i
          · subst hpi
            exact ⟨(((p : Nat) : Int), x, 1), List.mem_append_right _ (List.mem_singleton.2 rfl), by simp only; omega, by simp only; omega⟩
          · obtain ⟨e, he, h2⟩ := C p (by omega) h1
            exact ⟨e, List.mem_append_left _ he, h2⟩
      | true =>
        rw [extsTo_grow hx h0 hg]
        have hg' := hg
        simp only [goesOn, Bool.and_eq_true, decide_eq_true_eq] at hg'
        obtain ⟨o', a, b, n, ho, h1, h2⟩ := hL.1 hg'.1.1 hg'.1.2
        rw [ho] at A B C ⊢
        rw [extGrow_snoc]
        have AL := A (a, b, n) (by simp)
        simp only at AL
        refine ⟨fun e he => ?_, ?_, fun p hp h3 => ?_⟩
        · rcases List.mem_append.1 he with h3 | h3
          · obtain ⟨a1, a2, a3, a4, a5⟩ := A e (List.mem_append_left _ h3)
            exact ⟨a1, a2, by omega, a4, a5⟩
          · rw [List.mem_singleton] at h3
            subst h3
            refine ⟨by simp only; omega, by simp only; omega, by simp only; omega, by simp only; omega, fun p h3 h4 => ?_⟩
            simp only at h3 h4 ⊢
            by_cases hpi : p = i
            · subst hpi; omega
            · exact AL.2.2.2.2 p h3 (by omega)
        · rw [List.pairwise_append] at B ⊢
          refine ⟨B.1, by simp, fun p hp e he => ?_⟩
          rw [List.mem_singleton] at he
          subst he
          exact B.2.2 p hp (a, b, n) (by simp)
        · by_cases hpi : p = i
          · subst hpi
            exact ⟨(a, b, n + 1), by simp, by simp only; omega, by simp only; omega⟩
          · obtain ⟨e, he, h4⟩ := C p (by omega) h3
            rcases List.mem_append.1 he with h5 | h5
            · exact ⟨e, List.mem_append_left _ h5, h4⟩
            · rw [List.mem_singleton] at h5
              subst h5
              exact ⟨(a, b, n + 1), by simp, h4.1, by simp only at h4 ⊢; omega⟩

/-- Each block at most once. -/
def OnceB (m : List Int) : Prop := ∀ (i j : Nat) (x : Int), m[i]? = some x → m[j]? = some x → 0 ≤ x → i = j
theorem getD_some {m : List Int} {i : Nat} {x : Int} (h : m.getD i (-1) = x) (hx : 0 ≤ x) : m[i]? = some x := by
  rw [List.getD_eq_getElem?_getD] at h
  cases hc : m[i]? with
  | none => rw [hc, Option.getD_none] at h; omega
  | some y => rw [hc, Option.getD_some] at h; rw [h]
theorem exts_ok {m : List Int} (hm : BlkOk m) (hl : m.length = 12) (ho : OnceB m) : eOk (extsL m) = true := by
  obtain ⟨A, B, C⟩ := extsTo_inv hm hl 12 (Nat.le_refl _)
  have hE : extsL m = extsTo m 12 := by rw [extsL, hl]
  rw [← hE] at A B C
  have R : ∀ e ∈ extsL m, eRange e = true := by
    intro e he
    obtain ⟨a1, a2, a3, a4, a5⟩ := A e he
    rw [eRange_iff]
    have h1 := a5 (e.1 + e.2.2 - 1).toNat (by omega) (by omega)
    have h2 := getD_some h1 (by omega)
    have h3 := hm _ (List.mem_of_getElem? h2)
    omega
  refine eOk_yes rfl fun k hk => ?_
  obtain ⟨e, he⟩ := some_at (l := extsL m) rfl hk
  have hem := List.mem_of_getElem? he
  refine eAt_yes he (R e hem) ?_ ?_
  · rcases Nat.eq_zero_or_pos k with h0 | h0
    · exact .inl h0
    · right
      obtain ⟨p, hp⟩ := some_at (l := extsL m) rfl (show k - 1 < (extsL m).length by omega)
      refine ⟨p, hp, ?_⟩
      have hlt := (List.pairwise_iff_getElem.1 B) (k - 1) k (by omega) hk (by omega)
      rw [(List.getElem?_eq_some_iff.1 hp).2, (List.getElem?_eq_some_iff.1 he).2] at hlt
      simp only [eGap, Bool.not_eq_true', Bool.or_eq_false_iff, Bool.and_eq_false_iff, decide_eq_false_iff_not]
      refine ⟨by omega, ?_⟩
      by_cases h5 : e.1 = p.1 + p.2.2
      · exact .inr fun h6 => hlt.2 ⟨h5.symm, h6⟩
      · exact .inl h5
  · intro q hq hi
    rw [Bool.eq_false_iff]
    intro hu
    rw [usedBy, List.any_eq_true] at hu
    obtain ⟨p, hp, hi2⟩ := hu
    rw [List.mem_iff_getElem?] at hp
    obtain ⟨r, hr⟩ := hp
    rw [List.getElem?_take] at hr
    split at hr
    · rename_i hrk
      have hpm := List.mem_of_getElem? hr
      have hrl := (List.getElem?_eq_some_iff.1 hr).1
      have hlt := (List.pairwise_iff_getElem.1 B) r k hrl hk hrk
      rw [(List.getElem?_eq_some_iff.1 hr).2, (List.getElem?_eq_some_iff.1 he).2] at hlt
      obtain ⟨a1, a2, a3, a4, a5⟩ := A e hem
      obtain ⟨b1, b2, b3, b4, b5⟩ := A p hpm
      rw [inE_iff] at hi hi2
      have h1 := getD_some (a5 (e.1 + (q - e.2.1)).toNat (by omega) (by omega)) (by omega)
      have h2 := getD_some (b5 (p.1 + (q - p.2.1)).toNat (by omega) (by omega)) (by omega)
      have e1 : e.2.1 + (((e.1 + (q - e.2.1)).toNat : Int) - e.1) = q := by omega
      have e2 : p.2.1 + (((p.1 + (q - p.2.1)).toNat : Int) - p.1) = q := by omega
      rw [e1] at h1
      rw [e2] at h2
      have := ho _ _ _ h1 h2 (by omega)
      omega
    · cases hr

theorem putE_in {e : Int × Int × Int} {m : List Int} (h0 : 0 ≤ e.1) : ∀ (j i : Nat) (x : Int), (putE e m j)[i]? = some x → e.1 ≤ i → (i : Int) < e.1 + j → x = e.2.1 + (i - e.1)
  | 0, i, x, _, h1, h2 => by omega
  | j + 1, i, x, h, h1, h2 => by
    rw [putE, List.getElem?_set] at h
    split at h
    · split at h
      · injection h with h; omega
      · cases h
    · exact putE_in h0 j i x h h1 (by omega)
theorem flat_in {l : List (Int × Int × Int)} (hr : ∀ e ∈ l, eRange e = true) : ∀ (k i : Nat) (x : Int), k ≤ l.length → (flatTo l k)[i]? = some x → (∃ q e, q < k ∧ l[q]? = some e ∧ e.1 ≤ i ∧ (i : Int) < e.1 + e.2.2) → 0 ≤ x
  | 0, i, x, _, h, ⟨q, e, hq, _⟩ => by omega
  | k + 1, i, x, hk, h, ⟨q, e', hq, he', h1, h2⟩ => by
    obtain ⟨e, he⟩ := some_at (l := l) rfl (show k < l.length by omega)
    have hre := eRange_iff.1 (hr e (List.mem_of_getElem? he))
    rw [flatTo_succ he] at h
    by_cases hin : e.1 ≤ i ∧ (i : Int) < e.1 + e.2.2
    · have := putE_in (by omega) _ _ _ h hin.1 (by omega)
      omega
    · rcases putE_at (by omega) _ _ _ h with h3 | ⟨h3, h4, _⟩
      · by_cases hqk : q = k
        · subst hqk
          rw [he] at he'
          injection he' with he'
          subst he'
          exact absurd ⟨h1, h2⟩ hin
        · exact flat_in hr k i x (by omega) h3 ⟨q, e', by omega, he', h1, h2⟩
      · exact absurd ⟨h3, by omega⟩ hin
theorem flat_exts {m : List Int} (hm : BlkOk m) (hl : m.length = 12) (ho : OnceB m) : flatL (extsL m) = m := by
  have hok := exts_ok hm hl ho
  have hR := eOk_ranges hok
  obtain ⟨A, B, C⟩ := extsTo_inv hm hl 12 (Nat.le_refl _)
  have hE : extsL m = extsTo m 12 := by rw [extsL, hl]
  rw [← hE] at A B C
  apply List.ext_getElem?
  intro i
  by_cases hi : i < 12
  · obtain ⟨x, hx⟩ := some_at (flatL_len (extsL m)) hi
    obtain ⟨y, hy⟩ := some_at hl hi
    rw [hx, hy]
    have hyd : m.getD i (-1) = y := by simp [hy]
    have hyb := hm _ (List.mem_of_getElem? hy)
    have hx' := hx
    rw [← flatTo_all (Nat.le_refl _)] at hx'
    rcases flatTo_from hR _ _ _ (Nat.le_refl _) hx' with h1 | ⟨q, e, _, he, h1, h2, h3⟩
    · by_cases hy0 : 0 ≤ y
      · obtain ⟨e, he, h2, h3⟩ := C i hi (by omega)
        obtain ⟨q, hq⟩ := List.getElem?_of_mem he
        have := flat_in hR _ _ _ (Nat.le_refl _) hx' ⟨q, e, (List.getElem?_eq_some_iff.1 hq).1, hq, h2, h3⟩
        omega
      · congr 1; omega
    · have := (A e (List.mem_of_getElem? he)).2.2.2.2 i h1 h2
      congr 1; omega
  · rw [List.getElem?_eq_none (by rw [flatL_len]; omega), List.getElem?_eq_none (by omega)]

theorem flat_onceB {l : List (Int × Int × Int)} (h : eOk l = true) : OnceB (flatL l) := fun _ _ _ hi hj hx => flat_once h hi hj hx
/-- How many blocks there are. -/
def cntB (m : List Int) : Nat := (m.filter fun x => decide (0 ≤ x)).length
theorem blocks_len {l : List (Int × Int × Int)} (h : eOk l = true) : (blocksOfL l).length = cntB (flatL l) := by
  have hn1 : (blocksOfL l).Nodup := by
    rw [blocksOfL, if_pos h]
    rw [List.nodup_iff_pairwise_ne, List.pairwise_map]
    exact (List.Pairwise.filter _ (List.nodup_iff_pairwise_ne.1 List.nodup_range)).imp fun h hc => h (by omega)
  have hn2 : ((flatL l).filter fun x => decide (0 ≤ x)).Nodup := by
    rw [List.nodup_iff_pairwise_ne, List.pairwise_filter, List.pairwise_iff_getElem]
    intro i j hi hj hij h1 h2 h3
    have := flat_once h (List.getElem?_eq_getElem hi) (by rw [List.getElem?_eq_getElem hj, h3]) (by simpa using h1)
    omega
  refine List.Perm.length_eq ((List.perm_ext_iff_of_nodup hn1 hn2).2 fun x => ?_)
  rw [blocksOfL, if_pos h]
  simp only [List.mem_map, List.mem_filter, List.mem_range, List.contains_iff_mem, decide_eq_true_eq]
  constructor
  · rintro ⟨b, ⟨_, hb⟩, rfl⟩
    exact ⟨hb, by omega⟩
  · rintro ⟨hx, h0⟩
    have := flatL_ok (eOk_ranges h) x hx
    exact ⟨x.toNat, ⟨by omega, by rwa [Int.toNat_of_nonneg h0]⟩, Int.toNat_of_nonneg h0⟩

/-- Does a block go in? -/
def putOk (l : List (Int × Int × Int)) (i b : Int) : Bool := eOk l && inB i 0 11 && decide ((flatL l).getD i.toNat (-1) < 0) && inB b 0 23 && !(flatL l).contains b
def putExts (l : List (Int × Int × Int)) (i b : Int) : List (Int × Int × Int) := if putOk l i b then extsL ((flatL l).set i.toNat b) else if eOk l then l else []
theorem putExts_no {l : List (Int × Int × Int)} {i b : Int} (h : putOk l i b = false) (hok : eOk l = true) : putExts l i b = l := by simp [putExts, h, hok]
theorem putExts_bad {l : List (Int × Int × Int)} {i b : Int} (hok : eOk l = false) : putExts l i b = [] := by simp [putExts, putOk, hok]
theorem putExts_yes {l : List (Int × Int × Int)} {i b : Int} (h : putOk l i b = true) : putExts l i b = extsL ((flatL l).set i.toNat b) := by simp [putExts, h]
theorem putOk_iff {l : List (Int × Int × Int)} {i b : Int} : putOk l i b = true ↔ eOk l = true ∧ (0 ≤ i ∧ i ≤ 11) ∧ (flatL l).getD i.toNat (-1) < 0 ∧ (0 ≤ b ∧ b ≤ 23) ∧ b ∉ flatL l := by
  simp [putOk, inB, and_assoc]
theorem blk_set {m : List Int} (h : BlkOk m) {i : Nat} {b : Int} (hb : -1 ≤ b ∧ b ≤ 23) : BlkOk (m.set i b) := by
  intro x hx
  rcases List.mem_or_eq_of_mem_set hx with h1 | rfl
  · exact h x h1
  · exact hb
theorem once_set {m : List Int} (h : OnceB m) {k : Nat} {b : Int} (hb : b ∉ m) : OnceB (m.set k b) := by
  intro i j x hi hj hx
  rw [List.getElem?_set] at hi hj
  split at hi
  · split at hi
    · injection hi with hi
      split at hj
      · omega
      · exact absurd (List.mem_of_getElem? hj) (by rw [← hi]; exact hb)
    · cases hi
  · split at hj
    · split at hj
      · injection hj with hj
        exact absurd (List.mem_of_getElem? hi) (by rw [← hj]; exact hb)
      · cases hj
    · exact h i j x hi hj hx
theorem once_neg {m : List Int} (h : OnceB m) (k : Nat) : OnceB (m.set k (-1)) := by
  intro i j x hi hj hx
  rw [List.getElem?_set] at hi hj
  split at hi
  · split at hi
    · injection hi with hi; omega
    · cases hi
  · split at hj
    · split at hj
      · injection hj with hj; omega
      · cases hj
    · exact h i j x hi hj hx
theorem put_flat {l : List (Int × Int × Int)} {i b : Int} (h : putOk l i b = true) : eOk (putExts l i b) = true ∧ flatL (putExts l i b) = (flatL l).set i.toNat b := by
  obtain ⟨h1, h2, h3, h4, h5⟩ := putOk_iff.1 h
  have hb := blk_set (i := i.toNat) (flatL_ok (eOk_ranges h1)) (b := b) (by omega)
  have hl : ((flatL l).set i.toNat b).length = 12 := by rw [List.length_set, flatL_len]
  have ho := once_set (k := i.toNat) (flat_onceB h1) h5
  rw [putExts_yes h]
  exact ⟨exts_ok hb hl ho, flat_exts hb hl ho⟩
theorem cntB_set {m : List Int} {k : Nat} {b : Int} : ∀ {x : Int}, m[k]? = some x → x < 0 → 0 ≤ b → cntB (m.set k b) = cntB m + 1 := by
  induction m generalizing k with
  | nil => intro x h; simp at h
  | cons y m ih =>
    intro x h hx hb
    cases k with
    | zero =>
      simp only [List.getElem?_cons_zero, Option.some.injEq] at h
      subst h
      simp [cntB, hb, show ¬ 0 ≤ y by omega]
    | succ k =>
      have := ih (k := k) (by simpa using h) hx hb
      simp only [cntB, List.set_cons_succ, List.filter_cons] at this ⊢
      split <;> (try simp only [List.length_cons]) <;> omega
theorem cntB_del {m : List Int} {k : Nat} : ∀ {x : Int}, m[k]? = some x → 0 ≤ x → cntB (m.set k (-1)) + 1 = cntB m := by
  induction m generalizing k with
  | nil => intro x h; simp at h
  | cons y m ih =>
    intro x h hx
    cases k with
    | zero =>
      simp only [List.getElem?_cons_zero, Option.some.injEq] at h
      subst h
      simp [cntB, hx]
    | succ k =>
      have := ih (k := k) (by simpa using h) hx
      simp only [cntB, List.set_cons_succ, List.filter_cons] at this ⊢
      split <;> (try simp only [List.length_cons]) <;> omega
theorem put_count {l : List (Int × Int × Int)} {i b : Int} (h : putOk l i b = true) : (blocksOfL (putExts l i b)).length = (blocksOfL l).length + 1 := by
  obtain ⟨h1, h2, h3, h4, h5⟩ := putOk_iff.1 h
  obtain ⟨k1, k2⟩ := put_flat h
  rw [blocks_len k1, blocks_len h1, k2]
  obtain ⟨x, hx⟩ := some_at (flatL_len l) (show i.toNat < 12 by omega)
  exact cntB_set hx (by simpa [hx] using h3) (by omega)
theorem put_at {l : List (Int × Int × Int)} {i b : Int} (hok : eOk l = true) {k : Nat} (hk : k < 12) : blockAtL (putExts l i b) k = if putOk l i b = true ∧ (k : Int) = i then b else blockAtL l k := by
  have hin : inB (k : Int) 0 11 = true := by rw [inB_iff]; omega
  cases h : putOk l i b with
  | false => simp [putExts_no h hok]
  | true =>
    obtain ⟨h1, h2, h3, h4, h5⟩ := putOk_iff.1 h
    obtain ⟨k1, k2⟩ := put_flat h
    simp only [blockAtL, k1, hok, hin, Bool.and_self, if_true, k2, true_and, Int.toNat_natCast]
    by_cases hki : (k : Int) = i
    · subst hki
      rw [if_pos rfl, Int.toNat_natCast]
      simp [flatL_len, hk]
    · rw [if_neg hki, List.getD_eq_getElem?_getD, List.getElem?_set_ne (by omega), List.getD_eq_getElem?_getD]
theorem putExts_len (l : List (Int × Int × Int)) (i b : Int) : (putExts l i b).length ≤ 12 + l.length := by
  unfold putExts
  split
  · have := extsL_len ((flatL l).set i.toNat b)
    rw [List.length_set, flatL_len] at this
    omega
  · split
    · omega
    · simp
theorem cutTo_once {m : List Int} (h : OnceB m) (n : Int) : ∀ i, OnceB (cutTo m n i).1
  | 0 => h
  | i + 1 => by
    simp only [cutTo]
    split
    · exact once_neg (cutTo_once h n i) i
    · exact cutTo_once h n i
theorem cutTo_cnt {m : List Int} (n : Int) : ∀ i, cntB (cutTo m n i).1 + (cutTo m n i).2.length = cntB m
  | 0 => by simp [cutTo]
  | i + 1 => by
    have ih := cutTo_cnt (m := m) n i
    simp only [cutTo]
    split
    · rename_i h
      have h1 := getD_some (m := m) (i := i) rfl h.2
      have h2 := cntB_del ((cutTo_at m n i i (Nat.le_refl _)).trans h1) h.2
      simp only [List.length_append, List.length_cons, List.length_nil]
      omega
    · exact ih
theorem cutTo_get {m : List Int} (hm : BlkOk m) (hl : m.length = 12) (n : Int) : ∀ i (k : Nat), i ≤ 12 → k < 12 → (cutTo m n i).1.getD k (-1) = if n ≤ k ∧ k < i then -1 else m.getD k (-1)
  | 0, k, _, _ => by simp [cutTo]
  | i + 1, k, hi, hk => by
    have ih := cutTo_get hm hl n i k (by omega) hk
    have hlen := (cutTo_len m n i).1
    obtain ⟨x, hx⟩ := some_at hl hk
    have hxb := hm _ (List.mem_of_getElem? hx)
    have hxd : m.getD k (-1) = x := by simp [hx]
    simp only [cutTo]
    by_cases hc : n ≤ (i : Int) ∧ 0 ≤ m.getD i (-1)
    · rw [if_pos hc]
      simp only
      by_cases hki : k = i
      · subst hki
        rw [if_pos (by omega)]
        simp [hlen, hl, hk]
      · rw [List.getD_eq_getElem?_getD, List.getElem?_set_ne (by omega), ← List.getD_eq_getElem?_getD, ih]
        by_cases h1 : n ≤ (k : Int) ∧ k < i
        · rw [if_pos h1, if_pos (by omega)]
        · rw [if_neg h1, if_neg (by omega)]
    · rw [if_neg hc, ih]
      by_cases hki : k = i
      · subst hki
        rw [if_neg (by omega)]
        split
        · omega
        · rfl
      · by_cases h1 : n ≤ (k : Int) ∧ k < i
        · rw [if_pos h1, if_pos (by omega)]
        · rw [if_neg h1, if_neg (by omega)]
theorem cut_flat {l : List (Int × Int × Int)} (hok : eOk l = true) (n : Int) : eOk (cutExts l n) = true ∧ flatL (cutExts l n) = (cutTo (flatL l) n 12).1 := by
  have hb := cutTo_ok (flatL_ok (eOk_ranges hok)) n 12
  have hl : (cutTo (flatL l) n 12).1.length = 12 := by rw [(cutTo_len _ n 12).1, flatL_len]
  have ho := cutTo_once (flat_onceB hok) n 12
  rw [cutExts, if_pos hok]
  exact ⟨exts_ok hb hl ho, flat_exts hb hl ho⟩
theorem cut_count {l : List (Int × Int × Int)} (hok : eOk l = true) (n : Int) : (blocksOfL (cutExts l n)).length + (cutGone l n).length = (blocksOfL l).length := by
  obtain ⟨k1, k2⟩ := cut_flat hok n
  rw [blocks_len k1, blocks_len hok, k2, cutGone, if_pos hok]
  exact cutTo_cnt n 12
theorem cut_at {l : List (Int × Int × Int)} (hok : eOk l = true) (n : Int) {k : Nat} (hk : k < 12) : blockAtL (cutExts l n) k = if n ≤ k then -1 else blockAtL l k := by
  have hin : inB (k : Int) 0 11 = true := by rw [inB_iff]; omega
  obtain ⟨k1, k2⟩ := cut_flat hok n
  simp only [blockAtL, k1, hok, hin, Bool.and_self, if_true, k2, Int.toNat_natCast]
  rw [cutTo_get (flatL_ok (eOk_ranges hok)) (flatL_len l) n 12 k (Nat.le_refl _) hk]
  by_cases h : n ≤ (k : Int)
  · rw [if_pos ⟨h, hk⟩, if_pos h]
  · rw [if_neg (by omega), if_neg h]
theorem blockAt_out {l : List (Int × Int × Int)} {i : Int} (hok : eOk l = false) : blockAtL l i = -1 := by simp [blockAtL, hok]
theorem cut_bad {l : List (Int × Int × Int)} {n : Int} (hok : eOk l = false) : cutExts l n = [] ∧ cutGone l n = [] := by simp [cutExts, cutGone, hok]
end Go.Proofs.Ytbmoolmgfpcnkaa

namespace Go.Proofs.Ytbmoolmgfpcnkaa
open Go.RowKit

theorem snocRec {α : Type} {p : List α → Prop} (nil : p []) (snoc : ∀ l a, p l → p (l ++ [a])) (l : List α) : p l := by
  have h : ∀ n, ∀ l : List α, l.length = n → p l := by
    intro n
    induction n with
    | zero => intro l hl; rw [List.eq_nil_of_length_eq_zero hl]; exact nil
    | succ n ih =>
      intro l hl
      rcases List.eq_nil_or_concat l with h | ⟨l', a, h⟩
      · subst h; cases hl
      · rw [List.concat_eq_append] at h
        subst h
        exact snoc l' a (ih l' (by simpa using hl))
  exact h _ l rfl
theorem fm_congr {α β : Type} {f g : α → Option β} : ∀ {l : List α}, (∀ x ∈ l, f x = g x) → l.filterMap f = l.filterMap g
  | [], _ => rfl
  | x :: l, h => by
    rw [List.filterMap_cons, List.filterMap_cons, h x (by simp), fm_congr (l := l) fun y hy => h y (by simp [hy])]
/-- The list in another order. -/
theorem Hp.reord {W : List Nat} {w0 w : World} {l : List Ob} (h : Hp W w0 w l) (is : List Nat) {n : Nat} (hn : l.length = n) (hp : is.Perm (List.range n)) : Hp W w0 w (is.filterMap fun i => l[i]?) := by
  subst hn
  refine h.perm (List.Perm.symm ?_)
  have h1 := hp.filterMap (fun i => l[i]?)
  have h2 : (List.range l.length).filterMap (fun i => l[i]?) = l := by
    clear h1 hp h
    induction l using snocRec with
    | nil => rfl
    | snoc l a ih =>
      rw [List.length_append, List.length_singleton, List.range_succ, List.filterMap_append]
      have h3 : (List.range l.length).filterMap (fun i => (l ++ [a])[i]?) = (List.range l.length).filterMap (fun i => l[i]?) := by
        apply fm_congr
        intro i hi
        rw [List.getElem?_append_left (List.mem_range.1 hi)]
      rw [h3, ih]
      simp
  rwa [h2] at h1

section
variable {P : Program} {ops : Array Oper} {o : Oper} {a : Act} {Q : Exit → Act → World → Prop} {E : TypeId} {z : Value} {k bytes : Nat} {W : List Nat} {w0 w : World} {l : List Ob}
/-- 'append(s, t...)' as a step of a region that draws its order. -/
theorem step_appRd {K : Act → World → Prop} {E0 : Prop} (H : Hp W w0 w l) (hgd : o.guard = none) (s x : Operand) (t : TypeId) (ho : o.op = .call { callee := .builtin .append, args := #[s, x], argTypes := #[t, t] })
    (ht : P.underlying t = some (.slice E)) (hI : (P.info? E).map (fun i => (i.zero, i.size, i.bytes)) = some (some z, k, bytes)) (hzs : z.cells.size = k) (hsz : 0 < k)
    (i : Nat) (v : Value) (n : Nat) (xs : List Value) (hrow : l[i]? = some (.row E k v n xs)) (hs : a.eval s = v) (A : Option Addr) (m c : Nat) (ys : List Value) (hx : a.eval x = .slice A m c) (hc : A = none → c = 0)
    (hrd : Rd w A m k ys) (h1 : ∀ u ∈ ys, u.oneCell' = true) (h63 : n + m ≤ maxLen) (hbytes : (n + m) * bytes ≤ 140737488355328)
    (h : ∀ v' w', Hp W w0 w' (l.set i (.row E k v' (n + m) (xs ++ ys))) → K (a.put o.dst v') w') :
    if Region.wanted o (yielded ops a.tmps) = true then Oper.wp P o a w K Q else E0 := by
  rw [if_pos (by simp [Region.wanted, hgd])]
  obtain ⟨inf, hi, hz, hsize, hby⟩ := info_parts hI
  cases A with
  | none =>
    have hm : m = 0 := by
      rcases Nat.eq_zero_or_pos m with h0 | h0
      · exact h0
      · obtain ⟨b, o, e, _⟩ := hrd.2 h0; cases e
    subst hm
    obtain rfl := hc rfl
    have hys : ys = [] := List.eq_nil_of_length_eq_zero (by simpa using hrd.1)
    subst hys
    have hr := run_append_owned_none (P := P) (w := w) 0 t o.type E inf k ht hi v n xs (H.row i hrow)
    have hres := h v w (by
      have h2 := H.turnRow i hrow (Gr.refl _ w) (H.row i hrow) (.inl rfl)
      simpa using h2)
    unfold Oper.wp execOp
    simp only [ho, resolve, invoke, builtin, Sem.run_bind, Sem.run_pure, Result.andThen_ok, List.map_toArray, List.map_cons, List.map_nil, hs, hx, hr]
    exact hres
  | some ad =>
    obtain ⟨v', w', hr, h2, h3, _, h5⟩ := run_append_own_at (P := P) w 0 t o.type E inf z k bytes ht hi hz hsize hby hzs hsz v n xs (H.row i hrow) ad m c ys hrd.1 (fun j u hu => by
      obtain ⟨b, o, e, hcell⟩ := hrd.get hu
      injection e with e
      subst e
      rw [Addr.add_lit]
      exact hcell) h1 h63 hbytes (Nat.zero_le _)
    have hres := h v' w' (H.grow i hrow h3 h2 (h5.imp id fun e g hg => by rw [e] at hg; injection hg with hg; omega))
    unfold Oper.wp execOp
    simp only [ho, resolve, invoke, builtin, Sem.run_bind, Sem.run_pure, Result.andThen_ok, List.map_toArray, List.map_cons, List.map_nil, hs, hx, hr]
    exact hres
/-- One word of what all orders of a region leave. -/
theorem wp_joint {c : Code} (R : Act → Act → World → Prop) (h1 : c.wp P (fun e a' w' => e = .normal ∧ R a a' w') a w) (h2 : ∀ a' w', R a a' w' → Q .normal a' w') : c.wp P Q a w :=
  Code.wp_mono (fun e a' w' ⟨he, hr⟩ => by subst he; exact h2 a' w' hr) h1
/-- The same; the word is hidden while the orders are walked. -/
theorem wp_jointH {c : Code} (R : Act → Act → World → Prop) (h1 : ∀ R' : Act → World → Prop, Hid (∀ a' w', R a a' w' → R' a' w') → c.wp P (fun e a' w' => e = .normal ∧ R' a' w') a w) (h2 : ∀ a' w', R a a' w' → Q .normal a' w') : c.wp P Q a w :=
  Code.wp_mono (fun e a' w' ⟨he, hr⟩ => by subst he; exact h2 a' w' hr) (h1 (R a) (Lib.hid fun _ _ h => h))
/-- The orders of a region meet: what holds there is said once ('J'), and gone on from once. -/
theorem wpAnyH_join {ops : Array Oper} {md : Region.Mode} {S : World → Prop} {fuel : Nat} {listed : Array Bool} (J : (Act → World → Prop) → Prop) (fuel' : Nat) (listed' : Array Bool)
    (h1 : Hid (J fun a' u => S u → wpAnyH P md ops Q S fuel' listed' a' u) → wpAnyH P md ops Q S fuel listed a w) (h2 : J fun a' u => S u → wpAnyH P md ops Q S fuel' listed' a' u) : wpAnyH P md ops Q S fuel listed a w := h1 (Lib.hid h2)
end
theorem sA {α : Type} {xs : List α} {i : Nat} (h : i < xs.toArray.size) : xs.toArray[i] = xs[i]'(by simpa using h) := List.getElem_toArray h
theorem sB {α : Type} (a : α) (l : List α) (i : Nat) (h : i + 1 < (a :: l).length) : (a :: l)[i + 1] = l[i]'(Nat.lt_of_succ_lt_succ h) := rfl
theorem sC {α : Type} (a : α) (l : List α) (h : 0 < (a :: l).length) : (a :: l)[0] = a := rfl
theorem sD {α : Type} (l : List α) (i : Nat) (a : α) : l.toArray.setIfInBounds i a = (l.set i a).toArray := List.setIfInBounds_toArray ..
theorem sE {α : Type} (x : α) (xs : List α) (a : α) : (x :: xs).set 0 a = a :: xs := rfl
theorem sF {α : Type} (x : α) (xs : List α) (n : Nat) (a : α) : (x :: xs).set (n + 1) a = x :: xs.set n a := rfl
end Go.Proofs.Ytbmoolmgfpcnkaa

namespace Go.Proofs.Ytbmoolmgfpcnkaa
open Go.RowKit


set_option maxHeartbeats 400000 in
theorem toStringS_any (A : Option Addr) (n c : Nat) (l : List ByteArray) (w : World) (h : Rd w A n 1 (l.map Value.string)) (hn : n ≤ 1048576) :
    Calls Try.prog 51 #[.slice A n c] w fun e w' => ∃ g, e = .returned (.slice (some ⟨g, 0, none⟩) n n) ∧ w'.ownsRow w.heap.size 9 1 (.slice (some ⟨g, 0, none⟩) n n) n (l.map Value.string) ∧ Fr w w' := by
  obtain ⟨i0, hi, hz0, hz1, hz2⟩ := info_parts infoString
  go_enter Try.func51, Try.ntmps51
  go_wp2_with (at_make; refine wpList_make_full _ rfl _ _ 23 rfl w.heap.size 9 i0 _ 1 Try.underlying23 hi hz0 hz1 _ _ _ _ n rfl rfl rfl rfl ?c1 ?c2 ?c3 ?_)
  case c1 => rw [hz2]; omega
  case c2 => simp only [maxLen]; omega
  case c3 => omega
  intro w1 hown hg
  have hw1 : Fr w w1 := Fr.of_grown hg
  clear hg
  rw [toList_madeCells_one] at hown
  go_wp2_with fail
  go_loopw [4] (fun i wr => ∃ k : Nat, k ≤ n ∧ i = .int .i64 k ∧ wr.ownsRow w.heap.size 9 1 (.slice (some ⟨w.heap.size, 0, none⟩) n n) n ((l.map Value.string).take k ++ List.replicate (n - k) (.string ⟨#[]⟩)) ∧ Fr w wr)
    (fun i _ => n - (intOf i).toNat)
  case atStart => exact ⟨0, Nat.zero_le _, rfl, by simpa using hown, hw1⟩
  case round =>
    clear hown hw1
    obtain ⟨k, hk, rfl, hown, hfr⟩ := hrel
    by_cases hlt : k < n
    · obtain ⟨b, hb⟩ := some_at h.len1 hlt
      obtain ⟨bk, of, rfl, hc⟩ := (h.fr hfr).get1 hb
      have hst := hown.stored k (Value.string b)
      rw [fill_step (l.map Value.string) (.string ⟨#[]⟩) (Value.string b) k n (by simpa using h.1) (by simp [hb])] at hst
      have HST := Lib.hid hst
      have hf := hown.frozenAt k
      have ⟨d, hd⟩ : ∃ d, wr.cell? ⟨w.heap.size, k, none⟩ = some d := by rw [hown.cellAt k (by omega)]; exact ⟨_, List.getElem?_eq_getElem (by have := h.len1; simp; omega)⟩
      have HF := Lib.hid hfr
      clear hst hown hfr hb h
      go_wp2
      go_roundw
      case rel => exact ⟨k + 1, by omega, by go_num, HST.out.1, Below.setCell HF.out (Nat.le_refl _) _⟩
      case measure => simp [intOf]; omega
    · obtain rfl : k = n := by omega
      have hx : (l.map Value.string).take k = l.map Value.string := List.take_of_length_le (by have := h.1; omega)
      rw [hx, Nat.sub_self, List.replicate_zero, List.append_nil] at hown
      go_wp2
      go_ret
      exact ⟨w.heap.size, rfl, hown, hfr⟩

set_option maxHeartbeats 400000 in
theorem eqStringS_any (A B : Option Addr) (n m c d : Nat) (bs cs : List ByteArray) (w : World) (h : Rd w A n 1 (bs.map Value.string)) (h' : Rd w B m 1 (cs.map Value.string)) (hn : n ≤ 1048576) (hm : m ≤ 1048576) :
    Calls Try.prog 61 #[.slice A n c, .slice B m d] w fun e w' => e = .returned (.bool (decide (bs = cs))) ∧ Dr w w' := by
  have hl := h.len1
  have hl' := h'.len1
  have HL := Lib.hid hl
  have HL' := Lib.hid hl'
  clear hl hl'
  by_cases hnm : n = m
  · subst hnm
    go_enter Try.func61, Try.ntmps61
    go_wp2_with fail
    go_loopw [5] (fun i wr => ∃ k : Nat, k ≤ n ∧ i = .int .i64 k ∧ bs.take k = cs.take k ∧ Dr w wr) (fun i _ => n - (intOf i).toNat)
    case atStart => exact ⟨0, Nat.zero_le _, rfl, by simp, Dr.refl _⟩
    case round =>
      obtain ⟨k, hk, rfl, htake, hfr⟩ := hrel
      have HT := Lib.hid htake
      clear htake
      by_cases hlt : k < n
      · obtain ⟨x, hx⟩ := some_at HL.out hlt
        obtain ⟨y, hy⟩ := some_at HL'.out hlt
        obtain ⟨bk, of, rfl, hc⟩ := (h.fr hfr.fr).get1 hx
        obtain ⟨bk', of', rfl, hc'⟩ := (h'.fr hfr.fr).get1 hy
        have HX := Lib.hid hx
        have HY := Lib.hid hy
        have HF := Lib.hid hfr
        clear h h' hx hy hfr
        by_cases hxy : x = y
        · subst hxy
          go_wp2_with fail
          go_quiet (fail)
          go_wp2
          go_roundw
          case rel => exact ⟨k + 1, by omega, by go_num, take_eq_step HT.out HX.out HY.out, Dr.on HF.out _⟩
          case measure => simp [intOf]; omega
        · have hne : (x.toList == y.toList) = false := str_ne hxy
          have e : bs ≠ cs := ne_of_at HX.out HY.out hxy
          have HE := Lib.hid e
          clear hxy e
          go_wp2_with fail
          go_quiet (fail)
          go_wp2
          go_ret
          exact ⟨by simp [HE.out], Dr.on HF.out _⟩
      · go_wp2
        go_ret
        have e : bs = cs := take_eq_all (n := n) (by rw [show n = k from by omega]; exact HT.out) HL.out HL'.out
        exact ⟨by simp [e], hfr⟩
  · go_enter Try.func61, Try.ntmps61
    go_wp2
    go_ret
    have e : bs ≠ cs := by rintro rfl; exact hnm (HL.out.symm.trans HL'.out)
    exact ⟨by simp [e], Dr.refl _⟩

set_option maxHeartbeats 1000000 in
theorem szStringS_fr (A : Option Addr) (n c : Nat) (l : List ByteArray) (left : Int) (w : World) (h : Rd w A n 1 (l.map Value.string)) (ok : ∀ s ∈ l, s.size ≤ 9223372036854775807) (hn : n ≤ 9223372036854775807) (h0 : 0 ≤ left) (h1 : left ≤ 1048576) :
    Calls Try.prog 41 #[.slice A n c, .int .i64 left] w fun e w' => e = .returned (.int .i64 (szOf left (strTot l))) ∧ Fr w w' := by
  have hl := h.len1
  have HL := Lib.hid hl
  by_cases hlt : left < n
  · have hr : szOf left (strTot l) = -1 := szOf_no (by have := strTot_len l; omega)
    have HR := Lib.hid hr
    clear hr hl
    go_enter Try.func41, Try.ntmps41
    go_wp2
    go_ret
    exact ⟨ret_int HR.out.symm, Below.refl _ _⟩
  · clear hl
    go_enter Try.func41, Try.ntmps41
    go_wp2_with fail
    go_loopw [1, 5] (fun v i wr => ∃ k : Nat, k ≤ n ∧ i = .int .i64 k ∧ v = .int .i64 (left - n - (sizes (l.take k) : Nat)) ∧ 0 ≤ left - n - (sizes (l.take k) : Nat) ∧ wr = w) (fun _ i _ => n - (intOf i).toNat)
    case atStart => exact ⟨0, Nat.zero_le _, rfl, by simp [sizes], by simp [sizes]; omega, rfl⟩
    case round =>
      obtain ⟨k, hk, rfl, rfl, hb, rfl⟩ := hrel
      by_cases hlt2 : k < n
      · obtain ⟨s, hs⟩ := some_at HL.out hlt2
        obtain ⟨bk, of, rfl, hc⟩ := h.get1 hs
        have hsz := ok s (List.mem_of_getElem? hs)
        have hst := sizes_step hs
        have hle := sizes_le l (k + 1)
        have HST := Lib.hid hst
        have HLE := Lib.hid hle
        clear hs h hst hle
        generalize sizes (l.take k) = q at hb HST
        by_cases hover : left - n - (q : Nat) < s.size
        · go_wp2
          go_ret
          exact ⟨ret_int (szOf_no (by have q1 := HST.out; have q2 := HLE.out; have q3 := HL.out; unfold strTot; omega)).symm, Below.refl _ _⟩
        · go_wp2
          go_roundw
          case rel => exact ⟨k + 1, by omega, by go_num, by rw [HST.out]; go_num, by rw [HST.out]; omega, by first | trivial | rfl⟩
          case measure => simp [intOf]; omega
      · have e : sizes (l.take k) = sizes l := by rw [List.take_of_length_le (by have := HL.out; omega)]
        go_wp2
        go_ret
        exact ⟨ret_int (by have q3 := HL.out; rw [szOf_yes (by unfold strTot; omega)]; unfold strTot; omega), Below.refl _ _⟩

end Go.Proofs.Ytbmoolmgfpcnkaa


namespace Go.Proofs.Ytbmoolmgfpcnkaa
open Go.RowKit

set_option maxRecDepth 100000 in
set_option maxHeartbeats 1000000 in
theorem szStore_any (A : Option Addr) (n c : Nat) (_l : List Bool) (B : Option Addr) (m d : Nat) (ss : List ByteArray) (left : Int) (w : World)
    (hcap : n ≤ 9223372036854775807) (h : Rd w B m 1 (ss.map Value.string)) (ok : ∀ s ∈ ss, s.size ≤ 9223372036854775807) (hcap2 : m ≤ 9223372036854775807) (h0 : 0 ≤ left) (h1 : left ≤ 1048576) :
    Calls Try.prog 7 #[.agg #[.slice A n c, .slice B m d], .int .i64 left] w fun e w' => e = .returned (.int .i64 (szOf left (n + strTot ss))) ∧ Fr w w' := by
  by_cases hlt : left < n
  · have HR := Lib.hid (szOf_no (left := left) (n := n + strTot ss) (by omega))
    go_enter Try.func7, Try.ntmps7
    go_wp2_with fail
    refine (szBoolS_fr A n c left _ hcap h0 h1).mono ?_
    rintro e w1 ⟨rfl, f1⟩
    rw [szOf_no hlt]
    go_wp2_with fail
    go_ret
    exact ⟨ret_int HR.out.symm, (Fr.al (Below.refl _ _) _).then f1⟩
  · by_cases hlt2 : left - n < strTot ss
    · have HR := Lib.hid (szOf_no (left := left) (n := n + strTot ss) (by omega))
      go_enter Try.func7, Try.ntmps7
      go_wp2_with fail
      refine (szBoolS_fr A n c left _ hcap h0 h1).mono ?_
      rintro e w1 ⟨rfl, f1⟩
      rw [szOf_yes (by omega)]
      have c1 : w1.cell? ⟨w.heap.size, 1, none⟩ = some (.slice B m d) := cell_later f1 (by simp)
      go_wp2_with fail
      refine (szStringS_fr B m d ss _ _ ((h.alloc _).fr f1) ok hcap2 (by omega) (by omega)).mono ?_
      rintro e w2 ⟨rfl, f2⟩
      rw [szOf_no hlt2]
      go_wp2_with fail
      go_ret
      exact ⟨ret_int HR.out.symm, ((Fr.al (Below.refl _ _) _).then f1).then f2⟩
    · have HR := Lib.hid (szOf_yes (left := left) (n := n + strTot ss) (by omega))
      go_enter Try.func7, Try.ntmps7
      go_wp2_with fail
      refine (szBoolS_fr A n c left _ hcap h0 h1).mono ?_
      rintro e w1 ⟨rfl, f1⟩
      rw [szOf_yes (by omega)]
      have c1 : w1.cell? ⟨w.heap.size, 1, none⟩ = some (.slice B m d) := cell_later f1 (by simp)
      go_wp2_with fail
      refine (szStringS_fr B m d ss _ _ ((h.alloc _).fr f1) ok hcap2 (by omega) (by omega)).mono ?_
      rintro e w2 ⟨rfl, f2⟩
      rw [szOf_yes (by omega)]
      go_wp2_with fail
      go_ret
      exact ⟨ret_int (by rw [HR.out]; omega), ((Fr.al (Below.refl _ _) _).then f1).then f2⟩

set_option maxRecDepth 100000 in
set_option maxHeartbeats 1000000 in
theorem toStore_any (A : Option Addr) (n c : Nat) (l : List Bool) (B : Option Addr) (m d : Nat) (ss : List ByteArray) (w : World)
    (h : Rd w A n 1 (l.map Value.bool)) (h' : Rd w B m 1 (ss.map Value.string)) (hn : n ≤ 1048576) (hm : m ≤ 1048576) :
    Calls Try.prog 10 #[.agg #[.slice A n c, .slice B m d]] w fun e w' => ∃ g g', e = .returned (.agg #[.slice (some ⟨g, 0, none⟩) n n, .slice (some ⟨g', 0, none⟩) m m]) ∧
      w'.ownsRow w.heap.size 4 1 (.slice (some ⟨g, 0, none⟩) n n) n (l.map Value.bool) ∧ w'.ownsRow w.heap.size 9 1 (.slice (some ⟨g', 0, none⟩) m m) m (ss.map Value.string) ∧ Fr w w' := by
  go_enter Try.func10, Try.ntmps10
  go_wp2_with fail
  refine (toBoolS_any A n c l _ (((h.alloc _).alloc _).alloc _) hn).mono ?_
  rintro e w1 ⟨g, rfl, o1, f1⟩
  have z1 := f1.size
  simp at z1
  have k1 : Bk w1 w.heap.size 25 [.slice A n c, .slice B m d] := Bk.fr (((Bk.new_ w _ _ rfl).al _).al _) f1
  have k2 : Bk w1 (w.heap.size + 1) 31 [.slice none 0 0, .slice none 0 0] := Bk.fr ((Bk.new_ _ _ _ (by simp)).al _) f1
  have k3 : Bk w1 (w.heap.size + 1 + 1) 31 [.slice none 0 0, .slice none 0 0] := Bk.fr (Bk.new_ _ _ _ (by simp)) f1
  have f01 : Fr w w1 := (Fr.al (Fr.al (Fr.al (Below.refl _ _) _) _) _).then f1
  have fs : Fr w (w1.setCell ⟨w.heap.size + 1 + 1, 0, none⟩ (.slice (some ⟨g, 0, none⟩) n n)) := Below.setCell f01 (by simp; omega) _
  have os := ownsRow_setCell_below o1 (a := ⟨w.heap.size + 1 + 1, 0, none⟩) (by simp) (.slice (some ⟨g, 0, none⟩) n n)
  have hs := h'.fr fs
  have FS := Lib.hid fs
  have OS := Lib.hid (own_base os (b' := w.heap.size + 1 + 1 + 1) (by simp))
  have HS := Lib.hid hs
  have c1 := k1.at_ (j := 1) rfl
  have c2 := k3.at_ (j := 0) rfl
  have e2 := k3.free 0
  have K2 := Lib.hid (k2.far (show w.heap.size + 1 ≠ w.heap.size + 1 + 1 by omega) 0 (.slice (some ⟨g, 0, none⟩) n n))
  have K3 := Lib.hid (k3.put 0 (.slice (some ⟨g, 0, none⟩) n n))
  clear f1 o1 f01 fs os hs k2 k3 h h'
  go_wp2_with fail
  clear c1 c2 e2 k1
  refine (toStringS_any B m d ss _ HS.out hm).mono ?_
  rintro e w2 ⟨g', rfl, o2, f2⟩
  have z2 := f2.size
  simp at z2
  have k2 := K2.out.fr f2
  have k3 := K3.out.fr f2
  have c1 := k3.at_ (j := 0) rfl
  have c2 := k3.at_ (j := 1) rfl
  have e2 := k3.free 1
  have c3 := k2.at_ (j := 0) rfl
  have c4 := k2.at_ (j := 1) rfl
  have e3 := k2.free 0
  have e4 := k2.free 1
  have F2 := Lib.hid (FS.out.then f2)
  have OS2 := Lib.hid (own_fr OS.out f2)
  have O2 := Lib.hid (own_base o2 (b' := w.heap.size + 1 + 1 + 1) (by simp; omega))
  clear k2 k3 o2 f2
  go_wp2
  exact bodyPost_ret (v := .agg #[.slice (some ⟨g, 0, none⟩) n n, .slice (some ⟨g', 0, none⟩) m m]) (by simp [results, Try.results10, go_sem, c3, c4]) rfl ⟨g, g', rfl, own_base (ownsRow_setCell_below (ownsRow_setCell_below (ownsRow_setCell_below OS2.out (by simp) _) (by simp) _) (by simp) _) (by omega), own_base (ownsRow_setCell_below (ownsRow_setCell_below (ownsRow_setCell_below O2.out (by simp) _) (by simp) _) (by simp) _) (by omega), Below.setCell (Below.setCell (Below.setCell F2.out (by simp; omega) _) (by simp) _) (by simp) _⟩

set_option maxRecDepth 100000 in
set_option maxHeartbeats 1000000 in
theorem eqStore_yes (A : Option Addr) (n c : Nat) (B : Option Addr) (m d : Nat) (A' : Option Addr) (n' c' : Nat) (B' : Option Addr) (m' d' : Nat) (l : List Bool) (ss : List ByteArray) (w : World)
    (h : Rd w A n 1 (l.map Value.bool)) (h' : Rd w B m 1 (ss.map Value.string)) (k : Rd w A' n' 1 (l.map Value.bool)) (k' : Rd w B' m' 1 (ss.map Value.string)) (hn : n ≤ 1048576) (hm : m ≤ 1048576) :
    Calls Try.prog 13 #[.agg #[.slice A n c, .slice B m d], .agg #[.slice A' n' c', .slice B' m' d']] w fun e w' => e = .returned (.bool true) ∧ Fr w w' := by
  have hn' : n' ≤ 1048576 := by have := h.len1; have := k.len1; omega
  have hm' : m' ≤ 1048576 := by have := h'.len1; have := k'.len1; omega
  go_enter Try.func13, Try.ntmps13
  go_wp2_with fail
  refine (eqBoolS_any A A' n n' c c' l l _ ((h.alloc _).alloc _) ((k.alloc _).alloc _) hn hn').mono ?_
  rintro e w1 ⟨rfl, d1⟩
  rw [decide_eq_true rfl]
  have k1 : Bk w1 w.heap.size 31 [.slice A n c, .slice B m d] := ((Bk.new_ w _ _ rfl).al _).fr d1.fr
  have k2 : Bk w1 (w.heap.size + 1) 31 [.slice A' n' c', .slice B' m' d'] := (Bk.new_ _ _ _ (by simp)).fr d1.fr
  have f1 : Fr w w1 := (Fr.al (Fr.al (Below.refl _ _) _) _).then d1.fr
  have c1 := k1.at_ (j := 1) rfl
  have c2 := k2.at_ (j := 1) rfl
  have F1 := Lib.hid f1
  have HS := Lib.hid (h'.fr f1)
  have HS' := Lib.hid (k'.fr f1)
  clear k1 k2 d1 f1 h h' k k'
  go_wp2_with fail
  refine (eqStringS_any B B' m m' d d' ss ss _ HS.out HS'.out hm hm').mono ?_
  rintro e w2 ⟨rfl, d2⟩
  rw [decide_eq_true rfl]
  go_wp2
  go_ret
  exact ⟨rfl, F1.out.then d2.fr⟩
end Go.Proofs.Ytbmoolmgfpcnkaa

namespace Go.Proofs.Ytbmoolmgfpcnkaa
open Go.RowKit

theorem specBitsOk_any (A : Option Addr) (n c : Nat) (w : World) :
    Calls Try.prog 100 #[.slice A n c] w fun e w' => e = .returned (.bool (decide (n = 24))) ∧ w = w' := by
  go_enter Try.func100, Try.ntmps100
  go_wp2
  go_ret
  exact ⟨by simp [Bool.beq_eq_decide_eq]; omega, rfl⟩

theorem implBitsOk_any (A : Option Addr) (n c : Nat) (w : World) :
    Calls Try.prog 102 #[.slice A n c] w fun e w' => e = .returned (.bool (decide (n = 24))) ∧ w = w' := by
  go_enter Try.func102, Try.ntmps102
  go_wp2
  go_ret
  exact ⟨by simp [Bool.beq_eq_decide_eq]; omega, rfl⟩

end Go.Proofs.Ytbmoolmgfpcnkaa

namespace Go.Proofs.Ytbmoolmgfpcnkaa
open Go.RowKit

/-- Are there 24 flags, and 24 texts of 4 bytes? -/
def stOk (l : List Bool) (ss : List ByteArray) : Bool := decide (l.length = 24) && decide (ss.length = 24) && ss.all fun s => decide (s.size = 4)
theorem all4_snoc {ss : List ByteArray} {k : Nat} {s : ByteArray} (h : ss[k]? = some s) (hs : s.size = 4) (ha : ∀ x ∈ ss.take k, x.size = 4) : ∀ x ∈ ss.take (k + 1), x.size = 4 := by
  rw [List.take_add_one, h]
  intro x hx
  simp only [Option.toList_some, List.mem_append, List.mem_singleton] at hx
  rcases hx with h1 | rfl
  · exact ha x h1
  · exact hs
theorem all4_yes {ss : List ByteArray} {n : Nat} (hn : ss.length = n) (ha : ∀ x ∈ ss.take n, x.size = 4) : (ss.all fun s => decide (s.size = 4)) = true := by
  rw [List.take_of_length_le (by omega)] at ha
  simpa using ha
theorem all4_no {ss : List ByteArray} {k : Nat} {s : ByteArray} (h : ss[k]? = some s) (hs : s.size ≠ 4) : (ss.all fun s => decide (s.size = 4)) = false := by
  rw [List.all_eq_false]
  exact ⟨s, List.mem_of_getElem? h, by simpa using hs⟩

set_option maxRecDepth 100000 in
set_option maxHeartbeats 1000000 in
theorem specStoreOk_any (A : Option Addr) (n c : Nat) (l : List Bool) (B : Option Addr) (m d : Nat) (ss : List ByteArray) (w : World) (h : Rd w A n 1 (l.map Value.bool)) (h' : Rd w B m 1 (ss.map Value.string)) (hm : m ≤ 1048576) (hz : ∀ s ∈ ss, s.size ≤ 1048576) :
    Calls Try.prog 82 #[.agg #[.slice A n c, .slice B m d]] w fun e w' => e = .returned (.bool (stOk l ss)) ∧ Fr w w' := by
  have HL := Lib.hid h.len1
  have HM := Lib.hid h'.len1
  clear h
  by_cases hn : n = 24
  · have hd : decide (n = 24) = true := by simp [hn]
    by_cases hm24 : m = 24
    · have hr : stOk l ss = ss.all fun s => decide (s.size = 4) := by simp [stOk, HL.out, HM.out, hn, hm24]
      have HR := Lib.hid hr
      subst hm24
      clear hr hn
      go_enter Try.func82, Try.ntmps82
      go_wp2_with fail
      refine (specBitsOk_any _ _ _ _).mono ?_
      rintro e w' ⟨rfl, rfl⟩
      rw [hd]
      go_wp2_with fail
      go_loopw [3] (fun i wr => ∃ k : Nat, k ≤ 24 ∧ i = .int .i64 k ∧ (∀ x ∈ ss.take k, x.size = 4) ∧ wr = w.alloc (.cells #[.slice A n c, .slice B 24 d] 31)) (fun i _ => 24 - (intOf i).toNat)
      case atStart => exact ⟨0, Nat.zero_le _, rfl, by simp, rfl⟩
      case round =>
        obtain ⟨k, hk, rfl, hall, rfl⟩ := hrel
        have HA := Lib.hid hall
        clear hall
        by_cases hlt : k < 24
        · obtain ⟨s, hs⟩ := some_at HM.out hlt
          obtain ⟨bk, of, rfl, hc⟩ := h'.get1 hs
          have hbk := World.block_lt_of_cell? w _ hc
          simp only at hbk
          have hsz := hz s (List.mem_of_getElem? hs)
          have HS := Lib.hid hs
          clear h' hs hz
          by_cases h4 : s.size = 4
          · have H4 := Lib.hid h4
            have hb4 : ((s.size : Int) == 4) = true := by simp [h4]
            clear h4
            go_wp2
            go_roundw
            case rel => exact ⟨k + 1, by omega, by go_num, all4_snoc HS.out H4.out HA.out, by first | trivial | rfl⟩
            case measure => simp [intOf]; omega
          · have H4 := Lib.hid (all4_no HS.out h4)
            have hb4 : ((s.size : Int) == 4) = false := by simp; omega
            clear h4
            go_wp2
            go_ret
            exact ⟨ret_bool (by rw [HR.out, H4.out]), Fr.al (Below.refl _ _) _⟩
        · obtain rfl : k = 24 := by omega
          go_wp2
          go_ret
          exact ⟨ret_bool (by rw [HR.out, all4_yes HM.out HA.out]), Fr.al (Below.refl _ _) _⟩
    · have hr : stOk l ss = false := by simp [stOk, HM.out, hm24]
      have HR := Lib.hid hr
      have hq : ((m : Int) == 24) = false := by simp; omega
      clear hr hm24 hn
      go_enter Try.func82, Try.ntmps82
      go_wp2_with fail
      refine (specBitsOk_any _ _ _ _).mono ?_
      rintro e w' ⟨rfl, rfl⟩
      rw [hd]
      go_wp2
      go_ret
      exact ⟨ret_bool HR.out.symm, Fr.al (Below.refl _ _) _⟩
  · have hr : stOk l ss = false := by simp [stOk, HL.out, hn]
    have HR := Lib.hid hr
    have hd : decide (n = 24) = false := by simp [hn]
    clear hr hn
    go_enter Try.func82, Try.ntmps82
    go_wp2_with fail
    refine (specBitsOk_any _ _ _ _).mono ?_
    rintro e w' ⟨rfl, rfl⟩
    rw [hd]
    go_wp2
    go_ret
    exact ⟨ret_bool HR.out.symm, Fr.al (Below.refl _ _) _⟩

set_option maxRecDepth 100000 in
set_option maxHeartbeats 1000000 in
theorem implStoreOk_any (A : Option Addr) (n c : Nat) (l : List Bool) (B : Option Addr) (m d : Nat) (ss : List ByteArray) (w : World) (h : Rd w A n 1 (l.map Value.bool)) (h' : Rd w B m 1 (ss.map Value.string)) (hm : m ≤ 1048576) (hz : ∀ s ∈ ss, s.size ≤ 1048576) :
    Calls Try.prog 90 #[.agg #[.slice A n c, .slice B m d]] w fun e w' => e = .returned (.bool (stOk l ss)) ∧ Fr w w' := by
  have HL := Lib.hid h.len1
  have HM := Lib.hid h'.len1
  clear h
  go_enter Try.func90, Try.ntmps90
  go_wp2_with fail
  go_loopw [8] (fun i wr => ∃ k : Nat, k ≤ m ∧ i = .int .i64 k ∧ (∀ x ∈ ss.take k, x.size = 4) ∧ wr = w.alloc (.cells #[.slice A n c, .slice B m d] 31)) (fun i _ => m - (intOf i).toNat)
  case atStart => exact ⟨0, Nat.zero_le _, rfl, by simp, rfl⟩
  case round =>
    obtain ⟨k, hk, rfl, hall, rfl⟩ := hrel
    have HA := Lib.hid hall
    clear hall
    by_cases hlt : k < m
    · obtain ⟨s, hs⟩ := some_at HM.out hlt
      obtain ⟨bk, of, rfl, hc⟩ := h'.get1 hs
      have hbk := World.block_lt_of_cell? w _ hc
      simp only at hbk
      have hsz := hz s (List.mem_of_getElem? hs)
      have HS := Lib.hid hs
      clear h' hs hz
      by_cases h4 : s.size = 4
      · have H4 := Lib.hid h4
        have hb4 : ((s.size : Int) == 4) = true := by simp [h4]
        clear h4
        go_wp2
        go_roundw
        case rel => exact ⟨k + 1, by omega, by go_num, all4_snoc HS.out H4.out HA.out, by first | trivial | rfl⟩
        case measure => simp [intOf]; omega
      · have H4 := Lib.hid (all4_no HS.out h4)
        have hb4 : ((s.size : Int) == 4) = false := by simp; omega
        clear h4
        go_wp2
        go_ret
        exact ⟨ret_bool (by rw [stOk, H4.out, Bool.and_false]), Fr.al (Below.refl _ _) _⟩
    · obtain rfl : k = m := by omega
      have hr : stOk l ss = (decide (n = 24) && decide (k = 24)) := by rw [stOk, all4_yes HM.out HA.out, HL.out, HM.out, Bool.and_true]
      have HR := Lib.hid hr
      clear hr
      obtain ⟨b1, hb1⟩ : ∃ b, decide (n = 24) = b := ⟨_, rfl⟩
      have HB1 := Lib.hid hb1
      cases b1
      · go_wp2_with fail
        refine (implBitsOk_any _ _ _ _).mono ?_
        rintro e w' ⟨rfl, rfl⟩
        rw [hb1]
        clear hb1
        go_wp2
        go_ret
        exact ⟨ret_bool (by rw [HR.out, HB1.out]; rfl), Fr.al (Below.refl _ _) _⟩
      · go_wp2_with fail
        refine (implBitsOk_any _ _ _ _).mono ?_
        rintro e w' ⟨rfl, rfl⟩
        rw [hb1]
        clear hb1
        go_wp2
        go_ret
        exact ⟨ret_bool (by rw [HR.out, HB1.out, Bool.true_and, Bool.beq_eq_decide_eq, decide_eq_decide]; omega), Fr.al (Below.refl _ _) _⟩
end Go.Proofs.Ytbmoolmgfpcnkaa

namespace Go.Proofs.Ytbmoolmgfpcnkaa
open Go.RowKit

def zB (n : Nat) : List UInt8 := List.replicate n 0

theorem implZeros_any (z : Int) (h0 : 0 ≤ z) (h1 : z ≤ 1000) (w : World) :
    Calls Try.prog 59 #[.int .i64 z] w fun e w' => e = .returned (.string (ofB (zB z.toNat))) ∧ Fr w w' := by
  obtain ⟨n, rfl⟩ := Int.eq_ofNat_of_zero_le h0
  go_enter Try.func59, Try.ntmps59
  go_wp2_with (at_make; refine wp_mk (Hp.start w) rfl _ _ _ rfl Try.underlying44 infoU8 rfl rfl (n) _ _ _ _ rfl rfl rfl rfl (by first | omega | (simp; done) | (simp; omega)) (by first | (simp only [maxLen]; omega) | (simp [maxLen]; done) | (simp [maxLen]; omega)) ?_)
  intro w1 H
  have hr : Rd w1 (some ⟨w.heap.size, 0, none⟩) n 1 ((zB n).map cU8) := by
    have h2 := H.rd 0 rfl
    rwa [show (zB n).map cU8 = List.replicate n (Value.int .u8 0) from by simp [zB, cU8]]
  have hk := run_str (c := n) 44 9 5 Try.underlying44 Try.underlying5 Try.underlying9 hr
  have F := Lib.hid H.fr
  clear H hr
  go_wp2
  go_ret
  exact ⟨rfl, F.out⟩

theorem specZeros_any (z : Int) (h0 : 0 ≤ z) (h1 : z ≤ 1000) (w : World) :
    Calls Try.prog 49 #[.int .i64 z] w fun e w' => e = .returned (.string (ofB (zB z.toNat))) ∧ Fr w w' := by
  obtain ⟨n, rfl⟩ := Int.eq_ofNat_of_zero_le h0
  go_enter Try.func49, Try.ntmps49
  go_wp2_with (at_make; refine wp_mk (Hp.start w) rfl _ _ _ rfl Try.underlying44 infoU8 rfl rfl (n) _ _ _ _ rfl rfl rfl rfl (by first | omega | (simp; done) | (simp; omega)) (by first | (simp only [maxLen]; omega) | (simp [maxLen]; done) | (simp [maxLen]; omega)) ?_)
  intro w1 H
  have hr : Rd w1 (some ⟨w.heap.size, 0, none⟩) n 1 ((zB n).map cU8) := by
    have h2 := H.rd 0 rfl
    rwa [show (zB n).map cU8 = List.replicate n (Value.int .u8 0) from by simp [zB, cU8]]
  have hk := run_str (c := n) 44 9 5 Try.underlying44 Try.underlying5 Try.underlying9 hr
  have F := Lib.hid H.fr
  clear H hr
  go_wp2
  go_ret
  exact ⟨rfl, F.out⟩

theorem lawsZeros_any (z : Int) (h0 : 0 ≤ z) (h1 : z ≤ 1000) (w : World) :
    Calls Try.prog 32 #[.int .i64 z] w fun e w' => e = .returned (.string (ofB (zB z.toNat))) ∧ Fr w w' := by
  obtain ⟨n, rfl⟩ := Int.eq_ofNat_of_zero_le h0
  go_enter Try.func32, Try.ntmps32
  go_wp2_with (at_make; refine wp_mk (Hp.start w) rfl _ _ _ rfl Try.underlying44 infoU8 rfl rfl (n) _ _ _ _ rfl rfl rfl rfl (by first | omega | (simp; done) | (simp; omega)) (by first | (simp only [maxLen]; omega) | (simp [maxLen]; done) | (simp [maxLen]; omega)) ?_)
  intro w1 H
  have hr : Rd w1 (some ⟨w.heap.size, 0, none⟩) n 1 ((zB n).map cU8) := by
    have h2 := H.rd 0 rfl
    rwa [show (zB n).map cU8 = List.replicate n (Value.int .u8 0) from by simp [zB, cU8]]
  have hk := run_str (c := n) 44 9 5 Try.underlying44 Try.underlying5 Try.underlying9 hr
  have F := Lib.hid H.fr
  clear H hr
  go_wp2
  go_ret
  exact ⟨rfl, F.out⟩

end Go.Proofs.Ytbmoolmgfpcnkaa
