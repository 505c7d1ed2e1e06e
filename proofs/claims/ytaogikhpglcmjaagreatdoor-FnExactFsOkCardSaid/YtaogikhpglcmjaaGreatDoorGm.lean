/-
  Many texts in one: MBelow, MVolW, Tree.
-/
import Derived.Test.YtaogikhpglcmjaaGreatDoorGl
import Derived.Test.YtaogikhpglcmjaaGreatDoorGb
import Derived.Deep.RegionLaw
import Derived.Deep.RegionHeld
import Derived.Maps.AppendAt
namespace Go.Proofs.YtaogikhpglcmjaaGreatDoor
open Go.RowKit
set_option linter.unusedVariables false

/-! ### By a queue -/
theorem nodup_len : ∀ (l m : List Int), l.Nodup → (∀ x ∈ l, x ∈ m) → l.length ≤ m.length
  | [], m, _, _ => by simp
  | a :: l, m, h, hs => by
    have hn := List.nodup_cons.1 h
    have h1 := nodup_len l (m.erase a) hn.2 fun x hx => (List.mem_erase_of_ne (fun e : x = a => hn.1 (by rw [← e]; exact hx))).2 (hs x (List.mem_cons_of_mem _ hx))
    have h2 := hs a List.mem_cons_self
    rw [List.length_erase_of_mem h2] at h1
    have h3 := List.length_pos_of_mem h2
    rw [List.length_cons]; omega
/-- All ids that stand in entries. -/
def allIds (l : List Nod) : List Int := l.flatMap fun x => x.2.2.2.2.map fun e => e.2.2.2
theorem kids_all {l : List Nod} {a c : Int} (h : c ∈ kidsL l a) : c ∈ allIds l := by
  unfold kidsL at h
  split at h
  · simp at h
  · split at h
    · simp at h
    · rename_i k _ x hx
      exact List.mem_flatMap.2 ⟨x, List.mem_of_getElem? hx, h⟩
/-- The state of the search: what was found, what is still to be looked at; p: what of the present one is done. -/
structure Bq (l : List Nod) (a : Int) (out q : List Int) (cur : Option Int) (done : List Int) : Prop where
  nd : out.Nodup
  all : ∀ x ∈ out, x ∈ allIds l
  sound : ∀ x ∈ out, Blw l a x
  qs : ∀ x ∈ q, x = a ∨ x ∈ out
  cs : ∀ x, cur = some x → x = a ∨ x ∈ out
  closed : ∀ b, (b = a ∨ b ∈ out) → b ∈ q ∨ cur = some b ∨ ∀ c ∈ kidsL l b, c ∈ out
  dn : ∀ c ∈ done, c ∈ out
theorem Bq.start (l : List Nod) (a : Int) : Bq l a [] [a] none [] :=
  ⟨.nil, by simp, by simp, by simp, by simp, by simp, by simp⟩
theorem Bq.pop {l : List Nod} {a x : Int} {out q : List Int} (h : Bq l a out (x :: q) none []) : Bq l a out q (some x) [] :=
  ⟨h.nd, h.all, h.sound, fun y hy => h.qs y (List.mem_cons_of_mem _ hy), fun y hy => by injection hy with hy; subst hy; exact h.qs x List.mem_cons_self, fun b hb => by
    rcases h.closed b hb with h1 | h1 | h1
    · rcases List.mem_cons.1 h1 with rfl | h2
      · exact .inr (.inl rfl)
      · exact .inl h2
    · cases h1
    · exact .inr (.inr h1), by simp⟩
theorem Bq.old {l : List Nod} {a x c : Int} {out q done : List Int} (h : Bq l a out q (some x) done) (hc : c ∈ out) : Bq l a out q (some x) (done ++ [c]) :=
  ⟨h.nd, h.all, h.sound, h.qs, h.cs, h.closed, fun y hy => by
    rcases List.mem_append.1 hy with h1 | h1
    · exact h.dn y h1
    · rw [List.mem_singleton.1 h1]; exact hc⟩
theorem Bq.fresh {l : List Nod} {a x c : Int} {out q done : List Int} (h : Bq l a out q (some x) done) (hc : ¬ c ∈ out) (hk : c ∈ kidsL l x) : Bq l a (out ++ [c]) (q ++ [c]) (some x) (done ++ [c]) :=
  ⟨List.nodup_append.2 ⟨h.nd, by simp, fun y hy z hz => by
      rw [List.mem_singleton.1 hz]; exact fun e => hc (e ▸ hy)⟩, fun y hy => by
      rcases List.mem_append.1 hy with h1 | h1
      · exact h.all y h1
      · rw [List.mem_singleton.1 h1]; exact kids_all hk, fun y hy => by
      rcases List.mem_append.1 hy with h1 | h1
      · exact h.sound y h1
      · rw [List.mem_singleton.1 h1]
        rcases h.cs x rfl with h2 | h2
        · rw [h2] at hk; exact .one hk
        · exact .more (h.sound x h2) hk, fun y hy => by
      rcases List.mem_append.1 hy with h1 | h1
      · rcases h.qs y h1 with h2 | h2
        · exact .inl h2
        · exact .inr (List.mem_append_left _ h2)
      · exact .inr (List.mem_append_right _ h1), fun y hy => by
      rcases h.cs y hy with h2 | h2
      · exact .inl h2
      · exact .inr (List.mem_append_left _ h2), fun b hb => by
      have hb2 : (b = a ∨ b ∈ out) ∨ b = c := by
        rcases hb with h1 | h1
        · exact .inl (.inl h1)
        · rcases List.mem_append.1 h1 with h2 | h2
          · exact .inl (.inr h2)
          · exact .inr (List.mem_singleton.1 h2)
      rcases hb2 with h1 | h1
      · rcases h.closed b h1 with h2 | h2 | h2
        · exact .inl (List.mem_append_left _ h2)
        · exact .inr (.inl h2)
        · exact .inr (.inr fun y hy => List.mem_append_left _ (h2 y hy))
      · exact .inl (List.mem_append_right _ (by rw [h1]; simp)), fun y hy => by
      rcases List.mem_append.1 hy with h1 | h1
      · exact List.mem_append_left _ (h.dn y h1)
      · exact List.mem_append_right _ h1⟩
theorem Bq.close {l : List Nod} {a x : Int} {out q done : List Int} (h : Bq l a out q (some x) done) (hk : ∀ c ∈ kidsL l x, c ∈ done) : Bq l a out q none [] :=
  ⟨h.nd, h.all, h.sound, h.qs, by simp, fun b hb => by
    rcases h.closed b hb with h2 | h2 | h2
    · exact .inl h2
    · injection h2 with h2; subst h2
      exact .inr (.inr fun c hc => h.dn c (hk c hc))
    · exact .inr (.inr h2), by simp⟩
theorem Bq.done {l : List Nod} {a : Int} {out : List Int} (h : Bq l a out [] none []) (x : Int) : x ∈ out ↔ Blw l a x := by
  have hcl : ∀ b, (b = a ∨ b ∈ out) → ∀ c ∈ kidsL l b, c ∈ out := fun b hb => by
    rcases h.closed b hb with h2 | h2 | h2
    · simp at h2
    · cases h2
    · exact h2
  refine ⟨h.sound x, fun hx => ?_⟩
  induction hx with
  | one h1 => exact hcl a (.inl rfl) _ h1
  | more _ h1 ih => exact hcl _ (.inr ih) _ h1
theorem Bq.len {l : List Nod} {a : Int} {out q done : List Int} {cur : Option Int} (h : Bq l a out q cur done) : out.length ≤ (allIds l).length :=
  nodup_len _ _ h.nd fun x hx => h.all x hx
/-! ### By rounds -/
abbrev BS := List Bool × List Bool
def markE (l : List Nod) (s : BS) (e : EntT) : BS := match atN l e.2.2.2 with
  | none => s
  | some x => (s.1.set x true, s.2.set x true)
def goI (l : List Nod) (s : BS) (i : Nat) : BS := match l[i]? with
  | none => s
  | some x => if s.2[i]? = some true then x.2.2.2.2.foldl (markE l) s else s
def roundS (l : List Nod) (s : BS) : BS := (List.range l.length).foldl (goI l) s
def roundsS (l : List Nod) (s : BS) : Nat → BS
  | 0 => s
  | r + 1 => roundS l (roundsS l s r)
def On (s : List Bool) (i : Nat) : Prop := s[i]? = some true
theorem On.set {s : List Bool} {i x : Nat} (h : On s i) : On (s.set x true) i := by
  unfold On at *
  rw [List.getElem?_set]
  have := (List.getElem?_eq_some_iff.1 h).1
  split
  · rename_i e; subst e; simp [this]
  · exact h
theorem On.set_self {s : List Bool} {x : Nat} (h : x < s.length) : On (s.set x true) x := by
  unfold On; rw [List.getElem?_set_self h]
theorem On.of_set {s : List Bool} {i x : Nat} (h : On (s.set x true) i) : On s i ∨ (i = x ∧ x < s.length) := by
  unfold On at *
  rw [List.getElem?_set] at h
  split at h
  · rename_i e
    split at h
    · exact .inr ⟨e.symm, by assumption⟩
    · cases h
  · exact .inl h
theorem set_on {s : List Bool} {x : Nat} (h : On s x) : s.set x true = s := by
  refine List.ext_getElem? fun i => ?_
  rw [List.getElem?_set]
  unfold On at h
  split
  · rename_i e; subst e
    have := (List.getElem?_eq_some_iff.1 h).1
    simp only [this, if_true]; exact h.symm
  · rfl
/-- What holds of a state all along. -/
structure Bs (l : List Nod) (a : Int) (s : BS) : Prop where
  l1 : s.1.length = l.length
  l2 : s.2.length = l.length
  inn : ∀ i, On s.1 i → ∃ b, Blw l a b ∧ atN l b = some i
  opn : ∀ i, On s.2 i → atN l a = some i ∨ On s.1 i
theorem kids_of {l : List Nod} {b : Int} {i : Nat} {x : Nod} (h1 : atN l b = some i) (h2 : l[i]? = some x) : kidsL l b = x.2.2.2.2.map fun e => e.2.2.2 := by
  rw [kidsL, h1]; simp only [h2]
theorem markE_len (l : List Nod) (s : BS) (e : EntT) : (markE l s e).1.length = s.1.length ∧ (markE l s e).2.length = s.2.length := by
  unfold markE; split <;> simp
theorem markE_on {l : List Nod} {s : BS} {e : EntT} {i : Nat} : (On s.1 i → On (markE l s e).1 i) ∧ (On s.2 i → On (markE l s e).2 i) := by
  unfold markE; split
  · exact ⟨id, id⟩
  · exact ⟨On.set, On.set⟩
theorem marks_on {l : List Nod} {i : Nat} : ∀ (es : List EntT) (s : BS), (On s.1 i → On (es.foldl (markE l) s).1 i) ∧ (On s.2 i → On (es.foldl (markE l) s).2 i)
  | [], s => ⟨id, id⟩
  | e :: es, s => ⟨fun h => (marks_on es _).1 (markE_on.1 h), fun h => (marks_on es _).2 (markE_on.2 h)⟩
theorem goI_on {l : List Nod} {s : BS} {i k : Nat} : (On s.1 i → On (goI l s k).1 i) ∧ (On s.2 i → On (goI l s k).2 i) := by
  unfold goI; split
  · exact ⟨id, id⟩
  · split
    · exact marks_on _ _
    · exact ⟨id, id⟩
theorem goes_on {l : List Nod} {i : Nat} : ∀ (ks : List Nat) (s : BS), (On s.1 i → On (ks.foldl (goI l) s).1 i) ∧ (On s.2 i → On (ks.foldl (goI l) s).2 i)
  | [], s => ⟨id, id⟩
  | k :: ks, s => ⟨fun h => (goes_on ks _).1 (goI_on.1 h), fun h => (goes_on ks _).2 (goI_on.2 h)⟩
theorem Bs.mark {l : List Nod} {a : Int} {s : BS} {e : EntT} (h : Bs l a s) (he : Blw l a e.2.2.2) : Bs l a (markE l s e) := by
  obtain ⟨m1, m2⟩ := markE_len l s e
  refine ⟨m1.trans h.l1, m2.trans h.l2, ?_, ?_⟩ <;> unfold markE <;> split
  · exact h.inn
  · rename_i x hx
    intro i hi
    rcases hi.of_set with h1 | ⟨rfl, _⟩
    · exact h.inn i h1
    · exact ⟨_, he, hx⟩
  · exact h.opn
  · rename_i x hx
    intro i hi
    rcases hi.of_set with h1 | ⟨rfl, h2⟩
    · rcases h.opn i h1 with h3 | h3
      · exact .inl h3
      · exact .inr h3.set
    · exact .inr (On.set_self (by rw [h.l1, ← h.l2]; exact h2))
theorem Bs.marks {l : List Nod} {a : Int} : ∀ (es : List EntT) (s : BS), Bs l a s → (∀ e ∈ es, Blw l a e.2.2.2) → Bs l a (es.foldl (markE l) s)
  | [], s, h, _ => h
  | e :: es, s, h, he => Bs.marks es _ (h.mark (he e List.mem_cons_self)) fun x hx => he x (List.mem_cons_of_mem _ hx)
theorem Bs.go {l : List Nod} {a : Int} {s : BS} (h : Bs l a s) (i : Nat) : Bs l a (goI l s i) := by
  unfold goI; split
  · exact h
  · rename_i x hx
    split
    · rename_i ho
      refine Bs.marks _ _ h fun e he => ?_
      have hm : e.2.2.2 ∈ x.2.2.2.2.map fun e => e.2.2.2 := List.mem_map_of_mem he
      rcases h.opn i ho with h1 | h1
      · exact .one (by rw [kids_of h1 hx]; exact hm)
      · obtain ⟨b, hb, h2⟩ := h.inn i h1
        exact .more hb (by rw [kids_of h2 hx]; exact hm)
    · exact h
theorem Bs.goes {l : List Nod} {a : Int} : ∀ (ks : List Nat) (s : BS), Bs l a s → Bs l a (ks.foldl (goI l) s)
  | [], s, h => h
  | k :: ks, s, h => Bs.goes ks _ (h.go k)
theorem Bs.rounds {l : List Nod} {a : Int} {s : BS} (h : Bs l a s) : ∀ r, Bs l a (roundsS l s r)
  | 0 => h
  | r + 1 => Bs.goes _ _ (h.rounds r)
/-- After a round what is open has its own in. -/
theorem marks_in {l : List Nod} {x : Nat} : ∀ (es : List EntT) (s : BS) (e : EntT), e ∈ es → atN l e.2.2.2 = some x → x < s.1.length → x < s.2.length → On (es.foldl (markE l) s).1 x ∧ On (es.foldl (markE l) s).2 x
  | [], s, e, he, _, _, _ => by simp at he
  | e' :: es, s, e, he, hx, h1, h2 => by
    obtain ⟨m1, m2⟩ := markE_len l s e'
    rcases List.mem_cons.1 he with rfl | h3
    · rw [List.foldl_cons]
      have hm : markE l s e = (s.1.set x true, s.2.set x true) := by rw [markE, hx]
      exact ⟨(marks_on es _).1 (by rw [hm]; exact On.set_self h1), (marks_on es _).2 (by rw [hm]; exact On.set_self h2)⟩
    · exact marks_in es _ e h3 hx (by rw [m1]; exact h1) (by rw [m2]; exact h2)
theorem goes_in {l : List Nod} {a : Int} {i x : Nat} {nd : Nod} {e : EntT} (hn : l[i]? = some nd) (he : e ∈ nd.2.2.2.2) (hx : atN l e.2.2.2 = some x) : ∀ (ks : List Nat) (s : BS), Bs l a s → i ∈ ks → On s.2 i → On (ks.foldl (goI l) s).1 x ∧ On (ks.foldl (goI l) s).2 x
  | [], s, _, h, _ => by simp at h
  | k :: ks, s, hs, h, ho => by
    rcases List.mem_cons.1 h with rfl | h3
    · rw [List.foldl_cons]
      have hg : goI l s i = nd.2.2.2.2.foldl (markE l) s := by rw [goI, hn]; exact if_pos ho
      have hxl := atN_lt hx
      obtain ⟨g1, g2⟩ := marks_in nd.2.2.2.2 s e he hx (by rw [hs.l1]; exact hxl) (by rw [hs.l2]; exact hxl)
      exact ⟨(goes_on ks _).1 (by rw [hg]; exact g1), (goes_on ks _).2 (by rw [hg]; exact g2)⟩
    · exact goes_in hn he hx ks _ (hs.go k) h3 (goI_on.2 ho)
def cntB (s : List Bool) : Nat := s.count true
theorem cnt_set : ∀ (s : List Bool) (x : Nat), cntB s ≤ cntB (s.set x true)
  | [], x => by simp [cntB]
  | b :: s, 0 => by cases b <;> simp [cntB]
  | b :: s, x + 1 => by
    have := cnt_set s x
    simp only [cntB, List.set_cons_succ, List.count_cons] at *
    omega
theorem cnt_set_lt : ∀ (s : List Bool) (x : Nat), s.set x true ≠ s → cntB s < cntB (s.set x true)
  | [], x, h => by simp at h
  | b :: s, 0, h => by cases b <;> simp [cntB] at *
  | b :: s, x + 1, h => by
    have := cnt_set_lt s x (fun e => h (by rw [List.set_cons_succ, e]))
    simp only [cntB, List.set_cons_succ, List.count_cons] at *
    omega
/-- The open ones grow in number, or stay as they are. -/
def Gw (s t : List Bool) : Prop := t = s ∨ cntB s < cntB t
theorem Gw.trans {a b c : List Bool} (h1 : Gw a b) (h2 : Gw b c) : Gw a c := by
  rcases h1 with rfl | h1
  · exact h2
  · rcases h2 with rfl | h2
    · exact .inr h1
    · exact .inr (Nat.lt_trans h1 h2)
theorem markE_gw (l : List Nod) (s : BS) (e : EntT) : Gw s.2 (markE l s e).2 := by
  unfold markE; split
  · exact .inl rfl
  · rename_i x _
    by_cases h : s.2.set x true = s.2
    · exact .inl h
    · exact .inr (cnt_set_lt _ _ h)
theorem marks_gw (l : List Nod) : ∀ (es : List EntT) (s : BS), Gw s.2 (es.foldl (markE l) s).2
  | [], s => .inl rfl
  | e :: es, s => (markE_gw l s e).trans (marks_gw l es _)
theorem goI_gw (l : List Nod) (s : BS) (i : Nat) : Gw s.2 (goI l s i).2 := by
  unfold goI; split
  · exact .inl rfl
  · split
    · exact marks_gw _ _ _
    · exact .inl rfl
theorem goes_gw (l : List Nod) : ∀ (ks : List Nat) (s : BS), Gw s.2 (ks.foldl (goI l) s).2
  | [], s => .inl rfl
  | k :: ks, s => (goI_gw l s k).trans (goes_gw l ks _)
/-- Open places lead to open places. -/
def ClosedB (l : List Nod) (o : List Bool) : Prop := ∀ i x (nd : Nod) (e : EntT), On o i → l[i]? = some nd → e ∈ nd.2.2.2.2 → atN l e.2.2.2 = some x → On o x
theorem marks_closed {l : List Nod} {o : List Bool} : ∀ (es : List EntT) (s : BS), s.2 = o → (∀ e ∈ es, ∀ x, atN l e.2.2.2 = some x → On o x) → (es.foldl (markE l) s).2 = o
  | [], s, h, _ => h
  | e :: es, s, h, hc => by
    rw [List.foldl_cons]
    refine marks_closed es _ ?_ fun x hx => hc x (List.mem_cons_of_mem _ hx)
    unfold markE; split
    · exact h
    · rename_i x hx
      show s.2.set x true = o
      rw [h]; exact set_on (hc e List.mem_cons_self x hx)
theorem goes_closed {l : List Nod} {o : List Bool} (hc : ClosedB l o) : ∀ (ks : List Nat) (s : BS), s.2 = o → (ks.foldl (goI l) s).2 = o
  | [], s, h => h
  | k :: ks, s, h => by
    rw [List.foldl_cons]
    refine goes_closed hc ks _ ?_
    unfold goI; split
    · exact h
    · rename_i x hx
      split
      · rename_i ho
        rw [h] at ho
        exact marks_closed _ _ h fun e he y hy => hc k y x e ho hx he hy
      · exact h
theorem round_closed {l : List Nod} {a : Int} {s : BS} (hs : Bs l a s) (h : (roundS l s).2 = s.2) : ClosedB l s.2 := by
  intro i x nd e ho hn he hx
  have hi : i ∈ List.range l.length := List.mem_range.2 (List.getElem?_eq_some_iff.1 hn).1
  have := (goes_in hn he hx (List.range l.length) s hs hi ho).2
  rw [roundS] at h
  rwa [h] at this
theorem cnt_le : ∀ (s : List Bool), cntB s ≤ s.length := fun s => List.count_le_length
theorem rounds_cnt {l : List Nod} {a : Int} {s : BS} (hs : Bs l a s) (h0 : 0 < cntB s.2) : ∀ r, r < cntB (roundsS l s r).2 ∨ ((roundS l (roundsS l s r)).2 = (roundsS l s r).2)
  | 0 => .inl h0
  | r + 1 => by
    rcases rounds_cnt hs h0 r with h1 | h1
    · rcases goes_gw l (List.range l.length) (roundsS l s r) with h2 | h2
      · refine .inr ?_
        have hc := round_closed (hs.rounds r) h2
        show (roundS l (roundS l (roundsS l s r))).2 = (roundS l (roundsS l s r)).2
        have h3 : (roundS l (roundsS l s r)).2 = (roundsS l s r).2 := h2
        rw [h3]
        exact goes_closed hc _ _ h3
      · refine .inl ?_
        show r + 1 < cntB (roundS l (roundsS l s r)).2
        have : cntB (roundsS l s r).2 < cntB (roundS l (roundsS l s r)).2 := h2
        omega
    · refine .inr ?_
      have hc := round_closed (hs.rounds r) h1
      show (roundS l (roundS l (roundsS l s r))).2 = (roundS l (roundsS l s r)).2
      rw [h1]
      exact goes_closed hc _ _ h1
def start0 (l : List Nod) (k : Nat) : BS := (List.replicate l.length false, (List.replicate l.length false).set k true)
/-- What l6Below computes. -/
def belowS (l : List Nod) (a : Int) : List Bool := match atN l a with
  | none => List.replicate l.length false
  | some k => (roundsS l (start0 l k) l.length).1
theorem not_on_rep {n i : Nat} : ¬ On (List.replicate n false) i := by
  unfold On
  rw [List.getElem?_replicate]
  split <;> simp
theorem belowS_len (l : List Nod) (a : Int) (h : ∀ k, atN l a = some k → Bs l a (start0 l k)) : (belowS l a).length = l.length := by
  unfold belowS; split
  · simp
  · rename_i k hk
    exact ((h k hk).rounds _).l1
theorem start0_Bs {l : List Nod} {a : Int} {k : Nat} (h : atN l a = some k) : Bs l a (start0 l k) :=
  ⟨by simp [start0], by simp [start0], fun i hi => absurd hi not_on_rep, fun i hi => by
    rcases On.of_set hi with h1 | ⟨rfl, _⟩
    · exact absurd h1 not_on_rep
    · exact .inl h⟩
theorem belowS_ok (l : List Nod) (a : Int) (x : Nat) : On (belowS l a) x ↔ ∃ b, Blw l a b ∧ atN l b = some x := by
  unfold belowS; split
  · rename_i hk
    refine ⟨fun h => absurd h not_on_rep, fun ⟨b, hb, _⟩ => ?_⟩
    exfalso
    have h0 : kidsL l a = [] := by rw [kidsL, hk]
    have : ∀ c, Blw l a c → False := by
      intro c hc
      induction hc with
      | one h1 => rw [h0] at h1; simp at h1
      | more _ _ ih => exact ih
    exact this b hb
  · rename_i k hk
    have hs := start0_Bs hk
    refine ⟨fun h => (hs.rounds _).inn x h, fun ⟨b, hb, hx⟩ => ?_⟩
    obtain ⟨n, hn⟩ : ∃ n, l.length = n + 1 := ⟨l.length - 1, by have := atN_lt hk; omega⟩
    have hkl : k < (List.replicate l.length false).length := by simp; exact atN_lt hk
    have h0 : 0 < cntB (start0 l k).2 := by
      have hh : On (start0 l k).2 k := On.set_self hkl
      exact List.count_pos_iff.2 (List.mem_of_getElem? hh)
    have hfix : (roundS l (roundsS l (start0 l k) n)).2 = (roundsS l (start0 l k) n).2 := by
      rcases rounds_cnt hs h0 n with h1 | h1
      · rcases goes_gw l (List.range l.length) (roundsS l (start0 l k) n) with h2 | h2
        · exact h2
        · exfalso
          have h3 := cnt_le (roundsS l (start0 l k) (n + 1)).2
          rw [(hs.rounds (n + 1)).l2] at h3
          have h4 : cntB (roundsS l (start0 l k) n).2 < cntB (roundsS l (start0 l k) (n + 1)).2 := h2
          omega
      · exact h1
    have hsn := hs.rounds n
    have hopen : On (roundsS l (start0 l k) n).2 k := by
      have : ∀ r, On (roundsS l (start0 l k) r).2 k := by
        intro r
        induction r with
        | zero => exact On.set_self hkl
        | succ r ih => exact (goes_on _ _).2 ih
      exact this n
    have key : ∀ b, Blw l a b → ∀ x, atN l b = some x → On (roundsS l (start0 l k) (n + 1)).1 x ∧ On (roundsS l (start0 l k) n).2 x := by
      have step : ∀ p i, atN l p = some i → On (roundsS l (start0 l k) n).2 i → ∀ c ∈ kidsL l p, ∀ x, atN l c = some x → On (roundsS l (start0 l k) (n + 1)).1 x ∧ On (roundsS l (start0 l k) n).2 x := by
        intro p i hp ho c hc x hx
        obtain ⟨nd, hnd, _⟩ := atN_some hp
        rw [kids_of hp hnd] at hc
        obtain ⟨e, he, rfl⟩ := List.mem_map.1 hc
        have := goes_in hnd he hx (List.range l.length) _ hsn (List.mem_range.2 (atN_lt hp)) ho
        refine ⟨this.1, ?_⟩
        have h5 := this.2
        rw [roundS] at hfix
        rwa [hfix] at h5
      have none0 : ∀ p, atN l p = none → kidsL l p = [] := fun p hp => by rw [kidsL, hp]
      intro b hb
      induction hb with
      | one h1 => exact step a k hk hopen _ h1
      | @more p c _ h1 ih =>
        cases hp : atN l p with
        | none => rw [none0 p hp] at h1; simp at h1
        | some i => exact step p i hp (ih i hp).2 _ h1
    rw [hn]
    exact (key b hb x hx).1
end Go.Proofs.YtaogikhpglcmjaaGreatDoor

namespace Go.Proofs.YtaogikhpglcmjaaGreatDoor
open Go.RowKit
set_option linter.unusedVariables false

theorem volB_no1 {next : Int} {l : List Nod} (h : headOk next l = false) : volB next l = false := by rw [volB, h]; rfl
theorem volB_no2 {next : Int} {l : List Nod} (h : nodsTo next l l.length = false) : volB next l = false := by rw [volB, h]; simp
theorem volB_end {next : Int} {l : List Nod} (h1 : headOk next l = true) (h2 : nodsTo next l l.length = true) : volB next l = (l.drop 1).all fun x => blwB l 1 x.1 := by rw [volB, h1, h2]; simp
theorem head_no1 {next : Int} {l : List Nod} (h : inB next 2 100000 = false) : headOk next l = false := by rw [headOk, h]; rfl
theorem head_no2 {next : Int} {l : List Nod} (h : inB (l.length : Int) 1 16 = false) : headOk next l = false := by simp [headOk, h]
theorem head_no3 {next : Int} {l : List Nod} {x : Nod} (h0 : l[0]? = some x) (h : ¬ (x.1 = 1 ∧ x.2.1 = 2)) : headOk next l = false := by
  cases hh : headOk next l with
  | false => rfl
  | true =>
    simp only [headOk, h0, Bool.and_eq_true, decide_eq_true_eq] at hh
    exact absurd hh.2 h
theorem head_yes {next : Int} {l : List Nod} {x : Nod} (h1 : inB next 2 100000 = true) (h2 : inB (l.length : Int) 1 16 = true) (h0 : l[0]? = some x) (h3 : x.1 = 1) (h4 : x.2.1 = 2) : headOk next l = true := by
  simp only [headOk, h0, Bool.and_eq_true, decide_eq_true_eq]
  exact ⟨⟨h1, h2⟩, h3, h4⟩
theorem nodAt_no1 {next : Int} {l : List Nod} {k : Nat} {x : Nod} (h : inB x.1 1 (next - 1) = false) : nodAt next l k x = false := by simp only [nodAt, h, Bool.false_and]
theorem nodAt_no2 {next : Int} {l : List Nod} {k : Nat} {x p : Nod} (hp : l[k]? = some p) (h : x.1 ≤ p.1) : nodAt next l (k + 1) x = false := by
  have : decide (p.1 < x.1) = false := decide_eq_false (by omega)
  simp only [nodAt, hp, this, Bool.and_false, Bool.false_and]
theorem nodAt_0 {next : Int} {l : List Nod} {x : Nod} (h : inB x.1 1 (next - 1) = true) : nodAt next l 0 x = nodOk l x := by simp only [nodAt, h, Bool.true_and]
theorem nodAt_s {next : Int} {l : List Nod} {k : Nat} {x p : Nod} (h : inB x.1 1 (next - 1) = true) (hp : l[k]? = some p) (h1 : p.1 < x.1) : nodAt next l (k + 1) x = nodOk l x := by
  simp only [nodAt, h, hp, decide_eq_true h1, Bool.true_and]
theorem nodsTo_succ {next : Int} {l : List Nod} {k : Nat} {x : Nod} (hx : l[k]? = some x) (h0 : nodsTo next l k = true) (h : nodAt next l k x = true) : nodsTo next l (k + 1) = true := by
  rw [nodsTo, hx, h0, Bool.true_and]; exact h
/-- Of a right volume's inodes each has few entries. -/
theorem nodOk_few {l : List Nod} {x : Nod} (h : nodOk l x = true) : x.2.2.2.2.length ≤ 12 := by
  unfold nodOk at h
  split at h
  · simp only [Bool.and_eq_true, decide_eq_true_eq] at h
    omega
  · simp only [Bool.and_eq_true, decide_eq_true_eq] at h
    exact (dirB_R h.1.1.2).len
theorem nodsTo_few {next : Int} {l : List Nod} (h : nodsTo next l l.length = true) : ∀ x ∈ l, x.2.2.2.2.length ≤ 12 := by
  intro x hx
  obtain ⟨k, hk⟩ := List.getElem?_of_mem hx
  have h1 := nodsTo_at h hk
  unfold nodAt at h1
  rw [Bool.and_eq_true] at h1
  exact nodOk_few h1.2
theorem allIds_le : ∀ (l : List Nod), (∀ x ∈ l, x.2.2.2.2.length ≤ 12) → (allIds l).length ≤ 12 * l.length
  | [], _ => by simp [allIds]
  | x :: l, h => by
    have h1 := allIds_le l fun y hy => h y (List.mem_cons_of_mem _ hy)
    have h2 := h x List.mem_cons_self
    simp only [allIds, List.flatMap_cons, List.length_append, List.length_map, List.length_cons] at h1 ⊢
    omega
theorem drop_all {l : List Nod} {out : List Int} (h : ∀ x, x ∈ out ↔ Blw l 1 x) : ((l.drop 1).all fun x => blwB l 1 x.1) = (l.drop 1).all fun x => decide (x.1 ∈ out) := by
  congr 1
  funext x
  rw [Bool.eq_iff_iff, blwB_iff, decide_eq_true_iff, h]
/-- The reference's rounds tell the same, place by place. -/
theorem rounds_no {l : List Nod} (hs : l.Pairwise fun a b => a.1 < b.1) {a : Int} {i : Nat} {x : Nod} (hx : l[i]? = some x) : (belowS l a)[i]? = some (blwB l a x.1) := by
  have hat := nodup_at hs hx
  have hlen : i < (belowS l a).length := by
    rw [belowS_len l a fun k hk => start0_Bs hk]
    exact (List.getElem?_eq_some_iff.1 hx).1
  have h1 := belowS_ok l a i
  have h2 : On (belowS l a) i ↔ blwB l a x.1 = true := by
    rw [h1, blwB_iff]
    refine ⟨fun ⟨b, hb, hbi⟩ => ?_, fun hb => ⟨_, hb, hat⟩⟩
    obtain ⟨y, hy, hyb⟩ := atN_some hbi
    rw [hx] at hy
    injection hy with hy
    subst hy
    rw [hyb]; exact hb
  obtain ⟨b, hb⟩ : ∃ b, (belowS l a)[i]? = some b := ⟨_, List.getElem?_eq_getElem hlen⟩
  rw [hb]
  unfold On at h2
  rw [hb] at h2
  congr 1
  rw [Bool.eq_iff_iff, ← h2]
  simp
end Go.Proofs.YtaogikhpglcmjaaGreatDoor

namespace Go.Proofs.YtaogikhpglcmjaaGreatDoor
open Go.RowKit

theorem sA {α : Type} {xs : List α} {i : Nat} (h : i < xs.toArray.size) : xs.toArray[i] = xs[i]'(by simpa using h) := List.getElem_toArray h
theorem sB {α : Type} (a : α) (l : List α) (i : Nat) (h : i + 1 < (a :: l).length) : (a :: l)[i + 1] = l[i]'(Nat.lt_of_succ_lt_succ h) := rfl
theorem sC {α : Type} (a : α) (l : List α) (h : 0 < (a :: l).length) : (a :: l)[0] = a := rfl
theorem sD {α : Type} (l : List α) (i : Nat) (a : α) : l.toArray.setIfInBounds i a = (l.set i a).toArray := List.setIfInBounds_toArray ..
theorem sE {α : Type} (x : α) (xs : List α) (a : α) : (x :: xs).set 0 a = a :: xs := rfl
theorem sF {α : Type} (x : α) (xs : List α) (n : Nat) (a : α) : (x :: xs).set (n + 1) a = x :: xs.set n a := rfl
section
variable {P : Program} {md : Region.Mode} {ops : Array Oper} {Q : Exit → Act → World → Prop} {S : World → Prop} {oi : Oper} {v : Value} {fuel : Nat} {listed l' : Array Bool} {a a' : Act} {w : World}
/-- A value taken out of a drawn region: the side conditions show themselves. -/
theorem wpT (i : Nat) (h : wpAnyH P md ops Q S fuel l' a' w) (hi : ops[i]? = some oi := by exact rfl)
    (hv : ∀ w, S w → (execOp a.eval oi).run P w = .ok (.value v) w := by intro w hSw; (try dsimp only at hSw); go_simp; try (with_reducible rfl))
    (ha : a.put oi.dst v = a' := by (try simp only [sA, sB, sC, Act.put, sD, sE, sF]); try exact rfl)
    (hl : listed.setIfInBounds i true = l' := by (try simp only [sD, sE, sF]); try exact rfl)
    (hs : Region.noSelect ops = true := by kernel_rfl) (hf : Region.free md ops listed i = true := by kernel_rfl) (hr : (Region.ready md ops listed).contains i = true := by kernel_rfl)
    (hQ : ∀ c a w, Q (.panic c) (a.put oi.dst v) w → Q (.panic c) a w := by first | exact fun _ _ _ h => h | exact fun _ _ _ h => nomatch h.1) (hy : Region.wanted oi (yielded ops a.tmps) = true := by kernel_rfl) (hS : S w := by assumption) : wpAnyH P md ops Q S (fuel + 1) listed a w := by
  subst ha hl
  exact wpAnyH_take hi hs hf hr hQ (Or.inl ⟨hy, hv⟩) hS h
/-- An operation whose guard is off. -/
theorem wpS (i : Nat) (h : wpAnyH P md ops Q S fuel l' a' w) (hi : ops[i]? = some oi := by exact rfl)
    (ha : a.put oi.dst undef = a' := by (try simp only [sA, sB, sC, Act.put, sD, sE, sF]); try exact rfl)
    (hl : listed.setIfInBounds i true = l' := by (try simp only [sD, sE, sF]); try exact rfl)
    (hs : Region.noSelect ops = true := by kernel_rfl) (hf : Region.free md ops listed i = true := by kernel_rfl) (hr : (Region.ready md ops listed).contains i = true := by kernel_rfl)
    (hQ : ∀ c a w, Q (.panic c) (a.put oi.dst undef) w → Q (.panic c) a w := by first | exact fun _ _ _ h => h | exact fun _ _ _ h => nomatch h.1) (hy : Region.wanted oi (yielded ops a.tmps) = false := by kernel_rfl) (hS : S w := by assumption) : wpAnyH P md ops Q S (fuel + 1) listed a w := by
  subst ha hl
  exact wpAnyH_take hi hs hf hr hQ (Or.inr ⟨hy, rfl⟩) hS h
/-- The one operation that is ready. -/
theorem wpC (i : Nat) {o : Oper} (h : ∀ K' : Act → World → Prop, Shut (∀ a w, S w → (S w → wpAnyH P md ops Q S fuel (listed.setIfInBounds i true) a w) → K' a w) → if Region.wanted o (yielded ops a.tmps) = true then Oper.wp P o a w K' Q else K' (a.put o.dst undef) w)
    (ho : ops[i]? = some o := by exact rfl) (hr : Region.ready md ops listed = [i] := by kernel_rfl) : wpAnyH P md ops Q S (fuel + 1) listed a w :=
  wpAnyH_ready hr (by simp) (AllReadyH.cons ho h AllReadyH.nil)
end
theorem snocRec {α : Type} {p : List α → Prop} (nil : p []) (snoc : ∀ l a, p l → p (l ++ [a])) (l : List α) : p l := by
  have h : ∀ n, ∀ l : List α, l.length = n → p l := by
    intro n
    induction n with
    | zero => intro l hl; rw [List.eq_nil_of_length_eq_zero hl]; exact nil
    | succ n ih =>
      intro l hl
      rcases List.eq_nil_or_concat l with h | ⟨l', a, h⟩
      · subst h; cases hl
      · rw [List.concat_eq_append] at h
        subst h
        exact snoc l' a (ih l' (by simpa using hl))
  exact h _ l rfl
theorem fm_congr {α β : Type} {f g : α → Option β} : ∀ {l : List α}, (∀ x ∈ l, f x = g x) → l.filterMap f = l.filterMap g
  | [], _ => rfl
  | x :: l, h => by
    rw [List.filterMap_cons, List.filterMap_cons, h x (by simp), fm_congr (l := l) fun y hy => h y (by simp [hy])]
/-- The list in another order. -/
theorem Hp.reord {W : List Nat} {w0 w : World} {l : List Ob} (h : Hp W w0 w l) (is : List Nat) {n : Nat} (hn : l.length = n) (hp : is.Perm (List.range n)) : Hp W w0 w (is.filterMap fun i => l[i]?) := by
  subst hn
  refine h.perm (List.Perm.symm ?_)
  have h1 := hp.filterMap (fun i => l[i]?)
  have h2 : (List.range l.length).filterMap (fun i => l[i]?) = l := by
    clear h1 hp h
    induction l using snocRec with
    | nil => rfl
    | snoc l a ih =>
      rw [List.length_append, List.length_singleton, List.range_succ, List.filterMap_append]
      have h3 : (List.range l.length).filterMap (fun i => (l ++ [a])[i]?) = (List.range l.length).filterMap (fun i => l[i]?) := by
        apply fm_congr
        intro i hi
        rw [List.getElem?_append_left (List.mem_range.1 hi)]
      rw [h3, ih]
      simp
  rwa [h2] at h1

section
variable {P : Program} {ops : Array Oper} {o : Oper} {a : Act} {Q : Exit → Act → World → Prop} {E : TypeId} {z : Value} {k bytes : Nat} {W : List Nat} {w0 w : World} {l : List Ob}
/-- 'append(s, t...)' as a step of a region that draws its order. -/
theorem step_appRd {K : Act → World → Prop} {E0 : Prop} (H : Hp W w0 w l) (hgd : o.guard = none) (s x : Operand) (t : TypeId) (ho : o.op = .call { callee := .builtin .append, args := #[s, x], argTypes := #[t, t] })
    (ht : P.underlying t = some (.slice E)) (hI : (P.info? E).map (fun i => (i.zero, i.size, i.bytes)) = some (some z, k, bytes)) (hzs : z.cells.size = k) (hsz : 0 < k)
    (i : Nat) (v : Value) (n : Nat) (xs : List Value) (hrow : l[i]? = some (.row E k v n xs)) (hs : a.eval s = v) (A : Option Addr) (m c : Nat) (ys : List Value) (hx : a.eval x = .slice A m c) (hc : A = none → c = 0)
    (hrd : Rd w A m k ys) (h1 : ∀ u ∈ ys, u.oneCell' = true) (h63 : n + m ≤ maxLen) (hbytes : (n + m) * bytes ≤ 140737488355328)
    (h : ∀ v' w', Hp W w0 w' (l.set i (.row E k v' (n + m) (xs ++ ys))) → K (a.put o.dst v') w') :
    if Region.wanted o (yielded ops a.tmps) = true then Oper.wp P o a w K Q else E0 := by
  rw [if_pos (by simp [Region.wanted, hgd])]
  obtain ⟨inf, hi, hz, hsize, hby⟩ := info_parts hI
  cases A with
  | none =>
    have hm : m = 0 := by
      rcases Nat.eq_zero_or_pos m with h0 | h0
      · exact h0
      · obtain ⟨b, o, e, _⟩ := hrd.2 h0; cases e
    subst hm
    obtain rfl := hc rfl
    have hys : ys = [] := List.eq_nil_of_length_eq_zero (by simpa using hrd.1)
    subst hys
    have hr := run_append_owned_none (P := P) (w := w) 0 t o.type E inf k ht hi v n xs (H.row i hrow)
    have hres := h v w (by
      have h2 := H.turnRow i hrow (Gr.refl _ w) (H.row i hrow) (.inl rfl)
      simpa using h2)
    unfold Oper.wp execOp
    simp only [ho, resolve, invoke, builtin, Sem.run_bind, Sem.run_pure, Result.andThen_ok, List.map_toArray, List.map_cons, List.map_nil, hs, hx, hr]
    exact hres
  | some ad =>
    obtain ⟨v', w', hr, h2, h3, _, h5⟩ := run_append_own_at (P := P) w 0 t o.type E inf z k bytes ht hi hz hsize hby hzs hsz v n xs (H.row i hrow) ad m c ys hrd.1 (fun j u hu => by
      obtain ⟨b, o, e, hcell⟩ := hrd.get hu
      injection e with e
      subst e
      rw [Addr.add_lit]
      exact hcell) h1 h63 hbytes (Nat.zero_le _)
    have hres := h v' w' (H.grow i hrow h3 h2 (h5.imp id fun e g hg => by rw [e] at hg; injection hg with hg; omega))
    unfold Oper.wp execOp
    simp only [ho, resolve, invoke, builtin, Sem.run_bind, Sem.run_pure, Result.andThen_ok, List.map_toArray, List.map_cons, List.map_nil, hs, hx, hr]
    exact hres
/-- One word of what all orders of a region leave. -/
theorem wp_joint {c : Code} (R : Act → Act → World → Prop) (h1 : c.wp P (fun e a' w' => e = .normal ∧ R a a' w') a w) (h2 : ∀ a' w', R a a' w' → Q .normal a' w') : c.wp P Q a w :=
  Code.wp_mono (fun e a' w' ⟨he, hr⟩ => by subst he; exact h2 a' w' hr) h1
/-- The same; the word is hidden while the orders are walked. -/
theorem wp_jointH {c : Code} (R : Act → Act → World → Prop) (h1 : ∀ R' : Act → World → Prop, Hid (∀ a' w', R a a' w' → R' a' w') → c.wp P (fun e a' w' => e = .normal ∧ R' a' w') a w) (h2 : ∀ a' w', R a a' w' → Q .normal a' w') : c.wp P Q a w :=
  Code.wp_mono (fun e a' w' ⟨he, hr⟩ => by subst he; exact h2 a' w' hr) (h1 (R a) (Lib.hid fun _ _ h => h))
/-- The orders of a region meet: what holds there is said once ('J'), and gone on from once. -/
theorem wpAnyH_join {ops : Array Oper} {md : Region.Mode} {S : World → Prop} {fuel : Nat} {listed : Array Bool} (J : (Act → World → Prop) → Prop) (fuel' : Nat) (listed' : Array Bool)
    (h1 : Hid (J fun a' u => S u → wpAnyH P md ops Q S fuel' listed' a' u) → wpAnyH P md ops Q S fuel listed a w) (h2 : J fun a' u => S u → wpAnyH P md ops Q S fuel' listed' a' u) : wpAnyH P md ops Q S fuel listed a w := h1 (Lib.hid h2)
end
end Go.Proofs.YtaogikhpglcmjaaGreatDoor
