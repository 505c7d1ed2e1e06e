/-
  Many texts in one: MBelow, MVolW, MVolOk, MVolOk2, MVolOk3, SlDel, Has.
-/
import Derived.Test.YtllonpbhgbhogaaGreatDoorGe
import Derived.Test.YtllonpbhgbhogaaGreatDoorGa
import Derived.Test.YtllonpbhgbhogaaGreatDoorGb
import Derived.Shelf.RegionOpenPlain
import Derived.Lib.Walk
set_option linter.unusedVariables false
set_option linter.unusedSimpArgs false
namespace Go.Proofs.YtllonpbhgbhogaaGreatDoor
open Go.RowKit
theorem nodup_len : ∀ (l m : List Int), l.Nodup → (∀ x ∈ l, x ∈ m) → l.length ≤ m.length
 | [], m, _, _ => by simp
 | a :: l, m, h, hs => by
   have hn := List.nodup_cons.1 h;have h1 := nodup_len l (m.erase a) hn.2 fun x hx => (List.mem_erase_of_ne (fun e : x = a => hn.1 (by rw [← e]; exact hx))).2 (hs x (List.mem_cons_of_mem _ hx));have h2 := hs a List.mem_cons_self;rw [List.length_erase_of_mem h2] at h1;have h3 := List.length_pos_of_mem h2;rw [List.length_cons]; omega
def allIds (l : List Nod) : List Int := l.flatMap fun x => x.2.2.2.2.map fun e => e.2.2.2
theorem kids_all {l : List Nod} {a c : Int} (h : c ∈ kidsL l a) : c ∈ allIds l := by
 unfold kidsL at h
 split at h
 ·simp at h
 ·split at h
  ·simp at h
  ·rename_i k _ x hx
   exact List.mem_flatMap.2 ⟨x, List.mem_of_getElem? hx, h⟩
structure Bq (l : List Nod) (a : Int) (out q : List Int) (cur : Option Int) (done : List Int) : Prop where
 nd : out.Nodup
 all : ∀ x ∈ out, x ∈ allIds l
 sound : ∀ x ∈ out, Blw l a x
 qs : ∀ x ∈ q, x = a ∨ x ∈ out
 cs : ∀ x, cur = some x → x = a ∨ x ∈ out
 closed : ∀ b, (b = a ∨ b ∈ out) → b ∈ q ∨ cur = some b ∨ ∀ c ∈ kidsL l b, c ∈ out
 dn : ∀ c ∈ done, c ∈ out
theorem Bq.start (l : List Nod) (a : Int) : Bq l a [] [a] none [] :=
 ⟨.nil, by simp, by simp, by simp, by simp, by simp, by simp⟩
theorem Bq.pop {l : List Nod} {a x : Int} {out q : List Int} (h : Bq l a out (x :: q) none []) : Bq l a out q (some x) [] :=
 ⟨h.nd, h.all, h.sound, fun y hy => h.qs y (List.mem_cons_of_mem _ hy), fun y hy => by injection hy with hy; subst hy; exact h.qs x List.mem_cons_self, fun b hb => by
  rcases h.closed b hb with h1 | h1 | h1
  ·rcases List.mem_cons.1 h1 with rfl | h2
   ·exact .inr (.inl rfl)
   ·exact .inl h2
  ·cases h1
  ·exact .inr (.inr h1), by simp⟩
theorem Bq.old {l : List Nod} {a x c : Int} {out q done : List Int} (h : Bq l a out q (some x) done) (hc : c ∈ out) : Bq l a out q (some x) (done ++ [c]) :=
 ⟨h.nd, h.all, h.sound, h.qs, h.cs, h.closed, fun y hy => by
  rcases List.mem_append.1 hy with h1 | h1
  ·exact h.dn y h1
  ·rw [List.mem_singleton.1 h1]; exact hc⟩
theorem Bq.fresh {l : List Nod} {a x c : Int} {out q done : List Int} (h : Bq l a out q (some x) done) (hc : ¬ c ∈ out) (hk : c ∈ kidsL l x) : Bq l a (out ++ [c]) (q ++ [c]) (some x) (done ++ [c]) :=
 ⟨List.nodup_append.2 ⟨h.nd, by simp, fun y hy z hz => by
  rw [List.mem_singleton.1 hz]; exact fun e => hc (e ▸ hy)⟩, fun y hy => by
  rcases List.mem_append.1 hy with h1 | h1
  ·exact h.all y h1
  ·rw [List.mem_singleton.1 h1]; exact kids_all hk, fun y hy => by
  rcases List.mem_append.1 hy with h1 | h1
  ·exact h.sound y h1
  ·rw [List.mem_singleton.1 h1]
   rcases h.cs x rfl with h2 | h2
   ·rw [h2] at hk; exact .one hk
   ·exact .more (h.sound x h2) hk, fun y hy => by
  rcases List.mem_append.1 hy with h1 | h1
  ·rcases h.qs y h1 with h2 | h2
   ·exact .inl h2
   ·exact .inr (List.mem_append_left _ h2)
  ·exact .inr (List.mem_append_right _ h1), fun y hy => by
  rcases h.cs y hy with h2 | h2
  ·exact .inl h2
  ·exact .inr (List.mem_append_left _ h2), fun b hb => by
  have hb2 : (b = a ∨ b ∈ out) ∨ b = c := by
   rcases hb with h1 | h1
   ·exact .inl (.inl h1)
   ·rcases List.mem_append.1 h1 with h2 | h2
    ·exact .inl (.inr h2)
    ·exact .inr (List.mem_singleton.1 h2)
  rcases hb2 with h1 | h1
  ·rcases h.closed b h1 with h2 | h2 | h2
   ·exact .inl (List.mem_append_left _ h2)
   ·exact .inr (.inl h2)
   ·exact .inr (.inr fun y hy => List.mem_append_left _ (h2 y hy))
  ·exact .inl (List.mem_append_right _ (by rw [h1]; simp)), fun y hy => by
  rcases List.mem_append.1 hy with h1 | h1
  ·exact List.mem_append_left _ (h.dn y h1)
  ·exact List.mem_append_right _ h1⟩
theorem Bq.close {l : List Nod} {a x : Int} {out q done : List Int} (h : Bq l a out q (some x) done) (hk : ∀ c ∈ kidsL l x, c ∈ done) : Bq l a out q none [] :=
 ⟨h.nd, h.all, h.sound, h.qs, by simp, fun b hb => by
  rcases h.closed b hb with h2 | h2 | h2
  ·exact .inl h2
  ·injection h2 with h2; subst h2
   exact .inr (.inr fun c hc => h.dn c (hk c hc))
  ·exact .inr (.inr h2), by simp⟩
theorem Bq.done {l : List Nod} {a : Int} {out : List Int} (h : Bq l a out [] none []) (x : Int) : x ∈ out ↔ Blw l a x := by
 have hcl : ∀ b, (b = a ∨ b ∈ out) → ∀ c ∈ kidsL l b, c ∈ out := fun b hb => by
  rcases h.closed b hb with h2 | h2 | h2
  ·simp at h2
  ·cases h2
  ·exact h2
 refine ⟨h.sound x, fun hx => ?_⟩
 induction hx with
 | one h1 => exact hcl a (.inl rfl) _ h1
 | more _ h1 ih => exact hcl _ (.inr ih) _ h1
theorem Bq.len {l : List Nod} {a : Int} {out q done : List Int} {cur : Option Int} (h : Bq l a out q cur done) : out.length ≤ (allIds l).length :=
 nodup_len _ _ h.nd fun x hx => h.all x hx
abbrev BS := List Bool × List Bool
def markE (l : List Nod) (s : BS) (e : EntT) : BS := match atN l e.2.2.2 with
 | none => s
 | some x => (s.1.set x true, s.2.set x true)
def goI (l : List Nod) (s : BS) (i : Nat) : BS := match l[i]? with
 | none => s
 | some x => if s.2[i]? = some true then x.2.2.2.2.foldl (markE l) s else s
def roundS (l : List Nod) (s : BS) : BS := (List.range l.length).foldl (goI l) s
def roundsS (l : List Nod) (s : BS) : Nat → BS
 | 0 => s
 | r + 1 => roundS l (roundsS l s r)
def On (s : List Bool) (i : Nat) : Prop := s[i]? = some true
theorem On.set {s : List Bool} {i x : Nat} (h : On s i) : On (s.set x true) i := by
 unfold On at *;rw [List.getElem?_set];have := (List.getElem?_eq_some_iff.1 h).1
 split
 ·rename_i e; subst e; simp [this]
 ·exact h
theorem On.set_self {s : List Bool} {x : Nat} (h : x < s.length) : On (s.set x true) x := by
 unfold On; rw [List.getElem?_set_self h]
theorem On.of_set {s : List Bool} {i x : Nat} (h : On (s.set x true) i) : On s i ∨ (i = x ∧ x < s.length) := by
 unfold On at *;rw [List.getElem?_set] at h
 split at h
 ·rename_i e
  split at h
  ·exact .inr ⟨e.symm, by assumption⟩
  ·cases h
 ·exact .inl h
theorem set_on {s : List Bool} {x : Nat} (h : On s x) : s.set x true = s := by
 refine List.ext_getElem? fun i => ?_;rw [List.getElem?_set];unfold On at h
 split
 ·rename_i e; subst e
  have := (List.getElem?_eq_some_iff.1 h).1;simp only [this, if_true]; exact h.symm
 ·rfl
structure Bs (l : List Nod) (a : Int) (s : BS) : Prop where
 l1 : s.1.length = l.length
 l2 : s.2.length = l.length
 inn : ∀ i, On s.1 i → ∃ b, Blw l a b ∧ atN l b = some i
 opn : ∀ i, On s.2 i → atN l a = some i ∨ On s.1 i
theorem kids_of {l : List Nod} {b : Int} {i : Nat} {x : Nod} (h1 : atN l b = some i) (h2 : l[i]? = some x) : kidsL l b = x.2.2.2.2.map fun e => e.2.2.2 := by
 rw [kidsL, h1]; simp only [h2]
theorem markE_len (l : List Nod) (s : BS) (e : EntT) : (markE l s e).1.length = s.1.length ∧ (markE l s e).2.length = s.2.length := by
 unfold markE; split <;> simp
theorem markE_on {l : List Nod} {s : BS} {e : EntT} {i : Nat} : (On s.1 i → On (markE l s e).1 i) ∧ (On s.2 i → On (markE l s e).2 i) := by
 unfold markE; split
 ·exact ⟨id, id⟩
 ·exact ⟨On.set, On.set⟩
theorem marks_on {l : List Nod} {i : Nat} : ∀ (es : List EntT) (s : BS), (On s.1 i → On (es.foldl (markE l) s).1 i) ∧ (On s.2 i → On (es.foldl (markE l) s).2 i)
 | [], s => ⟨id, id⟩
 | e :: es, s => ⟨fun h => (marks_on es _).1 (markE_on.1 h), fun h => (marks_on es _).2 (markE_on.2 h)⟩
theorem goI_on {l : List Nod} {s : BS} {i k : Nat} : (On s.1 i → On (goI l s k).1 i) ∧ (On s.2 i → On (goI l s k).2 i) := by
 unfold goI; split
 ·exact ⟨id, id⟩
 ·split
  ·exact marks_on _ _
  ·exact ⟨id, id⟩
theorem goes_on {l : List Nod} {i : Nat} : ∀ (ks : List Nat) (s : BS), (On s.1 i → On (ks.foldl (goI l) s).1 i) ∧ (On s.2 i → On (ks.foldl (goI l) s).2 i)
 | [], s => ⟨id, id⟩
 | k :: ks, s => ⟨fun h => (goes_on ks _).1 (goI_on.1 h), fun h => (goes_on ks _).2 (goI_on.2 h)⟩
theorem Bs.mark {l : List Nod} {a : Int} {s : BS} {e : EntT} (h : Bs l a s) (he : Blw l a e.2.2.2) : Bs l a (markE l s e) := by
 obtain ⟨m1, m2⟩ := markE_len l s e;refine ⟨m1.trans h.l1, m2.trans h.l2, ?_, ?_⟩ <;> unfold markE <;> split
 ·exact h.inn
 ·rename_i x hx
  intro i hi
  rcases hi.of_set with h1 | ⟨rfl, _⟩
  ·exact h.inn i h1
  ·exact ⟨_, he, hx⟩
 ·exact h.opn
 ·rename_i x hx
  intro i hi
  rcases hi.of_set with h1 | ⟨rfl, h2⟩
  ·rcases h.opn i h1 with h3 | h3
   ·exact .inl h3
   ·exact .inr h3.set
  ·exact .inr (On.set_self (by rw [h.l1, ← h.l2]; exact h2))
theorem Bs.marks {l : List Nod} {a : Int} : ∀ (es : List EntT) (s : BS), Bs l a s → (∀ e ∈ es, Blw l a e.2.2.2) → Bs l a (es.foldl (markE l) s)
 | [], s, h, _ => h
 | e :: es, s, h, he => Bs.marks es _ (h.mark (he e List.mem_cons_self)) fun x hx => he x (List.mem_cons_of_mem _ hx)
theorem Bs.go {l : List Nod} {a : Int} {s : BS} (h : Bs l a s) (i : Nat) : Bs l a (goI l s i) := by
 unfold goI; split
 ·exact h
 ·rename_i x hx
  split
  ·rename_i ho
   refine Bs.marks _ _ h fun e he => ?_;have hm : e.2.2.2 ∈ x.2.2.2.2.map fun e => e.2.2.2 := List.mem_map_of_mem he
   rcases h.opn i ho with h1 | h1
   ·exact .one (by rw [kids_of h1 hx]; exact hm)
   ·obtain ⟨b, hb, h2⟩ := h.inn i h1
    exact .more hb (by rw [kids_of h2 hx]; exact hm)
  ·exact h
theorem Bs.goes {l : List Nod} {a : Int} : ∀ (ks : List Nat) (s : BS), Bs l a s → Bs l a (ks.foldl (goI l) s)
 | [], s, h => h
 | k :: ks, s, h => Bs.goes ks _ (h.go k)
theorem Bs.rounds {l : List Nod} {a : Int} {s : BS} (h : Bs l a s) : ∀ r, Bs l a (roundsS l s r)
 | 0 => h
 | r + 1 => Bs.goes _ _ (h.rounds r)
theorem marks_in {l : List Nod} {x : Nat} : ∀ (es : List EntT) (s : BS) (e : EntT), e ∈ es → atN l e.2.2.2 = some x → x < s.1.length → x < s.2.length → On (es.foldl (markE l) s).1 x ∧ On (es.foldl (markE l) s).2 x
 | [], s, e, he, _, _, _ => by simp at he
 | e' :: es, s, e, he, hx, h1, h2 => by
   obtain ⟨m1, m2⟩ := markE_len l s e'
   rcases List.mem_cons.1 he with rfl | h3
   ·rw [List.foldl_cons]
    have hm : markE l s e = (s.1.set x true, s.2.set x true) := by rw [markE, hx]
    exact ⟨(marks_on es _).1 (by rw [hm]; exact On.set_self h1), (marks_on es _).2 (by rw [hm]; exact On.set_self h2)⟩
   ·exact marks_in es _ e h3 hx (by rw [m1]; exact h1) (by rw [m2]; exact h2)
theorem goes_in {l : List Nod} {a : Int} {i x : Nat} {nd : Nod} {e : EntT} (hn : l[i]? = some nd) (he : e ∈ nd.2.2.2.2) (hx : atN l e.2.2.2 = some x) : ∀ (ks : List Nat) (s : BS), Bs l a s → i ∈ ks → On s.2 i → On (ks.foldl (goI l) s).1 x ∧ On (ks.foldl (goI l) s).2 x
 | [], s, _, h, _ => by simp at h
 | k :: ks, s, hs, h, ho => by
   rcases List.mem_cons.1 h with rfl | h3
   ·rw [List.foldl_cons]
    have hg : goI l s i = nd.2.2.2.2.foldl (markE l) s := by rw [goI, hn]; exact if_pos ho
    have hxl := atN_lt hx;obtain ⟨g1, g2⟩ := marks_in nd.2.2.2.2 s e he hx (by rw [hs.l1]; exact hxl) (by rw [hs.l2]; exact hxl);exact ⟨(goes_on ks _).1 (by rw [hg]; exact g1), (goes_on ks _).2 (by rw [hg]; exact g2)⟩
   ·exact goes_in hn he hx ks _ (hs.go k) h3 (goI_on.2 ho)
def cntB (s : List Bool) : Nat := s.count true
theorem cnt_set_lt : ∀ (s : List Bool) (x : Nat), s.set x true ≠ s → cntB s < cntB (s.set x true)
 | [], x, h => by simp at h
 | b :: s, 0, h => by cases b <;> simp [cntB] at *
 | b :: s, x + 1, h => by
   have := cnt_set_lt s x (fun e => h (by rw [List.set_cons_succ, e]));simp only [cntB, List.set_cons_succ, List.count_cons] at *;omega
def Gw (s t : List Bool) : Prop := t = s ∨ cntB s < cntB t
theorem Gw.trans {a b c : List Bool} (h1 : Gw a b) (h2 : Gw b c) : Gw a c := by
 rcases h1 with rfl | h1
 ·exact h2
 ·rcases h2 with rfl | h2
  ·exact .inr h1
  ·exact .inr (Nat.lt_trans h1 h2)
theorem markE_gw (l : List Nod) (s : BS) (e : EntT) : Gw s.2 (markE l s e).2 := by
 unfold markE; split
 ·exact .inl rfl
 ·rename_i x _
  by_cases h : s.2.set x true = s.2
  ·exact .inl h
  ·exact .inr (cnt_set_lt _ _ h)
theorem marks_gw (l : List Nod) : ∀ (es : List EntT) (s : BS), Gw s.2 (es.foldl (markE l) s).2
 | [], s => .inl rfl
 | e :: es, s => (markE_gw l s e).trans (marks_gw l es _)
theorem goI_gw (l : List Nod) (s : BS) (i : Nat) : Gw s.2 (goI l s i).2 := by
 unfold goI; split
 ·exact .inl rfl
 ·split
  ·exact marks_gw _ _ _
  ·exact .inl rfl
theorem goes_gw (l : List Nod) : ∀ (ks : List Nat) (s : BS), Gw s.2 (ks.foldl (goI l) s).2
 | [], s => .inl rfl
 | k :: ks, s => (goI_gw l s k).trans (goes_gw l ks _)
def ClosedB (l : List Nod) (o : List Bool) : Prop := ∀ i x (nd : Nod) (e : EntT), On o i → l[i]? = some nd → e ∈ nd.2.2.2.2 → atN l e.2.2.2 = some x → On o x
theorem marks_closed {l : List Nod} {o : List Bool} : ∀ (es : List EntT) (s : BS), s.2 = o → (∀ e ∈ es, ∀ x, atN l e.2.2.2 = some x → On o x) → (es.foldl (markE l) s).2 = o
 | [], s, h, _ => h
 | e :: es, s, h, hc => by
   rw [List.foldl_cons];refine marks_closed es _ ?_ fun x hx => hc x (List.mem_cons_of_mem _ hx);unfold markE; split
   ·exact h
   ·rename_i x hx
    show s.2.set x true = o
    rw [h]; exact set_on (hc e List.mem_cons_self x hx)
theorem goes_closed {l : List Nod} {o : List Bool} (hc : ClosedB l o) : ∀ (ks : List Nat) (s : BS), s.2 = o → (ks.foldl (goI l) s).2 = o
 | [], s, h => h
 | k :: ks, s, h => by
   rw [List.foldl_cons];refine goes_closed hc ks _ ?_;unfold goI; split
   ·exact h
   ·rename_i x hx
    split
    ·rename_i ho
     rw [h] at ho;exact marks_closed _ _ h fun e he y hy => hc k y x e ho hx he hy
    ·exact h
theorem round_closed {l : List Nod} {a : Int} {s : BS} (hs : Bs l a s) (h : (roundS l s).2 = s.2) : ClosedB l s.2 := by
 intro i x nd e ho hn he hx;have hi : i ∈ List.range l.length := List.mem_range.2 (List.getElem?_eq_some_iff.1 hn).1;have := (goes_in hn he hx (List.range l.length) s hs hi ho).2;rw [roundS] at h
 rwa [h] at this
theorem cnt_le : ∀ (s : List Bool), cntB s ≤ s.length := fun s => List.count_le_length
theorem rounds_cnt {l : List Nod} {a : Int} {s : BS} (hs : Bs l a s) (h0 : 0 < cntB s.2) : ∀ r, r < cntB (roundsS l s r).2 ∨ ((roundS l (roundsS l s r)).2 = (roundsS l s r).2)
 | 0 => .inl h0
 | r + 1 => by
   rcases rounds_cnt hs h0 r with h1 | h1
   ·rcases goes_gw l (List.range l.length) (roundsS l s r) with h2 | h2
    ·refine .inr ?_
     have hc := round_closed (hs.rounds r) h2
     show (roundS l (roundS l (roundsS l s r))).2 = (roundS l (roundsS l s r)).2
     have h3 : (roundS l (roundsS l s r)).2 = (roundsS l s r).2 := h2;rw [h3];exact goes_closed hc _ _ h3
    ·refine .inl ?_
     show r + 1 < cntB (roundS l (roundsS l s r)).2
     have : cntB (roundsS l s r).2 < cntB (roundS l (roundsS l s r)).2 := h2;omega
   ·refine .inr ?_
    have hc := round_closed (hs.rounds r) h1
    show (roundS l (roundS l (roundsS l s r))).2 = (roundS l (roundsS l s r)).2
    rw [h1];exact goes_closed hc _ _ h1
def start0 (l : List Nod) (k : Nat) : BS := (List.replicate l.length false, (List.replicate l.length false).set k true)
def belowS (l : List Nod) (a : Int) : List Bool := match atN l a with
 | none => List.replicate l.length false
 | some k => (roundsS l (start0 l k) l.length).1
theorem not_on_rep {n i : Nat} : ¬ On (List.replicate n false) i := by
 unfold On;rw [List.getElem?_replicate]
 split <;> simp
theorem start0_Bs {l : List Nod} {a : Int} {k : Nat} (h : atN l a = some k) : Bs l a (start0 l k) :=
 ⟨by simp [start0], by simp [start0], fun i hi => absurd hi not_on_rep, fun i hi => by
  rcases On.of_set hi with h1 | ⟨rfl, _⟩
  ·exact absurd h1 not_on_rep
  ·exact .inl h⟩
theorem belowS_ok (l : List Nod) (a : Int) (x : Nat) : On (belowS l a) x ↔ ∃ b, Blw l a b ∧ atN l b = some x := by
 unfold belowS; split
 ·rename_i hk
  refine ⟨fun h => absurd h not_on_rep, fun ⟨b, hb, _⟩ => ?_⟩
  exfalso
  have h0 : kidsL l a = [] := by rw [kidsL, hk]
  have : ∀ c, Blw l a c → False := by
   intro c hc
   induction hc with
   | one h1 => rw [h0] at h1; simp at h1
   | more _ _ ih => exact ih
  exact this b hb
 ·rename_i k hk
  have hs := start0_Bs hk;refine ⟨fun h => (hs.rounds _).inn x h, fun ⟨b, hb, hx⟩ => ?_⟩;obtain ⟨n, hn⟩ : ∃ n, l.length = n + 1 := ⟨l.length - 1, by have := atN_lt hk; omega⟩;have hkl : k < (List.replicate l.length false).length := by simp; exact atN_lt hk
  have h0 : 0 < cntB (start0 l k).2 := by
   have hh : On (start0 l k).2 k := On.set_self hkl;exact List.count_pos_iff.2 (List.mem_of_getElem? hh)
  have hfix : (roundS l (roundsS l (start0 l k) n)).2 = (roundsS l (start0 l k) n).2 := by
   rcases rounds_cnt hs h0 n with h1 | h1
   ·rcases goes_gw l (List.range l.length) (roundsS l (start0 l k) n) with h2 | h2
    ·exact h2
    ·exfalso
     have h3 := cnt_le (roundsS l (start0 l k) (n + 1)).2;rw [(hs.rounds (n + 1)).l2] at h3;have h4 : cntB (roundsS l (start0 l k) n).2 < cntB (roundsS l (start0 l k) (n + 1)).2 := h2;omega
   ·exact h1
  have hsn := hs.rounds n;have hopen : On (roundsS l (start0 l k) n).2 k := by
   have : ∀ r, On (roundsS l (start0 l k) r).2 k := by
    intro r
    induction r with
    | zero => exact On.set_self hkl
    | succ r ih => exact (goes_on _ _).2 ih
   exact this n
  have key : ∀ b, Blw l a b → ∀ x, atN l b = some x → On (roundsS l (start0 l k) (n + 1)).1 x ∧ On (roundsS l (start0 l k) n).2 x := by
   have step : ∀ p i, atN l p = some i → On (roundsS l (start0 l k) n).2 i → ∀ c ∈ kidsL l p, ∀ x, atN l c = some x → On (roundsS l (start0 l k) (n + 1)).1 x ∧ On (roundsS l (start0 l k) n).2 x := by
    intro p i hp ho c hc x hx;obtain ⟨nd, hnd, _⟩ := atN_some hp;rw [kids_of hp hnd] at hc;obtain ⟨e, he, rfl⟩ := List.mem_map.1 hc;have := goes_in hnd he hx (List.range l.length) _ hsn (List.mem_range.2 (atN_lt hp)) ho;refine ⟨this.1, ?_⟩;have h5 := this.2;rw [roundS] at hfix
    rwa [hfix] at h5
   have none0 : ∀ p, atN l p = none → kidsL l p = [] := fun p hp => by rw [kidsL, hp]
   intro b hb
   induction hb with
   | one h1 => exact step a k hk hopen _ h1
   | @more p c _ h1 ih =>
     cases hp : atN l p with
     | none => rw [none0 p hp] at h1; simp at h1
     | some i => exact step p i hp (ih i hp).2 _ h1
  rw [hn];exact (key b hb x hx).1
end Go.Proofs.YtllonpbhgbhogaaGreatDoor
namespace Go.Proofs.YtllonpbhgbhogaaGreatDoor
open Go.RowKit
theorem volB_no1 {next : Int} {l : List Nod} (h : headOk next l = false) : volB next l = false := by rw [volB, h]; rfl
theorem volB_no2 {next : Int} {l : List Nod} (h : nodsTo next l l.length = false) : volB next l = false := by rw [volB, h]; simp
theorem volB_end {next : Int} {l : List Nod} (h1 : headOk next l = true) (h2 : nodsTo next l l.length = true) : volB next l = (l.drop 1).all fun x => blwB l 1 x.1 := by rw [volB, h1, h2]; simp
theorem head_no1 {next : Int} {l : List Nod} (h : inB next 2 100000 = false) : headOk next l = false := by rw [headOk, h]; rfl
theorem head_no2 {next : Int} {l : List Nod} (h : inB (l.length : Int) 1 16 = false) : headOk next l = false := by simp [headOk, h]
theorem head_no3 {next : Int} {l : List Nod} {x : Nod} (h0 : l[0]? = some x) (h : ¬ (x.1 = 1 ∧ x.2.1 = 2)) : headOk next l = false := by
 cases hh : headOk next l with
 | false => rfl
 | true =>
   simp only [headOk, h0, Bool.and_eq_true, decide_eq_true_eq] at hh;exact absurd hh.2 h
theorem head_yes {next : Int} {l : List Nod} {x : Nod} (h1 : inB next 2 100000 = true) (h2 : inB (l.length : Int) 1 16 = true) (h0 : l[0]? = some x) (h3 : x.1 = 1) (h4 : x.2.1 = 2) : headOk next l = true := by
 simp only [headOk, h0, Bool.and_eq_true, decide_eq_true_eq];exact ⟨⟨h1, h2⟩, h3, h4⟩
theorem nodAt_no1 {next : Int} {l : List Nod} {k : Nat} {x : Nod} (h : inB x.1 1 (next - 1) = false) : nodAt next l k x = false := by simp only [nodAt, h, Bool.false_and]
theorem nodAt_no2 {next : Int} {l : List Nod} {k : Nat} {x p : Nod} (hp : l[k]? = some p) (h : x.1 ≤ p.1) : nodAt next l (k + 1) x = false := by
 have : decide (p.1 < x.1) = false := decide_eq_false (by omega);simp only [nodAt, hp, this, Bool.and_false, Bool.false_and]
theorem nodAt_0 {next : Int} {l : List Nod} {x : Nod} (h : inB x.1 1 (next - 1) = true) : nodAt next l 0 x = nodOk l x := by simp only [nodAt, h, Bool.true_and]
theorem nodAt_s {next : Int} {l : List Nod} {k : Nat} {x p : Nod} (h : inB x.1 1 (next - 1) = true) (hp : l[k]? = some p) (h1 : p.1 < x.1) : nodAt next l (k + 1) x = nodOk l x := by
 simp only [nodAt, h, hp, decide_eq_true h1, Bool.true_and]
theorem nodsTo_succ {next : Int} {l : List Nod} {k : Nat} {x : Nod} (hx : l[k]? = some x) (h0 : nodsTo next l k = true) (h : nodAt next l k x = true) : nodsTo next l (k + 1) = true := by
 rw [nodsTo, hx, h0, Bool.true_and]; exact h
theorem nodOk_few {l : List Nod} {x : Nod} (h : nodOk l x = true) : x.2.2.2.2.length ≤ 12 := by
 unfold nodOk at h
 split at h
 ·simp only [Bool.and_eq_true, decide_eq_true_eq] at h
  omega
 ·simp only [Bool.and_eq_true, decide_eq_true_eq] at h
  exact (dirB_R h.1.1.2).len
theorem nodsTo_few {next : Int} {l : List Nod} (h : nodsTo next l l.length = true) : ∀ x ∈ l, x.2.2.2.2.length ≤ 12 := by
 intro x hx;obtain ⟨k, hk⟩ := List.getElem?_of_mem hx;have h1 := nodsTo_at h hk;unfold nodAt at h1;rw [Bool.and_eq_true] at h1;exact nodOk_few h1.2
theorem allIds_le : ∀ (l : List Nod), (∀ x ∈ l, x.2.2.2.2.length ≤ 12) → (allIds l).length ≤ 12 * l.length
 | [], _ => by simp [allIds]
 | x :: l, h => by
   have h1 := allIds_le l fun y hy => h y (List.mem_cons_of_mem _ hy);have h2 := h x List.mem_cons_self;simp only [allIds, List.flatMap_cons, List.length_append, List.length_map, List.length_cons] at h1 ⊢;omega
theorem drop_all {l : List Nod} {out : List Int} (h : ∀ x, x ∈ out ↔ Blw l 1 x) : ((l.drop 1).all fun x => blwB l 1 x.1) = (l.drop 1).all fun x => decide (x.1 ∈ out) := by
 congr 1
 funext x
 rw [Bool.eq_iff_iff, blwB_iff, decide_eq_true_iff, h]
end Go.Proofs.YtllonpbhgbhogaaGreatDoor
namespace Go.Proofs.YtllonpbhgbhogaaGreatDoor
open Go.RowKit
def idsE (d : List EntT) : List Int := d.map fun e => e.2.2.2
theorem entsN_ids (d : List EntT) (i : Int) : entsN d i = (idsE d).count i := by
 rw [entsN, idsE, List.count, List.countP_map]; rfl
def Kid (l : List Nod) (a b : Int) : Prop := ∃ x ∈ l, x.1 = a ∧ ∃ e ∈ x.2.2.2.2, e.2.2.2 = b
def Rch (l : List Nod) (b : Int) : Prop := b = 1 ∨ Blw l 1 b
abbrev Srt (l : List Nod) : Prop := l.Pairwise fun a b => a.1 < b.1
theorem srt_inj {l : List Nod} (h : Srt l) {x y : Nod} (hx : x ∈ l) (hy : y ∈ l) (e : x.1 = y.1) : x = y := by
 obtain ⟨i, hi⟩ := List.getElem?_of_mem hx;obtain ⟨j, hj⟩ := List.getElem?_of_mem hy;have h1 := nodup_at h hi;have h2 := nodup_at h hj;rw [e, h2] at h1;injection h1 with h1;subst h1;rw [hi] at hj; injection hj
theorem kid_iff {l : List Nod} (h : Srt l) {a b : Int} : b ∈ kidsL l a ↔ Kid l a b := by
 constructor
 ·intro hb
  unfold kidsL at hb
  cases h1 : atN l a with
  | none => rw [h1] at hb; simp at hb
  | some k =>
    obtain ⟨x, hx, hxa⟩ := atN_some h1;rw [h1] at hb; simp only [hx, List.mem_map] at hb;obtain ⟨e, he, heb⟩ := hb;exact ⟨x, List.mem_of_getElem? hx, hxa, e, he, heb⟩
 ·rintro ⟨x, hx, rfl, e, he, rfl⟩
  obtain ⟨i, hi⟩ := List.getElem?_of_mem hx;rw [kids_of (nodup_at h hi) hi];exact List.mem_map_of_mem he
theorem rch_mono {l l' : List Nod} (h : Srt l) (h' : Srt l') (he : ∀ a b, Kid l a b → Kid l' a b) {b : Int} (hb : Rch l b) : Rch l' b := by
 rcases hb with rfl | hb
 ·exact .inl rfl
 ·right
  induction hb with
  | one hk => exact .one ((kid_iff h').2 (he _ _ ((kid_iff h).1 hk)))
  | more _ hk ih => exact .more ih ((kid_iff h').2 (he _ _ ((kid_iff h).1 hk)))
theorem rch_step {l : List Nod} (h : Srt l) {a b : Int} (ha : Rch l a) (hk : Kid l a b) : Rch l b := by
 rcases ha with rfl | ha
 ·exact .inr (.one ((kid_iff h).2 hk))
 ·exact .inr (.more ha ((kid_iff h).2 hk))
theorem rch_drop {l l' : List Nod} (h : Srt l) (h' : Srt l') {x : Int} (he : ∀ a b, Kid l a b → Kid l' a b ∨ b = x) (hx : ∀ b, ¬ Kid l x b) {b : Int} (hb : Rch l b) : b = x ∨ Rch l' b := by
 rcases hb with rfl | hb
 ·exact .inr (.inl rfl)
 ·induction hb with
  | one hk =>
    rcases he _ _ ((kid_iff h).1 hk) with h1 | h1
    ·exact .inr (rch_step h' (.inl rfl) h1)
    ·exact .inl h1
  | more hb hk ih =>
    have hk' := (kid_iff h).1 hk
    rcases ih with rfl | ih
    ·exact absurd hk' (hx _)
    ·rcases he _ _ hk' with h1 | h1
     ·exact .inr (rch_step h' ih h1)
     ·exact .inl h1
theorem rch_move {l l' : List Nod} (h : Srt l) (h' : Srt l') {x o t : Int} (he : ∀ a b, Kid l a b → Kid l' a b ∨ b = x ∨ b = o) (ho : ∀ b, ¬ Kid l o b) (ht : Kid l' t x) (htx : t ≠ x) (hb : ¬ Blw l x t) (hto : t ≠ o) (hr : Rch l t) :
 ∀ b, Rch l b → b = o ∨ Rch l' b := by
 have c1 : ∀ b, Rch l b → b ≠ x → ¬ Blw l x b → b = o ∨ Rch l' b := by
  intro b hb
  rcases hb with rfl | hb
  ·exact fun _ _ => .inr (.inl rfl)
  ·induction hb with
   | one hk =>
     intro h1 h2
     rcases he _ _ ((kid_iff h).1 hk) with h3 | h3 | h3
     ·exact .inr (rch_step h' (.inl rfl) h3)
     ·exact absurd h3 h1
     ·exact .inl h3
   | @more b' c hb hk ih =>
     intro h1 h2;have hk' := (kid_iff h).1 hk;have h4 : b' ≠ x := fun e => h2 (.one (e ▸ hk));have h5 : ¬ Blw l x b' := fun hh => h2 (.more hh hk)
     rcases ih h4 h5 with rfl | ih
     ·exact absurd hk' (ho _)
     ·rcases he _ _ hk' with h3 | h3 | h3
      ·exact .inr (rch_step h' ih h3)
      ·exact absurd h3 h1
      ·exact .inl h3
 have c2 : Rch l' x := by
  rcases c1 t hr htx hb with h1 | h1
  ·exact absurd h1 hto
  ·exact rch_step h' h1 ht
 have c3 : ∀ b, Blw l x b → b = o ∨ Rch l' b := by
  intro b hb
  induction hb with
  | one hk =>
    rcases he _ _ ((kid_iff h).1 hk) with h3 | h3 | h3
    ·exact .inr (rch_step h' c2 h3)
    ·exact .inr (h3 ▸ c2)
    ·exact .inl h3
  | more hb hk ih =>
    have hk' := (kid_iff h).1 hk
    rcases ih with rfl | ih
    ·exact absurd hk' (ho _)
    ·rcases he _ _ hk' with h3 | h3 | h3
     ·exact .inr (rch_step h' ih h3)
     ·exact .inr (h3 ▸ c2)
     ·exact .inl h3
 intro b hb
 by_cases h1 : b = x
 ·exact .inr (h1 ▸ c2)
 ·by_cases h2 : Blw l x b
  ·exact c3 b h2
  ·exact c1 b hb h1 h2
theorem namedN_foldl (i : Int) : ∀ (l : List Nod) (k : Nat), l.foldl (fun n x => n + entsN x.2.2.2.2 i) k = k + namedN l i
 | [], k => by simp [namedN]
 | x :: l, k => by rw [namedN, List.foldl_cons, List.foldl_cons, namedN_foldl i l, namedN_foldl i l]; omega
theorem namedN_cons (x : Nod) (l : List Nod) (i : Int) : namedN (x :: l) i = entsN x.2.2.2.2 i + namedN l i := by
 rw [namedN, List.foldl_cons, namedN_foldl]; omega
theorem namedN_append (i : Int) : ∀ (l m : List Nod), namedN (l ++ m) i = namedN l i + namedN m i
 | [], m => by simp [namedN]
 | x :: l, m => by rw [List.cons_append, namedN_cons, namedN_cons, namedN_append i l m]; omega
theorem namedN_set (i : Int) (y : Nod) : ∀ (l : List Nod) (k : Nat) (x : Nod), l[k]? = some x → namedN (l.set k y) i + entsN x.2.2.2.2 i = namedN l i + entsN y.2.2.2.2 i
 | [], k, x, h => by simp at h
 | z :: l, 0, x, h => by
   injection h with h; subst h;rw [List.set_cons_zero, namedN_cons, namedN_cons]; omega
 | z :: l, k + 1, x, h => by
   have := namedN_set i y l k x h;rw [List.set_cons_succ, namedN_cons, namedN_cons]; omega
theorem namedN_erase (i : Int) : ∀ (l : List Nod) (k : Nat) (x : Nod), l[k]? = some x → namedN (l.eraseIdx k) i + entsN x.2.2.2.2 i = namedN l i
 | [], k, x, h => by simp at h
 | z :: l, 0, x, h => by
   injection h with h; subst h;rw [List.eraseIdx_cons_zero, namedN_cons]; omega
 | z :: l, k + 1, x, h => by
   have := namedN_erase i l k x h;rw [List.eraseIdx_cons_succ, namedN_cons, namedN_cons]; omega
theorem named_pos {l : List Nod} {i : Int} : 0 < namedN l i ↔ ∃ a, Kid l a i := by
 induction l with
 | nil => simp [namedN, Kid]
 | cons x l ih =>
   rw [namedN_cons];constructor
   ·intro h
    by_cases h1 : 0 < entsN x.2.2.2.2 i
    ·rw [entsN, List.countP_pos_iff] at h1
     obtain ⟨e, he, hi⟩ := h1;exact ⟨x.1, x, List.mem_cons_self, rfl, e, he, by simpa using hi⟩
    ·obtain ⟨a, y, hy, r⟩ := ih.1 (by omega)
     exact ⟨a, y, List.mem_cons_of_mem _ hy, r⟩
   ·rintro ⟨a, y, hy, rfl, e, he, hi⟩
    rcases List.mem_cons.1 hy with rfl | hy
    ·have : 0 < entsN y.2.2.2.2 i := by rw [entsN, List.countP_pos_iff]; exact ⟨e, he, by simpa using hi⟩
     omega
    ·have := ih.2 ⟨y.1, y, hy, rfl, e, he, hi⟩
     omega
theorem named_zero {l : List Nod} {i : Int} (h : ∀ a, ¬ Kid l a i) : namedN l i = 0 := by
 rcases Nat.eq_zero_or_pos (namedN l i) with h1 | h1
 ·exact h1
 ·obtain ⟨a, ha⟩ := named_pos.1 h1
  exact absurd ha (h a)
theorem atN_is {l : List Nod} {i : Int} : (atN l i).isSome = true ↔ ∃ y ∈ l, y.1 = i := by
 rw [atN, List.findIdx?_isSome, List.any_eq_true];simp only [beq_iff_eq]
def Typ (x : Nod) : Prop := (x.2.1 = 1 ∧ x.2.2.2.2 = [] ∧ x.2.2.2.1.size ≤ 20) ∨ (x.2.1 = 2 ∧ x.2.2.2.1.size = 0 ∧ DirR x.2.2.2.2)
structure VW (next : Int) (l : List Nod) : Prop where
 lo : 2 ≤ next
 hi : next ≤ 100000
 len : l.length ≤ 16
 srt : Srt l
 rng : ∀ x ∈ l, 1 ≤ x.1 ∧ x.1 < next
 root : ∃ x, l[0]? = some x ∧ x.1 = 1 ∧ x.2.1 = 2
 typ : ∀ x ∈ l, Typ x
 ent : ∀ x ∈ l, ∀ e ∈ x.2.2.2.2, e.2.2.2 ≠ 1 ∧ ∃ y ∈ l, y.1 = e.2.2.2
structure VOk (next : Int) (l : List Nod) : Prop extends VW next l where
 one : ∀ x ∈ l, x.2.1 = 2 → x.2.2.1 = 1
 lnk : ∀ x ∈ l, x.1 = 1 ∨ x.2.2.1 = (namedN l x.1 : Int)
 rch : ∀ x ∈ l, Rch l x.1
theorem VW.root_mem {next : Int} {l : List Nod} (h : VW next l) : ∃ x ∈ l, x.1 = 1 ∧ x.2.1 = 2 := by
 obtain ⟨x, h1, h2⟩ := h.root;exact ⟨x, List.mem_of_getElem? h1, h2⟩
theorem volB_V {next : Int} {l : List Nod} (h : volB next l = true) : VOk next l := by
 simp only [volB, Bool.and_eq_true] at h;obtain ⟨⟨h1, h2⟩, h3⟩ := h;simp only [headOk, Bool.and_eq_true] at h1;have hlo := inB_iff.1 h1.1.1;have hln := inB_iff.1 h1.1.2;have hroot : ∃ x, l[0]? = some x ∧ x.1 = 1 ∧ x.2.1 = 2 := by
  have h4 := h1.2
  cases h0 : l[0]? with
  | none => rw [h0] at h4; simp at h4
  | some x => rw [h0] at h4; simp only [Bool.and_eq_true, decide_eq_true_eq] at h4; exact ⟨x, rfl, h4⟩
 have hsrt := nodsTo_sorted h2;have hat : ∀ x ∈ l, inB x.1 1 (next - 1) = true ∧ nodOk l x = true := by
  intro x hx;obtain ⟨k, hk⟩ := List.getElem?_of_mem hx;have h4 := nodsTo_at h2 hk;simp only [nodAt, Bool.and_eq_true] at h4;exact ⟨h4.1.1, h4.2⟩
 have hbl : ∀ x ∈ l, x.1 = 1 ∨ Blw l 1 x.1 := by
  intro x hx;obtain ⟨r, hr, hr1, _⟩ := hroot;obtain ⟨k, hk⟩ := List.getElem?_of_mem hx
  cases k with
  | zero => rw [hr] at hk; injection hk with hk; subst hk; exact .inl hr1
  | succ k =>
    have h5 := List.all_eq_true.1 h3 x (List.mem_of_getElem? (i := k) (by rw [List.getElem?_drop, Nat.add_comm]; exact hk));exact .inr (blwB_iff.1 h5)
 refine ⟨⟨hlo.1, hlo.2, by omega, hsrt, fun x hx => ?_, hroot, fun x hx => ?_, fun x hx e he => ?_⟩, fun x hx hk => ?_, fun x hx => ?_, hbl⟩
 ·have := inB_iff.1 (hat x hx).1; exact ⟨this.1, by omega⟩
 ·have h4 := (hat x hx).2
  unfold nodOk at h4
  split at h4
  ·rename_i hk
   simp only [Bool.and_eq_true, decide_eq_true_eq] at h4;exact .inl ⟨hk, List.eq_nil_of_length_eq_zero h4.1.1, h4.1.2⟩
  ·simp only [Bool.and_eq_true, decide_eq_true_eq] at h4
   exact .inr ⟨h4.1.1.1.1.1, h4.1.1.1.1.2, dirB_R h4.1.1.2⟩
 ·have h4 := (hat x hx).2
  unfold nodOk at h4
  split at h4
  ·simp only [Bool.and_eq_true, decide_eq_true_eq] at h4
   rw [List.eq_nil_of_length_eq_zero h4.1.1] at he; simp at he
  ·simp only [Bool.and_eq_true, List.all_eq_true] at h4
   have h5 := h4.2 e he;simp only [Bool.and_eq_true, Bool.not_eq_true', decide_eq_false_iff_not] at h5;exact ⟨h5.1, atN_is.1 h5.2⟩
 ·have h4 := (hat x hx).2
  unfold nodOk at h4;rw [if_neg (by omega)] at h4;simp only [Bool.and_eq_true, decide_eq_true_eq] at h4;exact h4.1.1.1.2
 ·have h4 := (hat x hx).2
  unfold nodOk at h4
  split at h4
  ·simp only [Bool.and_eq_true, decide_eq_true_eq] at h4
   exact .inr h4.2
  ·simp only [Bool.and_eq_true, Bool.or_eq_true, decide_eq_true_eq] at h4
   rcases h4.1.2 with h5 | h5
   ·exact .inl h5
   ·right; rw [h4.1.1.1.2, h5]; rfl
theorem V_volB {next : Int} {l : List Nod} (h : VOk next l) : volB next l = true := by
 obtain ⟨r, hr, hr1, hr2⟩ := h.root;have hl1 : 1 ≤ l.length := by have := (List.getElem?_eq_some_iff.1 hr).1; omega
 have hln := h.len;have hok : ∀ x ∈ l, nodOk l x = true := by
  intro x hx;have hlk := h.lnk x hx
  rcases h.typ x hx with ⟨t1, t2, t3⟩ | ⟨t1, t2, t3⟩
  ·have h1 : x.1 ≠ 1 := fun e => by
    have := srt_inj h.srt hx (List.mem_of_getElem? hr) (e.trans hr1.symm);subst this; omega
   unfold nodOk;rw [if_pos t1];simp only [Bool.and_eq_true, decide_eq_true_eq];exact ⟨⟨by rw [t2]; rfl, t3⟩, hlk.resolve_left h1⟩
  ·have ho := h.one x hx t1
   unfold nodOk;rw [if_neg (by omega)];simp only [Bool.and_eq_true, Bool.or_eq_true, decide_eq_true_eq, List.all_eq_true];refine ⟨⟨⟨⟨⟨t1, t2⟩, ho⟩, R_dirB t3⟩, ?_⟩, fun e he => ?_⟩
   ·rcases hlk with h1 | h1
    ·exact .inl h1
    ·right; rw [ho] at h1; omega
   ·have := h.ent x hx e he
    simp only [Bool.and_eq_true, Bool.not_eq_true', decide_eq_false_iff_not];exact ⟨this.1, atN_is.2 this.2⟩
 simp only [volB, headOk, Bool.and_eq_true];refine ⟨⟨⟨⟨inB_iff.2 ⟨h.lo, h.hi⟩, inB_iff.2 ⟨by omega, by omega⟩⟩, by rw [hr]; simp [hr1, hr2]⟩, ?_⟩, ?_⟩
 ·have : ∀ k, k ≤ l.length → nodsTo next l k = true := by
   intro k
   induction k with
   | zero => intro _; rfl
   | succ k ih =>
     intro hk;obtain ⟨x, hx⟩ : ∃ x, l[k]? = some x := ⟨_, List.getElem?_eq_getElem (by omega)⟩;have hm := List.mem_of_getElem? hx;have hrg := h.rng x hm;rw [nodsTo, hx, Bool.and_eq_true];refine ⟨ih (by omega), ?_⟩;simp only [nodAt, Bool.and_eq_true];refine ⟨⟨inB_iff.2 ⟨hrg.1, by omega⟩, ?_⟩, hok x hm⟩
     cases k with
     | zero => rfl
     | succ j =>
       obtain ⟨p, hp⟩ : ∃ p, l[j]? = some p := ⟨_, List.getElem?_eq_getElem (by omega)⟩;simp only [hp, decide_eq_true_eq];have h3 := List.pairwise_iff_getElem.1 h.srt j (j + 1) (by omega) (by omega) (by omega);rw [List.getElem?_eq_getElem (by omega)] at hp hx;injection hp with hp; injection hx with hx;rw [hp, hx] at h3; exact h3
  exact this _ (Nat.le_refl _)
 ·rw [List.all_eq_true]
  intro x hx;rw [blwB_iff]
  rcases h.rch x (List.mem_of_mem_drop hx) with h1 | h1
  ·exfalso
   obtain ⟨k, hk⟩ := List.getElem?_of_mem hx;rw [List.getElem?_drop] at hk;have h3 := nodup_at h.srt hk;have h4 := nodup_at h.srt hr;rw [h1, ← hr1, h4] at h3;injection h3 with h3; omega
  ·exact h1
end Go.Proofs.YtllonpbhgbhogaaGreatDoor
namespace Go.Proofs.YtllonpbhgbhogaaGreatDoor
open Go.RowKit
theorem srt_map {l : List Nod} : Srt l ↔ (l.map (·.1)).Pairwise (· < ·) := by rw [List.pairwise_map]
theorem set_ids {l : List Nod} {k : Nat} {x y : Nod} (hx : l[k]? = some x) (h : y.1 = x.1) : (l.set k y).map (·.1) = l.map (·.1) := by
 apply List.ext_getElem?;intro j;rw [List.getElem?_map, List.getElem?_map]
 by_cases hj : k = j
 ·subst hj
  rw [List.getElem?_set_self (List.getElem?_eq_some_iff.1 hx).1, hx]; simp [h]
 ·rw [List.getElem?_set_ne hj]
theorem set_srt {l : List Nod} {k : Nat} {x y : Nod} (hs : Srt l) (hx : l[k]? = some x) (h : y.1 = x.1) : Srt (l.set k y) := by
 rw [srt_map, set_ids hx h]; exact srt_map.1 hs
theorem set_mem {l : List Nod} {k : Nat} {x y z : Nod} (hs : Srt l) (hx : l[k]? = some x) : z ∈ l.set k y ↔ z = y ∨ (z ∈ l ∧ z.1 ≠ x.1) := by
 have hk := (List.getElem?_eq_some_iff.1 hx).1;constructor
 ·intro hz
  obtain ⟨j, hj⟩ := List.getElem?_of_mem hz
  by_cases hjk : k = j
  ·subst hjk
   rw [List.getElem?_set_self hk] at hj; injection hj with hj;exact .inl hj.symm
  ·rw [List.getElem?_set_ne hjk] at hj
   refine .inr ⟨List.mem_of_getElem? hj, fun e => hjk ?_⟩;have h1 := nodup_at hs hj;rw [e, nodup_at hs hx] at h1;injection h1
 ·rintro (rfl | ⟨hz, hne⟩)
  ·exact List.mem_of_getElem? (List.getElem?_set_self hk)
  ·obtain ⟨j, hj⟩ := List.getElem?_of_mem hz
   refine List.mem_of_getElem? (i := j) ?_;rw [List.getElem?_set_ne (fun e => by subst e; rw [hx] at hj; injection hj with hj; exact hne (by rw [hj])), hj]
theorem set_ex {l : List Nod} {k : Nat} {x y : Nod} (hs : Srt l) (hx : l[k]? = some x) (h : y.1 = x.1) {i : Int} : (∃ z ∈ l.set k y, z.1 = i) ↔ ∃ z ∈ l, z.1 = i := by
 constructor
 ·rintro ⟨z, hz, rfl⟩
  rcases (set_mem hs hx).1 hz with rfl | ⟨hz, _⟩
  ·exact ⟨x, List.mem_of_getElem? hx, h.symm⟩
  ·exact ⟨z, hz, rfl⟩
 ·rintro ⟨z, hz, rfl⟩
  by_cases hzx : z.1 = x.1
  ·exact ⟨y, (set_mem hs hx).2 (.inl rfl), h.trans hzx.symm⟩
  ·exact ⟨z, (set_mem hs hx).2 (.inr ⟨hz, hzx⟩), rfl⟩
theorem set_kid {l : List Nod} {k : Nat} {x y : Nod} (hs : Srt l) (hx : l[k]? = some x) (h : y.1 = x.1) {a b : Int} : Kid (l.set k y) a b ↔ (a = x.1 ∧ b ∈ idsE y.2.2.2.2) ∨ (a ≠ x.1 ∧ Kid l a b) := by
 constructor
 ·rintro ⟨z, hz, rfl, e, he, rfl⟩
  rcases (set_mem hs hx).1 hz with rfl | ⟨hz, hne⟩
  ·exact .inl ⟨h, List.mem_map_of_mem he⟩
  ·exact .inr ⟨hne, z, hz, rfl, e, he, rfl⟩
 ·rintro (⟨rfl, hb⟩ | ⟨hne, z, hz, rfl, r⟩)
  ·obtain ⟨e, he, rfl⟩ := List.mem_map.1 hb
   exact ⟨y, (set_mem hs hx).2 (.inl rfl), h, e, he, rfl⟩
  ·exact ⟨z, (set_mem hs hx).2 (.inr ⟨hz, hne⟩), rfl, r⟩
theorem kid_at {l : List Nod} {k : Nat} {x : Nod} (hs : Srt l) (hx : l[k]? = some x) {b : Int} : Kid l x.1 b ↔ b ∈ idsE x.2.2.2.2 := by
 constructor
 ·rintro ⟨z, hz, e0, e, he, rfl⟩
  have := srt_inj hs hz (List.mem_of_getElem? hx) e0;subst this; exact List.mem_map_of_mem he
 ·intro hb
  obtain ⟨e, he, rfl⟩ := List.mem_map.1 hb;exact ⟨x, List.mem_of_getElem? hx, rfl, e, he, rfl⟩
theorem VW.set {next : Int} {l : List Nod} {k : Nat} {x y : Nod} (h : VW next l) (hx : l[k]? = some x) (h1 : y.1 = x.1) (h2 : y.2.1 = x.2.1) (ht : Typ y) (he : ∀ e ∈ y.2.2.2.2, e.2.2.2 ≠ 1 ∧ ∃ z ∈ l, z.1 = e.2.2.2) : VW next (l.set k y) := by
 refine ⟨h.lo, h.hi, by rw [List.length_set]; exact h.len, set_srt h.srt hx h1, fun z hz => ?_, ?_, fun z hz => ?_, fun z hz e hez => ?_⟩
 ·rcases (set_mem h.srt hx).1 hz with rfl | ⟨hz, _⟩
  ·rw [h1]; exact h.rng x (List.mem_of_getElem? hx)
  ·exact h.rng z hz
 ·obtain ⟨r, hr, r1, r2⟩ := h.root
  by_cases hk : k = 0
  ·subst hk
   rw [hx] at hr; injection hr with hr; subst hr;exact ⟨y, List.getElem?_set_self (List.getElem?_eq_some_iff.1 hx).1, by rw [h1, r1], by rw [h2, r2]⟩
  ·exact ⟨r, by rw [List.getElem?_set_ne hk, hr], r1, r2⟩
 ·rcases (set_mem h.srt hx).1 hz with rfl | ⟨hz, _⟩
  ·exact ht
  ·exact h.typ z hz
 ·rcases (set_mem h.srt hx).1 hz with rfl | ⟨hz, _⟩
  ·exact ⟨(he e hez).1, (set_ex h.srt hx h1).2 (he e hez).2⟩
  ·exact ⟨(h.ent z hz e hez).1, (set_ex h.srt hx h1).2 (h.ent z hz e hez).2⟩
theorem erase_mem {l : List Nod} {k : Nat} {x z : Nod} (hs : Srt l) (hx : l[k]? = some x) : z ∈ l.eraseIdx k ↔ z ∈ l ∧ z.1 ≠ x.1 := by
 rw [List.mem_eraseIdx_iff_getElem?];constructor
 ·rintro ⟨j, hj, hz⟩
  refine ⟨List.mem_of_getElem? hz, fun e => hj ?_⟩;have h1 := nodup_at hs hz;rw [e, nodup_at hs hx] at h1;injection h1 with h1; exact h1.symm
 ·rintro ⟨hz, hne⟩
  obtain ⟨j, hj⟩ := List.getElem?_of_mem hz;exact ⟨j, fun e => by subst e; rw [hx] at hj; injection hj with hj; exact hne (by rw [hj]), hj⟩
theorem erase_kid {l : List Nod} {k : Nat} {x : Nod} (hs : Srt l) (hx : l[k]? = some x) {a b : Int} : Kid (l.eraseIdx k) a b ↔ a ≠ x.1 ∧ Kid l a b := by
 constructor
 ·rintro ⟨z, hz, rfl, r⟩
  obtain ⟨h1, h2⟩ := (erase_mem hs hx).1 hz;exact ⟨h2, z, h1, rfl, r⟩
 ·rintro ⟨hne, z, hz, rfl, r⟩
  exact ⟨z, (erase_mem hs hx).2 ⟨hz, hne⟩, rfl, r⟩
theorem VW.erase {next : Int} {l : List Nod} {k : Nat} {x : Nod} (h : VW next l) (hx : l[k]? = some x) (h1 : x.1 ≠ 1) (hn : ∀ a, ¬ Kid l a x.1) : VW next (l.eraseIdx k) := by
 have hk := (List.getElem?_eq_some_iff.1 hx).1;refine ⟨h.lo, h.hi, by rw [List.length_eraseIdx_of_lt hk]; have := h.len; omega, h.srt.sublist (List.eraseIdx_sublist _ _), fun z hz => h.rng z ((erase_mem h.srt hx).1 hz).1, ?_, fun z hz => h.typ z ((erase_mem h.srt hx).1 hz).1, fun z hz e he => ?_⟩
 ·obtain ⟨r, hr, r1, r2⟩ := h.root
  have hk0 : 0 < k := by
   rcases Nat.eq_zero_or_pos k with h0 | h0
   ·subst h0; rw [hx] at hr; injection hr with hr; subst hr; exact absurd r1 h1
   ·exact h0
  exact ⟨r, by rw [List.getElem?_eraseIdx_of_lt hk0, hr], r1, r2⟩
 ·obtain ⟨hz, hne⟩ := (erase_mem h.srt hx).1 hz
  obtain ⟨e1, y, hy, e2⟩ := h.ent z hz e he;refine ⟨e1, y, (erase_mem h.srt hx).2 ⟨hy, fun e3 => hn z.1 ⟨z, hz, rfl, e, he, ?_⟩⟩, e2⟩;rw [← e2, e3]
theorem VW.app {next : Int} {l : List Nod} {x : Nod} (h : VW next l) (h1 : x.1 = next) (ht : Typ x) (he : x.2.2.2.2 = []) (hn : next < 100000) (hl : l.length < 16) : VW (next + 1) (l ++ [x]) := by
 have hlo := h.lo;have mem : ∀ {z}, z ∈ l ++ [x] ↔ z ∈ l ∨ z = x := by simp
 refine ⟨by omega, by omega, by simp; omega, ?_, fun z hz => ?_, ?_, fun z hz => ?_, fun z hz e hez => ?_⟩
 ·refine List.pairwise_append.2 ⟨h.srt, List.pairwise_singleton _ _, fun a ha b hb => ?_⟩
  rw [List.mem_singleton.1 hb, h1]; exact (h.rng a ha).2
 ·rcases mem.1 hz with hz | rfl
  ·have := h.rng z hz; omega
  ·omega
 ·obtain ⟨r, hr, r1, r2⟩ := h.root
  exact ⟨r, by rw [List.getElem?_append_left (List.getElem?_eq_some_iff.1 hr).1, hr], r1, r2⟩
 ·rcases mem.1 hz with hz | rfl
  ·exact h.typ z hz
  ·exact ht
 ·rcases mem.1 hz with hz | rfl
  ·obtain ⟨e1, y, hy, e2⟩ := h.ent z hz e hez
   exact ⟨e1, y, mem.2 (.inl hy), e2⟩
  ·rw [he] at hez; simp at hez
theorem app_kid {l : List Nod} {x : Nod} (he : x.2.2.2.2 = []) {a b : Int} : Kid (l ++ [x]) a b ↔ Kid l a b := by
 constructor
 ·rintro ⟨z, hz, rfl, e, hez, rfl⟩
  rcases List.mem_append.1 hz with hz | hz
  ·exact ⟨z, hz, rfl, e, hez, rfl⟩
  ·rw [List.mem_singleton.1 hz, he] at hez; simp at hez
 ·rintro ⟨z, hz, r⟩
  exact ⟨z, List.mem_append_left _ hz, r⟩
theorem add_ids {d : List EntT} {s : ByteArray} {id : Int} (h1 : nameB (toB s) = true) (h2 : dirAt d (toB s) = none) (h3 : inB id 1 100000 = true) (h4 : d.length < 12) : (idsE (addD d s id).1).Perm (id :: idsE d) := by
 rw [addD, if_pos (by simp [h1, h2, h3, h4])];exact (insD_perm _ _).map _
theorem look_at {d : List EntT} {s : ByteArray} {e : EntT} (h : lookD d s = some e) : ∃ k, dirAt d (toB s) = some k ∧ d[k]? = some e := by
 rw [lookD, Option.bind_eq_some_iff] at h; exact h
theorem erase_perm {α : Type} : ∀ {l : List α} {k : Nat} {x : α}, l[k]? = some x → l.Perm (x :: l.eraseIdx k)
 | [], k, x, h => by simp at h
 | y :: l, 0, x, h => by injection h with h; subst h; exact .refl _
 | y :: l, k + 1, x, h => by
   rw [List.eraseIdx_cons_succ];exact ((erase_perm (l := l) (k := k) h).cons y).trans (.swap _ _ _)
theorem drop_ids {d : List EntT} {s : ByteArray} {e : EntT} (h : lookD d s = some e) : (idsE d).Perm (e.2.2.2 :: idsE (dropD d s).1) := by
 obtain ⟨k, h1, h2⟩ := look_at h;rw [dropD, h1];exact (erase_perm h2).map _
theorem set_perm {α : Type} : ∀ {l : List α} {k : Nat} {x y : α}, l[k]? = some x → (l.set k y).Perm (y :: l.eraseIdx k)
 | [], k, x, y, h => by simp at h
 | z :: l, 0, x, y, h => .refl _
 | z :: l, k + 1, x, y, h => by
   rw [List.eraseIdx_cons_succ, List.set_cons_succ];exact ((set_perm (l := l) (k := k) (y := y) h).cons z).trans (.swap _ _ _)
theorem resp_ids {d : List EntT} {s : ByteArray} {id : Int} {e : EntT} (h : lookD d s = some e) (hid : inB id 1 100000 = true) : (idsE (respD d s id).1).Perm (id :: idsE (dropD d s).1) := by
 obtain ⟨k, h1, h2⟩ := look_at h;rw [respD_eq h1 h2 hid, dropD, h1];exact (set_perm (y := (e.1, e.2.1, s, id)) h2).map _
section
variable {next : Int} {l : List Nod} {k : Nat} {x : Nod} {d : List EntT} {a b i : Int}
theorem nEnts_eq (hx : l[k]? = some x) : nEnts l k d = l.set k (x.1, x.2.1, x.2.2.1, x.2.2.2.1, d) := by rw [nEnts, hx]
theorem entsOf_eq (hx : l[k]? = some x) : entsOf l k = x.2.2.2.2 := by rw [entsOf, hx]
theorem kindOf_eq (hx : l[k]? = some x) : kindOf l k = x.2.1 := by rw [kindOf, hx]
theorem nEnts_VW (h : VW next l) (hx : l[k]? = some x) (hk : x.2.1 = 2) (hd : DirR d) (he : ∀ e ∈ d, e.2.2.2 ≠ 1 ∧ ∃ z ∈ l, z.1 = e.2.2.2) : VW next (nEnts l k d) := by
 rw [nEnts_eq hx];refine h.set hx rfl rfl ?_ he
 rcases h.typ x (List.mem_of_getElem? hx) with t | t
 ·omega
 ·exact .inr ⟨t.1, t.2.1, hd⟩
theorem nEnts_named (hx : l[k]? = some x) : namedN (nEnts l k d) i + (idsE x.2.2.2.2).count i = namedN l i + (idsE d).count i := by
 have h := namedN_set i (x.1, x.2.1, x.2.2.1, x.2.2.2.1, d) l k x hx;rw [entsN_ids, entsN_ids] at h;rw [nEnts_eq hx]; exact h
theorem nEnts_kid (hs : Srt l) (hx : l[k]? = some x) : Kid (nEnts l k d) a b ↔ (a = x.1 ∧ b ∈ idsE d) ∨ (a ≠ x.1 ∧ Kid l a b) := by
 rw [nEnts_eq hx]; exact set_kid (y := (x.1, x.2.1, x.2.2.1, x.2.2.2.1, d)) hs hx rfl
theorem nEnts_at (hx : l[k]? = some x) {j : Nat} {y : Nod} (hy : l[j]? = some y) : (nEnts l k d)[j]? = some (y.1, y.2.1, y.2.2.1, y.2.2.2.1, if j = k then d else y.2.2.2.2) := by
 rw [nEnts_eq hx]
 by_cases h : j = k
 ·subst h
  rw [hx] at hy; injection hy with hy; subst hy;rw [List.getElem?_set_self (List.getElem?_eq_some_iff.1 hx).1, if_pos rfl]
 ·rw [List.getElem?_set_ne (fun e => h e.symm), hy, if_neg h]
theorem nEnts_old (hs : Srt l) (hx : l[k]? = some x) {y : Nod} (hy : y ∈ nEnts l k d) : ∃ z ∈ l, y.1 = z.1 ∧ y.2.1 = z.2.1 ∧ y.2.2.1 = z.2.2.1 := by
 rw [nEnts_eq hx] at hy
 rcases (set_mem hs hx).1 hy with rfl | ⟨h, _⟩
 ·exact ⟨x, List.mem_of_getElem? hx, rfl, rfl, rfl⟩
 ·exact ⟨y, h, rfl, rfl, rfl⟩
theorem nEnts_ex (hs : Srt l) (hx : l[k]? = some x) : (∃ z ∈ nEnts l k d, z.1 = i) ↔ ∃ z ∈ l, z.1 = i := by
 rw [nEnts_eq hx]; exact set_ex (y := (x.1, x.2.1, x.2.2.1, x.2.2.2.1, d)) hs hx rfl
end
theorem less_V {next : Int} {l : List Nod} {o : Int} (h : VW next l) (h1 : ∀ y ∈ l, y.2.1 = 2 → y.2.2.1 = 1) (hl : ∀ y ∈ l, y.1 = 1 ∨ y.2.2.1 = (namedN l y.1 : Int) + (if y.1 = o then 1 else 0)) (ho1 : o ≠ 1) (hok : ∀ b, ¬ Kid l o b)
 (hr : ∀ y ∈ l, y.1 = o ∨ Rch l y.1) (hex : ∃ y ∈ l, y.1 = o) : VOk next (nLess l o) := by
 obtain ⟨y, hy, hyo⟩ := hex;obtain ⟨j, hj⟩ := List.getElem?_of_mem hy;have hat : atN l o = some j := by rw [← hyo]; exact nodup_at h.srt hj
 have hly := (hl y hy).resolve_left (by rw [hyo]; exact ho1);rw [if_pos hyo, hyo] at hly;have hye : y.2.2.2.2 = [] := by
  rcases he : y.2.2.2.2 with _ | ⟨e, r⟩
  ·rfl
  ·exact absurd ⟨y, hy, hyo, e, by rw [he]; exact List.mem_cons_self, rfl⟩ (hok e.2.2.2)
 unfold nLess;rw [hat]; simp only [hj]
 by_cases hone : y.2.2.1 = 1
 ·rw [if_pos hone]
  have hn0 : namedN l o = 0 := by omega
  have hno : ∀ a, ¬ Kid l a y.1 := fun a ha => by
   have := named_pos.2 ⟨a, ha⟩;rw [hyo] at this; omega
  have hW := h.erase hj (by rw [hyo]; exact ho1) hno;have hnm : ∀ i, namedN (l.eraseIdx j) i = namedN l i := fun i => by
   have := namedN_erase i l j y hj;rw [hye] at this; simpa [entsN] using this
  refine ⟨hW, fun z hz => h1 z ((erase_mem h.srt hj).1 hz).1, fun z hz => ?_, fun z hz => ?_⟩
  ·obtain ⟨hz, hne⟩ := (erase_mem h.srt hj).1 hz
   rcases hl z hz with h2 | h2
   ·exact .inl h2
   ·right; rw [h2, hnm, if_neg (by rw [← hyo]; exact hne)]; omega
  ·obtain ⟨hz, hne⟩ := (erase_mem h.srt hj).1 hz
   refine rch_mono h.srt hW.srt (fun a b hab => ?_) ((hr z hz).resolve_left (by rw [← hyo]; exact hne));exact (erase_kid h.srt hj).2 ⟨fun e => hok b (by rw [← hyo, ← e]; exact hab), hab⟩
 ·rw [if_neg hone]
  unfold nLinks;simp only [hj];have hkd : y.2.1 ≠ 2 := fun e => hone (h1 y hy e);have hty : Typ (y.1, y.2.1, y.2.2.1 - 1, y.2.2.2.1, y.2.2.2.2) := h.typ y hy;have hW : VW next (l.set j (y.1, y.2.1, y.2.2.1 - 1, y.2.2.2.1, y.2.2.2.2)) := h.set hj rfl rfl hty (h.ent y hy);have hnm : ∀ i, namedN (l.set j (y.1, y.2.1, y.2.2.1 - 1, y.2.2.2.1, y.2.2.2.2)) i = namedN l i := fun i => by
   have h9 : namedN (l.set j (y.1, y.2.1, y.2.2.1 - 1, y.2.2.2.1, y.2.2.2.2)) i + entsN y.2.2.2.2 i = namedN l i + entsN y.2.2.2.2 i := namedN_set i (y.1, y.2.1, y.2.2.1 - 1, y.2.2.2.1, y.2.2.2.2) l j y hj;omega
  have hkid : ∀ a b, Kid l a b → Kid (l.set j (y.1, y.2.1, y.2.2.1 - 1, y.2.2.2.1, y.2.2.2.2)) a b := fun a b hab => by
   rw [set_kid (y := (y.1, y.2.1, y.2.2.1 - 1, y.2.2.2.1, y.2.2.2.2)) h.srt hj rfl]
   by_cases hay : a = y.1
   ·exact .inl ⟨hay, (kid_at h.srt hj).1 (hay ▸ hab)⟩
   ·exact .inr ⟨hay, hab⟩
  have hpos : 0 < namedN l o := by omega
  obtain ⟨a, ha⟩ := named_pos.1 hpos;have hro : Rch l o := by
   obtain ⟨z, hz, hza, r⟩ := ha;have hrz := (hr z hz).resolve_left (fun e => by
    obtain ⟨e1, he1, he2⟩ := r;exact hok o ⟨z, hz, e, e1, he1, he2⟩)
   exact rch_step h.srt hrz ⟨z, hz, rfl, r⟩
  have hall : ∀ z ∈ l, Rch l z.1 := fun z hz => (hr z hz).elim (fun e => e ▸ hro) id;refine ⟨hW, fun z hz => ?_, fun z hz => ?_, fun z hz => ?_⟩
  ·rcases (set_mem h.srt hj).1 hz with rfl | ⟨hz, _⟩
   ·exact fun e => absurd e hkd
   ·exact h1 z hz
  ·rw [hnm]
   rcases (set_mem h.srt hj).1 hz with rfl | ⟨hz, hne⟩
   ·right; show y.2.2.1 - 1 = (namedN l y.1 : Int); rw [hyo]; omega
   ·rcases hl z hz with h2 | h2
    ·exact .inl h2
    ·right; rw [h2, if_neg (by rw [← hyo]; exact hne)]; omega
  ·rcases (set_mem h.srt hj).1 hz with rfl | ⟨hz, hne⟩
   ·exact rch_mono h.srt hW.srt hkid (hall y hy)
   ·exact rch_mono h.srt hW.srt hkid (hall z hz)
end Go.Proofs.YtllonpbhgbhogaaGreatDoor
namespace Go.Proofs.YtllonpbhgbhogaaGreatDoor
open Go.RowKit
theorem count_cons' (a i : Int) (l : List Int) : (a :: l).count i = l.count i + (if i = a then 1 else 0) := by
 rw [List.count_cons]
 by_cases h : i = a
 ·rw [if_pos h, h, if_pos (by simp)]
 ·rw [if_neg h, if_neg (by simpa using fun e => h e.symm)]
theorem VW.dir {next : Int} {l : List Nod} {k : Nat} {x : Nod} (h : VW next l) (hx : l[k]? = some x) (hd : x.2.1 = 2) : DirR x.2.2.2.2 := by
 rcases h.typ x (List.mem_of_getElem? hx) with t | t
 ·omega
 ·exact t.2.2
theorem mem_ids {d : List EntT} {e : EntT} (h : e ∈ d) : e.2.2.2 ∈ idsE d := List.mem_map_of_mem h
theorem of_ids {d : List EntT} {b : Int} (h : b ∈ idsE d) : ∃ e ∈ d, e.2.2.2 = b := by
 obtain ⟨e, h1, h2⟩ := List.mem_map.1 h; exact ⟨e, h1, h2⟩
theorem VW.ids {next : Int} {l : List Nod} {k : Nat} {x : Nod} (h : VW next l) (hx : l[k]? = some x) {b : Int} (hb : b ∈ idsE x.2.2.2.2) : b ≠ 1 ∧ ∃ z ∈ l, z.1 = b := by
 obtain ⟨e, he, rfl⟩ := of_ids hb;exact h.ent x (List.mem_of_getElem? hx) e he
theorem VW.inB_id {next : Int} {l : List Nod} {x : Nod} (h : VW next l) (hx : x ∈ l) : inB x.1 1 100000 = true := by
 have h1 := h.rng x hx;have h2 := h.hi;exact inB_iff.2 ⟨h1.1, by omega⟩
theorem VW.dirs_ne {next : Int} {l : List Nod} (h : VW next l) {x : Nod} (hx : x ∈ l) (hk : x.2.1 ≠ 2) : x.1 ≠ 1 := fun e => by
 obtain ⟨r, hr, r1, r2⟩ := h.root_mem;have := srt_inj h.srt hx hr (e.trans r1.symm);subst this; exact hk r2
theorem kid_sup {l : List Nod} {k : Nat} {x : Nod} {d : List EntT} (hs : Srt l) (hx : l[k]? = some x) (hd : ∀ b ∈ idsE x.2.2.2.2, b ∈ idsE d) {a b : Int} (h : Kid l a b) : Kid (nEnts l k d) a b := by
 rw [nEnts_kid hs hx]
 by_cases e : a = x.1
 ·exact .inl ⟨e, hd b ((kid_at hs hx).1 (e ▸ h))⟩
 ·exact .inr ⟨e, h⟩
theorem make_V {next : Int} {l : List Nod} {k : Nat} {x : Nod} {c : CallT} (h : VOk next l) (hx : l[k]? = some x) (hd : x.2.1 = 2) (hn : nameB (toB c.2.2.1) = true) : VOk (makeP next l k c).1.1 (makeP next l k c).1.2 := by
 unfold makeP;rw [entsOf_eq hx]
 by_cases h1 : (dirAt x.2.2.2.2 (toB c.2.2.1)).isSome = true
 ·rw [if_pos h1]; exact h
 rw [if_neg h1]
 by_cases h2 : 12 ≤ x.2.2.2.2.length ∨ 16 ≤ l.length ∨ 100000 ≤ next
 ·rw [if_pos h2]; exact h
 rw [if_neg h2];have hlo := h.lo;have hxm := List.mem_of_getElem? hx;have hk := (List.getElem?_eq_some_iff.1 hx).1;have hdir := h.toVW.dir hx hd;have hp := add_ids (id := next) hn (by simpa using h1) (inB_iff.2 ⟨by omega, by omega⟩) (by omega : x.2.2.2.2.length < 12);have hdr := addD_R hdir c.2.2.1 next
 generalize (addD x.2.2.2.2 c.2.2.1 next).1 = d at hp hdr
 obtain ⟨n, hnn⟩ : ∃ n : Nod, n = (next, (if c.1 = 2 then 2 else 1), 1, ⟨#[]⟩, []) := ⟨_, rfl⟩
 show VOk (next + 1) (nEnts l k d ++ [(next, (if c.1 = 2 then 2 else 1), 1, ⟨#[]⟩, [])])
 rw [← hnn];have n1 : n.1 = next := by rw [hnn]
 have n3 : n.2.2.1 = 1 := by rw [hnn]
 have n5 : n.2.2.2.2 = [] := by rw [hnn]
 have nt : Typ n := by
  rw [hnn]
  by_cases hc : c.1 = 2
  ·exact .inr ⟨if_pos hc, rfl, dirR_nil⟩
  ·exact .inl ⟨if_neg hc, rfl, Nat.zero_le _⟩
 clear hnn;have hA := h.toVW.app n1 nt n5 (by omega) (by omega);have hx' : (l ++ [n])[k]? = some x := by rw [List.getElem?_append_left hk, hx]
 have he : nEnts l k d ++ [n] = nEnts (l ++ [n]) k d := by rw [nEnts_eq hx, nEnts_eq hx', List.set_append_left _ _ hk]
 rw [he];have hW : VW (next + 1) (nEnts (l ++ [n]) k d) := nEnts_VW hA hx' hd hdr fun e he => by
  rcases List.mem_cons.1 (hp.mem_iff.1 (mem_ids he)) with h3 | h3
  ·rw [h3]; exact ⟨by omega, n, by simp, n1⟩
  ·obtain ⟨h4, z, hz, h5⟩ := h.toVW.ids hx h3
   exact ⟨h4, z, by simp [hz], h5⟩
 have hnm : ∀ i, namedN (nEnts (l ++ [n]) k d) i = namedN l i + (if i = next then 1 else 0) := fun i => by
  have h3 := nEnts_named (d := d) (i := i) hx';rw [hp.count_eq, count_cons', namedN_append] at h3;have h4 : namedN [n] i = 0 := by rw [namedN_cons, n5]; simp [entsN, namedN]
  omega
 have hz0 : namedN l next = 0 := named_zero fun a ⟨y, hy, _, e, he, hen⟩ => by
  obtain ⟨_, z, hz, h5⟩ := h.ent y hy e he;have := h.rng z hz;omega
 have hkid : ∀ a b, Kid l a b → Kid (nEnts (l ++ [n]) k d) a b := fun a b hab =>
  kid_sup hA.srt hx' (fun b hb => hp.mem_iff.2 (List.mem_cons_of_mem _ hb)) ((app_kid n5).2 hab)
 refine ⟨hW, fun y hy => ?_, fun y hy => ?_, fun y hy => ?_⟩
 ·obtain ⟨z, hz, e1, e2, e3⟩ := nEnts_old hA.srt hx' hy
  rw [e2, e3]
  rcases List.mem_append.1 hz with hz | hz
  ·exact h.one z hz
  ·rw [List.mem_singleton.1 hz]; exact fun _ => n3
 ·obtain ⟨z, hz, e1, e2, e3⟩ := nEnts_old hA.srt hx' hy
  rw [e1, e3, hnm]
  rcases List.mem_append.1 hz with hz | hz
  ·have := h.rng z hz
   rcases h.lnk z hz with h4 | h4
   ·exact .inl h4
   ·right; rw [h4, if_neg (by omega)]; rfl
  ·rw [List.mem_singleton.1 hz, n1, n3, if_pos rfl, hz0]; exact .inr rfl
 ·obtain ⟨z, hz, e1, e2, e3⟩ := nEnts_old hA.srt hx' hy
  rw [e1]
  rcases List.mem_append.1 hz with hz | hz
  ·exact rch_mono h.srt hW.srt hkid (h.rch z hz)
  ·rw [List.mem_singleton.1 hz, n1]
   refine rch_step hW.srt (rch_mono h.srt hW.srt hkid (h.rch x hxm)) ?_;rw [nEnts_kid hA.srt hx'];exact .inl ⟨rfl, hp.mem_iff.2 List.mem_cons_self⟩
theorem link_V {next : Int} {l : List Nod} {t xi : Nat} {y x : Nod} {c : CallT} (h : VOk next l) (ht : l[t]? = some y) (hd : y.2.1 = 2) (hx : l[xi]? = some x) (hn : nameB (toB c.2.2.2.2.1) = true) : VOk (linkP next l t xi x c).1.1 (linkP next l t xi x c).1.2 := by
 unfold linkP;rw [entsOf_eq ht]
 by_cases h0 : x.2.1 = 2
 ·rw [if_pos h0]; exact h
 rw [if_neg h0]
 by_cases h1 : (dirAt y.2.2.2.2 (toB c.2.2.2.2.1)).isSome = true
 ·rw [if_pos h1]; exact h
 rw [if_neg h1]
 by_cases h2 : 12 ≤ y.2.2.2.2.length
 ·rw [if_pos h2]; exact h
 rw [if_neg h2];have hxm := List.mem_of_getElem? hx;have hne : xi ≠ t := fun e => by subst e; rw [hx] at ht; injection ht with ht; subst ht; exact h0 hd
 have hdir := h.toVW.dir ht hd;have hp := add_ids (id := x.1) hn (by simpa using h1) (h.toVW.inB_id hxm) (by omega : y.2.2.2.2.length < 12);have hdr := addD_R hdir c.2.2.2.2.1 x.1
 generalize (addD y.2.2.2.2 c.2.2.2.2.1 x.1).1 = d at hp hdr
 show VOk next (nLinks (nEnts l t d) xi (x.2.2.1 + 1))
 have hx1 := h.toVW.dirs_ne hxm h0;have hW1 : VW next (nEnts l t d) := nEnts_VW h.toVW ht hd hdr fun e he => by
  rcases List.mem_cons.1 (hp.mem_iff.1 (mem_ids he)) with h3 | h3
  ·rw [h3]; exact ⟨hx1, x, hxm, rfl⟩
  ·exact h.toVW.ids ht h3
 have hat : (nEnts l t d)[xi]? = some x := by
  rw [nEnts_at ht hx, if_neg hne]
 have hnm : ∀ i, namedN (nEnts l t d) i = namedN l i + (if i = x.1 then 1 else 0) := fun i => by
  have h3 := nEnts_named (d := d) (i := i) ht;rw [hp.count_eq, count_cons'] at h3;omega
 have hkid : ∀ a b, Kid l a b → Kid (nEnts l t d) a b := fun a b hab => kid_sup h.srt ht (fun b hb => hp.mem_iff.2 (List.mem_cons_of_mem _ hb)) hab;have hold := fun {z : Nod} (hz : z ∈ nEnts l t d) => nEnts_old h.srt ht hz
 generalize nEnts l t d = l1 at hW1 hat hnm hkid hold
 unfold nLinks;simp only [hat];obtain ⟨x', hx'⟩ : ∃ x' : Nod, x' = (x.1, x.2.1, x.2.2.1 + 1, x.2.2.2.1, x.2.2.2.2) := ⟨_, rfl⟩;rw [← hx'];have x1 : x'.1 = x.1 := by rw [hx']
 have x2 : x'.2.1 = x.2.1 := by rw [hx']
 have x3 : x'.2.2.1 = x.2.2.1 + 1 := by rw [hx']
 have x5 : x'.2.2.2.2 = x.2.2.2.2 := by rw [hx']
 have xt : Typ x' := by rw [hx']; exact h.typ x hxm
 clear hx';have hW : VW next (l1.set xi x') := hW1.set hat x1 x2 xt (by rw [x5]; exact hW1.ent x (List.mem_of_getElem? hat));have hnm2 : ∀ i, namedN (l1.set xi x') i = namedN l1 i := fun i => by
  have := namedN_set i x' l1 xi x hat;rw [x5] at this; omega
 have hkid2 : ∀ a b, Kid l a b → Kid (l1.set xi x') a b := fun a b hab => by
  rw [set_kid hW1.srt hat x1]
  by_cases e : a = x.1
  ·exact .inl ⟨e, by rw [x5]; exact (kid_at hW1.srt hat).1 (e ▸ hkid a b hab)⟩
  ·exact .inr ⟨e, hkid a b hab⟩
 refine ⟨hW, fun z hz => ?_, fun z hz => ?_, fun z hz => ?_⟩
 ·rcases (set_mem hW1.srt hat).1 hz with rfl | ⟨hz, _⟩
  ·rw [x2]; exact fun e => absurd e h0
  ·obtain ⟨q, hq, e1, e2, e3⟩ := hold hz
   rw [e2, e3]; exact h.one q hq
 ·rw [hnm2, hnm]
  rcases (set_mem hW1.srt hat).1 hz with rfl | ⟨hz, hne2⟩
  ·right; rw [x1, x3, if_pos rfl, (h.lnk x hxm).resolve_left hx1]; rfl
  ·obtain ⟨q, hq, e1, e2, e3⟩ := hold hz
   rw [if_neg hne2, e1, e3];exact h.lnk q hq
 ·rcases (set_mem hW1.srt hat).1 hz with rfl | ⟨hz, hne2⟩
  ·rw [x1]; exact rch_mono h.srt hW.srt hkid2 (h.rch x hxm)
  ·obtain ⟨q, hq, e1, e2, e3⟩ := hold hz
   rw [e1]; exact rch_mono h.srt hW.srt hkid2 (h.rch q hq)
theorem data_V {next : Int} {l : List Nod} {xi : Nat} {x : Nod} {s : ByteArray} (h : VOk next l) (hx : l[xi]? = some x) (h0 : x.2.1 ≠ 2) (hs : s.size ≤ 20) : VOk next (nData l xi s) := by
 have hxm := List.mem_of_getElem? hx;unfold nData;simp only [hx];have xt : Typ (x.1, x.2.1, x.2.2.1, s, x.2.2.2.2) := by
  rcases h.typ x hxm with t | t
  ·exact .inl ⟨t.1, t.2.1, hs⟩
  ·exact absurd t.1 h0
 have hW : VW next (l.set xi (x.1, x.2.1, x.2.2.1, s, x.2.2.2.2)) := h.toVW.set hx rfl rfl xt (h.ent x hxm);have hnm : ∀ i, namedN (l.set xi (x.1, x.2.1, x.2.2.1, s, x.2.2.2.2)) i = namedN l i := fun i => by
  have h9 : namedN (l.set xi (x.1, x.2.1, x.2.2.1, s, x.2.2.2.2)) i + entsN x.2.2.2.2 i = namedN l i + entsN x.2.2.2.2 i := namedN_set i (x.1, x.2.1, x.2.2.1, s, x.2.2.2.2) l xi x hx;omega
 have hkid : ∀ a b, Kid l a b → Kid (l.set xi (x.1, x.2.1, x.2.2.1, s, x.2.2.2.2)) a b := fun a b hab => by
  rw [set_kid (y := (x.1, x.2.1, x.2.2.1, s, x.2.2.2.2)) h.srt hx rfl]
  by_cases e : a = x.1
  ·exact .inl ⟨e, (kid_at h.srt hx).1 (e ▸ hab)⟩
  ·exact .inr ⟨e, hab⟩
 refine ⟨hW, fun z hz => ?_, fun z hz => ?_, fun z hz => ?_⟩
 ·rcases (set_mem h.srt hx).1 hz with rfl | ⟨hz, _⟩
  ·exact h.one x hxm
  ·exact h.one z hz
 ·rw [hnm]
  rcases (set_mem h.srt hx).1 hz with rfl | ⟨hz, _⟩
  ·exact h.lnk x hxm
  ·exact h.lnk z hz
 ·rcases (set_mem h.srt hx).1 hz with rfl | ⟨hz, _⟩
  ·exact rch_mono h.srt hW.srt hkid (h.rch x hxm)
  ·exact rch_mono h.srt hW.srt hkid (h.rch z hz)
theorem unl_V {next : Int} {l : List Nod} {k xi : Nat} {y x : Nod} {s : ByteArray} {e : EntT} (h : VOk next l) (hy : l[k]? = some y) (hd : y.2.1 = 2) (hl : lookD y.2.2.2.2 s = some e) (hx : l[xi]? = some x) (hex : e.2.2.2 = x.1) (h5 : x.2.2.2.2 = []) : VOk next (nLess (nEnts l k (dropD y.2.2.2.2 s).1) x.1) := by
 have hxm := List.mem_of_getElem? hx;have hdir := h.toVW.dir hy hd;have hp := drop_ids hl;have hdr := dropD_R hdir s;rw [hex] at hp
 generalize (dropD y.2.2.2.2 s).1 = d at hp hdr
 have hx1 : x.1 ≠ 1 := (h.toVW.ids hy (hp.mem_iff.2 List.mem_cons_self)).1;have hW : VW next (nEnts l k d) := nEnts_VW h.toVW hy hd hdr fun e he => h.toVW.ids hy (hp.mem_iff.2 (List.mem_cons_of_mem _ (mem_ids he)));have hnm : ∀ i, namedN l i = namedN (nEnts l k d) i + (if i = x.1 then 1 else 0) := fun i => by
  have h3 := nEnts_named (d := d) (i := i) hy;rw [hp.count_eq, count_cons'] at h3;omega
 have hxk : ∀ b, ¬ Kid l x.1 b := fun b hb => by
  have h6 := (kid_at h.srt hx).1 hb;rw [h5] at h6; simp [idsE] at h6
 have hyx : x.1 ≠ y.1 := fun e2 => by
  have := srt_inj h.srt hxm (List.mem_of_getElem? hy) e2;subst this;rw [h5] at hp;exact absurd hp.length_eq (by simp [idsE])
 refine less_V hW (fun z hz => ?_) (fun z hz => ?_) hx1 (fun b hb => ?_) (fun z hz => ?_) ((nEnts_ex h.srt hy).2 ⟨x, hxm, rfl⟩)
 ·obtain ⟨q, hq, e1, e2, e3⟩ := nEnts_old h.srt hy hz
  rw [e2, e3]; exact h.one q hq
 ·obtain ⟨q, hq, e1, e2, e3⟩ := nEnts_old h.srt hy hz
  rw [e1, e3]
  rcases h.lnk q hq with h6 | h6
  ·exact .inl h6
  ·right; rw [h6, hnm]; split <;> simp
 ·rcases (nEnts_kid h.srt hy).1 hb with ⟨e1, _⟩ | ⟨_, h6⟩
  ·exact hyx e1
  ·exact hxk b h6
 ·obtain ⟨q, hq, e1, e2, e3⟩ := nEnts_old h.srt hy hz
  rw [e1];refine rch_drop h.srt hW.srt (fun a b hab => ?_) hxk (h.rch q hq)
  by_cases hb : b = x.1
  ·exact .inr hb
  ·left
   rw [nEnts_kid h.srt hy]
   by_cases e4 : a = y.1
   ·refine .inl ⟨e4, ?_⟩
    have h6 := (kid_at h.srt hy).1 (e4 ▸ hab);exact (List.mem_cons.1 (hp.mem_iff.1 h6)).resolve_left hb
   ·exact .inr ⟨e4, hab⟩
theorem same_V {next : Int} {l : List Nod} {k : Nat} {y : Nod} {d : List EntT} (h : VOk next l) (hy : l[k]? = some y) (hd : y.2.1 = 2) (hdr : DirR d) (hp : (idsE d).Perm (idsE y.2.2.2.2)) : VOk next (nEnts l k d) := by
 have hW : VW next (nEnts l k d) := nEnts_VW h.toVW hy hd hdr fun e he => h.toVW.ids hy (hp.mem_iff.1 (mem_ids he));have hnm : ∀ i, namedN (nEnts l k d) i = namedN l i := fun i => by
  have h3 := nEnts_named (d := d) (i := i) hy;rw [hp.count_eq] at h3;omega
 refine ⟨hW, fun z hz => ?_, fun z hz => ?_, fun z hz => ?_⟩
 ·obtain ⟨q, hq, e1, e2, e3⟩ := nEnts_old h.srt hy hz
  rw [e2, e3]; exact h.one q hq
 ·obtain ⟨q, hq, e1, e2, e3⟩ := nEnts_old h.srt hy hz
  rw [e1, e3, hnm]; exact h.lnk q hq
 ·obtain ⟨q, hq, e1, e2, e3⟩ := nEnts_old h.srt hy hz
  rw [e1];exact rch_mono h.srt hW.srt (fun a b hab => kid_sup h.srt hy (fun b hb => hp.mem_iff.2 hb) hab) (h.rch q hq)
end Go.Proofs.YtllonpbhgbhogaaGreatDoor
namespace Go.Proofs.YtllonpbhgbhogaaGreatDoor
open Go.RowKit
theorem flat_erase {α : Type} (f : α → List Value) (k : Nat) (hk : ∀ x, (f x).length = k) : ∀ (L : List α) (j : Nat), j < L.length → (L.flatMap f).take (j * k) ++ (L.flatMap f).drop ((j + 1) * k) = (L.eraseIdx j).flatMap f
 | [], j, h => by simp at h
 | a :: L, 0, h => by
   rw [List.flatMap_cons, Nat.zero_mul, List.take_zero, List.nil_append, List.eraseIdx_cons_zero, Nat.zero_add, Nat.one_mul, ← hk a, List.drop_left]
 | a :: L, j + 1, h => by
   have ih := flat_erase f k hk L j (by simpa using h);rw [List.flatMap_cons, List.eraseIdx_cons_succ, List.flatMap_cons, ← ih];have e1 : (j + 1) * k = (f a).length + j * k := by rw [hk, Nat.add_mul, Nat.one_mul, Nat.add_comm]
   have e2 : (j + 1 + 1) * k = (f a).length + (j + 1) * k := by rw [hk, Nat.add_mul (j + 1), Nat.one_mul, Nat.add_comm]
   rw [e2, e1, List.take_length_add_append, List.drop_length_add_append, ← e1, List.append_assoc]
theorem cEnt_one (e : Int × Int × ByteArray × Int) : ∀ u ∈ cEnt e, u.oneCell' = true := by simp [cEnt, Value.oneCell']
set_option maxRecDepth 1000000 in
set_option maxHeartbeats 4000000 in
theorem delE_any (g n c j : Nat) (L : List (Int × Int × ByteArray × Int)) (w : World) (h : w.ownsRow 0 109 4 (.slice (some ⟨g, 0, none⟩) n c) n (L.flatMap cEnt)) (hj : j < n) :
 Calls Tryz.prog 151 #[.slice (some ⟨g, 0, none⟩) n c, .int .i64 (j : Int), .int .i64 ((j : Int) + 1)] w fun e w' =>
  e = .returned (.slice (some ⟨g, 0, none⟩) (n - 1) c) ∧ Hp [g] w w' [.row 109 4 (.slice (some ⟨g, 0, none⟩) (n - 1) c) (n - 1) ((L.eraseIdx j).flatMap cEnt)] := by
 have hrow := h;have hL : (L.flatMap cEnt).length = n * 4 := h.1;have hLl : L.length = n := by rw [flat_len cEnt_len] at hL; omega
 have hcap := own_cap2 h;simp only [maxLen] at hcap;have H := Hp.start_row h;have hroom := fun {q : Nat} (hq : q < c * 4) => own_room h hq;have hfz := fun q : Nat => h.frozenAt q;have hget := fun {q : Nat} {u : Value} (hu : (L.flatMap cEnt)[q]? = some u) => H.at_ 0 rfl hu;obtain ⟨i0, hi0, hz0, hz1, hz2⟩ := info_parts infoEnt;obtain ⟨news, hnews⟩ : ∃ news, news = (L.flatMap cEnt).drop ((j + 1) * 4) := ⟨_, rfl⟩;have hlen : news.length = (n - (j + 1)) * 4 := by rw [hnews, List.length_drop, hL]; omega
 obtain ⟨A, hA, hsrc⟩ : ∃ A : Addr, (if c = j + 1 then some (⟨g, 0, none⟩ : Addr) else some ⟨g, (j + 1) * 4, none⟩) = some A ∧ Hid (∀ t u, news[t]? = some u → w.drew.cell? (A.add t) = some u) := by
  by_cases hcj : c = j + 1
  ·refine ⟨⟨g, 0, none⟩, by simp [hcj], fun t u hu => ?_⟩
   have h0 : news.length = 0 := by rw [hlen, show n - (j + 1) = 0 by omega]
   rw [List.length_eq_zero_iff.1 h0] at hu;simp at hu
  ·refine ⟨⟨g, (j + 1) * 4, none⟩, by simp [hcj], fun t u hu => ?_⟩
   rw [Addr.add_lit];rw [hnews, List.getElem?_drop] at hu;exact hget hu
 have s1 : Hid (news.length = (n - (j + 1)) * 4) := hlen;have s2 : Hid (∀ u ∈ news, u.oneCell' = true) := by
  intro u hu;rw [hnews] at hu;obtain ⟨e, hL9, he⟩ := List.mem_flatMap.1 (List.mem_of_mem_drop hu);exact cEnt_one e u he
 have s3 : Hid (∀ t, t < news.length → (w.drew.cell? ⟨g, 0 + j * 4 + t, none⟩).isSome = true ∧ w.drew.frozen? ⟨g, 0 + j * 4 + t, none⟩ = false) := by
  intro t ht;rw [hlen] at ht;rw [Nat.zero_add];exact ⟨hroom (by omega), hfz _⟩
 obtain ⟨W1, hW1⟩ : ∃ W1, W1 = w.drew.setCells g (0 + j * 4) news := ⟨_, rfl⟩;have H1 : Hp [g] w W1 [.row 109 4 (.slice (some ⟨g, 0, none⟩) n c) n (layL (L.flatMap cEnt) (j * 4) news)] := by
  have h2 := Hp.puts 0 news (L.flatMap cEnt) (j * 4) _ _ H.drew rfl;rw [hW1, Nat.zero_add]; exact h2
 have hr1 := H1.row 0 rfl;have hcl : ∀ ty, (Builtin.clear_ #[74] ty #[.slice (some ⟨g, (n - 1) * 4, none⟩) 1 (c - (n - 1))]).run Tryz.prog W1 = .ok (.tuple #[]) (W1.setCells g ((n - 1) * 4) [.int .i64 0, .int .i64 0, .string ⟨#[]⟩, .int .i64 0]) := fun ty => by
  have h5 := run_clear1 W1 74 109 ty _ Tryz.underlying74 (fun w => run_zero_of hi0 hz0 w) (by simp [Value.cells, Value.oneCell']) g ((n - 1) * 4) (c - (n - 1)) (fun q hq => own_room hr1 (by have : q < 4 := hq; omega)) (fun q hq => hr1.frozenAt _);exact h5
 have H2 := Lib.hid (((Hp.puts 0 [.int .i64 0, .int .i64 0, .string ⟨#[]⟩, .int .i64 0] _ ((n - 1) * 4) _ _ H1 rfl).cut 0 rfl (show n - 1 ≤ n by omega)).recast (l' := [.row 109 4 (.slice (some ⟨g, 0, none⟩) (n - 1) c) (n - 1) ((L.eraseIdx j).flatMap cEnt)]) (by
  have e1 : layL (L.flatMap cEnt) (j * 4) news = (L.flatMap cEnt).take (j * 4) ++ news ++ (L.flatMap cEnt).drop (j * 4 + news.length) := layL_eq _ _ _ (by rw [hlen, hL]; omega);have e2 := flat_erase cEnt 4 cEnt_len L j (by omega)
  show [Ob.row _ _ _ _ ((layL (layL (L.flatMap cEnt) (j * 4) news) ((n - 1) * 4) [.int .i64 0, .int .i64 0, .string ⟨#[]⟩, .int .i64 0]).take ((n - 1) * 4))] = _
  congr 2
  rw [layL_eq _ _ _ (by rw [layL_len, hL]; show (n - 1) * 4 + 4 ≤ n * 4; omega), e1, ← e2, hnews];have e3 : ((L.flatMap cEnt).take (j * 4) ++ (L.flatMap cEnt).drop ((j + 1) * 4)).length = (n - 1) * 4 := by rw [List.length_append, List.length_take, List.length_drop, hL]; omega
  rw [List.append_assoc, List.take_append_of_le_length (by rw [List.length_take, List.length_append, e3]; omega), List.take_take, Nat.min_self, List.take_append_of_le_length (by omega), List.take_of_length_le (by omega)]))
 have hW : Hid (W1 = w.drew.setCells g (0 + j * 4) news) := hW1;have hj1 : j + 1 ≤ n := hj;have hic : j ≤ c := by omega
 have hjc : j + 1 ≤ c := by omega
 have hne : ¬ ((j : Int) = (j : Int) + 1) := by omega
 have hnb : ((j : Int) == (j : Int) + 1) = false := by simp; omega
 have mixed : Tryz.prog.follows .mixedOrders = true := by kernel_rfl
 have hb0 : (0 : Int) ≤ (j : Int) + 1 := by omega
 have hb1 : (j : Int) + 1 ≤ (n : Int) := by omega
 have hn1 : j + (n - (j + 1)) = n - 1 := by omega
 have hn2 : n - (n - 1) = 1 := by omega
 clear hW1 H1 hr1 H hrow h hget hnews hlen hroom hfz hLl hL;go_enter Tryz.func151, Tryz.ntmps151;go_wp2_with fail
 go_region_law_o (refine step_append_room rfl (.tmp 22) (.tmp 25) 74 rfl 109 i0 4 Tryz.underlying74 hi0 hz1 g 0 j c (by simp [Act.eval, Act.put]) A (n - (j + 1)) (c - (j + 1)) news (by simp [Act.eval, Act.put]) s1.out hsrc.out s2.out (by omega) s3.out ?_; rw [← hW.out])
 go_wp2_with fail;go_ret;exact ⟨rfl, H2.out⟩
theorem cNV_one {p : Value × Nod} (h : p.1.oneCell' = true) : ∀ u ∈ cNV p, u.oneCell' = true := by
 intro u hu;simp only [cNV, List.mem_cons, List.mem_nil_iff, or_false] at hu
 rcases hu with rfl | rfl | rfl | rfl | rfl <;> first | rfl | exact h
set_option maxRecDepth 1000000 in
set_option maxHeartbeats 4000000 in
theorem delN_any (g n c j : Nat) (L : List (Value × Nod)) (w : World) (h : w.ownsRow 0 76 5 (.slice (some ⟨g, 0, none⟩) n c) n (L.flatMap cNV)) (hj : j < n) (h1 : ∀ p ∈ L, p.1.oneCell' = true) :
 Calls Tryz.prog 122 #[.slice (some ⟨g, 0, none⟩) n c, .int .i64 (j : Int), .int .i64 ((j : Int) + 1)] w fun e w' =>
  e = .returned (.slice (some ⟨g, 0, none⟩) (n - 1) c) ∧ Hp [g] w w' [.row 76 5 (.slice (some ⟨g, 0, none⟩) (n - 1) c) (n - 1) ((L.eraseIdx j).flatMap cNV)] := by
 have hrow := h;have hL : (L.flatMap cNV).length = n * 5 := h.1;have hLl : L.length = n := by rw [flat_len cNV_len] at hL; omega
 have hcap := own_cap2 h;simp only [maxLen] at hcap;have H := Hp.start_row h;have hroom := fun {q : Nat} (hq : q < c * 5) => own_room h hq;have hfz := fun q : Nat => h.frozenAt q;have hget := fun {q : Nat} {u : Value} (hu : (L.flatMap cNV)[q]? = some u) => H.at_ 0 rfl hu;obtain ⟨i0, hi0, hz0, hz1, hz2⟩ := info_parts infoInode;obtain ⟨news, hnews⟩ : ∃ news, news = (L.flatMap cNV).drop ((j + 1) * 5) := ⟨_, rfl⟩;have hlen : news.length = (n - (j + 1)) * 5 := by rw [hnews, List.length_drop, hL]; omega
 obtain ⟨A, hA, hsrc⟩ : ∃ A : Addr, (if c = j + 1 then some (⟨g, 0, none⟩ : Addr) else some ⟨g, (j + 1) * 5, none⟩) = some A ∧ Hid (∀ t u, news[t]? = some u → w.drew.cell? (A.add t) = some u) := by
  by_cases hcj : c = j + 1
  ·refine ⟨⟨g, 0, none⟩, by simp [hcj], fun t u hu => ?_⟩
   have h0 : news.length = 0 := by rw [hlen, show n - (j + 1) = 0 by omega]
   rw [List.length_eq_zero_iff.1 h0] at hu;simp at hu
  ·refine ⟨⟨g, (j + 1) * 5, none⟩, by simp [hcj], fun t u hu => ?_⟩
   rw [Addr.add_lit];rw [hnews, List.getElem?_drop] at hu;exact hget hu
 have s1 : Hid (news.length = (n - (j + 1)) * 5) := hlen;have s2 : Hid (∀ u ∈ news, u.oneCell' = true) := by
  intro u hu;rw [hnews] at hu;obtain ⟨e, hL9, he⟩ := List.mem_flatMap.1 (List.mem_of_mem_drop hu);exact cNV_one (h1 e hL9) u he
 have s3 : Hid (∀ t, t < news.length → (w.drew.cell? ⟨g, 0 + j * 5 + t, none⟩).isSome = true ∧ w.drew.frozen? ⟨g, 0 + j * 5 + t, none⟩ = false) := by
  intro t ht;rw [hlen] at ht;rw [Nat.zero_add];exact ⟨hroom (by omega), hfz _⟩
 obtain ⟨W1, hW1⟩ : ∃ W1, W1 = w.drew.setCells g (0 + j * 5) news := ⟨_, rfl⟩;have H1 : Hp [g] w W1 [.row 76 5 (.slice (some ⟨g, 0, none⟩) n c) n (layL (L.flatMap cNV) (j * 5) news)] := by
  have h2 := Hp.puts 0 news (L.flatMap cNV) (j * 5) _ _ H.drew rfl;rw [hW1, Nat.zero_add]; exact h2
 have hr1 := H1.row 0 rfl;have hcl : ∀ ty, (Builtin.clear_ #[29] ty #[.slice (some ⟨g, (n - 1) * 5, none⟩) 1 (c - (n - 1))]).run Tryz.prog W1 = .ok (.tuple #[]) (W1.setCells g ((n - 1) * 5) [.int .i64 0, .int .i64 0, .int .i64 0, .string ⟨#[]⟩, .slice none 0 0]) := fun ty => by
  have h5 := run_clear1 W1 29 76 ty _ Tryz.underlying29 (fun w => run_zero_of hi0 hz0 w) (by simp [Value.cells, Value.oneCell']) g ((n - 1) * 5) (c - (n - 1)) (fun q hq => own_room hr1 (by have : q < 5 := hq; omega)) (fun q hq => hr1.frozenAt _);exact h5
 have H2 := Lib.hid (((Hp.puts 0 [.int .i64 0, .int .i64 0, .int .i64 0, .string ⟨#[]⟩, .slice none 0 0] _ ((n - 1) * 5) _ _ H1 rfl).cut 0 rfl (show n - 1 ≤ n by omega)).recast (l' := [.row 76 5 (.slice (some ⟨g, 0, none⟩) (n - 1) c) (n - 1) ((L.eraseIdx j).flatMap cNV)]) (by
  have e1 : layL (L.flatMap cNV) (j * 5) news = (L.flatMap cNV).take (j * 5) ++ news ++ (L.flatMap cNV).drop (j * 5 + news.length) := layL_eq _ _ _ (by rw [hlen, hL]; omega);have e2 := flat_erase cNV 5 cNV_len L j (by omega)
  show [Ob.row _ _ _ _ ((layL (layL (L.flatMap cNV) (j * 5) news) ((n - 1) * 5) [.int .i64 0, .int .i64 0, .int .i64 0, .string ⟨#[]⟩, .slice none 0 0]).take ((n - 1) * 5))] = _
  congr 2
  rw [layL_eq _ _ _ (by rw [layL_len, hL]; show (n - 1) * 5 + 5 ≤ n * 5; omega), e1, ← e2, hnews];have e3 : ((L.flatMap cNV).take (j * 5) ++ (L.flatMap cNV).drop ((j + 1) * 5)).length = (n - 1) * 5 := by rw [List.length_append, List.length_take, List.length_drop, hL]; omega
  rw [List.append_assoc, List.take_append_of_le_length (by rw [List.length_take, List.length_append, e3]; omega), List.take_take, Nat.min_self, List.take_append_of_le_length (by omega), List.take_of_length_le (by omega)]))
 have hW : Hid (W1 = w.drew.setCells g (0 + j * 5) news) := hW1;have hj1 : j + 1 ≤ n := hj;have hic : j ≤ c := by omega
 have hjc : j + 1 ≤ c := by omega
 have hne : ¬ ((j : Int) = (j : Int) + 1) := by omega
 have hnb : ((j : Int) == (j : Int) + 1) = false := by simp; omega
 have mixed : Tryz.prog.follows .mixedOrders = true := by kernel_rfl
 have hb0 : (0 : Int) ≤ (j : Int) + 1 := by omega
 have hb1 : (j : Int) + 1 ≤ (n : Int) := by omega
 have hn1 : j + (n - (j + 1)) = n - 1 := by omega
 have hn2 : n - (n - 1) = 1 := by omega
 clear hW1 H1 hr1 H hrow h hget hnews hlen hroom hfz hLl hL;go_enter Tryz.func122, Tryz.ntmps122;go_wp2_with fail
 go_region_law_o (refine step_append_room rfl (.tmp 22) (.tmp 25) 29 rfl 76 i0 5 Tryz.underlying29 hi0 hz1 g 0 j c (by simp [Act.eval, Act.put]) A (n - (j + 1)) (c - (j + 1)) news (by simp [Act.eval, Act.put]) s1.out hsrc.out s2.out (by omega) s3.out ?_; rw [← hW.out])
 go_wp2_with fail;go_ret;exact ⟨rfl, H2.out⟩
end Go.Proofs.YtllonpbhgbhogaaGreatDoor
namespace Go.Proofs.YtllonpbhgbhogaaGreatDoor
open Go.RowKit
set_option maxRecDepth 100000 in
set_option maxHeartbeats 2000000 in
theorem indexI_any (A : Option Addr) (n c : Nat) (l : List Int) (x : Int) (w : World) (h : Rd w A n 1 (l.map (Value.int .i64))) (hn : n ≤ 1048576) :
 Calls Tryz.prog 100 #[.slice A n c, .int .i64 x] w fun e w' => (∃ r : Int, e = .returned (.int .i64 r) ∧ ((r = -1 ∧ x ∉ l) ∨ ∃ k : Nat, r = k ∧ k < n ∧ l[k]? = some x)) ∧ w' = w := by
 have HL := Lib.hid h.len1;have G := Lib.hid h;clear h;go_enter Tryz.func100, Tryz.ntmps100;go_wp2_with fail
 go_loopw [5, 8] (fun jv iv wr => ∃ i : Nat, iv = .int .i64 i ∧ i ≤ n ∧ x ∉ l.take i ∧ wr = w) (fun _ iv _ => n - (intOf iv).toNat)
 case atStart => exact ⟨0, rfl, by omega, by simp, rfl⟩
 case round =>
  obtain ⟨i, rfl, hi, hno, rfl⟩ := hrel
  by_cases hlt : i < n
  ·obtain ⟨y, hy⟩ := some_at HL.out hlt
   obtain ⟨bk, of, rfl, hc⟩ := G.out.get1 hy;have hi0 : (0 : Int) ≤ (i : Int) := by omega
   have hi1 : (i : Int) < (n : Int) := by omega
   have HY := Lib.hid hy;have HO := Lib.hid hno;clear hy hno
   by_cases hxy : x = y
   ·subst hxy
    go_wp2_with fail;go_ret;exact ⟨⟨_, rfl, Or.inr ⟨i, rfl, hlt, HY.out⟩⟩, rfl⟩
   ·go_wp2_with fail
    go_roundw
    case rel => exact ⟨i + 1, by go_num, by omega, by rw [At.take HY.out, List.mem_append, not_or]; exact ⟨HO.out, by simpa using hxy⟩, trivial⟩
    case measure => simp [intOf]; omega
  ·have HO := Lib.hid hno
   clear hno;go_wp2_with fail;go_ret;refine ⟨⟨_, rfl, Or.inl ⟨rfl, ?_⟩⟩, rfl⟩;have := HO.out
   rwa [List.take_of_length_le (by rw [HL.out]; omega)] at this
set_option maxRecDepth 100000 in
set_option maxHeartbeats 2000000 in
theorem containsI_any (A : Option Addr) (n c : Nat) (l : List Int) (x : Int) (w : World) (h : Rd w A n 1 (l.map (Value.int .i64))) (hn : n ≤ 1048576) :
 Calls Tryz.prog 55 #[.slice A n c, .int .i64 x] w fun e w' => e = .returned (.bool (decide (x ∈ l))) ∧ w' = w := by
 have G := Lib.hid h;clear h;obtain ⟨b, hb⟩ : ∃ b, b = decide (x ∈ l) := ⟨_, rfl⟩;rw [← hb];have HB := Lib.hid hb;clear hb;go_enter Tryz.func55, Tryz.ntmps55;go_wp2_with fail;refine (indexI_any A n c l x _ G.out hn).mono ?_;rintro e w2 ⟨⟨r, rfl, hr⟩, rfl⟩
 rcases hr with ⟨rfl, hno⟩ | ⟨k, rfl, hk, hx⟩
 ·have HE := Lib.hid (show b = false by rw [HB.out]; exact decide_eq_false hno)
  clear hno;go_wp2_with fail;go_ret;rw [HE.out];exact ⟨rfl, rfl⟩
 ·have HE := Lib.hid (show b = true by rw [HB.out]; exact decide_eq_true (List.mem_of_getElem? hx))
  have hk0 : (0 : Int) ≤ (k : Int) := by omega
  clear hx;go_wp2_with fail;go_ret;rw [HE.out];exact ⟨rfl, rfl⟩
set_option maxRecDepth 100000 in
set_option maxHeartbeats 2000000 in
theorem indexS_any (A : Option Addr) (n c : Nat) (l : List ByteArray) (x : ByteArray) (w : World) (h : Rd w A n 1 (l.map Value.string)) (hn : n ≤ 1048576) :
 Calls Tryz.prog 157 #[.slice A n c, .string x] w fun e w' => (∃ r : Int, e = .returned (.int .i64 r) ∧ ((r = -1 ∧ x ∉ l) ∨ ∃ k : Nat, r = k ∧ k < n ∧ l[k]? = some x)) ∧ w' = w := by
 have HL := Lib.hid h.len1;have G := Lib.hid h;clear h;go_enter Tryz.func157, Tryz.ntmps157;go_wp2_with fail
 go_loopw [5, 8] (fun jv iv wr => ∃ i : Nat, iv = .int .i64 i ∧ i ≤ n ∧ x ∉ l.take i ∧ wr = w) (fun _ iv _ => n - (intOf iv).toNat)
 case atStart => exact ⟨0, rfl, by omega, by simp, rfl⟩
 case round =>
  obtain ⟨i, rfl, hi, hno, rfl⟩ := hrel
  by_cases hlt : i < n
  ·obtain ⟨y, hy⟩ := some_at HL.out hlt
   obtain ⟨bk, of, rfl, hc⟩ := G.out.get1 hy;have hi0 : (0 : Int) ≤ (i : Int) := by omega
   have hi1 : (i : Int) < (n : Int) := by omega
   have HY := Lib.hid hy;have HO := Lib.hid hno;clear hy hno
   by_cases hxy : x = y
   ·subst hxy
    go_wp2_with fail;go_ret;exact ⟨⟨_, rfl, Or.inr ⟨i, rfl, hlt, HY.out⟩⟩, rfl⟩
   ·have hbb : (x.toList == y.toList) = false := str_ne hxy
    have HXY := Lib.hid hxy;clear hxy;go_wp2_with fail;go_roundw
    case rel => exact ⟨i + 1, by go_num, by omega, by rw [At.take HY.out, List.mem_append, not_or]; exact ⟨HO.out, by simpa using HXY.out⟩, trivial⟩
    case measure => simp [intOf]; omega
  ·have HO := Lib.hid hno
   clear hno;go_wp2_with fail;go_ret;refine ⟨⟨_, rfl, Or.inl ⟨rfl, ?_⟩⟩, rfl⟩;have := HO.out
   rwa [List.take_of_length_le (by rw [HL.out]; omega)] at this
set_option maxRecDepth 100000 in
set_option maxHeartbeats 2000000 in
theorem containsS_any (A : Option Addr) (n c : Nat) (l : List ByteArray) (x : ByteArray) (w : World) (h : Rd w A n 1 (l.map Value.string)) (hn : n ≤ 1048576) :
 Calls Tryz.prog 133 #[.slice A n c, .string x] w fun e w' => ∃ b, e = .returned (.bool b) ∧ (b = true ↔ x ∈ l) ∧ w' = w := by
 have G := Lib.hid h;clear h;go_enter Tryz.func133, Tryz.ntmps133;go_wp2_with fail;refine (indexS_any A n c l x _ G.out hn).mono ?_;rintro e w2 ⟨⟨r, rfl, hr⟩, rfl⟩
 rcases hr with ⟨rfl, hno⟩ | ⟨k, rfl, hk, hx⟩
 ·have HE := Lib.hid hno
  clear hno;go_wp2_with fail;go_ret;exact ⟨_, rfl, ⟨fun h => by simp at h, fun h => absurd h HE.out⟩, rfl⟩
 ·have HE := Lib.hid (List.mem_of_getElem? hx)
  have hk0 : (0 : Int) ≤ (k : Int) := by omega
  clear hx;go_wp2_with fail;go_ret;exact ⟨_, rfl, ⟨fun _ => HE.out, fun _ => by simp⟩, rfl⟩
end Go.Proofs.YtllonpbhgbhogaaGreatDoor