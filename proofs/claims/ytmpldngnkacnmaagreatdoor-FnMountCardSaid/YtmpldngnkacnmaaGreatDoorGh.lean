/-
  Many texts in one: MBelow, MVolW, MScan, ReadVar, MDirW, MRounds.
-/
import Derived.Test.YtmpldngnkacnmaaGreatDoorGe
import Derived.Test.YtmpldngnkacnmaaGreatDoorGb
import Derived.Test.YtmpldngnkacnmaaGreatDoorTextN2
import Derived.Test.YtmpldngnkacnmaaGreatDoorGf
import Derived.Test.YtmpldngnkacnmaaGreatDoorGc
set_option linter.unusedVariables false
set_option linter.unusedSimpArgs false
namespace Go.Proofs.YtmpldngnkacnmaaGreatDoor
open Go.RowKit
theorem nodup_len : ∀ (l m : List Int), l.Nodup → (∀ x ∈ l, x ∈ m) → l.length ≤ m.length
 | [], m, _, _ => by simp
 | a :: l, m, h, hs => by
   have hn := List.nodup_cons.1 h;have h1 := nodup_len l (m.erase a) hn.2 fun x hx => (List.mem_erase_of_ne (fun e : x = a => hn.1 (by rw [← e]; exact hx))).2 (hs x (List.mem_cons_of_mem _ hx));have h2 := hs a List.mem_cons_self;rw [List.length_erase_of_mem h2] at h1;have h3 := List.length_pos_of_mem h2;rw [List.length_cons]; omega
def allIds (l : List Nod) : List Int := l.flatMap fun x => x.2.2.2.2.map fun e => e.2.2.2
theorem kids_all {l : List Nod} {a c : Int} (h : c ∈ kidsL l a) : c ∈ allIds l := by
 unfold kidsL at h
 split at h
 ·simp at h
 ·split at h
  ·simp at h
  ·rename_i k _ x hx
   exact List.mem_flatMap.2 ⟨x, List.mem_of_getElem? hx, h⟩
structure Bq (l : List Nod) (a : Int) (out q : List Int) (cur : Option Int) (done : List Int) : Prop where
 nd : out.Nodup
 all : ∀ x ∈ out, x ∈ allIds l
 sound : ∀ x ∈ out, Blw l a x
 qs : ∀ x ∈ q, x = a ∨ x ∈ out
 cs : ∀ x, cur = some x → x = a ∨ x ∈ out
 closed : ∀ b, (b = a ∨ b ∈ out) → b ∈ q ∨ cur = some b ∨ ∀ c ∈ kidsL l b, c ∈ out
 dn : ∀ c ∈ done, c ∈ out
theorem Bq.start (l : List Nod) (a : Int) : Bq l a [] [a] none [] :=
 ⟨.nil, by simp, by simp, by simp, by simp, by simp, by simp⟩
theorem Bq.pop {l : List Nod} {a x : Int} {out q : List Int} (h : Bq l a out (x :: q) none []) : Bq l a out q (some x) [] :=
 ⟨h.nd, h.all, h.sound, fun y hy => h.qs y (List.mem_cons_of_mem _ hy), fun y hy => by injection hy with hy; subst hy; exact h.qs x List.mem_cons_self, fun b hb => by
  rcases h.closed b hb with h1 | h1 | h1
  ·rcases List.mem_cons.1 h1 with rfl | h2
   ·exact .inr (.inl rfl)
   ·exact .inl h2
  ·cases h1
  ·exact .inr (.inr h1), by simp⟩
theorem Bq.old {l : List Nod} {a x c : Int} {out q done : List Int} (h : Bq l a out q (some x) done) (hc : c ∈ out) : Bq l a out q (some x) (done ++ [c]) :=
 ⟨h.nd, h.all, h.sound, h.qs, h.cs, h.closed, fun y hy => by
  rcases List.mem_append.1 hy with h1 | h1
  ·exact h.dn y h1
  ·rw [List.mem_singleton.1 h1]; exact hc⟩
theorem Bq.fresh {l : List Nod} {a x c : Int} {out q done : List Int} (h : Bq l a out q (some x) done) (hc : ¬ c ∈ out) (hk : c ∈ kidsL l x) : Bq l a (out ++ [c]) (q ++ [c]) (some x) (done ++ [c]) :=
 ⟨List.nodup_append.2 ⟨h.nd, by simp, fun y hy z hz => by
  rw [List.mem_singleton.1 hz]; exact fun e => hc (e ▸ hy)⟩, fun y hy => by
  rcases List.mem_append.1 hy with h1 | h1
  ·exact h.all y h1
  ·rw [List.mem_singleton.1 h1]; exact kids_all hk, fun y hy => by
  rcases List.mem_append.1 hy with h1 | h1
  ·exact h.sound y h1
  ·rw [List.mem_singleton.1 h1]
   rcases h.cs x rfl with h2 | h2
   ·rw [h2] at hk; exact .one hk
   ·exact .more (h.sound x h2) hk, fun y hy => by
  rcases List.mem_append.1 hy with h1 | h1
  ·rcases h.qs y h1 with h2 | h2
   ·exact .inl h2
   ·exact .inr (List.mem_append_left _ h2)
  ·exact .inr (List.mem_append_right _ h1), fun y hy => by
  rcases h.cs y hy with h2 | h2
  ·exact .inl h2
  ·exact .inr (List.mem_append_left _ h2), fun b hb => by
  have hb2 : (b = a ∨ b ∈ out) ∨ b = c := by
   rcases hb with h1 | h1
   ·exact .inl (.inl h1)
   ·rcases List.mem_append.1 h1 with h2 | h2
    ·exact .inl (.inr h2)
    ·exact .inr (List.mem_singleton.1 h2)
  rcases hb2 with h1 | h1
  ·rcases h.closed b h1 with h2 | h2 | h2
   ·exact .inl (List.mem_append_left _ h2)
   ·exact .inr (.inl h2)
   ·exact .inr (.inr fun y hy => List.mem_append_left _ (h2 y hy))
  ·exact .inl (List.mem_append_right _ (by rw [h1]; simp)), fun y hy => by
  rcases List.mem_append.1 hy with h1 | h1
  ·exact List.mem_append_left _ (h.dn y h1)
  ·exact List.mem_append_right _ h1⟩
theorem Bq.close {l : List Nod} {a x : Int} {out q done : List Int} (h : Bq l a out q (some x) done) (hk : ∀ c ∈ kidsL l x, c ∈ done) : Bq l a out q none [] :=
 ⟨h.nd, h.all, h.sound, h.qs, by simp, fun b hb => by
  rcases h.closed b hb with h2 | h2 | h2
  ·exact .inl h2
  ·injection h2 with h2; subst h2
   exact .inr (.inr fun c hc => h.dn c (hk c hc))
  ·exact .inr (.inr h2), by simp⟩
theorem Bq.done {l : List Nod} {a : Int} {out : List Int} (h : Bq l a out [] none []) (x : Int) : x ∈ out ↔ Blw l a x := by
 have hcl : ∀ b, (b = a ∨ b ∈ out) → ∀ c ∈ kidsL l b, c ∈ out := fun b hb => by
  rcases h.closed b hb with h2 | h2 | h2
  ·simp at h2
  ·cases h2
  ·exact h2
 refine ⟨h.sound x, fun hx => ?_⟩
 induction hx with
 | one h1 => exact hcl a (.inl rfl) _ h1
 | more _ h1 ih => exact hcl _ (.inr ih) _ h1
theorem Bq.len {l : List Nod} {a : Int} {out q done : List Int} {cur : Option Int} (h : Bq l a out q cur done) : out.length ≤ (allIds l).length :=
 nodup_len _ _ h.nd fun x hx => h.all x hx
abbrev BS := List Bool × List Bool
def markE (l : List Nod) (s : BS) (e : EntT) : BS := match atN l e.2.2.2 with
 | none => s
 | some x => (s.1.set x true, s.2.set x true)
def goI (l : List Nod) (s : BS) (i : Nat) : BS := match l[i]? with
 | none => s
 | some x => if s.2[i]? = some true then x.2.2.2.2.foldl (markE l) s else s
def roundS (l : List Nod) (s : BS) : BS := (List.range l.length).foldl (goI l) s
def roundsS (l : List Nod) (s : BS) : Nat → BS
 | 0 => s
 | r + 1 => roundS l (roundsS l s r)
def On (s : List Bool) (i : Nat) : Prop := s[i]? = some true
theorem On.set {s : List Bool} {i x : Nat} (h : On s i) : On (s.set x true) i := by
 unfold On at *;rw [List.getElem?_set];have := (List.getElem?_eq_some_iff.1 h).1
 split
 ·rename_i e; subst e; simp [this]
 ·exact h
theorem On.set_self {s : List Bool} {x : Nat} (h : x < s.length) : On (s.set x true) x := by
 unfold On; rw [List.getElem?_set_self h]
theorem On.of_set {s : List Bool} {i x : Nat} (h : On (s.set x true) i) : On s i ∨ (i = x ∧ x < s.length) := by
 unfold On at *;rw [List.getElem?_set] at h
 split at h
 ·rename_i e
  split at h
  ·exact .inr ⟨e.symm, by assumption⟩
  ·cases h
 ·exact .inl h
theorem set_on {s : List Bool} {x : Nat} (h : On s x) : s.set x true = s := by
 refine List.ext_getElem? fun i => ?_;rw [List.getElem?_set];unfold On at h
 split
 ·rename_i e; subst e
  have := (List.getElem?_eq_some_iff.1 h).1;simp only [this, if_true]; exact h.symm
 ·rfl
structure Bs (l : List Nod) (a : Int) (s : BS) : Prop where
 l1 : s.1.length = l.length
 l2 : s.2.length = l.length
 inn : ∀ i, On s.1 i → ∃ b, Blw l a b ∧ atN l b = some i
 opn : ∀ i, On s.2 i → atN l a = some i ∨ On s.1 i
theorem kids_of {l : List Nod} {b : Int} {i : Nat} {x : Nod} (h1 : atN l b = some i) (h2 : l[i]? = some x) : kidsL l b = x.2.2.2.2.map fun e => e.2.2.2 := by
 rw [kidsL, h1]; simp only [h2]
theorem markE_len (l : List Nod) (s : BS) (e : EntT) : (markE l s e).1.length = s.1.length ∧ (markE l s e).2.length = s.2.length := by
 unfold markE; split <;> simp
theorem markE_on {l : List Nod} {s : BS} {e : EntT} {i : Nat} : (On s.1 i → On (markE l s e).1 i) ∧ (On s.2 i → On (markE l s e).2 i) := by
 unfold markE; split
 ·exact ⟨id, id⟩
 ·exact ⟨On.set, On.set⟩
theorem marks_on {l : List Nod} {i : Nat} : ∀ (es : List EntT) (s : BS), (On s.1 i → On (es.foldl (markE l) s).1 i) ∧ (On s.2 i → On (es.foldl (markE l) s).2 i)
 | [], s => ⟨id, id⟩
 | e :: es, s => ⟨fun h => (marks_on es _).1 (markE_on.1 h), fun h => (marks_on es _).2 (markE_on.2 h)⟩
theorem goI_on {l : List Nod} {s : BS} {i k : Nat} : (On s.1 i → On (goI l s k).1 i) ∧ (On s.2 i → On (goI l s k).2 i) := by
 unfold goI; split
 ·exact ⟨id, id⟩
 ·split
  ·exact marks_on _ _
  ·exact ⟨id, id⟩
theorem goes_on {l : List Nod} {i : Nat} : ∀ (ks : List Nat) (s : BS), (On s.1 i → On (ks.foldl (goI l) s).1 i) ∧ (On s.2 i → On (ks.foldl (goI l) s).2 i)
 | [], s => ⟨id, id⟩
 | k :: ks, s => ⟨fun h => (goes_on ks _).1 (goI_on.1 h), fun h => (goes_on ks _).2 (goI_on.2 h)⟩
theorem Bs.mark {l : List Nod} {a : Int} {s : BS} {e : EntT} (h : Bs l a s) (he : Blw l a e.2.2.2) : Bs l a (markE l s e) := by
 obtain ⟨m1, m2⟩ := markE_len l s e;refine ⟨m1.trans h.l1, m2.trans h.l2, ?_, ?_⟩ <;> unfold markE <;> split
 ·exact h.inn
 ·rename_i x hx
  intro i hi
  rcases hi.of_set with h1 | ⟨rfl, _⟩
  ·exact h.inn i h1
  ·exact ⟨_, he, hx⟩
 ·exact h.opn
 ·rename_i x hx
  intro i hi
  rcases hi.of_set with h1 | ⟨rfl, h2⟩
  ·rcases h.opn i h1 with h3 | h3
   ·exact .inl h3
   ·exact .inr h3.set
  ·exact .inr (On.set_self (by rw [h.l1, ← h.l2]; exact h2))
theorem Bs.marks {l : List Nod} {a : Int} : ∀ (es : List EntT) (s : BS), Bs l a s → (∀ e ∈ es, Blw l a e.2.2.2) → Bs l a (es.foldl (markE l) s)
 | [], s, h, _ => h
 | e :: es, s, h, he => Bs.marks es _ (h.mark (he e List.mem_cons_self)) fun x hx => he x (List.mem_cons_of_mem _ hx)
theorem Bs.go {l : List Nod} {a : Int} {s : BS} (h : Bs l a s) (i : Nat) : Bs l a (goI l s i) := by
 unfold goI; split
 ·exact h
 ·rename_i x hx
  split
  ·rename_i ho
   refine Bs.marks _ _ h fun e he => ?_;have hm : e.2.2.2 ∈ x.2.2.2.2.map fun e => e.2.2.2 := List.mem_map_of_mem he
   rcases h.opn i ho with h1 | h1
   ·exact .one (by rw [kids_of h1 hx]; exact hm)
   ·obtain ⟨b, hb, h2⟩ := h.inn i h1
    exact .more hb (by rw [kids_of h2 hx]; exact hm)
  ·exact h
theorem Bs.goes {l : List Nod} {a : Int} : ∀ (ks : List Nat) (s : BS), Bs l a s → Bs l a (ks.foldl (goI l) s)
 | [], s, h => h
 | k :: ks, s, h => Bs.goes ks _ (h.go k)
theorem Bs.rounds {l : List Nod} {a : Int} {s : BS} (h : Bs l a s) : ∀ r, Bs l a (roundsS l s r)
 | 0 => h
 | r + 1 => Bs.goes _ _ (h.rounds r)
theorem marks_in {l : List Nod} {x : Nat} : ∀ (es : List EntT) (s : BS) (e : EntT), e ∈ es → atN l e.2.2.2 = some x → x < s.1.length → x < s.2.length → On (es.foldl (markE l) s).1 x ∧ On (es.foldl (markE l) s).2 x
 | [], s, e, he, _, _, _ => by simp at he
 | e' :: es, s, e, he, hx, h1, h2 => by
   obtain ⟨m1, m2⟩ := markE_len l s e'
   rcases List.mem_cons.1 he with rfl | h3
   ·rw [List.foldl_cons]
    have hm : markE l s e = (s.1.set x true, s.2.set x true) := by rw [markE, hx]
    exact ⟨(marks_on es _).1 (by rw [hm]; exact On.set_self h1), (marks_on es _).2 (by rw [hm]; exact On.set_self h2)⟩
   ·exact marks_in es _ e h3 hx (by rw [m1]; exact h1) (by rw [m2]; exact h2)
theorem goes_in {l : List Nod} {a : Int} {i x : Nat} {nd : Nod} {e : EntT} (hn : l[i]? = some nd) (he : e ∈ nd.2.2.2.2) (hx : atN l e.2.2.2 = some x) : ∀ (ks : List Nat) (s : BS), Bs l a s → i ∈ ks → On s.2 i → On (ks.foldl (goI l) s).1 x ∧ On (ks.foldl (goI l) s).2 x
 | [], s, _, h, _ => by simp at h
 | k :: ks, s, hs, h, ho => by
   rcases List.mem_cons.1 h with rfl | h3
   ·rw [List.foldl_cons]
    have hg : goI l s i = nd.2.2.2.2.foldl (markE l) s := by rw [goI, hn]; exact if_pos ho
    have hxl := atN_lt hx;obtain ⟨g1, g2⟩ := marks_in nd.2.2.2.2 s e he hx (by rw [hs.l1]; exact hxl) (by rw [hs.l2]; exact hxl);exact ⟨(goes_on ks _).1 (by rw [hg]; exact g1), (goes_on ks _).2 (by rw [hg]; exact g2)⟩
   ·exact goes_in hn he hx ks _ (hs.go k) h3 (goI_on.2 ho)
def cntB (s : List Bool) : Nat := s.count true
theorem cnt_set_lt : ∀ (s : List Bool) (x : Nat), s.set x true ≠ s → cntB s < cntB (s.set x true)
 | [], x, h => by simp at h
 | b :: s, 0, h => by cases b <;> simp [cntB] at *
 | b :: s, x + 1, h => by
   have := cnt_set_lt s x (fun e => h (by rw [List.set_cons_succ, e]));simp only [cntB, List.set_cons_succ, List.count_cons] at *;omega
def Gw (s t : List Bool) : Prop := t = s ∨ cntB s < cntB t
theorem Gw.trans {a b c : List Bool} (h1 : Gw a b) (h2 : Gw b c) : Gw a c := by
 rcases h1 with rfl | h1
 ·exact h2
 ·rcases h2 with rfl | h2
  ·exact .inr h1
  ·exact .inr (Nat.lt_trans h1 h2)
theorem markE_gw (l : List Nod) (s : BS) (e : EntT) : Gw s.2 (markE l s e).2 := by
 unfold markE; split
 ·exact .inl rfl
 ·rename_i x _
  by_cases h : s.2.set x true = s.2
  ·exact .inl h
  ·exact .inr (cnt_set_lt _ _ h)
theorem marks_gw (l : List Nod) : ∀ (es : List EntT) (s : BS), Gw s.2 (es.foldl (markE l) s).2
 | [], s => .inl rfl
 | e :: es, s => (markE_gw l s e).trans (marks_gw l es _)
theorem goI_gw (l : List Nod) (s : BS) (i : Nat) : Gw s.2 (goI l s i).2 := by
 unfold goI; split
 ·exact .inl rfl
 ·split
  ·exact marks_gw _ _ _
  ·exact .inl rfl
theorem goes_gw (l : List Nod) : ∀ (ks : List Nat) (s : BS), Gw s.2 (ks.foldl (goI l) s).2
 | [], s => .inl rfl
 | k :: ks, s => (goI_gw l s k).trans (goes_gw l ks _)
def ClosedB (l : List Nod) (o : List Bool) : Prop := ∀ i x (nd : Nod) (e : EntT), On o i → l[i]? = some nd → e ∈ nd.2.2.2.2 → atN l e.2.2.2 = some x → On o x
theorem marks_closed {l : List Nod} {o : List Bool} : ∀ (es : List EntT) (s : BS), s.2 = o → (∀ e ∈ es, ∀ x, atN l e.2.2.2 = some x → On o x) → (es.foldl (markE l) s).2 = o
 | [], s, h, _ => h
 | e :: es, s, h, hc => by
   rw [List.foldl_cons];refine marks_closed es _ ?_ fun x hx => hc x (List.mem_cons_of_mem _ hx);unfold markE; split
   ·exact h
   ·rename_i x hx
    show s.2.set x true = o
    rw [h]; exact set_on (hc e List.mem_cons_self x hx)
theorem goes_closed {l : List Nod} {o : List Bool} (hc : ClosedB l o) : ∀ (ks : List Nat) (s : BS), s.2 = o → (ks.foldl (goI l) s).2 = o
 | [], s, h => h
 | k :: ks, s, h => by
   rw [List.foldl_cons];refine goes_closed hc ks _ ?_;unfold goI; split
   ·exact h
   ·rename_i x hx
    split
    ·rename_i ho
     rw [h] at ho;exact marks_closed _ _ h fun e he y hy => hc k y x e ho hx he hy
    ·exact h
theorem round_closed {l : List Nod} {a : Int} {s : BS} (hs : Bs l a s) (h : (roundS l s).2 = s.2) : ClosedB l s.2 := by
 intro i x nd e ho hn he hx;have hi : i ∈ List.range l.length := List.mem_range.2 (List.getElem?_eq_some_iff.1 hn).1;have := (goes_in hn he hx (List.range l.length) s hs hi ho).2;rw [roundS] at h
 rwa [h] at this
theorem cnt_le : ∀ (s : List Bool), cntB s ≤ s.length := fun s => List.count_le_length
theorem rounds_cnt {l : List Nod} {a : Int} {s : BS} (hs : Bs l a s) (h0 : 0 < cntB s.2) : ∀ r, r < cntB (roundsS l s r).2 ∨ ((roundS l (roundsS l s r)).2 = (roundsS l s r).2)
 | 0 => .inl h0
 | r + 1 => by
   rcases rounds_cnt hs h0 r with h1 | h1
   ·rcases goes_gw l (List.range l.length) (roundsS l s r) with h2 | h2
    ·refine .inr ?_
     have hc := round_closed (hs.rounds r) h2
     show (roundS l (roundS l (roundsS l s r))).2 = (roundS l (roundsS l s r)).2
     have h3 : (roundS l (roundsS l s r)).2 = (roundsS l s r).2 := h2;rw [h3];exact goes_closed hc _ _ h3
    ·refine .inl ?_
     show r + 1 < cntB (roundS l (roundsS l s r)).2
     have : cntB (roundsS l s r).2 < cntB (roundS l (roundsS l s r)).2 := h2;omega
   ·refine .inr ?_
    have hc := round_closed (hs.rounds r) h1
    show (roundS l (roundS l (roundsS l s r))).2 = (roundS l (roundsS l s r)).2
    rw [h1];exact goes_closed hc _ _ h1
def start0 (l : List Nod) (k : Nat) : BS := (List.replicate l.length false, (List.replicate l.length false).set k true)
def belowS (l : List Nod) (a : Int) : List Bool := match atN l a with
 | none => List.replicate l.length false
 | some k => (roundsS l (start0 l k) l.length).1
theorem not_on_rep {n i : Nat} : ¬ On (List.replicate n false) i := by
 unfold On;rw [List.getElem?_replicate]
 split <;> simp
theorem start0_Bs {l : List Nod} {a : Int} {k : Nat} (h : atN l a = some k) : Bs l a (start0 l k) :=
 ⟨by simp [start0], by simp [start0], fun i hi => absurd hi not_on_rep, fun i hi => by
  rcases On.of_set hi with h1 | ⟨rfl, _⟩
  ·exact absurd h1 not_on_rep
  ·exact .inl h⟩
theorem belowS_ok (l : List Nod) (a : Int) (x : Nat) : On (belowS l a) x ↔ ∃ b, Blw l a b ∧ atN l b = some x := by
 unfold belowS; split
 ·rename_i hk
  refine ⟨fun h => absurd h not_on_rep, fun ⟨b, hb, _⟩ => ?_⟩
  exfalso
  have h0 : kidsL l a = [] := by rw [kidsL, hk]
  have : ∀ c, Blw l a c → False := by
   intro c hc
   induction hc with
   | one h1 => rw [h0] at h1; simp at h1
   | more _ _ ih => exact ih
  exact this b hb
 ·rename_i k hk
  have hs := start0_Bs hk;refine ⟨fun h => (hs.rounds _).inn x h, fun ⟨b, hb, hx⟩ => ?_⟩;obtain ⟨n, hn⟩ : ∃ n, l.length = n + 1 := ⟨l.length - 1, by have := atN_lt hk; omega⟩;have hkl : k < (List.replicate l.length false).length := by simp; exact atN_lt hk
  have h0 : 0 < cntB (start0 l k).2 := by
   have hh : On (start0 l k).2 k := On.set_self hkl;exact List.count_pos_iff.2 (List.mem_of_getElem? hh)
  have hfix : (roundS l (roundsS l (start0 l k) n)).2 = (roundsS l (start0 l k) n).2 := by
   rcases rounds_cnt hs h0 n with h1 | h1
   ·rcases goes_gw l (List.range l.length) (roundsS l (start0 l k) n) with h2 | h2
    ·exact h2
    ·exfalso
     have h3 := cnt_le (roundsS l (start0 l k) (n + 1)).2;rw [(hs.rounds (n + 1)).l2] at h3;have h4 : cntB (roundsS l (start0 l k) n).2 < cntB (roundsS l (start0 l k) (n + 1)).2 := h2;omega
   ·exact h1
  have hsn := hs.rounds n;have hopen : On (roundsS l (start0 l k) n).2 k := by
   have : ∀ r, On (roundsS l (start0 l k) r).2 k := by
    intro r
    induction r with
    | zero => exact On.set_self hkl
    | succ r ih => exact (goes_on _ _).2 ih
   exact this n
  have key : ∀ b, Blw l a b → ∀ x, atN l b = some x → On (roundsS l (start0 l k) (n + 1)).1 x ∧ On (roundsS l (start0 l k) n).2 x := by
   have step : ∀ p i, atN l p = some i → On (roundsS l (start0 l k) n).2 i → ∀ c ∈ kidsL l p, ∀ x, atN l c = some x → On (roundsS l (start0 l k) (n + 1)).1 x ∧ On (roundsS l (start0 l k) n).2 x := by
    intro p i hp ho c hc x hx;obtain ⟨nd, hnd, _⟩ := atN_some hp;rw [kids_of hp hnd] at hc;obtain ⟨e, he, rfl⟩ := List.mem_map.1 hc;have := goes_in hnd he hx (List.range l.length) _ hsn (List.mem_range.2 (atN_lt hp)) ho;refine ⟨this.1, ?_⟩;have h5 := this.2;rw [roundS] at hfix
    rwa [hfix] at h5
   have none0 : ∀ p, atN l p = none → kidsL l p = [] := fun p hp => by rw [kidsL, hp]
   intro b hb
   induction hb with
   | one h1 => exact step a k hk hopen _ h1
   | @more p c _ h1 ih =>
     cases hp : atN l p with
     | none => rw [none0 p hp] at h1; simp at h1
     | some i => exact step p i hp (ih i hp).2 _ h1
  rw [hn];exact (key b hb x hx).1
end Go.Proofs.YtmpldngnkacnmaaGreatDoor
namespace Go.Proofs.YtmpldngnkacnmaaGreatDoor
open Go.RowKit
theorem volB_no1 {next : Int} {l : List Nod} (h : headOk next l = false) : volB next l = false := by rw [volB, h]; rfl
theorem volB_no2 {next : Int} {l : List Nod} (h : nodsTo next l l.length = false) : volB next l = false := by rw [volB, h]; simp
theorem volB_end {next : Int} {l : List Nod} (h1 : headOk next l = true) (h2 : nodsTo next l l.length = true) : volB next l = (l.drop 1).all fun x => blwB l 1 x.1 := by rw [volB, h1, h2]; simp
theorem head_no1 {next : Int} {l : List Nod} (h : inB next 2 100000 = false) : headOk next l = false := by rw [headOk, h]; rfl
theorem head_no2 {next : Int} {l : List Nod} (h : inB (l.length : Int) 1 16 = false) : headOk next l = false := by simp [headOk, h]
theorem head_no3 {next : Int} {l : List Nod} {x : Nod} (h0 : l[0]? = some x) (h : ¬ (x.1 = 1 ∧ x.2.1 = 2)) : headOk next l = false := by
 cases hh : headOk next l with
 | false => rfl
 | true =>
   simp only [headOk, h0, Bool.and_eq_true, decide_eq_true_eq] at hh;exact absurd hh.2 h
theorem head_yes {next : Int} {l : List Nod} {x : Nod} (h1 : inB next 2 100000 = true) (h2 : inB (l.length : Int) 1 16 = true) (h0 : l[0]? = some x) (h3 : x.1 = 1) (h4 : x.2.1 = 2) : headOk next l = true := by
 simp only [headOk, h0, Bool.and_eq_true, decide_eq_true_eq];exact ⟨⟨h1, h2⟩, h3, h4⟩
theorem nodAt_no1 {next : Int} {l : List Nod} {k : Nat} {x : Nod} (h : inB x.1 1 (next - 1) = false) : nodAt next l k x = false := by simp only [nodAt, h, Bool.false_and]
theorem nodAt_no2 {next : Int} {l : List Nod} {k : Nat} {x p : Nod} (hp : l[k]? = some p) (h : x.1 ≤ p.1) : nodAt next l (k + 1) x = false := by
 have : decide (p.1 < x.1) = false := decide_eq_false (by omega);simp only [nodAt, hp, this, Bool.and_false, Bool.false_and]
theorem nodAt_0 {next : Int} {l : List Nod} {x : Nod} (h : inB x.1 1 (next - 1) = true) : nodAt next l 0 x = nodOk l x := by simp only [nodAt, h, Bool.true_and]
theorem nodAt_s {next : Int} {l : List Nod} {k : Nat} {x p : Nod} (h : inB x.1 1 (next - 1) = true) (hp : l[k]? = some p) (h1 : p.1 < x.1) : nodAt next l (k + 1) x = nodOk l x := by
 simp only [nodAt, h, hp, decide_eq_true h1, Bool.true_and]
theorem nodsTo_succ {next : Int} {l : List Nod} {k : Nat} {x : Nod} (hx : l[k]? = some x) (h0 : nodsTo next l k = true) (h : nodAt next l k x = true) : nodsTo next l (k + 1) = true := by
 rw [nodsTo, hx, h0, Bool.true_and]; exact h
theorem nodOk_few {l : List Nod} {x : Nod} (h : nodOk l x = true) : x.2.2.2.2.length ≤ 12 := by
 unfold nodOk at h
 split at h
 ·simp only [Bool.and_eq_true, decide_eq_true_eq] at h
  omega
 ·simp only [Bool.and_eq_true, decide_eq_true_eq] at h
  exact (dirB_R h.1.1.2).len
theorem nodsTo_few {next : Int} {l : List Nod} (h : nodsTo next l l.length = true) : ∀ x ∈ l, x.2.2.2.2.length ≤ 12 := by
 intro x hx;obtain ⟨k, hk⟩ := List.getElem?_of_mem hx;have h1 := nodsTo_at h hk;unfold nodAt at h1;rw [Bool.and_eq_true] at h1;exact nodOk_few h1.2
theorem allIds_le : ∀ (l : List Nod), (∀ x ∈ l, x.2.2.2.2.length ≤ 12) → (allIds l).length ≤ 12 * l.length
 | [], _ => by simp [allIds]
 | x :: l, h => by
   have h1 := allIds_le l fun y hy => h y (List.mem_cons_of_mem _ hy);have h2 := h x List.mem_cons_self;simp only [allIds, List.flatMap_cons, List.length_append, List.length_map, List.length_cons] at h1 ⊢;omega
theorem drop_all {l : List Nod} {out : List Int} (h : ∀ x, x ∈ out ↔ Blw l 1 x) : ((l.drop 1).all fun x => blwB l 1 x.1) = (l.drop 1).all fun x => decide (x.1 ∈ out) := by
 congr 1
 funext x
 rw [Bool.eq_iff_iff, blwB_iff, decide_eq_true_iff, h]
end Go.Proofs.YtmpldngnkacnmaaGreatDoor
namespace Go.Proofs.YtmpldngnkacnmaaGreatDoor
open Go.RowKit
def decT : List UInt8 → Nat
 | [] => 0
 | b :: r => b.toNat % 128 + 128 * decT r
theorem dec_varT (n : Nat) : decT (varT n) = n := by
 induction n using Nat.strongRecOn with
 | ind n ih =>
   by_cases h : n < 128
   ·rw [varT_lo h]
    simp only [decT];rw [UInt8.toNat_ofNat_of_lt' (by simp [UInt8.size]; omega)];omega
   ·rw [varT_hi h, decT, ih (n / 128) (by omega), UInt8.toNat_ofNat_of_lt' (by simp [UInt8.size]; omega)]
    omega
theorem varT_form (n : Nat) : ∃ p b, varT n = p ++ [b] ∧ b.toNat < 128 ∧ ∀ x ∈ p, ¬ x.toNat < 128 := by
 induction n using Nat.strongRecOn with
 | ind n ih =>
   by_cases h : n < 128
   ·refine ⟨[], UInt8.ofNat n, by rw [varT_lo h]; rfl, ?_, by simp⟩
    rw [UInt8.toNat_ofNat_of_lt' (by simp [UInt8.size]; omega)]; exact h
   ·obtain ⟨p, b, h1, h2, h3⟩ := ih (n / 128) (by omega)
    refine ⟨UInt8.ofNat (n % 128 + 128) :: p, b, by rw [varT_hi h, h1]; rfl, h2, fun x hx => ?_⟩
    rcases List.mem_cons.1 hx with rfl | hx
    ·rw [UInt8.toNat_ofNat_of_lt' (by simp [UInt8.size]; omega)]; omega
    ·exact h3 x hx
theorem varT_pos (n : Nat) : 0 < (varT n).length := by
 obtain ⟨p, b, h, _⟩ := varT_form n;rw [h]; simp
theorem decT_lt : ∀ (l : List UInt8), decT l < 128 ^ l.length
 | [] => by simp [decT]
 | b :: r => by
   have h1 := decT_lt r;have h2 : b.toNat % 128 < 128 := Nat.mod_lt _ (by decide);rw [decT, List.length_cons, Nat.pow_succ];omega
theorem decT_max {l : List UInt8} (h : l.length ≤ 7) : decT l ≤ 562949953421311 := by
 have h1 := decT_lt l;have h2 : 128 ^ l.length ≤ 128 ^ 7 := Nat.pow_le_pow_right (by decide) h;have h3 : 128 ^ 7 = 562949953421312 := by decide
 omega
theorem decT_snoc : ∀ (l : List UInt8) (b : UInt8), decT (l ++ [b]) = decT l + b.toNat % 128 * 128 ^ l.length
 | [], b => by simp [decT]
 | a :: r, b => by
   rw [List.cons_append, decT, decT_snoc r b, decT, List.length_cons, Nat.pow_succ, Nat.mul_add, Nat.add_assoc]
   congr 2
   rw [← Nat.mul_assoc, Nat.mul_comm 128, Nat.mul_assoc, Nat.mul_comm 128]
def firstLow (s : List UInt8) : Option Nat := (s.take 7).findIdx? fun b => decide (b.toNat < 128)
def readV (s : List UInt8) : Nat × Nat := match firstLow s with
 | none => (0, 0)
 | some i => if varT (decT (s.take (i + 1))) = s.take (i + 1) then (decT (s.take (i + 1)), i + 1) else (0, 0)
theorem firstLow_some {s : List UInt8} {i : Nat} : firstLow s = some i ↔ i < 7 ∧ (∃ b, s[i]? = some b ∧ b.toNat < 128) ∧ ∀ j, j < i → ∀ b, s[j]? = some b → ¬ b.toNat < 128 := by
 unfold firstLow;rw [List.findIdx?_eq_some_iff_getElem];constructor
 ·rintro ⟨hi, h1, h2⟩
  rw [List.length_take] at hi;refine ⟨by omega, ⟨s[i]'(by omega), List.getElem?_eq_getElem (by omega), by simpa using h1⟩, fun j hj b hb => ?_⟩;have := h2 j hj;have hb2 := (List.getElem?_eq_some_iff.1 hb).2;simp only [List.getElem_take, decide_eq_true_eq] at this;rw [hb2] at this;exact this
 ·rintro ⟨h7, ⟨b, hb, hl⟩, h2⟩
  obtain ⟨hi, he⟩ := List.getElem?_eq_some_iff.1 hb;refine ⟨by rw [List.length_take]; omega, by simp [List.getElem_take, he, hl], fun j hj => ?_⟩;simp only [List.getElem_take, decide_eq_true_eq];exact h2 j hj _ (List.getElem?_eq_getElem (by omega))
theorem firstLow_none {s : List UInt8} : firstLow s = none ↔ ∀ j, j < 7 → ∀ b, s[j]? = some b → ¬ b.toNat < 128 := by
 unfold firstLow;rw [List.findIdx?_eq_none_iff];constructor
 ·intro h j hj b hb
  have hm : b ∈ s.take 7 := List.mem_of_getElem? (i := j) (by rw [List.getElem?_take_of_lt hj]; exact hb);simpa using h b hm
 ·intro h b hb
  obtain ⟨j, hj⟩ := List.getElem?_of_mem hb;have hj7 : j < 7 := by
   have := (List.getElem?_eq_some_iff.1 hj).1;rw [List.length_take] at this; omega
  rw [List.getElem?_take_of_lt hj7] at hj;simpa using h j hj7 b hj
theorem readV_le (s : List UInt8) : (readV s).2 ≤ s.length ∧ (readV s).2 ≤ 7 ∧ (readV s).1 ≤ 562949953421311 := by
 unfold readV
 split
 ·simp
 ·rename_i i hi
  obtain ⟨h7, ⟨b, hb, _⟩, _⟩ := firstLow_some.1 hi;have := (List.getElem?_eq_some_iff.1 hb).1
  split
  ·exact ⟨by simp only; omega, by simp only; omega, decT_max (by rw [List.length_take]; omega)⟩
  ·simp
theorem readV_hit {s : List UInt8} {n k : Nat} (hk : k ≤ 7) (hs : k ≤ s.length) (h : varT n = s.take k) : readV s = (n, k) := by
 obtain ⟨p, b, hp, hb, hh⟩ := varT_form n;have hlen : (s.take k).length = k := by rw [List.length_take]; omega
 have hpl : p.length + 1 = k := by rw [← hlen, ← h, hp]; simp
 have hfl : firstLow s = some p.length := by
  rw [firstLow_some];refine ⟨by omega, ⟨b, ?_, hb⟩, fun j hj c hc => ?_⟩
  ·have : (s.take k)[p.length]? = some b := by rw [← h, hp]; simp
   rwa [List.getElem?_take_of_lt (by omega)] at this
  ·have h1 : (s.take k)[j]? = some c := by rw [List.getElem?_take_of_lt (by omega)]; exact hc
   rw [← h, hp, List.getElem?_append_left hj] at h1;exact hh c (List.mem_of_getElem? h1)
 have hd : decT (s.take k) = n := by rw [← h, dec_varT]
 rw [readV, hfl];simp only;rw [hpl, hd, if_pos h]
theorem readV_miss {s : List UInt8} (h : ∀ k, 1 ≤ k → k ≤ 7 → k ≤ s.length → varT (decT (s.take k)) ≠ s.take k) : readV s = (0, 0) := by
 unfold readV
 split
 ·rfl
 ·rename_i i hi
  obtain ⟨h7, ⟨b, hb, _⟩, _⟩ := firstLow_some.1 hi;have := (List.getElem?_eq_some_iff.1 hb).1;rw [if_neg (h (i + 1) (by omega) (by omega) (by omega))]
theorem readV_app {n : Nat} (hn : n ≤ 562949953421311) (r : List UInt8) : readV (varT n ++ r) = (n, (varT n).length) := by
 have hl : (varT n).length ≤ 7 := varT_len 6 n (by show n < 562949953421312; omega);exact readV_hit hl (by simp) (by rw [List.take_left' rfl])
abbrev Sc := List UInt8 × Bool
def numP (st : Sc) : Nat × Sc := if (st.2 || decide ((readV st.1).2 = 0)) = true then (0, (st.1, true)) else ((readV st.1).1, (st.1.drop (readV st.1).2, false))
def cutP (st : Sc) (n : Nat) : List UInt8 × Sc := if (st.2 || decide (st.1.length < n)) = true then ([], (st.1, true)) else (st.1.take n, (st.1.drop n, false))
def pieceP (st : Sc) : List UInt8 × Sc := cutP (numP st).2 (numP st).1
def manyP (st : Sc) (most : Nat) : Nat × Sc := if most < (numP st).1 then (0, ((numP st).2.1, true)) else if (numP st).2.2 = true then (0, (numP st).2) else ((numP st).1, (numP st).2)
theorem numP_app {n : Nat} (hn : n ≤ 562949953421311) (r : List UInt8) : numP (varT n ++ r, false) = (n, (r, false)) := by
 have hz : decide ((varT n).length = 0) = false := decide_eq_false (by have := varT_pos n; omega);rw [numP];simp only [readV_app hn r, hz];rw [if_neg (by simp), List.drop_left' rfl]
theorem cutP_app (l r : List UInt8) : cutP (l ++ r, false) l.length = (l, (r, false)) := by
 rw [cutP];rw [if_neg (by simp), List.take_left' rfl, List.drop_left' rfl]
theorem pieceP_app {l : List UInt8} (hl : l.length ≤ 562949953421311) (r : List UInt8) : pieceP (varT l.length ++ (l ++ r), false) = (l, (r, false)) := by
 rw [pieceP, numP_app hl];exact cutP_app l r
theorem manyP_app {n most : Nat} (hn : n ≤ 562949953421311) (hm : n ≤ most) (r : List UInt8) : manyP (varT n ++ r, false) most = (n, (r, false)) := by
 rw [manyP, numP_app hn];rw [if_neg (by simp only; omega), if_neg (by simp)]
def entP (st : Sc) : EntT × Sc :=
 ((hashN (pieceP (numP st).2).1, ((numP st).1 : Int), ofB (pieceP (numP st).2).1, ((numP (pieceP (numP st).2).2).1 : Int)), (numP (pieceP (numP st).2).2).2)
def entsP (st : Sc) : Nat → List EntT × Sc
 | 0 => ([], st)
 | k + 1 => ((entsP st k).1 ++ [(entP (entsP st k).2).1], (entP (entsP st k).2).2)
def nodP1 (t : List UInt8) : Sc := (cutP (t, false) 1).2
def nodP2 (t : List UInt8) : Nat × Sc := numP (nodP1 t)
def nodP3 (t : List UInt8) : Nat × Sc := numP (nodP2 t).2
def nodP4 (t : List UInt8) : Nat × Sc := numP (nodP3 t).2
def nodP5 (t : List UInt8) : List UInt8 × Sc := pieceP (nodP4 t).2
def nodP6 (t : List UInt8) : Nat × Sc := manyP (nodP5 t).2 12
def nodP7 (t : List UInt8) : List EntT × Sc := entsP (nodP6 t).2 (nodP6 t).1
def nodR (t : List UInt8) : Nod × Bool := ((((nodP2 t).1 : Int), ((nodP3 t).1 : Int), ((nodP4 t).1 : Int), ofB (nodP5 t).1, (nodP7 t).1), !(nodP7 t).2.2)
theorem varB_nat {n : Nat} (hn : n ≤ 562949953421311) : varB (n : Int) = varT n := by rw [varB, if_pos (by omega), Int.toNat_natCast]
theorem varB_int {n : Int} (h0 : 0 ≤ n) (hn : n ≤ 562949953421311) : varB n = varT n.toNat := by rw [varB, if_pos ⟨h0, hn⟩]
def FineE (e : EntT) : Prop := e.1 = hashN (toB e.2.2.1) ∧ 0 ≤ e.2.1 ∧ e.2.1 ≤ 1000000 ∧ 0 ≤ e.2.2.2 ∧ e.2.2.2 ≤ 1000000 ∧ e.2.2.1.size ≤ 1000000
theorem entP_app {e : EntT} (h : FineE e) (r : List UInt8) : entP (entB e ++ r, false) = (e, (r, false)) := by
 obtain ⟨h1, h2, h3, h4, h5, h6⟩ := h;obtain ⟨e0, e1, e2, e3⟩ := e;simp only at h1 h2 h3 h4 h5 h6;have hl : (toB e2).length = e2.size := toB_len e2;have hb : entB (e0, e1, e2, e3) ++ r = varT e1.toNat ++ (varT (toB e2).length ++ (toB e2 ++ (varT e3.toNat ++ r))) := by
  simp only [entB, pieceB, varB_int h2 (by omega), varB_int h4 (by omega), varB_nat (show e2.size ≤ 562949953421311 by omega), hl, List.append_assoc]
 have k1 : numP (varT e1.toNat ++ (varT (toB e2).length ++ (toB e2 ++ (varT e3.toNat ++ r))), false) = (e1.toNat, (varT (toB e2).length ++ (toB e2 ++ (varT e3.toNat ++ r)), false)) := numP_app (by omega) _;have k2 : pieceP (varT (toB e2).length ++ (toB e2 ++ (varT e3.toNat ++ r)), false) = (toB e2, (varT e3.toNat ++ r, false)) := pieceP_app (by omega) _;have k3 : numP (varT e3.toNat ++ r, false) = (e3.toNat, (r, false)) := numP_app (by omega) _;rw [hb, entP, k1];simp only [k2, k3, ofB_toB];rw [h1, Int.toNat_of_nonneg h2, Int.toNat_of_nonneg h4]
theorem entsP_app : ∀ (n : Nat) (es : List EntT) (r : List UInt8), es.length = n → (∀ e ∈ es, FineE e) → entsP (es.flatMap entB ++ r, false) n = (es, (r, false))
 | 0, es, r, hn, _ => by rw [List.eq_nil_of_length_eq_zero hn]; rfl
 | n + 1, es, r, hn, h => by
   rcases List.eq_nil_or_concat es with rfl | ⟨p, e, rfl⟩
   ·simp at hn
   rw [List.concat_eq_append] at hn h ⊢;have hp := entsP_app n p (entB e ++ r) (by simpa using hn) fun x hx => h x (List.mem_append_left _ hx);rw [entsP, List.flatMap_append, List.flatMap_singleton, List.append_assoc, hp];simp only [entP_app (h e (by simp))]
def FineN (x : Nod) : Prop := 0 ≤ x.1 ∧ x.1 ≤ 1000000 ∧ 0 ≤ x.2.1 ∧ x.2.1 ≤ 1000000 ∧ 0 ≤ x.2.2.1 ∧ x.2.2.1 ≤ 1000000 ∧ x.2.2.2.1.size ≤ 1000000 ∧ x.2.2.2.2.length ≤ 12 ∧ ∀ e ∈ x.2.2.2.2, FineE e
theorem nodR_app {x : Nod} (h : FineN x) : nodR (nodeB x) = (x, true) := by
 obtain ⟨h1, h2, h3, h4, h5, h6, h7, h8, h9⟩ := h;obtain ⟨x0, x1, x2, x3, es⟩ := x;simp only at h1 h2 h3 h4 h5 h6 h7 h8 h9;have hl : (toB x3).length = x3.size := toB_len x3;have hb : nodeB (x0, x1, x2, x3, es) = [105] ++ (varT x0.toNat ++ (varT x1.toNat ++ (varT x2.toNat ++ (varT (toB x3).length ++ (toB x3 ++ (varT es.length ++ (es.flatMap entB ++ []))))))) := by
  simp only [nodeB, pieceB, varB_int h1 (by omega), varB_int h3 (by omega), varB_int h5 (by omega), varB_nat (show x3.size ≤ 562949953421311 by omega), varB_nat (show es.length ≤ 562949953421311 by omega), hl, List.append_assoc, List.append_nil, List.cons_append, List.nil_append]
 have key : ∀ R0 R1 R2 R3 R5 R6 : List UInt8, R0 = varT x0.toNat ++ R1 → R1 = varT x1.toNat ++ R2 → R2 = varT x2.toNat ++ R3 → R3 = varT (toB x3).length ++ (toB x3 ++ R5) → R5 = varT es.length ++ R6 → R6 = es.flatMap entB ++ [] → nodR ([105] ++ R0) = ((x0, x1, x2, x3, es), true) := by
  intro R0 R1 R2 R3 R5 R6 q0 q1 q2 q3 q5 q6;have k0 : nodP1 ([105] ++ R0) = (R0, false) := congrArg Prod.snd (cutP_app [105] _);have k1 : nodP2 ([105] ++ R0) = (x0.toNat, (R1, false)) := by rw [nodP2, k0, q0]; exact numP_app (by omega) _
  have k2 : nodP3 ([105] ++ R0) = (x1.toNat, (R2, false)) := by rw [nodP3, k1, q1]; exact numP_app (by omega) _
  have k3 : nodP4 ([105] ++ R0) = (x2.toNat, (R3, false)) := by rw [nodP4, k2, q2]; exact numP_app (by omega) _
  have k4 : nodP5 ([105] ++ R0) = (toB x3, (R5, false)) := by rw [nodP5, k3, q3]; exact pieceP_app (by omega) _
  have k5 : nodP6 ([105] ++ R0) = (es.length, (R6, false)) := by rw [nodP6, k4, q5]; exact manyP_app (by omega) h8 _
  have k6 : nodP7 ([105] ++ R0) = (es, ([], false)) := by rw [nodP7, k5, q6]; exact entsP_app es.length es [] rfl h9
  rw [nodR, k1, k2, k3, k4, k6];simp only [ofB_toB, Int.toNat_of_nonneg h1, Int.toNat_of_nonneg h3, Int.toNat_of_nonneg h5, Bool.not_false]
 rw [hb];exact key _ _ _ _ _ _ rfl rfl rfl rfl rfl rfl
end Go.Proofs.YtmpldngnkacnmaaGreatDoor
namespace Go.Proofs.YtmpldngnkacnmaaGreatDoor
open Go.RowKit
theorem bits_or_add {n m q : Nat} (hn : n < 2 ^ q) (h : n + m * 2 ^ q < 9223372036854775808) : bits .or .i64 (n : Int) ((m * 2 ^ q : Nat) : Int) = ((n + m * 2 ^ q : Nat) : Int) := by
 have key : (BitVec.ofInt 64 (n : Int) ||| BitVec.ofInt 64 ((m * 2 ^ q : Nat) : Int)).toNat = n + m * 2 ^ q := by
  rw [BitVec.toNat_or, BitVec.toNat_ofInt, BitVec.toNat_ofInt];have e1 : ((n : Int) % ((2 ^ 64 : Nat) : Int)).toNat = n := by omega
  have e2 : (((m * 2 ^ q : Nat) : Int) % ((2 ^ 64 : Nat) : Int)).toNat = m * 2 ^ q := by omega
  rw [e1, e2, Nat.or_comm, Nat.mul_comm m, ← Nat.two_pow_add_eq_or_of_lt hn, Nat.add_comm]
 show IntKind.i64.wrap ((BitVec.ofInt 64 (n : Int) ||| BitVec.ofInt 64 ((m * 2 ^ q : Nat) : Int)).toNat : Nat) = _
 rw [key];exact IntWalk.i64_in _ (by omega)
theorem and_127u (b : UInt8) : bits .and .u8 (b.toNat : Int) 127 = ((b.toNat % 128 : Nat) : Int) := by
 have h : ((List.range 256).all fun (n : Nat) => bits .and .u8 (n : Int) 127 == ((n % 128 : Nat) : Int)) = true := by decide +kernel
 have := List.all_eq_true.1 h b.toNat (List.mem_range.2 b.toNat_lt);simpa using this
theorem pow7 (i : Nat) : 128 ^ i = 2 ^ (7 * i) := by rw [Nat.pow_mul]
theorem toB_take (s : ByteArray) (k : Nat) : s.extract 0 k = ofB ((toB s).take k) := by
 have := toB_extract s 0 k;rw [List.drop_zero, Nat.sub_zero] at this;rw [← this, ofB_toB]
theorem varS_nat {n : Nat} (h : n ≤ 562949953421311) : varS (n : Int) = ofB (varT n) := by rw [varS, varB_nat h]
set_option maxRecDepth 100000 in
set_option maxHeartbeats 4000000 in
theorem implReadVar_any (s : ByteArray) (w : World) (hs : s.size ≤ 1099511627776) :
 Calls Tryz.prog 72 #[.string s] w fun e w' => e = .returned (.tuple #[.int .i64 ((readV (toB s)).1 : Int), .int .i64 ((readV (toB s)).2 : Int)]) ∧ Fr w w' := by
 have HT := Lib.hid (show (toB s).length = s.size from toB_len s);obtain ⟨R, hR⟩ : ∃ R, R = readV (toB s) := ⟨_, rfl⟩;rw [← hR];have HR := Lib.hid hR;clear hR;obtain ⟨R1, R2⟩ := R;go_enter Tryz.func72, Tryz.ntmps72;go_wp2_with fail
 go_loopw [4, 5] (fun nv iv wr => ∃ i n : Nat, iv = .int .i64 i ∧ nv = .int .i64 n ∧ i ≤ 7 ∧ i ≤ s.size ∧ n = decT ((toB s).take i) ∧ (∀ j, j < i → ∀ b, (toB s)[j]? = some b → ¬ b.toNat < 128) ∧ wr = w) (fun _ iv _ => 7 - (intOf iv).toNat)
 case atStart => exact ⟨0, 0, rfl, rfl, by omega, by omega, rfl, by simp, rfl⟩
 case round =>
  obtain ⟨i, n, rfl, rfl, hi7, his, hn, hhi, rfl⟩ := hrel;have HN := Lib.hid hn;have HH := Lib.hid hhi;have hnb : n < 128 ^ i := by
   rw [hn];have h1 := decT_lt ((toB s).take i);rw [List.length_take, HT.out, Nat.min_eq_left his] at h1;exact h1
  clear hn hhi;have hi0 : (0 : Int) ≤ (i : Int) := by omega
  by_cases hgo : i < s.size ∧ i < 7
  ·have hks : i < s.size := hgo.1
   have hlt1 : (i : Int) < (s.size : Int) := by omega
   have hlt7 : (i : Int) < 7 := by omega
   obtain ⟨b, hb⟩ := at_some (HT.out) hks;have hbb := b.toNat_lt;have hg := toB_getC hb hks;have HBB := Lib.hid hb;obtain ⟨d, hd⟩ : ∃ d, d = b.toNat % 128 := ⟨_, rfl⟩;have hd128 : d < 128 := by rw [hd]; exact Nat.mod_lt _ (by decide)
   have a1 : bits .and .u8 (b.toNat : Int) 127 = (d : Int) := by rw [hd]; exact and_127u b
   have a1w : IntKind.i64.wrap (d : Int) = (d : Int) := IntWalk.i64_in _ (by omega);obtain ⟨q, hq⟩ : ∃ q, q = 7 * i := ⟨_, rfl⟩;have hq42 : q ≤ 42 := by omega
   have a2 : (7 : Int) * (i : Int) = (q : Int) := by omega
   have a2w : IntKind.i64.wrap ((7 : Int) * (i : Int)) = (q : Int) := by rw [a2]; exact IntWalk.i64_in _ (by omega)
   have a2v : IntKind.i64.wrap (q : Int) = (q : Int) := IntWalk.i64_in _ (by omega);have hq0 : (0 : Int) ≤ (q : Int) := by omega
   have hq64 : (q : Int) ≤ 64 := by omega
   have hp : 2 ^ q ≤ 4398046511104 := Nat.le_trans (Nat.pow_le_pow_right (by decide) hq42) (by decide);have hpn : n < 2 ^ q := by rw [hq, ← pow7]; exact hnb
   have hdm : d * 2 ^ q ≤ 127 * 4398046511104 := Nat.mul_le_mul (by omega) hp;obtain ⟨m, hm⟩ : ∃ m, m = d * 2 ^ q := ⟨_, rfl⟩;have a3 : (d : Int) * 2 ^ q = (m : Int) := by rw [hm]; simp
   have a3w : IntKind.i64.wrap ((d : Int) * 2 ^ q) = (m : Int) := by rw [a3]; exact IntWalk.i64_in _ (by omega)
   have a3v : IntKind.i64.wrap (m : Int) = (m : Int) := IntWalk.i64_in _ (by omega);obtain ⟨r, hr⟩ : ∃ r, r = n + m := ⟨_, rfl⟩;have a4 : bits .or .i64 (n : Int) (m : Int) = (r : Int) := by rw [hr, hm]; exact bits_or_add hpn (by omega)
   have htk : (toB s).take (i + 1) = (toB s).take i ++ [b] := hb.take;have HRN := Lib.hid (show r = decT ((toB s).take (i + 1)) by
    rw [htk, decT_snoc, ← HN.out, List.length_take, HT.out, Nat.min_eq_left his, pow7, ← hq, ← hd, ← hm, hr])
   have hrb : r ≤ 562949953421311 := by rw [HRN.out]; exact decT_max (by rw [List.length_take]; omega)
   have HQ := Lib.hid hq;clear hq hm hr hd htk
   by_cases hlo : b.toNat < 128
   ·have hlo1 : (b.toNat : Int) < 128 := by omega
    obtain ⟨p, hp1, hp2⟩ : ∃ p : Nat, i + 1 ≤ p ∧ p ≤ i + 1 := ⟨i + 1, Nat.le_refl _, Nat.le_refl _⟩;have hp3 : (i : Int) + 1 = (p : Int) := by omega
    have hp4 : IntKind.i64.wrap ((i : Int) + 1) = (p : Int) := by rw [hp3]; exact IntWalk.i64_in _ (by omega)
    have hp5 : IntKind.i64.wrap (p : Int) = (p : Int) := IntWalk.i64_in _ (by omega);have hp6 : (0 : Int) ≤ (p : Int) := by omega
    have hp7 : (p : Int) ≤ (s.size : Int) := by omega
    have hp8 : p ≤ s.size := by omega
    obtain ⟨t1, ht1⟩ : ∃ t, t = s.extract 0 p := ⟨_, rfl⟩;have hex : s.extract 0 p = t1 := ht1.symm;obtain ⟨T1, hT1⟩ : ∃ t, varS (r : Int) = t := ⟨_, rfl⟩;have HT1 := Lib.hid hT1;have HPI := Lib.hid (show p = i + 1 by omega);have HFL := Lib.hid (show firstLow (toB s) = some i from firstLow_some.2 ⟨by omega, ⟨b, hb, hlo⟩, HH.out⟩);have HEQ := Lib.hid (show T1 = t1 ↔ varT (decT ((toB s).take (i + 1))) = (toB s).take (i + 1) by
     rw [← hT1, ht1, toB_take, varS_nat hrb, ← HRN.out, ← HPI.out];exact ⟨fun h => ofB_inj h, fun h => by rw [h]⟩)
    clear ht1 hT1 hb;have H := (Hp.start wr).drew
    by_cases heq : T1 = t1
    ·have HE := Lib.hid (show (R1, R2) = (r, p) by
      rw [HR.out, readV, HFL.out];simp only;rw [if_pos (HEQ.out.1 heq), HRN.out, HPI.out])
     have HE1 := Lib.hid (show R1 = r from congrArg Prod.fst HE.out);have HE2 := Lib.hid (show R2 = p from congrArg Prod.snd HE.out);subst heq;go_wp2_with fail;refine wp_region_held_drew (S := fun _ => True) (by kernel_rfl) ?_ (fun hHeld => ?_)
     ·exact trivial
     obtain ⟨u0, hu0⟩ : ∃ uu : World, uu = wr.drew := ⟨_, rfl⟩;rw [← hu0] at H ⊢;clear hu0;refine wpT 0 ?_;refine wpT 2 ?_;refine wpT 3 ?_;refine wpT 4 ?_;refine wpT 5 ?_;refine wpC 1 fun K hK => ?_;go_simp;refine (implVar_any (r : Int) _).mono ?_;rintro e u1 ⟨rfl, f9⟩;replace H := H.go f9;clear f9;rw [HT1.out];go_wp2_with fail;refine hK.out _ _ ?_ fun hHeld => ?_
     ·exact trivial
     clear hK K;(try simp only [sX, Act.put]);refine wpT 6 ?_;refine wpAnyH_done (by kernel_rfl) ?_ _;go_wp2_with fail;go_ret2;rw [HE1.out, HE2.out];exact ⟨rfl, H.fr⟩
    ·have HE := Lib.hid (show (R1, R2) = (0, 0) by
      rw [HR.out, readV, HFL.out];simp only;rw [if_neg (fun h => heq (HEQ.out.2 h))])
     have HE1 := Lib.hid (show R1 = 0 from congrArg Prod.fst HE.out);have HE2 := Lib.hid (show R2 = 0 from congrArg Prod.snd HE.out);have hne : (T1.toList == t1.toList) = false := str_ne heq;have hne2 : (T1.toList != t1.toList) = true := by simp only [bne, hne]; rfl
     clear heq;go_wp2_with fail;refine wp_region_held_drew (S := fun _ => True) (by kernel_rfl) ?_ (fun hHeld => ?_)
     ·exact trivial
     obtain ⟨u0, hu0⟩ : ∃ uu : World, uu = wr.drew := ⟨_, rfl⟩;rw [← hu0] at H ⊢;clear hu0;refine wpT 0 ?_;refine wpT 2 ?_;refine wpT 3 ?_;refine wpT 4 ?_;refine wpT 5 ?_;refine wpC 1 fun K hK => ?_;go_simp;refine (implVar_any (r : Int) _).mono ?_;rintro e u1 ⟨rfl, f9⟩;replace H := H.go f9;clear f9;rw [HT1.out];go_wp2_with fail;refine hK.out _ _ ?_ fun hHeld => ?_
     ·exact trivial
     clear hK K;(try simp only [sX, Act.put]);refine wpT 6 ?_;refine wpAnyH_done (by kernel_rfl) ?_ _;go_wp2_with fail;go_ret2;rw [HE1.out, HE2.out];exact ⟨rfl, H.fr⟩
   ·have hlo1 : ¬ (b.toNat : Int) < 128 := by omega
    have HH2 := Lib.hid (show ∀ j, j < i + 1 → ∀ b, (toB s)[j]? = some b → ¬ b.toNat < 128 from fun j hj c hc => by
     rcases Nat.lt_or_eq_of_le (Nat.le_of_lt_succ hj) with h | h
     ·exact HH.out j h c hc
     ·rw [h, HBB.out] at hc
      injection hc with hc;rw [← hc]; exact hlo)
    clear hb;go_wp2_with fail;go_roundw
    case rel => exact ⟨i + 1, r, by go_num, rfl, by omega, by omega, HRN.out, HH2.out, by trivial⟩
    case measure => simp [intOf]; omega
  ·have HE := Lib.hid (show (R1, R2) = (0, 0) by
    rw [HR.out, readV, show firstLow (toB s) = none from firstLow_none.2 fun j hj b hb => HH.out j (by
     have := (List.getElem?_eq_some_iff.1 hb).1;rw [HT.out] at this;omega) b hb])
   have HE1 := Lib.hid (show R1 = 0 from congrArg Prod.fst HE.out);have HE2 := Lib.hid (show R2 = 0 from congrArg Prod.snd HE.out)
   by_cases h1 : i < s.size
   ·have hlt1 : (i : Int) < (s.size : Int) := by omega
    have hlt7 : ¬ (i : Int) < 7 := by omega
    go_wp2_with fail;go_ret2;rw [HE1.out, HE2.out];exact ⟨rfl, Below.refl _ _⟩
   ·have hlt1 : ¬ (i : Int) < (s.size : Int) := by omega
    go_wp2_with fail;go_ret2;rw [HE1.out, HE2.out];exact ⟨rfl, Below.refl _ _⟩
set_option maxRecDepth 100000 in
set_option maxHeartbeats 4000000 in
theorem specReadVar_any (s : ByteArray) (w : World) (hs : s.size ≤ 1099511627776) :
 Calls Tryz.prog 83 #[.string s] w fun e w' => e = .returned (.tuple #[.int .i64 ((readV (toB s)).1 : Int), .int .i64 ((readV (toB s)).2 : Int)]) ∧ Fr w w' := by
 have HT := Lib.hid (show (toB s).length = s.size from toB_len s);obtain ⟨R, hR⟩ : ∃ R, R = readV (toB s) := ⟨_, rfl⟩;rw [← hR];have HR := Lib.hid hR;clear hR;obtain ⟨R1, R2⟩ := R;go_enter Tryz.func83, Tryz.ntmps83;go_wp2_with fail
 go_loopw [4] (fun kv wr => ∃ k : Nat, kv = .int .i64 k ∧ 1 ≤ k ∧ k ≤ 8 ∧ (∀ j, 1 ≤ j → j < k → j ≤ s.size → varT (decT ((toB s).take j)) ≠ (toB s).take j) ∧ Fr w wr) (fun kv _ => 9 - (intOf kv).toNat)
 case atStart => exact ⟨1, rfl, by omega, by omega, fun j h1 h2 => by omega, Below.refl _ _⟩
 case round =>
  obtain ⟨k, rfl, hk1, hk8, hno, hf⟩ := hrel;have HNO := Lib.hid hno;have HF := Lib.hid hf;clear hno hf;have hk0 : (0 : Int) ≤ (k : Int) := by omega
  by_cases hk7 : k ≤ 7
  ·have hk71 : (k : Int) ≤ 7 := by omega
   by_cases hks : k ≤ s.size
   ·have hks1 : (k : Int) ≤ (s.size : Int) := by omega
    obtain ⟨g, hg1, hg2⟩ : ∃ g : Nat, g + 1 ≤ k ∧ k ≤ g + 1 := ⟨k - 1, by omega, by omega⟩;have hg3 : (k : Int) - 1 = (g : Int) := by omega
    have hg4 : IntKind.i64.wrap ((k : Int) - 1) = (g : Int) := by rw [hg3]; exact IntWalk.i64_in _ (by omega)
    have hg5 : IntKind.i64.wrap (g : Int) = (g : Int) := IntWalk.i64_in _ (by omega);go_wp2_with fail
    go_loopw [5, 6] (fun nv iv wq => ∃ (t m : Nat) (z : Int), iv = .int .i64 z ∧ nv = .int .i64 m ∧ z + 1 = (t : Int) ∧ t ≤ k ∧ m = decT (((toB s).take k).drop t) ∧ Fr w wq) (fun _ iv _ => (intOf iv + 1).toNat)
    case atStart => exact ⟨k, 0, (g : Int), rfl, rfl, by omega, Nat.le_refl _, by rw [List.drop_eq_nil_of_le (by rw [List.length_take]; omega)]; rfl, HF.out⟩
    case round =>
     obtain ⟨t, m, z, rfl, rfl, hz, htk, hm, hw⟩ := hrel;have HM := Lib.hid hm;have HW := Lib.hid hw;have hmb : m ≤ 562949953421311 := by rw [hm]; exact decT_max (by rw [List.length_drop, List.length_take]; omega)
     clear hm hw
     cases t with
     | zero =>
       have hz0 : ¬ (0 : Int) ≤ z := by omega
       have hz1 : z = -1 := by omega
       obtain ⟨t1, ht1⟩ : ∃ t, t = s.extract 0 k := ⟨_, rfl⟩;have hex : s.extract 0 k = t1 := ht1.symm;obtain ⟨T1, hT1⟩ : ∃ t, varS (m : Int) = t := ⟨_, rfl⟩;have HT1 := Lib.hid hT1;have HMD := Lib.hid (show m = decT ((toB s).take k) by rw [HM.out, List.drop_zero]);have HEQ := Lib.hid (show T1 = t1 ↔ varT m = (toB s).take k by
        rw [← hT1, ht1, toB_take, varS_nat hmb];exact ⟨fun h => ofB_inj h, fun h => by rw [h]⟩)
       clear ht1 hT1;have H := ((Hp.start w).go HW.out).drew
       by_cases heq : T1 = t1
       ·have HE := Lib.hid (show (R1, R2) = (m, k) by
         rw [HR.out]; exact readV_hit hk7 (by rw [HT.out]; exact hks) (HEQ.out.1 heq))
        have HE1 := Lib.hid (show R1 = m from congrArg Prod.fst HE.out);have HE2 := Lib.hid (show R2 = k from congrArg Prod.snd HE.out);subst heq;go_wp2_with fail;refine wp_region_held_drew (S := fun _ => True) (by kernel_rfl) ?_ (fun hHeld => ?_)
        ·exact trivial
        obtain ⟨u0, hu0⟩ : ∃ uu : World, uu = wr.drew := ⟨_, rfl⟩;rw [← hu0] at H ⊢;clear hu0;refine wpT 0 ?_;refine wpT 2 ?_;refine wpT 3 ?_;refine wpT 4 ?_;refine wpC 1 fun K hK => ?_;go_simp;refine (specVar_any (m : Int) _).mono ?_;rintro e u1 ⟨rfl, f9⟩;replace H := H.go f9;clear f9;rw [HT1.out];go_wp2_with fail;refine hK.out _ _ ?_ fun hHeld => ?_
        ·exact trivial
        clear hK K;(try simp only [sX, Act.put]);refine wpT 5 ?_;refine wpAnyH_done (by kernel_rfl) ?_ _;go_wp2_with fail;go_ret2;rw [HE1.out, HE2.out];exact ⟨rfl, H.fr⟩
       ·have hne : (T1.toList == t1.toList) = false := str_ne heq
        have HNO2 := Lib.hid (show ∀ j, 1 ≤ j → j < k + 1 → j ≤ s.size → varT (decT ((toB s).take j)) ≠ (toB s).take j from fun j h1 h2 h3 => by
         rcases Nat.lt_or_eq_of_le (Nat.le_of_lt_succ h2) with h | h
         ·exact HNO.out j h1 h h3
         ·rw [h, ← HMD.out]
          exact fun h9 => heq (HEQ.out.2 h9))
        clear heq;go_wp2_with fail;refine wp_region_held_drew (S := fun _ => True) (by kernel_rfl) ?_ (fun hHeld => ?_)
        ·exact trivial
        obtain ⟨u0, hu0⟩ : ∃ uu : World, uu = wr.drew := ⟨_, rfl⟩;rw [← hu0] at H ⊢;clear hu0;refine wpT 0 ?_;refine wpT 2 ?_;refine wpT 3 ?_;refine wpT 4 ?_;refine wpC 1 fun K hK => ?_;go_simp;refine (specVar_any (m : Int) _).mono ?_;rintro e u1 ⟨rfl, f9⟩;replace H := H.go f9;clear f9;rw [HT1.out];go_wp2_with fail;refine hK.out _ _ ?_ fun hHeld => ?_
        ·exact trivial
        clear hK K;(try simp only [sX, Act.put]);refine wpT 5 ?_;refine wpAnyH_done (by kernel_rfl) ?_ _;go_wp2_with fail;go_roundw
        case rel => exact ⟨k + 1, by go_num, by omega, by omega, HNO2.out, H.fr⟩
        case measure => simp [intOf]; omega
     | succ u =>
       have hzu : z = (u : Int) := by omega
       subst hzu;have hu0 : (0 : Int) ≤ (u : Int) := by omega
       have hus : u < s.size := by omega
       have hu1 : (u : Int) < (s.size : Int) := by omega
       obtain ⟨b, hb⟩ := at_some (HT.out) hus;have hbb := b.toNat_lt;have hg := toB_getC hb hus;obtain ⟨d, hd⟩ : ∃ d, d = b.toNat % 128 := ⟨_, rfl⟩;have a1 : (b.toNat : Int).tmod 128 = (d : Int) := by rw [Int.tmod_eq_emod_of_nonneg (by omega), hd]; omega
       have hd1 : d < 128 := by omega
       have HD := Lib.hid (show d + 128 * m = decT (((toB s).take k).drop u) by
        have h1 : ((toB s).take k)[u]? = some b := by rw [List.getElem?_take_of_lt (by omega)]; exact hb
        obtain ⟨hul, hue⟩ := List.getElem?_eq_some_iff.1 h1;rw [List.drop_eq_getElem_cons hul, hue, decT, ← HM.out, hd])
       have hdb : d + 128 * m ≤ 562949953421311 := by rw [HD.out]; exact decT_max (by rw [List.length_drop, List.length_take]; omega)
       obtain ⟨x, hx⟩ : ∃ x, x = d + 128 * m := ⟨_, rfl⟩;have a2 : (m : Int) * 128 + (d : Int) = (x : Int) := by omega
       have a2w : IntKind.i64.wrap ((m : Int) * 128 + (d : Int)) = (x : Int) := by rw [a2]; exact IntWalk.i64_in _ (by omega)
       have a3w : IntKind.i64.wrap ((m : Int) * 128) = (m : Int) * 128 := IntWalk.i64_in _ (by omega);have HX := Lib.hid (show x = decT (((toB s).take k).drop u) by rw [hx]; exact HD.out);have HUW : (u : Int) - 1 + 1 = (u : Int) := by omega
       clear hd hb;go_wp2_with fail;go_roundw
       case rel => exact ⟨u, x, (u : Int) - 1, by go_num, by first | rfl | (simp only [a2]; done) | simp_all, by omega, by omega, HX.out, HW.out⟩
       case measure => simp [intOf] <;> omega
   ·have hks1 : ¬ (k : Int) ≤ (s.size : Int) := by omega
    have HE := Lib.hid (show (R1, R2) = (0, 0) by
     rw [HR.out]; exact readV_miss fun j h1 h2 h3 => by
      rw [HT.out] at h3;exact HNO.out j h1 (by omega) h3)
    have HE1 := Lib.hid (show R1 = 0 from congrArg Prod.fst HE.out);have HE2 := Lib.hid (show R2 = 0 from congrArg Prod.snd HE.out);go_wp2_with fail;go_ret2;rw [HE1.out, HE2.out];exact ⟨rfl, HF.out⟩
  ·have hk71 : ¬ (k : Int) ≤ 7 := by omega
   have HE := Lib.hid (show (R1, R2) = (0, 0) by
    rw [HR.out]; exact readV_miss fun j h1 h2 h3 => by
     rw [HT.out] at h3;exact HNO.out j h1 (by omega) h3)
   have HE1 := Lib.hid (show R1 = 0 from congrArg Prod.fst HE.out);have HE2 := Lib.hid (show R2 = 0 from congrArg Prod.snd HE.out);go_wp2_with fail;go_ret2;rw [HE1.out, HE2.out];exact ⟨rfl, HF.out⟩
end Go.Proofs.YtmpldngnkacnmaaGreatDoor
namespace Go.Proofs.YtmpldngnkacnmaaGreatDoor
open Go.RowKit
def keyB (e : EntT) : ByteArray := ofB (keyR (toB e.2.2.1)).1
def keysE (d : List EntT) : List ByteArray := d.map keyB
theorem keysE_take {d : List EntT} {k : Nat} {e : EntT} (h : d[k]? = some e) : keysE (d.take (k + 1)) = keysE (d.take k) ++ [keyB e] := by
 rw [keysE, keysE, List.take_add_one, h, List.map_append]; rfl
theorem keysE_len (d : List EntT) : (keysE d).length = d.length := by rw [keysE, List.length_map]
theorem ent2_no1 {d : List EntT} {e : EntT} (h : (keyR (toB e.2.2.1)).2 = false) : entB2 d e = false := by simp [entB2, entB1, h]
theorem ent2_no2 {d : List EntT} {e : EntT} (h : e.1 ≠ hashN (toB e.2.2.1)) : entB2 d e = false := by
 have : (e.1 == hashN (toB e.2.2.1)) = false := by simpa using h
 simp [entB2, entB1, this]
theorem ent2_no3 {d : List EntT} {e : EntT} (h : ∃ p ∈ d, aliB (toB p.2.2.1) (toB e.2.2.1) = true) : entB2 d e = false := by
 obtain ⟨p, hp, ha⟩ := h;have : (d.all fun p => !aliB (toB p.2.2.1) (toB e.2.2.1)) = false := by
  rw [List.all_eq_false];exact ⟨p, hp, by simp [ha]⟩
 simp only [entB2, this, Bool.and_false]
theorem ent2_no4 {d : List EntT} {e : EntT} (h : inB e.2.1 0 12 = false) : entB2 d e = false := by simp [entB2, entB1, h]
theorem ent2_no5 {d : List EntT} {e : EntT} (h : inB e.2.2.2 1 100000 = false) : entB2 d e = false := by simp [entB2, entB1, h]
theorem ent2_no6 {d : List EntT} {k : Nat} {p e : EntT} (hp : d[k]? = some p) (h : lesB p e.1 e.2.1 = false) : entB2 (d.take (k + 1)) e = false := by
 have : (d.take (k + 1)).getLast? = some p := by rw [List.take_add_one, hp]; simp
 simp [entB2, this, h]
theorem ent2_yes {d : List EntT} {e : EntT} (h1 : (keyR (toB e.2.2.1)).2 = true) (h2 : e.1 = hashN (toB e.2.2.1)) (h3 : ∀ p ∈ d, aliB (toB p.2.2.1) (toB e.2.2.1) = false) (h4 : inB e.2.1 0 12 = true) (h5 : inB e.2.2.2 1 100000 = true)
 (h6 : ∀ p, d.getLast? = some p → lesB p e.1 e.2.1 = true) : entB2 d e = true := by
 have ha : (d.all fun p => !aliB (toB p.2.2.1) (toB e.2.2.1)) = true := by
  rw [List.all_eq_true]; intro p hp; simp [h3 p hp]
 have hh : (e.1 == hashN (toB e.2.2.1)) = true := by simpa using h2
 rw [entB2, Bool.and_eq_true, Bool.and_eq_true];refine ⟨⟨by simp only [entB1, h1, hh, h4, h5, Bool.and_true], ?_⟩, ha⟩
 cases hq : d.getLast? with
 | none => rfl
 | some p => exact h6 p hq
theorem last_take {d : List EntT} {k : Nat} {p : EntT} (hp : d[k]? = some p) : (d.take (k + 1)).getLast? = some p := by rw [List.take_add_one, hp]; simp
theorem dirB_no {d : List EntT} {k : Nat} {e : EntT} (he : d[k]? = some e) (h : entB2 (d.take k) e = false) : dirB d = false := by
 cases hq : dirTo d d.length with
 | false => rw [dirB, hq, Bool.and_false]
 | true => rw [dirTo_at hq he] at h; cases h
theorem dirTo_succ {d : List EntT} {k : Nat} {e : EntT} (he : d[k]? = some e) (h0 : dirTo d k = true) (h : entB2 (d.take k) e = true) : dirTo d (k + 1) = true := by
 rw [dirTo, he, h0, Bool.true_and]; exact h
theorem dirB_yes {d : List EntT} (h1 : d.length ≤ 12) (h : dirTo d d.length = true) : dirB d = true := by rw [dirB, h]; simpa using h1
theorem dirB_long {d : List EntT} (h1 : 12 < d.length) : dirB d = false := by
 have : decide (d.length ≤ 12) = false := decide_eq_false (by omega);rw [dirB, this, Bool.false_and]
theorem dirTo_names {d : List EntT} {k : Nat} (hk : k ≤ d.length) (h : dirTo d k = true) : ∀ p ∈ d.take k, (keyR (toB p.2.2.1)).2 = true := by
 intro p hp;have := (dirTo_R k hk h).1 p hp;simp only [entB1, Bool.and_eq_true] at this;exact this.1.1.1
theorem keys_yes {d : List EntT} {e : EntT} (hd : ∀ p ∈ d, (keyR (toB p.2.2.1)).2 = true) (h1 : (keyR (toB e.2.2.1)).2 = true) (h : keyB e ∈ keysE d) : ∃ p ∈ d, aliB (toB p.2.2.1) (toB e.2.2.1) = true := by
 obtain ⟨p, hp, he⟩ := List.mem_map.1 h;exact ⟨p, hp, by
  simp only [aliB, Bool.and_eq_true, decide_eq_true_eq];exact ⟨⟨hd p hp, h1⟩, ofB_inj he⟩⟩
theorem keys_no {d : List EntT} {e : EntT} (h : keyB e ∉ keysE d) : ∀ p ∈ d, aliB (toB p.2.2.1) (toB e.2.2.1) = false := by
 intro p hp
 cases ha : aliB (toB p.2.2.1) (toB e.2.2.1) with
 | false => rfl
 | true =>
   simp only [aliB, Bool.and_eq_true, decide_eq_true_eq] at ha;exact absurd (List.mem_map.2 ⟨p, hp, by rw [keyB, keyB, ha.2]⟩) h
theorem hashN_of {s : List UInt8} (h : (keyR s).2 = true) : hashN s = crcZ (keyR s).1 % 16 := by rw [hashN, if_pos h]
end Go.Proofs.YtmpldngnkacnmaaGreatDoor
namespace Go.Proofs.YtmpldngnkacnmaaGreatDoor
open Go.RowKit
theorem belowS_len (l : List Nod) (a : Int) (h : ∀ k, atN l a = some k → Bs l a (start0 l k)) : (belowS l a).length = l.length := by
 unfold belowS; split
 ·simp
 ·rename_i k hk
  exact ((h k hk).rounds _).l1
theorem rounds_no {l : List Nod} (hs : l.Pairwise fun a b => a.1 < b.1) {a : Int} {i : Nat} {x : Nod} (hx : l[i]? = some x) : (belowS l a)[i]? = some (blwB l a x.1) := by
 have hat := nodup_at hs hx;have hlen : i < (belowS l a).length := by
  rw [belowS_len l a fun k hk => start0_Bs hk];exact (List.getElem?_eq_some_iff.1 hx).1
 have h1 := belowS_ok l a i;have h2 : On (belowS l a) i ↔ blwB l a x.1 = true := by
  rw [h1, blwB_iff];refine ⟨fun ⟨b, hb, hbi⟩ => ?_, fun hb => ⟨_, hb, hat⟩⟩;obtain ⟨y, hy, hyb⟩ := atN_some hbi;rw [hx] at hy;injection hy with hy;subst hy;rw [hyb]; exact hb
 obtain ⟨b, hb⟩ : ∃ b, (belowS l a)[i]? = some b := ⟨_, List.getElem?_eq_getElem hlen⟩;rw [hb];unfold On at h2;rw [hb] at h2
 congr 1
 rw [Bool.eq_iff_iff, ← h2]
 simp
end Go.Proofs.YtmpldngnkacnmaaGreatDoor