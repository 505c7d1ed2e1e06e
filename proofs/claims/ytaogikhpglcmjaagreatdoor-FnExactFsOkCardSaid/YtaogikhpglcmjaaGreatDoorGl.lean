/-
  Many texts in one: Order, MDir, MDir2, MDir3, MDir4, MVol, MDirW.
-/
import Derived.Test.YtaogikhpglcmjaaGreatDoorGk
import Derived.Test.YtaogikhpglcmjaaGreatDoorGe
import Derived.Test.YtaogikhpglcmjaaGreatDoorGj
namespace Go.Proofs.YtaogikhpglcmjaaGreatDoor
open Go.RowKit

set_option linter.unusedVariables false
set_option linter.unusedSimpArgs false
theorem keyS_yes {s : List UInt8} (h : (keyR s).2 = true) : keyS s = (keyR s).1 := by rw [keyS, if_pos h]
theorem keyS_no {s : List UInt8} (h : (keyR s).2 = false) : keyS s = s := by rw [keyS, if_neg (by rw [h]; simp)]
theorem keyS_len (s : ByteArray) (hs : s.size ≤ 16777216) : (keyS (toB s)).length ≤ 16777216 := by
  rw [keyS]
  split
  · have := keyR_len (toB s); omega
  · rw [toB_len]; exact hs
theorem cmpT_num (a b : List UInt8) : cmpT a b = -1 ∨ cmpT a b = 0 ∨ cmpT a b = 1 := by
  rw [cmpT]; split
  · exact .inl rfl
  · split
    · exact .inr (.inl rfl)
    · exact .inr (.inr rfl)
/-- Are two names alike? -/
def aliB (a b : List UInt8) : Bool := (keyR a).2 && (keyR b).2 && decide ((keyR a).1 = (keyR b).1)
set_option maxRecDepth 100000 in
theorem specAlike_any (s t : ByteArray) (w : World) (hs : s.size ≤ 16777216) (ht : t.size ≤ 16777216) :
    Calls Tryz.prog 122 #[.string s, .string t] w fun e w' => e = .returned (.bool (aliB (toB s) (toB t))) ∧ Fr w w' := by
  obtain ⟨q, hq⟩ : ∃ q, q = aliB (toB s) (toB t) := ⟨_, rfl⟩
  have HQ := Lib.hid hq
  rw [← hq]
  clear hq
  go_enter Tryz.func122, Tryz.ntmps122
  go_wp2_with fail
  refine (specKeyOf_any s _ hs).mono ?_
  rintro e w1 ⟨rfl, f1⟩
  go_wp2_with fail
  refine (specKeyOf_any t _ ht).mono ?_
  rintro e w2 ⟨rfl, f2⟩
  have F := f1.then f2
  clear f1 f2
  simp only [aliB] at HQ
  generalize keyR (toB s) = K at HQ ⊢
  generalize keyR (toB t) = L at HQ ⊢
  obtain ⟨x, bx⟩ := K
  obtain ⟨y, yb⟩ := L
  have h2 : ((ofB x).toList == (ofB y).toList) = decide (x = y) := by rw [cmpB, toB_ofB, toB_ofB]
  generalize decide (x = y) = b2 at h2 HQ
  generalize ofB x = tx at h2 ⊢
  generalize ofB y = ty at h2 ⊢
  cases bx with
  | false =>
    go_wp2_with fail
    go_ret
    rw [HQ.out]
    exact ⟨rfl, F⟩
  | true =>
    cases yb with
    | false =>
      go_wp2_with fail
      go_ret
      rw [HQ.out]
      exact ⟨rfl, F⟩
    | true =>
      go_wp2_with fail
      go_ret
      rw [HQ.out]
      exact ⟨rfl, F⟩

end Go.Proofs.YtaogikhpglcmjaaGreatDoor

namespace Go.Proofs.YtaogikhpglcmjaaGreatDoor
open Go.RowKit

/-- The hash of a name: -1 where it is none. -/
def hashN (s : List UInt8) : Int := if (keyR s).2 = true then crcZ (keyR s).1 % 16 else -1

/-! ### Directories -/
/-- An entry: hash, index, name, id. -/
abbrev EntT := Int × Int × ByteArray × Int
/-- Does an entry stand behind a place? -/
def behB (e : EntT) (h i : Int) : Bool := decide (h < e.1) || (e.1 == h && decide (i < e.2.1))
/-- Does it stand ahead of a place? -/
def lesB (e : EntT) (h i : Int) : Bool := decide (e.1 < h) || (e.1 == h && decide (e.2.1 < i))
theorem les_beh (a b : EntT) : lesB a b.1 b.2.1 = behB b a.1 a.2.1 := by
  simp only [lesB, behB]
  rw [Bool.eq_iff_iff]
  simp only [Bool.or_eq_true, Bool.and_eq_true, decide_eq_true_eq, beq_iff_eq]
  omega
theorem not_les {e : EntT} {h i : Int} : lesB e h i = false ↔ behB e h i = true ∨ (e.1 = h ∧ e.2.1 = i) := by
  simp only [lesB, behB, Bool.or_eq_false_iff, Bool.and_eq_false_iff, decide_eq_false_iff_not, beq_eq_false_iff_ne, Bool.or_eq_true, Bool.and_eq_true, decide_eq_true_eq, beq_iff_eq]
  omega
/-- An entry is right by itself. -/
def entB1 (e : EntT) : Bool := (keyR (toB e.2.2.1)).2 && (e.1 == hashN (toB e.2.2.1)) && inB e.2.1 0 12 && inB e.2.2.2 1 100000
/-- .. and behind those ahead of it, alike to none. -/
def entB2 (d : List EntT) (e : EntT) : Bool := entB1 e && (match d.getLast? with
  | none => true
  | some p => lesB p e.1 e.2.1) && d.all fun p => !aliB (toB p.2.2.1) (toB e.2.2.1)
/-- The first entries are right. -/
def dirTo (d : List EntT) : Nat → Bool
  | 0 => true
  | k + 1 => dirTo d k && (match d[k]? with
    | none => true
    | some e => entB2 (d.take k) e)
def dirB (d : List EntT) : Bool := decide (d.length ≤ 12) && dirTo d d.length
theorem dirTo_le {d : List EntT} {i k : Nat} (h : dirTo d k = true) (hi : i ≤ k) : dirTo d i = true := by
  induction k with
  | zero => obtain rfl : i = 0 := by omega
            exact h
  | succ k ih =>
    rcases Nat.lt_or_eq_of_le hi with h1 | h1
    · rw [dirTo, Bool.and_eq_true] at h
      exact ih h.1 (by omega)
    · rw [h1]; exact h
theorem dirTo_at {d : List EntT} {i : Nat} {e : EntT} (h : dirTo d d.length = true) (he : d[i]? = some e) : entB2 (d.take i) e = true := by
  have hi := (List.getElem?_eq_some_iff.1 he).1
  have h1 := dirTo_le h (show i + 1 ≤ d.length by omega)
  rw [dirTo, he, Bool.and_eq_true] at h1
  exact h1.2
/-- The place of an alike name. -/
def dirAt (d : List EntT) (s : List UInt8) : Option Nat := d.findIdx? fun e => aliB (toB e.2.2.1) s
end Go.Proofs.YtaogikhpglcmjaaGreatDoor

namespace Go.Proofs.YtaogikhpglcmjaaGreatDoor
open Go.RowKit
set_option linter.unusedVariables false

/-- One place behind another one. -/
def placeLt (a b : EntT) : Prop := a.1 < b.1 ∨ a.1 = b.1 ∧ a.2.1 < b.2.1
theorem lesB_iff {a : EntT} {h i : Int} : lesB a h i = true ↔ a.1 < h ∨ a.1 = h ∧ a.2.1 < i := by
  simp only [lesB, Bool.or_eq_true, Bool.and_eq_true, decide_eq_true_eq, beq_iff_eq]
theorem placeLt_trans {a b c : EntT} (h1 : placeLt a b) (h2 : placeLt b c) : placeLt a c := by
  unfold placeLt at *; omega
/-- What a right directory is, entry by entry. -/
structure DirR (d : List EntT) : Prop where
  len : d.length ≤ 12
  one : ∀ e ∈ d, entB1 e = true
  sorted : d.Pairwise placeLt
  once : d.Pairwise fun a b => aliB (toB a.2.2.1) (toB b.2.2.1) = false
theorem dirTo_R {d : List EntT} : ∀ k, k ≤ d.length → dirTo d k = true → (∀ e ∈ d.take k, entB1 e = true) ∧ (d.take k).Pairwise placeLt ∧ (d.take k).Pairwise fun a b => aliB (toB a.2.2.1) (toB b.2.2.1) = false
  | 0, _, _ => by simp
  | k + 1, hk, h => by
    obtain ⟨e, he⟩ : ∃ e, d[k]? = some e := ⟨_, List.getElem?_eq_getElem (by omega)⟩
    rw [dirTo, he, Bool.and_eq_true] at h
    obtain ⟨h1, h2, h3⟩ := dirTo_R k (by omega) h.1
    have h4 := h.2
    simp only [entB2, Bool.and_eq_true, List.all_eq_true, Bool.not_eq_true'] at h4
    have ht : d.take (k + 1) = d.take k ++ [e] := by rw [List.take_add_one, he]; rfl
    rw [ht]
    refine ⟨fun x hx => ?_, ?_, ?_⟩
    · rcases List.mem_append.1 hx with h5 | h5
      · exact h1 x h5
      · rw [List.mem_singleton.1 h5]; exact h4.1.1
    · rw [List.pairwise_append]
      refine ⟨h2, List.pairwise_singleton _ _, fun a ha b hb => ?_⟩
      rw [List.mem_singleton.1 hb]
      rcases List.eq_nil_or_concat (d.take k) with h5 | ⟨p, q, h5⟩
      · rw [h5] at ha; simp at ha
      · have h6 := h4.1.2
        rw [h5, List.concat_eq_append, List.getLast?_append] at h6
        simp only [List.getLast?_singleton, Option.some_or] at h6
        rw [h5, List.concat_eq_append] at ha h2
        have hq : placeLt q e := lesB_iff.1 h6
        rcases List.mem_append.1 ha with h7 | h7
        · exact placeLt_trans ((List.pairwise_append.1 h2).2.2 a h7 q (by simp)) hq
        · rw [List.mem_singleton.1 h7]; exact hq
    · rw [List.pairwise_append]
      refine ⟨h3, List.pairwise_singleton _ _, fun a ha b hb => ?_⟩
      rw [List.mem_singleton.1 hb]
      exact h4.2 a ha
theorem dirB_R {d : List EntT} (h : dirB d = true) : DirR d := by
  rw [dirB, Bool.and_eq_true, decide_eq_true_eq] at h
  obtain ⟨h1, h2, h3⟩ := dirTo_R d.length (Nat.le_refl _) h.2
  rw [List.take_length] at h1 h2 h3
  exact ⟨h.1, h1, h2, h3⟩
/-- The least free index of a hash, found by going over the entries in their order. -/
def idxStep (h : Int) (k : Nat) (e : EntT) : Nat := if e.1 = h ∧ e.2.1 = (k : Int) then k + 1 else k
def idxN (d : List EntT) (h : Int) : Nat := d.foldl (idxStep h) 0
theorem idxN_snoc (d : List EntT) (e : EntT) (h : Int) : idxN (d ++ [e]) h = idxStep h (idxN d h) e := by rw [idxN, List.foldl_append]; rfl
theorem idx_fold_le (h : Int) : ∀ (d : List EntT) (k : Nat), d.foldl (idxStep h) k ≤ k + d.length
  | [], k => by simp
  | e :: d, k => by
    have h1 := idx_fold_le h d (idxStep h k e)
    have h2 : idxStep h k e ≤ k + 1 := by unfold idxStep; split <;> omega
    rw [List.foldl_cons, List.length_cons]; omega
theorem idxN_le (d : List EntT) (h : Int) : idxN d h ≤ d.length := by
  have := idx_fold_le h d 0
  rw [idxN]; omega
theorem idxN_ok (h : Int) : ∀ (n : Nat) (d : List EntT), d.length = n → d.Pairwise placeLt → (∀ e ∈ d, ¬ (e.1 = h ∧ e.2.1 = (idxN d h : Int))) ∧ ∀ j : Nat, j < idxN d h → ∃ e ∈ d, e.1 = h ∧ e.2.1 = (j : Int)
  | 0, d, hd, _ => by
    have e := List.eq_nil_of_length_eq_zero hd
    subst e
    simp [idxN]
  | n + 1, d, hd, hs => by
    rcases List.eq_nil_or_concat d with rfl | ⟨p, e, rfl⟩
    · simp at hd
    rw [List.concat_eq_append] at hd hs ⊢
    have hs2 := List.pairwise_append.1 hs
    obtain ⟨h1, h2⟩ := idxN_ok h n p (by simpa using hd) hs2.1
    rw [idxN_snoc, idxStep]
    split
    · rename_i hc
      refine ⟨fun x hx => ?_, fun j hj => ?_⟩
      · rcases List.mem_append.1 hx with h3 | h3
        · have := hs2.2.2 x h3 e (by simp)
          unfold placeLt at this
          omega
        · rw [List.mem_singleton.1 h3]; omega
      · rcases Nat.lt_or_eq_of_le (Nat.le_of_lt_succ hj) with h3 | h3
        · obtain ⟨y, hy, h4⟩ := h2 j h3
          exact ⟨y, List.mem_append_left _ hy, h4⟩
        · exact ⟨e, by simp, by rw [h3]; exact hc⟩
    · rename_i hc
      refine ⟨fun x hx => ?_, fun j hj => ?_⟩
      · rcases List.mem_append.1 hx with h3 | h3
        · exact h1 x h3
        · rw [List.mem_singleton.1 h3]; exact hc
      · obtain ⟨y, hy, h4⟩ := h2 j hj
        exact ⟨y, List.mem_append_left _ hy, h4⟩
/-- The least index that is free: there is just one. -/
theorem idxN_least {d : List EntT} {h : Int} (hs : d.Pairwise placeLt) {k : Nat} (h1 : ∀ e ∈ d, ¬ (e.1 = h ∧ e.2.1 = (k : Int))) (h2 : ∀ j : Nat, j < k → ∃ e ∈ d, e.1 = h ∧ e.2.1 = (j : Int)) : k = idxN d h := by
  obtain ⟨k1, k2⟩ := idxN_ok h d.length d rfl hs
  rcases Nat.lt_trichotomy k (idxN d h) with h3 | h3 | h3
  · obtain ⟨e, he, h4⟩ := k2 k h3
    exact absurd h4 (h1 e he)
  · exact h3
  · obtain ⟨e, he, h4⟩ := h2 _ h3
    exact absurd h4 (k1 e he)
/-- An entry put in its place. -/
def insD (d : List EntT) (e : EntT) : List EntT := d.takeWhile (fun x => lesB x e.1 e.2.1) ++ e :: d.dropWhile (fun x => lesB x e.1 e.2.1)
theorem insD_perm (d : List EntT) (e : EntT) : (insD d e).Perm (e :: d) := by
  unfold insD
  refine List.perm_middle.trans ?_
  rw [List.takeWhile_append_dropWhile]
def addD (d : List EntT) (s : ByteArray) (id : Int) : List EntT × Bool :=
  if (nameB (toB s) && (dirAt d (toB s)).isNone && inB id 1 100000 && decide (d.length < 12)) = true then (insD d (hashN (toB s), (idxN d (hashN (toB s)) : Int), s, id), true) else (d, false)
def dropD (d : List EntT) (s : ByteArray) : List EntT × Bool :=
  match dirAt d (toB s) with
  | none => (d, false)
  | some k => (d.eraseIdx k, true)
def respD (d : List EntT) (s : ByteArray) (id : Int) : List EntT × Bool :=
  match dirAt d (toB s) with
  | none => (d, false)
  | some k => if inB id 1 100000 = true then ((match d[k]? with
    | none => d
    | some e => d.set k (e.1, e.2.1, s, id)), true) else (d, false)
def lookD (d : List EntT) (s : ByteArray) : Option EntT := (dirAt d (toB s)).bind fun k => d[k]?
end Go.Proofs.YtaogikhpglcmjaaGreatDoor

namespace Go.Proofs.YtaogikhpglcmjaaGreatDoor
open Go.RowKit
set_option linter.unusedVariables false

theorem aliB_symm (a b : List UInt8) : aliB a b = aliB b a := by
  unfold aliB
  rw [Bool.and_comm (keyR a).2, show decide ((keyR a).1 = (keyR b).1) = decide ((keyR b).1 = (keyR a).1) from decide_eq_decide.2 eq_comm]
theorem aliB_trans {a b c : List UInt8} (h1 : aliB a b = true) (h2 : aliB b c = true) : aliB a c = true := by
  simp only [aliB, Bool.and_eq_true, decide_eq_true_eq] at *
  exact ⟨⟨h1.1.1, h2.1.2⟩, h1.2.trans h2.2⟩
theorem aliB_hash {a b : List UInt8} (h : aliB a b = true) : hashN a = hashN b := by
  simp only [aliB, Bool.and_eq_true, decide_eq_true_eq] at h
  rw [hashN, hashN, if_pos h.1.1, if_pos h.1.2, h.2]
theorem R_dirTo {d : List EntT} (h : DirR d) : ∀ k, k ≤ d.length → dirTo d k = true
  | 0, _ => rfl
  | k + 1, hk => by
    obtain ⟨e, he⟩ : ∃ e, d[k]? = some e := ⟨_, List.getElem?_eq_getElem (by omega)⟩
    have hem := List.mem_of_getElem? he
    have ht : d.take (k + 1) = d.take k ++ [e] := by rw [List.take_add_one, he]; rfl
    have hs : (d.take k ++ [e]).Pairwise placeLt := by rw [← ht]; exact h.sorted.sublist (List.take_sublist _ _)
    have ho : (d.take k ++ [e]).Pairwise fun a b => aliB (toB a.2.2.1) (toB b.2.2.1) = false := by rw [← ht]; exact h.once.sublist (List.take_sublist _ _)
    rw [dirTo, he, Bool.and_eq_true]
    refine ⟨R_dirTo h k (by omega), ?_⟩
    simp only [entB2, Bool.and_eq_true, List.all_eq_true, Bool.not_eq_true']
    refine ⟨⟨h.one e hem, ?_⟩, fun x hx => (List.pairwise_append.1 ho).2.2 x hx e (by simp)⟩
    rcases List.eq_nil_or_concat (d.take k) with h5 | ⟨p, q, h5⟩
    · rw [h5]; rfl
    · have h6 := (List.pairwise_append.1 hs).2.2 q (by rw [h5]; simp) e (by simp)
      rw [h5, List.concat_eq_append, List.getLast?_append]
      simp only [List.getLast?_singleton, Option.some_or]
      exact lesB_iff.2 h6
theorem R_dirB {d : List EntT} (h : DirR d) : dirB d = true := by
  rw [dirB, Bool.and_eq_true, decide_eq_true_eq]
  exact ⟨h.len, R_dirTo h _ (Nat.le_refl _)⟩
theorem dirB_iff {d : List EntT} : dirB d = true ↔ DirR d := ⟨dirB_R, R_dirB⟩
theorem dirR_nil : DirR [] := ⟨by simp, by simp, .nil, .nil⟩
theorem DirR.sub {d d' : List EntT} (h : DirR d) (hs : d'.Sublist d) : DirR d' :=
  ⟨Nat.le_trans hs.length_le h.len, fun e he => h.one e (hs.subset he), h.sorted.sublist hs, h.once.sublist hs⟩
theorem placeLt_of {a e : EntT} (h1 : lesB a e.1 e.2.1 = false) (h2 : ¬ (a.1 = e.1 ∧ a.2.1 = e.2.1)) : placeLt e a := by
  have h3 : ¬ (a.1 < e.1 ∨ a.1 = e.1 ∧ a.2.1 < e.2.1) := fun h => by rw [lesB_iff.2 h] at h1; cases h1
  unfold placeLt
  omega
theorem takeWhile_all {α : Type} (p : α → Bool) : ∀ (l : List α) (x : α), x ∈ l.takeWhile p → p x = true
  | [], x, h => by simp at h
  | a :: l, x, h => by
    rw [List.takeWhile_cons] at h
    split at h
    · rcases List.mem_cons.1 h with rfl | h1
      · assumption
      · exact takeWhile_all p l x h1
    · simp at h
theorem dropWhile_head {α : Type} (p : α → Bool) : ∀ (l : List α) (a : α) (r : List α), l.dropWhile p = a :: r → p a = false
  | [], a, r, h => by simp at h
  | b :: l, a, r, h => by
    rw [List.dropWhile_cons] at h
    split at h
    · exact dropWhile_head p l a r h
    · rename_i hb
      injection h with h1 _
      rw [← h1]; simpa using hb
theorem insD_sorted {d : List EntT} {e : EntT} (hs : d.Pairwise placeLt) (hf : ∀ x ∈ d, ¬ (x.1 = e.1 ∧ x.2.1 = e.2.1)) : (insD d e).Pairwise placeLt := by
  unfold insD
  have hd : d = d.takeWhile (fun x => lesB x e.1 e.2.1) ++ d.dropWhile (fun x => lesB x e.1 e.2.1) := (List.takeWhile_append_dropWhile).symm
  have hs2 := hs
  rw [hd] at hs2
  obtain ⟨k1, k2, k3⟩ := List.pairwise_append.1 hs2
  have hlt : ∀ a ∈ d.takeWhile (fun x => lesB x e.1 e.2.1), placeLt a e := fun a ha => lesB_iff.1 (takeWhile_all _ d a ha)
  have hgt : ∀ b ∈ d.dropWhile (fun x => lesB x e.1 e.2.1), placeLt e b := by
    intro b hb
    cases hq : d.dropWhile (fun x => lesB x e.1 e.2.1) with
    | nil => rw [hq] at hb; simp at hb
    | cons a r =>
      have h1 := dropWhile_head _ d a r hq
      have ham : a ∈ d := (List.dropWhile_sublist _).subset (by rw [hq]; simp)
      have h2 := placeLt_of h1 (hf a ham)
      rw [hq] at hb k2
      rcases List.mem_cons.1 hb with rfl | h3
      · exact h2
      · exact placeLt_trans h2 ((List.pairwise_cons.1 k2).1 b h3)
  refine List.pairwise_append.2 ⟨k1, List.pairwise_cons.2 ⟨hgt, k2⟩, fun a ha b hb => ?_⟩
  rcases List.mem_cons.1 hb with rfl | h3
  · exact hlt a ha
  · exact k3 a ha b h3
theorem insD_R {d : List EntT} {e : EntT} (h : DirR d) (h1 : entB1 e = true) (hf : ∀ x ∈ d, ¬ (x.1 = e.1 ∧ x.2.1 = e.2.1)) (ho : ∀ x ∈ d, aliB (toB e.2.2.1) (toB x.2.2.1) = false) (hl : d.length < 12) : DirR (insD d e) := by
  have hp := insD_perm d e
  refine ⟨by rw [hp.length_eq, List.length_cons]; omega, fun x hx => ?_, insD_sorted h.sorted hf, ?_⟩
  · rcases List.mem_cons.1 (hp.mem_iff.1 hx) with rfl | h2
    · exact h1
    · exact h.one x h2
  · refine (hp.pairwise_iff (fun {a b} hab => ?_)).2 (List.pairwise_cons.2 ⟨ho, h.once⟩)
    rw [aliB_symm]; exact hab
end Go.Proofs.YtaogikhpglcmjaaGreatDoor

namespace Go.Proofs.YtaogikhpglcmjaaGreatDoor
open Go.RowKit
set_option linter.unusedVariables false

theorem dirAt_some {d : List EntT} {s : List UInt8} {k : Nat} (h : dirAt d s = some k) : ∃ e, d[k]? = some e ∧ aliB (toB e.2.2.1) s = true := by
  obtain ⟨hk, h1, _⟩ := List.findIdx?_eq_some_iff_getElem.1 h
  exact ⟨d[k], List.getElem?_eq_getElem hk, h1⟩
theorem dirAt_none {d : List EntT} {s : List UInt8} (h : dirAt d s = none) : ∀ e ∈ d, aliB (toB e.2.2.1) s = false := by
  intro e he
  have := List.findIdx?_eq_none_iff.1 h e he
  simpa using this
theorem aliB_ok {a b : List UInt8} (h : aliB a b = true) : (keyR b).2 = true := by
  simp only [aliB, Bool.and_eq_true] at h
  exact h.1.2
theorem addD_R {d : List EntT} (h : DirR d) (s : ByteArray) (id : Int) : DirR (addD d s id).1 := by
  rw [addD]
  split
  · rename_i hc
    simp only [Bool.and_eq_true, Option.isNone_iff_eq_none, decide_eq_true_eq] at hc
    obtain ⟨⟨⟨c1, c2⟩, c3⟩, c4⟩ := hc
    have hi := idxN_le d (hashN (toB s))
    have hk := (idxN_ok (hashN (toB s)) d.length d rfl h.sorted).1
    refine insD_R h ?_ (fun x hx => hk x hx) (fun x hx => ?_) c4
    · simp only [entB1, Bool.and_eq_true, beq_self_eq_true, and_true]
      refine ⟨⟨by rw [keyR_yes c1], inB_iff.2 ⟨by omega, by omega⟩⟩, c3⟩
    · rw [aliB_symm]; exact dirAt_none c2 x hx
  · exact h
theorem dropD_R {d : List EntT} (h : DirR d) (s : ByteArray) : DirR (dropD d s).1 := by
  rw [dropD]
  split
  · exact h
  · exact h.sub (List.eraseIdx_sublist _ _)
/-- An entry spelled anew, with another id. -/
theorem set_R {d : List EntT} (h : DirR d) {k : Nat} {e : EntT} (he : d[k]? = some e) {s : ByteArray} {id : Int} (ha : aliB (toB e.2.2.1) (toB s) = true) (hid : inB id 1 100000 = true) : DirR (d.set k (e.1, e.2.1, s, id)) := by
  have hem := List.mem_of_getElem? he
  have hk := (List.getElem?_eq_some_iff.1 he).1
  have h1 := h.one e hem
  simp only [entB1, Bool.and_eq_true, beq_iff_eq] at h1
  refine ⟨by rw [List.length_set]; exact h.len, fun x hx => ?_, ?_, ?_⟩
  · rcases List.mem_or_eq_of_mem_set hx with h2 | rfl
    · exact h.one x h2
    · simp only [entB1, Bool.and_eq_true, beq_iff_eq]
      exact ⟨⟨⟨aliB_ok ha, by rw [h1.1.1.2]; exact aliB_hash ha⟩, h1.1.2⟩, hid⟩
  · rw [List.pairwise_iff_getElem]
    intro i j hi hj hij
    rw [List.length_set] at hi hj
    have h3 := List.pairwise_iff_getElem.1 h.sorted i j hi hj hij
    rw [List.getElem_set, List.getElem_set]
    obtain ⟨_, hke⟩ := List.getElem?_eq_some_iff.1 he
    split <;> split
    · omega
    · rename_i hki _
      subst hki
      rw [hke] at h3; exact h3
    · rename_i _ hkj
      subst hkj
      rw [hke] at h3; exact h3
    · exact h3
  · rw [List.pairwise_iff_getElem]
    intro i j hi hj hij
    rw [List.length_set] at hi hj
    have h3 := List.pairwise_iff_getElem.1 h.once i j hi hj hij
    rw [List.getElem_set, List.getElem_set]
    obtain ⟨_, hke⟩ := List.getElem?_eq_some_iff.1 he
    split <;> split
    · omega
    · rename_i hki _
      subst hki
      rw [hke] at h3
      rw [← Bool.not_eq_true] at h3 ⊢
      exact fun h4 => h3 (aliB_trans ha h4)
    · rename_i _ hkj
      subst hkj
      rw [hke] at h3
      rw [← Bool.not_eq_true] at h3 ⊢
      exact fun h4 => h3 (aliB_trans h4 (by rw [aliB_symm]; exact ha))
    · exact h3
theorem respD_eq {d : List EntT} {s : ByteArray} {id : Int} {k : Nat} {e : EntT} (h : dirAt d (toB s) = some k) (he : d[k]? = some e) (hid : inB id 1 100000 = true) : respD d s id = (d.set k (e.1, e.2.1, s, id), true) := by
  rw [respD, h]
  simp only [hid, if_true, he]
theorem respD_R {d : List EntT} (h : DirR d) (s : ByteArray) (id : Int) : DirR (respD d s id).1 := by
  cases hk : dirAt d (toB s) with
  | none => rw [respD, hk]; exact h
  | some k =>
    obtain ⟨e, he, ha⟩ := dirAt_some hk
    by_cases hid : inB id 1 100000 = true
    · rw [respD_eq hk he hid]; exact set_R h he ha hid
    · rw [respD, hk]; simp only [hid]; exact h
end Go.Proofs.YtaogikhpglcmjaaGreatDoor

namespace Go.Proofs.YtaogikhpglcmjaaGreatDoor
open Go.RowKit
set_option linter.unusedVariables false

/-- The place of an inode. -/
def atN (l : List Nod) (id : Int) : Option Nat := l.findIdx? fun x => x.1 == id
def atZ (l : List Nod) (id : Int) : Int := match atN l id with
  | some k => (k : Int)
  | none => -1
theorem atN_some {l : List Nod} {id : Int} {k : Nat} (h : atN l id = some k) : ∃ x, l[k]? = some x ∧ x.1 = id := by
  obtain ⟨hk, h1, _⟩ := List.findIdx?_eq_some_iff_getElem.1 h
  exact ⟨l[k], List.getElem?_eq_getElem hk, by simpa using h1⟩
theorem atN_lt {l : List Nod} {id : Int} {k : Nat} (h : atN l id = some k) : k < l.length := by
  obtain ⟨x, hx, _⟩ := atN_some h
  exact (List.getElem?_eq_some_iff.1 hx).1
theorem atN_none {l : List Nod} {id : Int} (h : atN l id = none) : ∀ x ∈ l, x.1 ≠ id := by
  intro x hx he
  have := List.findIdx?_eq_none_iff.1 h x hx
  simp [he] at this
/-- How many of the entries have an id. -/
def entsN (es : List EntT) (id : Int) : Nat := es.countP fun e => e.2.2.2 == id
def namedN (l : List Nod) (id : Int) : Nat := l.foldl (fun n x => n + entsN x.2.2.2.2 id) 0
theorem entsN_take {es : List EntT} {k : Nat} {e : EntT} (h : es[k]? = some e) (id : Int) : entsN (es.take (k + 1)) id = entsN (es.take k) id + (if e.2.2.2 = id then 1 else 0) := by
  have ht : es.take (k + 1) = es.take k ++ [e] := by rw [List.take_add_one, h]; rfl
  rw [ht, entsN, entsN, List.countP_append, List.countP_singleton]
  congr 1
  by_cases h1 : e.2.2.2 = id <;> simp [h1]
theorem namedN_take {l : List Nod} {k : Nat} {x : Nod} (h : l[k]? = some x) (id : Int) : namedN (l.take (k + 1)) id = namedN (l.take k) id + entsN x.2.2.2.2 id := by
  have ht : l.take (k + 1) = l.take k ++ [x] := by rw [List.take_add_one, h]; rfl
  rw [ht, namedN, namedN, List.foldl_append]; rfl
/-- An inode of a volume is right by itself. -/
def nodOk (l : List Nod) (x : Nod) : Bool :=
  if x.2.1 = 1 then decide (x.2.2.2.2.length = 0) && decide (x.2.2.2.1.size ≤ 20) && decide (x.2.2.1 = (namedN l x.1 : Int))
  else decide (x.2.1 = 2) && decide (x.2.2.2.1.size = 0) && decide (x.2.2.1 = 1) && dirB x.2.2.2.2 && (decide (x.1 = 1) || decide (namedN l x.1 = 1)) && x.2.2.2.2.all fun e => !decide (e.2.2.2 = 1) && (atN l e.2.2.2).isSome
/-- .. and stands behind those ahead of it. -/
def nodAt (next : Int) (l : List Nod) (k : Nat) (x : Nod) : Bool :=
  inB x.1 1 (next - 1) && (match k with
    | 0 => true
    | j + 1 => match l[j]? with
      | some p => decide (p.1 < x.1)
      | none => true) && nodOk l x
def nodsTo (next : Int) (l : List Nod) : Nat → Bool
  | 0 => true
  | k + 1 => nodsTo next l k && (match l[k]? with
    | none => true
    | some x => nodAt next l k x)
/-- The ids that stand in the directory of an id. -/
def kidsL (l : List Nod) (a : Int) : List Int := match atN l a with
  | none => []
  | some k => match l[k]? with
    | none => []
    | some x => x.2.2.2.2.map fun e => e.2.2.2
/-- The ids below a directory. -/
inductive Blw (l : List Nod) (a : Int) : Int → Prop
  | one {b : Int} : b ∈ kidsL l a → Blw l a b
  | more {b c : Int} : Blw l a b → c ∈ kidsL l b → Blw l a c
open Classical in
noncomputable def blwB (l : List Nod) (a b : Int) : Bool := decide (Blw l a b)
theorem blwB_iff {l : List Nod} {a b : Int} : blwB l a b = true ↔ Blw l a b := by
  classical
  exact decide_eq_true_iff
/-- A right volume. -/
def headOk (next : Int) (l : List Nod) : Bool := inB next 2 100000 && inB (l.length : Int) 1 16 && (match l[0]? with
  | some x => decide (x.1 = 1) && decide (x.2.1 = 2)
  | none => false)
noncomputable def volB (next : Int) (l : List Nod) : Bool := headOk next l && nodsTo next l l.length && (l.drop 1).all fun x => blwB l 1 x.1
theorem nodsTo_le {next : Int} {l : List Nod} {i k : Nat} (h : nodsTo next l k = true) (hi : i ≤ k) : nodsTo next l i = true := by
  induction k with
  | zero => obtain rfl : i = 0 := by omega
            exact h
  | succ k ih =>
    rcases Nat.lt_or_eq_of_le hi with h1 | h1
    · rw [nodsTo, Bool.and_eq_true] at h
      exact ih h.1 (by omega)
    · rw [h1]; exact h
theorem nodsTo_at {next : Int} {l : List Nod} {i : Nat} {x : Nod} (h : nodsTo next l l.length = true) (he : l[i]? = some x) : nodAt next l i x = true := by
  have hi := (List.getElem?_eq_some_iff.1 he).1
  have h1 := nodsTo_le h (show i + 1 ≤ l.length by omega)
  rw [nodsTo, he, Bool.and_eq_true] at h1
  exact h1.2
theorem nodsTo_not {next : Int} {l : List Nod} {i : Nat} {x : Nod} (he : l[i]? = some x) (h : nodAt next l i x = false) : nodsTo next l l.length = false := by
  cases hh : nodsTo next l l.length with
  | false => rfl
  | true => rw [nodsTo_at hh he] at h; cases h
/-- Ids ascend. -/
theorem nodsTo_sorted {next : Int} {l : List Nod} (h : nodsTo next l l.length = true) : l.Pairwise fun a b => a.1 < b.1 := by
  rw [List.pairwise_iff_getElem]
  have hstep : ∀ i (hi : i + 1 < l.length), (l[i]).1 < (l[i + 1]).1 := by
    intro i hi
    have h1 := nodsTo_at h (List.getElem?_eq_getElem hi)
    simp only [nodAt, List.getElem?_eq_getElem (show i < l.length by omega), Bool.and_eq_true, decide_eq_true_eq] at h1
    exact h1.1.2
  intro i j hi hj hij
  induction j with
  | zero => omega
  | succ j ih =>
    rcases Nat.lt_or_eq_of_le (Nat.le_of_lt_succ hij) with h1 | h1
    · exact Int.lt_trans (ih (by omega) h1) (hstep j hj)
    · subst h1; exact hstep i hj
theorem nodup_at {l : List Nod} (h : l.Pairwise fun a b => a.1 < b.1) {k : Nat} {x : Nod} (hx : l[k]? = some x) : atN l x.1 = some k := by
  obtain ⟨hk, he⟩ := List.getElem?_eq_some_iff.1 hx
  refine List.findIdx?_eq_some_iff_getElem.2 ⟨hk, by rw [he]; simp, fun j hj => ?_⟩
  have := List.pairwise_iff_getElem.1 h j k (by omega) hk hj
  rw [he] at this
  simp only [beq_iff_eq]
  omega
end Go.Proofs.YtaogikhpglcmjaaGreatDoor

namespace Go.Proofs.YtaogikhpglcmjaaGreatDoor
open Go.RowKit
set_option linter.unusedVariables false

def keyB (e : EntT) : ByteArray := ofB (keyR (toB e.2.2.1)).1
def keysE (d : List EntT) : List ByteArray := d.map keyB
theorem keysE_take {d : List EntT} {k : Nat} {e : EntT} (h : d[k]? = some e) : keysE (d.take (k + 1)) = keysE (d.take k) ++ [keyB e] := by
  rw [keysE, keysE, List.take_add_one, h, List.map_append]; rfl
theorem keysE_len (d : List EntT) : (keysE d).length = d.length := by rw [keysE, List.length_map]
theorem ent2_no1 {d : List EntT} {e : EntT} (h : (keyR (toB e.2.2.1)).2 = false) : entB2 d e = false := by simp [entB2, entB1, h]
theorem ent2_no2 {d : List EntT} {e : EntT} (h : e.1 ≠ hashN (toB e.2.2.1)) : entB2 d e = false := by
  have : (e.1 == hashN (toB e.2.2.1)) = false := by simpa using h
  simp [entB2, entB1, this]
theorem ent2_no3 {d : List EntT} {e : EntT} (h : ∃ p ∈ d, aliB (toB p.2.2.1) (toB e.2.2.1) = true) : entB2 d e = false := by
  obtain ⟨p, hp, ha⟩ := h
  have : (d.all fun p => !aliB (toB p.2.2.1) (toB e.2.2.1)) = false := by
    rw [List.all_eq_false]
    exact ⟨p, hp, by simp [ha]⟩
  simp only [entB2, this, Bool.and_false]
theorem ent2_no4 {d : List EntT} {e : EntT} (h : inB e.2.1 0 12 = false) : entB2 d e = false := by simp [entB2, entB1, h]
theorem ent2_no5 {d : List EntT} {e : EntT} (h : inB e.2.2.2 1 100000 = false) : entB2 d e = false := by simp [entB2, entB1, h]
theorem ent2_no6 {d : List EntT} {k : Nat} {p e : EntT} (hp : d[k]? = some p) (h : lesB p e.1 e.2.1 = false) : entB2 (d.take (k + 1)) e = false := by
  have : (d.take (k + 1)).getLast? = some p := by rw [List.take_add_one, hp]; simp
  simp [entB2, this, h]
theorem ent2_yes {d : List EntT} {e : EntT} (h1 : (keyR (toB e.2.2.1)).2 = true) (h2 : e.1 = hashN (toB e.2.2.1)) (h3 : ∀ p ∈ d, aliB (toB p.2.2.1) (toB e.2.2.1) = false) (h4 : inB e.2.1 0 12 = true) (h5 : inB e.2.2.2 1 100000 = true)
    (h6 : ∀ p, d.getLast? = some p → lesB p e.1 e.2.1 = true) : entB2 d e = true := by
  have ha : (d.all fun p => !aliB (toB p.2.2.1) (toB e.2.2.1)) = true := by
    rw [List.all_eq_true]; intro p hp; simp [h3 p hp]
  have hh : (e.1 == hashN (toB e.2.2.1)) = true := by simpa using h2
  rw [entB2, Bool.and_eq_true, Bool.and_eq_true]
  refine ⟨⟨by simp only [entB1, h1, hh, h4, h5, Bool.and_true], ?_⟩, ha⟩
  cases hq : d.getLast? with
  | none => rfl
  | some p => exact h6 p hq
theorem last_take {d : List EntT} {k : Nat} {p : EntT} (hp : d[k]? = some p) : (d.take (k + 1)).getLast? = some p := by rw [List.take_add_one, hp]; simp
theorem dirB_no {d : List EntT} {k : Nat} {e : EntT} (he : d[k]? = some e) (h : entB2 (d.take k) e = false) : dirB d = false := by
  cases hq : dirTo d d.length with
  | false => rw [dirB, hq, Bool.and_false]
  | true => rw [dirTo_at hq he] at h; cases h
theorem dirTo_succ {d : List EntT} {k : Nat} {e : EntT} (he : d[k]? = some e) (h0 : dirTo d k = true) (h : entB2 (d.take k) e = true) : dirTo d (k + 1) = true := by
  rw [dirTo, he, h0, Bool.true_and]; exact h
theorem dirB_yes {d : List EntT} (h1 : d.length ≤ 12) (h : dirTo d d.length = true) : dirB d = true := by rw [dirB, h]; simpa using h1
theorem dirB_long {d : List EntT} (h1 : 12 < d.length) : dirB d = false := by
  have : decide (d.length ≤ 12) = false := decide_eq_false (by omega)
  rw [dirB, this, Bool.false_and]
theorem dirTo_names {d : List EntT} {k : Nat} (hk : k ≤ d.length) (h : dirTo d k = true) : ∀ p ∈ d.take k, (keyR (toB p.2.2.1)).2 = true := by
  intro p hp
  have := (dirTo_R k hk h).1 p hp
  simp only [entB1, Bool.and_eq_true] at this
  exact this.1.1.1
/-- Is a key among those ahead? -/
theorem keys_yes {d : List EntT} {e : EntT} (hd : ∀ p ∈ d, (keyR (toB p.2.2.1)).2 = true) (h1 : (keyR (toB e.2.2.1)).2 = true) (h : keyB e ∈ keysE d) : ∃ p ∈ d, aliB (toB p.2.2.1) (toB e.2.2.1) = true := by
  obtain ⟨p, hp, he⟩ := List.mem_map.1 h
  exact ⟨p, hp, by
    simp only [aliB, Bool.and_eq_true, decide_eq_true_eq]
    exact ⟨⟨hd p hp, h1⟩, ofB_inj he⟩⟩
theorem keys_no {d : List EntT} {e : EntT} (h : keyB e ∉ keysE d) : ∀ p ∈ d, aliB (toB p.2.2.1) (toB e.2.2.1) = false := by
  intro p hp
  cases ha : aliB (toB p.2.2.1) (toB e.2.2.1) with
  | false => rfl
  | true =>
    simp only [aliB, Bool.and_eq_true, decide_eq_true_eq] at ha
    exact absurd (List.mem_map.2 ⟨p, hp, by rw [keyB, keyB, ha.2]⟩) h
theorem hashN_of {s : List UInt8} (h : (keyR s).2 = true) : hashN s = crcZ (keyR s).1 % 16 := by rw [hashN, if_pos h]
end Go.Proofs.YtaogikhpglcmjaaGreatDoor
