/-
What is made is found by each spelling, and taken away it is gone. No program in sight.
-/
import Derived.Test.YtllonpbhgbhogaaGreatDoorGg
namespace Go.Proofs.YtllonpbhgbhogaaGreatDoor
open Go.RowKit
set_option linter.unusedVariables false
theorem name_keyM {s : List UInt8} (h : nameB s = true) : (keyR s).2 = true := by rw [keyR_yes h]
theorem key_nameM {s : List UInt8} (h : (keyR s).2 = true) : nameB s = true := by
 cases hn : nameB s with
 | true => rfl
 | false => rw [keyR_no hn] at h; cases h
theorem aliB_self {s : List UInt8} (h : nameB s = true) : aliB s s = true := by simp [aliB, name_keyM h]
theorem aliB_same {a b c : List UInt8} (h : aliB a b = true) : aliB c a = aliB c b := by
 cases h1 : aliB c a with
 | true => exact (aliB_trans h1 h).symm
 | false =>
   cases h2 : aliB c b with
   | false => rfl
   | true => rw [aliB_trans h2 (by rw [aliB_symm]; exact h)] at h1; cases h1
theorem dirAt_same {d : List EntT} {a b : List UInt8} (h : aliB a b = true) : dirAt d a = dirAt d b := by
 unfold dirAt
 congr 1
 funext e
 exact aliB_same h
theorem lookD_same {d : List EntT} {a b : ByteArray} (h : aliB (toB a) (toB b) = true) : lookD d a = lookD d b := by rw [lookD, lookD, dirAt_same h]
theorem dirAt_ins {d : List EntT} {e : EntT} {s : List UInt8} (hn : dirAt d s = none) (he : aliB (toB e.2.2.1) s = true) : dirAt (insD d e) s = some (d.takeWhile fun x => lesB x e.1 e.2.1).length := by
 have h1 : (d.takeWhile fun x => lesB x e.1 e.2.1).findIdx? (fun e => aliB (toB e.2.2.1) s) = none := by
  rw [List.findIdx?_eq_none_iff];exact fun x hx => dirAt_none hn x ((List.takeWhile_sublist _).subset hx)
 rw [dirAt, insD, List.findIdx?_append, h1, List.findIdx?_cons, he]
 simp
theorem at_ins (d : List EntT) (e : EntT) : (insD d e)[(d.takeWhile fun x => lesB x e.1 e.2.1).length]? = some e := by
 rw [insD, List.getElem?_append_right (Nat.le_refl _)]; simp
theorem lookD_ins {d : List EntT} {e : EntT} {s : ByteArray} (hn : dirAt d (toB s) = none) (he : aliB (toB e.2.2.1) (toB s) = true) : lookD (insD d e) s = some e := by
 rw [lookD, dirAt_ins hn he, Option.bind_some, at_ins]
theorem dropD_ins {d : List EntT} {e : EntT} {s : ByteArray} (hn : dirAt d (toB s) = none) (he : aliB (toB e.2.2.1) (toB s) = true) : (dropD (insD d e) s).1 = d := by
 rw [dropD, dirAt_ins hn he];simp only [insD];rw [List.eraseIdx_append_of_length_le (Nat.le_refl _)];simp [List.takeWhile_append_dropWhile]
theorem lookD_none' {d : List EntT} {s : ByteArray} (h : dirAt d (toB s) = none) : lookD d s = none := by rw [lookD, h]; rfl
theorem begun_dir {l : List Nod} {c : CallT} {k : Nat} {y : Nod} (ha : atN l 1 = some k) (hy : l[k]? = some y) (hd : y.2.1 = 2) (hc : c.2.1 = 1) (ht : twoB c.1 = false) : begunP l c = if nameB (toB c.2.2.1) = true then 0 else 1 := by
 rw [begunP, hc, ht, if_neg (by decide), ha];simp only [kindOf_eq hy, hd, and_self, if_true, Bool.false_eq_true, false_implies, and_true]
theorem do_dir {next : Int} {l : List Nod} {c : CallT} {k : Nat} {y : Nod} (ha : atN l 1 = some k) (hy : l[k]? = some y) (hd : y.2.1 = 2) (hc : c.2.1 = 1) (ht : twoB c.1 = false) (hcb : callB c = true) (hn : nameB (toB c.2.2.1) = true) :
 volDoP next l c = if c.1 = 1 ∨ c.1 = 2 then makeP next l k c else onP next l k k c := by
 rw [volDoP, if_pos hcb, if_pos (by rw [begun_dir ha hy hd hc ht, if_pos hn]), hc, ht, if_neg (by decide), ha]
theorem call_dir {kd : Int} {s : ByteArray} (h1 : 1 ≤ kd) (h2 : kd ≤ 8) (h5 : twoB kd = false) : callB (kd, 1, s, 0, ⟨#[]⟩, ⟨#[]⟩) = decide (s.size ≤ 24) := by
 have h3 : inB kd 1 8 = true := inB_iff.2 ⟨h1, h2⟩;have h6 : inB 1 0 100000 = true := by decide
 have h7 : inB 0 0 100000 = true := by decide
 have h8 : ByteArray.size ⟨#[]⟩ = 0 := rfl;simp [callB, h3, h5, h6, h7, h8]
theorem toB_len24 {s : ByteArray} (h : nameB (toB s) = true) : s.size ≤ 24 := by
 have h1 := (nameB_len h).2
 rwa [toB_len] at h1
theorem call_ok {kd : Int} {s : ByteArray} (h1 : 1 ≤ kd) (h2 : kd ≤ 8) (h5 : twoB kd = false) (hn : nameB (toB s) = true) : callB (kd, 1, s, 0, ⟨#[]⟩, ⟨#[]⟩) = true := by
 rw [call_dir h1 h2 h5]; exact decide_eq_true (toB_len24 hn)
theorem root_at {next : Int} {l : List Nod} (h : VOk next l) : ∃ k y, atN l 1 = some k ∧ l[k]? = some y ∧ y.1 = 1 ∧ y.2.1 = 2 ∧ DirR y.2.2.2.2 := by
 obtain ⟨x, hx, h1, h2⟩ := h.toVW.root_mem;obtain ⟨k, hk⟩ := Option.isSome_iff_exists.1 (atN_is.2 ⟨x, hx, h1⟩);obtain ⟨y, hy, hy1⟩ := at_of hk;have he : y = x := srt_inj h.toVW.srt (List.mem_of_getElem? hy) hx (hy1.trans h1.symm);subst he;exact ⟨k, y, hk, hy, h1, h2, h.toVW.dir hy h2⟩
theorem look_hit {next : Int} {l : List Nod} {s : ByteArray} {k j : Nat} {y x : Nod} {e : EntT} (ha : atN l 1 = some k) (hy : l[k]? = some y) (hd : y.2.1 = 2) (hn : nameB (toB s) = true) (he : lookD y.2.2.2.2 s = some e) (hj : atN l e.2.2.2 = some j) (hx : l[j]? = some x) :
 volDoP next l (8, 1, s, 0, ⟨#[]⟩, ⟨#[]⟩) = ((next, l), (0, x.1, e.2.2.1, x.2.2.2.1)) := by
 rw [do_dir (c := (8, 1, s, 0, ⟨#[]⟩, ⟨#[]⟩)) ha hy hd rfl (show twoB 8 = false by decide) (call_ok (by omega) (by omega) (by decide) hn) hn, if_neg (show ¬ ((8 : Int) = 1 ∨ (8 : Int) = 2) by omega), onP];simp only [entsOf_eq hy, he, hj, hx]
 simp
theorem look_miss {next : Int} {l : List Nod} {s : ByteArray} {k : Nat} {y : Nod} (ha : atN l 1 = some k) (hy : l[k]? = some y) (hd : y.2.1 = 2) (hn : nameB (toB s) = true) (he : lookD y.2.2.2.2 s = none) :
 volDoP next l (8, 1, s, 0, ⟨#[]⟩, ⟨#[]⟩) = ((next, l), resC 2) := by
 rw [do_dir (c := (8, 1, s, 0, ⟨#[]⟩, ⟨#[]⟩)) ha hy hd rfl (show twoB 8 = false by decide) (call_ok (by omega) (by omega) (by decide) hn) hn, if_neg (show ¬ ((8 : Int) = 1 ∨ (8 : Int) = 2) by omega), onP];simp only [entsOf_eq hy, he]
theorem atN_map (l : List Nod) (i : Int) : atN l i = (l.map (·.1)).findIdx? fun x => x == i := by
 rw [atN, List.findIdx?_map]; rfl
theorem atN_set {l : List Nod} {k : Nat} {x y : Nod} (hx : l[k]? = some x) (h : y.1 = x.1) (i : Int) : atN (l.set k y) i = atN l i := by rw [atN_map, atN_map, set_ids hx h]
theorem atN_appM {l : List Nod} {z : Nod} {i : Int} {k : Nat} (h : atN l i = some k) : atN (l ++ [z]) i = some k := by
 rw [atN] at h ⊢;rw [List.findIdx?_append, h]; rfl
theorem atN_new {l : List Nod} {z : Nod} (h : ∀ x ∈ l, x.1 < z.1) : atN (l ++ [z]) z.1 = some l.length := by
 have h1 : l.findIdx? (fun x => x.1 == z.1) = none := by
  rw [List.findIdx?_eq_none_iff];exact fun x hx => by have := h x hx; simp; omega
 rw [atN, List.findIdx?_append, h1, List.findIdx?_cons]
 simp
set_option maxHeartbeats 1000000 in
theorem made {next : Int} {l : List Nod} {kd : Int} {a : ByteArray} (hV : VOk next l) (hk : kd = 1 ∨ kd = 2) (h0 : (volDoP next l (kd, 1, a, 0, ⟨#[]⟩, ⟨#[]⟩)).2.1 = 0) :
 nameB (toB a) = true ∧ ∃ l' : List Nod, volDoP next l (kd, 1, a, 0, ⟨#[]⟩, ⟨#[]⟩) = ((next + 1, l'), (0, next, ⟨#[]⟩, ⟨#[]⟩)) ∧
  (∀ s : ByteArray, aliB (toB a) (toB s) = true → volDoP (next + 1) l' (8, 1, s, 0, ⟨#[]⟩, ⟨#[]⟩) = ((next + 1, l'), (0, next, a, ⟨#[]⟩)) ∧ (volDoP (next + 1) l' (1, 1, s, 0, ⟨#[]⟩, ⟨#[]⟩)).2.1 = 3) ∧
  volDoP (next + 1) l' (kd + 2, 1, a, 0, ⟨#[]⟩, ⟨#[]⟩) = ((next + 1, l), resC 0) ∧ volDoP (next + 1) l (8, 1, a, 0, ⟨#[]⟩, ⟨#[]⟩) = ((next + 1, l), resC 2) := by
 obtain ⟨k, y, hat, hy, hy1, hd, hR⟩ := root_at hV;have hkl : k < l.length := (List.getElem?_eq_some_iff.1 hy).1;have h5 : twoB kd = false := by rcases hk with rfl | rfl <;> rfl
 have hkb : 1 ≤ kd ∧ kd ≤ 2 := by omega
 have hcb : callB (kd, 1, a, 0, ⟨#[]⟩, ⟨#[]⟩) = true := by
  cases h : callB (kd, 1, a, 0, ⟨#[]⟩, ⟨#[]⟩) with
  | true => rfl
  | false => rw [volDoP, if_neg (by rw [h]; decide)] at h0; exact absurd h0 (by simp [resC])
 have hn : nameB (toB a) = true := by
  cases h : nameB (toB a) with
  | true => rfl
  | false =>
    have hb : begunP l (kd, 1, a, 0, ⟨#[]⟩, ⟨#[]⟩) = 1 := by rw [begun_dir hat hy hd rfl h5, if_neg (by simp [h])]
    rw [volDoP, if_pos hcb, if_neg (by rw [hb]; decide), hb] at h0;exact absurd h0 (by simp [resC])
 have hm := do_dir (next := next) hat hy hd (c := (kd, 1, a, 0, ⟨#[]⟩, ⟨#[]⟩)) rfl h5 hcb hn;rw [if_pos hk, makeP, entsOf_eq hy] at hm;simp only at hm
 cases hda : dirAt y.2.2.2.2 (toB a) with
 | some j => rw [hda, if_pos Option.isSome_some] at hm; rw [hm] at h0; exact absurd h0 (by simp [resC])
 | none =>
   rw [hda, if_neg (by simp)] at hm
   by_cases hfull : 12 ≤ y.2.2.2.2.length ∨ 16 ≤ l.length ∨ 100000 ≤ next
   ·rw [if_pos hfull] at hm; rw [hm] at h0; exact absurd h0 (by simp [resC])
   ·rw [if_neg hfull] at hm
    have hid : inB next 1 100000 = true := inB_iff.2 (by have := hV.lo; omega);have hadd : (addD y.2.2.2.2 a next).1 = insD y.2.2.2.2 (hashN (toB a), (idxN y.2.2.2.2 (hashN (toB a)) : Int), a, next) := by
     rw [addD, if_pos (by simp [hn, hda, hid]; omega)]
    obtain ⟨en, hen⟩ : ∃ z : EntT, z = (hashN (toB a), (idxN y.2.2.2.2 (hashN (toB a)) : Int), a, next) := ⟨_, rfl⟩;rw [← hen] at hadd;have e3 : en.2.2.2 = next := by rw [hen]
    have e2 : en.2.2.1 = a := by rw [hen]
    have hself : aliB (toB en.2.2.1) (toB a) = true := by rw [e2]; exact aliB_self hn
    rw [hadd, nEnts_eq hy] at hm;obtain ⟨kz, hkz⟩ : ∃ z : Int, z = if kd = 2 then 2 else 1 := ⟨_, rfl⟩;rw [← hkz] at hm;obtain ⟨y', hy'⟩ : ∃ z : Nod, z = (y.1, y.2.1, y.2.2.1, y.2.2.2.1, insD y.2.2.2.2 en) := ⟨_, rfl⟩;rw [← hy'] at hm;have hyl : (l.set k y' ++ [((next, kz, 1, ⟨#[]⟩, []) : Nod)])[k]? = some y' := by
     rw [List.getElem?_append_left (by simpa using hkl)]; simp [hkl]
    have hzl : (l.set k y' ++ [((next, kz, 1, ⟨#[]⟩, []) : Nod)])[l.length]? = some (next, kz, 1, ⟨#[]⟩, []) := by
     rw [List.getElem?_append_right (by simp)]; simp
    have ha1 : atN (l.set k y' ++ [((next, kz, 1, ⟨#[]⟩, []) : Nod)]) 1 = some k := atN_appM (by rw [atN_set hy (by rw [hy'])]; exact hat);have hlt : ∀ x ∈ l.set k y', x.1 < next := fun x hx => by
     rcases List.mem_or_eq_of_mem_set hx with h | h
     ·exact (hV.rng x h).2
     ·rw [h, hy']; exact (hV.rng y (List.mem_of_getElem? hy)).2
    have ha2 : atN (l.set k y' ++ [((next, kz, 1, ⟨#[]⟩, []) : Nod)]) next = some l.length := by
     have h9 := atN_new (l := l.set k y') (z := (next, kz, 1, ⟨#[]⟩, [])) hlt
     rwa [List.length_set] at h9
    have hd' : y'.2.1 = 2 := by rw [hy']; exact hd
    have he' : y'.2.2.2.2 = insD y.2.2.2.2 en := by rw [hy']
    refine ⟨hn, _, hm, fun s hs => ⟨?_, ?_⟩, ?_, look_miss hat hy hd hn (lookD_none' hda)⟩
    ·have hns : nameB (toB s) = true := key_nameM (aliB_ok hs)
     have hl1 : lookD y'.2.2.2.2 s = some en := by rw [he', ← lookD_same hs]; exact lookD_ins hda hself
     rw [look_hit ha1 hyl hd' hns hl1 (by rw [e3]; exact ha2) hzl, e2]
    ·have hns : nameB (toB s) = true := key_nameM (aliB_ok hs)
     rw [do_dir (c := (1, 1, s, 0, ⟨#[]⟩, ⟨#[]⟩)) ha1 hyl hd' rfl (show twoB 1 = false by decide) (call_ok (by omega) (by omega) (by decide) hns) hns, if_pos (.inl rfl), makeP, entsOf_eq hyl, he', if_pos]
     ·rfl
     ·show (dirAt (insD y.2.2.2.2 en) (toB s)).isSome = true
      rw [← dirAt_same hs, dirAt_ins hda hself]; rfl
    ·have hk5 : twoB (kd + 2) = false := by rcases hk with rfl | rfl <;> rfl
     rw [do_dir (c := (kd + 2, 1, a, 0, ⟨#[]⟩, ⟨#[]⟩)) ha1 hyl hd' rfl hk5 (call_ok (by omega) (by omega) hk5 hn) hn, if_neg (by show ¬ (kd + 2 = 1 ∨ kd + 2 = 2); omega), onP];have hl1 : lookD y'.2.2.2.2 a = some en := by rw [he']; exact lookD_ins hda hself
     simp only [entsOf_eq hyl, hl1, e3, ha2, hzl];have hn1 : ¬ ((kd + 2 = 3 ∨ kd + 2 = 7) ∧ kz = 2) := by rw [hkz]; rcases hk with rfl | rfl <;> simp
     have hn2 : ¬ (kd + 2 = 4 ∧ kz ≠ 2) := by rw [hkz]; rcases hk with rfl | rfl <;> simp
     rw [if_neg hn1, if_neg hn2, if_neg (by simp), if_pos (by omega), he', dropD_ins hda hself, nEnts_eq hyl];have hset : (l.set k y' ++ [((next, kz, 1, ⟨#[]⟩, []) : Nod)]).set k (y'.1, y'.2.1, y'.2.2.1, y'.2.2.2.1, y.2.2.2.2) = l ++ [((next, kz, 1, ⟨#[]⟩, []) : Nod)] := by
      have hyy : (y'.1, y'.2.1, y'.2.2.1, y'.2.2.2.1, y.2.2.2.2) = y := by rw [hy']
      rw [hyy, List.set_append_left _ _ (by simpa using hkl), List.set_set]
      congr 1
      exact List.ext_getElem? fun i => by
       rw [List.getElem?_set]
       split
       ·rename_i hik; subst hik; exact hy.symm
       ·rfl
     have ha3 : atN (l ++ [((next, kz, 1, ⟨#[]⟩, []) : Nod)]) next = some l.length := atN_new (z := (next, kz, 1, ⟨#[]⟩, [])) fun x hx => (hV.rng x hx).2;have hz3 : (l ++ [((next, kz, 1, ⟨#[]⟩, []) : Nod)])[l.length]? = some (next, kz, 1, ⟨#[]⟩, []) := by simp
     rw [hset, nLess, ha3];simp only [hz3, if_true];rw [List.eraseIdx_append_of_length_le (Nat.le_refl _)]
     simp
end Go.Proofs.YtllonpbhgbhogaaGreatDoor
