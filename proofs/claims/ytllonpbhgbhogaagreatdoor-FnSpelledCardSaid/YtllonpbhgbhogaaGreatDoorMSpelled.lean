/-
What is renamed. No program in sight.
-/
import Derived.Test.YtllonpbhgbhogaaGreatDoorMMade
namespace Go.Proofs.YtllonpbhgbhogaaGreatDoor
open Go.RowKit
set_option linter.unusedVariables false
theorem once_at {d : List EntT} (h : DirR d) {i k : Nat} {z e : EntT} (hi : d[i]? = some z) (hk : d[k]? = some e) (hne : i ≠ k) : aliB (toB z.2.2.1) (toB e.2.2.1) = false := by
 obtain ⟨hi1, hi2⟩ := List.getElem?_eq_some_iff.1 hi;obtain ⟨hk1, hk2⟩ := List.getElem?_eq_some_iff.1 hk
 rcases Nat.lt_or_gt_of_ne hne with h1 | h1
 ·have := List.pairwise_iff_getElem.1 h.once i k hi1 hk1 h1
  rwa [hi2, hk2] at this
 ·have := List.pairwise_iff_getElem.1 h.once k i hk1 hi1 h1
  rw [hi2, hk2, aliB_symm] at this;exact this
theorem look_uniq {d : List EntT} {e : EntT} {s : ByteArray} (h : DirR d) (he : e ∈ d) (ha : aliB (toB e.2.2.1) (toB s) = true) : lookD d s = some e := by
 cases hd : dirAt d (toB s) with
 | none => rw [dirAt_none hd e he] at ha; cases ha
 | some i =>
   obtain ⟨e', h1, h2⟩ := dirAt_some hd;obtain ⟨k, hk⟩ := List.getElem?_of_mem he;rw [lookD, hd, Option.bind_some, h1]
   by_cases hik : i = k
   ·rw [hik, hk] at h1; rw [h1]
   ·have h3 := once_at h h1 hk hik
    rw [aliB_trans h2 (by rw [aliB_symm]; exact ha)] at h3
    cases h3
theorem lookD_ali {d : List EntT} {e : EntT} {s : ByteArray} (h : lookD d s = some e) : aliB (toB e.2.2.1) (toB s) = true := by
 obtain ⟨k, h1, h2⟩ := look_at h;obtain ⟨e', h3, h4⟩ := dirAt_some h1;rw [h2] at h3; injection h3 with h3; rw [h3]; exact h4
theorem drop_none {d : List EntT} {a : ByteArray} {e : EntT} (h : DirR d) (hl : lookD d a = some e) : dirAt (dropD d a).1 (toB a) = none := by
 obtain ⟨k, h1, h2⟩ := look_at hl;have ha := lookD_ali hl;rw [dropD, h1];refine none_of fun z hz => ?_;obtain ⟨i, hik, hi⟩ := List.mem_eraseIdx_iff_getElem?.1 hz
 cases hza : aliB (toB z.2.2.1) (toB a) with
 | false => rfl
 | true =>
   have h3 := once_at h hi h2 hik;rw [aliB_trans hza (by rw [aliB_symm]; exact ha)] at h3
   cases h3
theorem drop_other {d : List EntT} {a b : ByteArray} {e e2 : EntT} (h : DirR d) (hl : lookD d a = some e) (hb : lookD d b = some e2) (hab : aliB (toB a) (toB b) = false) : lookD (dropD d a).1 b = some e2 := by
 refine look_uniq (dropD_R h a) ?_ (lookD_ali hb);obtain ⟨k, h1, h2⟩ := look_at hl;obtain ⟨i, h3, h4⟩ := look_at hb;rw [dropD, h1];refine List.mem_eraseIdx_iff_getElem?.2 ⟨i, fun hik => ?_, h4⟩;rw [hik, h2] at h4;injection h4 with h4;have h5 := lookD_ali hl;have h6 := lookD_ali hb;rw [← h4] at h6;rw [aliB_trans (by rw [aliB_symm]; exact h5) h6] at hab
 cases hab
theorem look_resp {d : List EntT} {s : ByteArray} {id : Int} {e : EntT} (h : DirR d) (hl : lookD d s = some e) (hn : nameB (toB s) = true) (hid : inB id 1 100000 = true) : lookD (respD d s id).1 s = some (e.1, e.2.1, s, id) := by
 refine look_uniq (respD_R h s id) ?_ (aliB_self hn);obtain ⟨k, h1, h2⟩ := look_at hl;rw [respD_eq h1 h2 hid];exact List.mem_of_getElem? (i := k) (by rw [List.getElem?_set_self (List.getElem?_eq_some_iff.1 h2).1])
theorem look_inV {next : Int} {l : List Nod} (hV : VOk next l) {y x : Nod} {s : ByteArray} {e : EntT} (hy : y ∈ l) (hy1 : y.1 = 1) (hn : nameB (toB s) = true) (he : lookD y.2.2.2.2 s = some e) (hx : x ∈ l) (hxe : x.1 = e.2.2.2) :
 volDoP next l (8, 1, s, 0, ⟨#[]⟩, ⟨#[]⟩) = ((next, l), (0, x.1, e.2.2.1, x.2.2.2.1)) := by
 obtain ⟨k, y', hat, hyk, h1, hd, hR⟩ := root_at hV;obtain rfl : y' = y := srt_inj hV.toVW.srt (List.mem_of_getElem? hyk) hy (h1.trans hy1.symm);obtain ⟨j, hj⟩ := Option.isSome_iff_exists.1 (atN_is.2 ⟨x, hx, hxe⟩);obtain ⟨x', hx', hxi⟩ := at_of hj;obtain rfl : x' = x := srt_inj hV.toVW.srt (List.mem_of_getElem? hx') hx (hxi.trans hxe.symm);exact look_hit hat hyk hd hn he hj hx'
theorem look_inV_no {next : Int} {l : List Nod} (hV : VOk next l) {y : Nod} {s : ByteArray} (hy : y ∈ l) (hy1 : y.1 = 1) (hn : nameB (toB s) = true) (he : lookD y.2.2.2.2 s = none) :
 (volDoP next l (8, 1, s, 0, ⟨#[]⟩, ⟨#[]⟩)).2.1 = 2 := by
 obtain ⟨k, y', hat, hyk, h1, hd, hR⟩ := root_at hV;obtain rfl : y' = y := srt_inj hV.toVW.srt (List.mem_of_getElem? hyk) hy (h1.trans hy1.symm);rw [look_miss hat hyk hd hn he]; rfl
theorem less_keep {l : List Nod} {z : Nod} {i : Int} (hs : Srt l) (hz : z ∈ l) (hne : z.1 ≠ i) : z ∈ nLess l i := by
 rw [nLess]
 cases hat : atN l i with
 | none => exact hz
 | some k =>
   obtain ⟨x, hx, hxi⟩ := at_of hat;simp only [hx]
   split
   ·exact (erase_mem hs hx).2 ⟨hz, by rw [hxi]; exact hne⟩
   ·rw [nLinks, hx]
    exact (set_mem hs hx).2 (.inr ⟨hz, by rw [hxi]; exact hne⟩)
set_option maxHeartbeats 2000000 in
theorem spelled {next : Int} {l : List Nod} {a b : ByteArray} (hV : VOk next l) (h0 : (volDoP next l (6, 1, a, 1, b, ⟨#[]⟩)).2.1 = 0) :
 ∃ (l2 : List Nod) (id : Int) (na nb da db : ByteArray), volDoP next l (6, 1, a, 1, b, ⟨#[]⟩) = ((next, l2), resC 0) ∧ volDoP next l (8, 1, a, 0, ⟨#[]⟩, ⟨#[]⟩) = ((next, l), (0, id, na, da)) ∧
  volDoP next l2 (8, 1, b, 0, ⟨#[]⟩, ⟨#[]⟩) = ((next, l2), (0, id, nb, db)) ∧
  (aliB (toB a) (toB b) = true → nb = b ∧ volDoP next l2 (8, 1, a, 0, ⟨#[]⟩, ⟨#[]⟩) = ((next, l2), (0, id, nb, db)) ∧ l2.length = l.length) ∧
  (aliB (toB a) (toB b) = false → (volDoP next l2 (8, 1, a, 0, ⟨#[]⟩, ⟨#[]⟩)).2.1 = 2 ∨ l2 = l) := by
 obtain ⟨k, y, hat, hy, hy1, hd, hR⟩ := root_at hV;have hym := List.mem_of_getElem? hy;obtain ⟨c, hc⟩ : ∃ c : CallT, c = (6, 1, a, 1, b, ⟨#[]⟩) := ⟨_, rfl⟩;have hDV := do_V (c := c) hV;rw [← hc] at h0 ⊢;have hcb : callB c = true := by
  cases h : callB c with
  | true => rfl
  | false => rw [volDoP, if_neg (by rw [h]; decide)] at h0; exact absurd h0 (by simp [resC])
 have hbg : begunP l c = 0 := by
  cases Classical.em (begunP l c = 0) with
  | inl h => exact h
  | inr h => rw [volDoP, if_pos hcb, if_neg h] at h0; exact absurd h0 (by simp only [resC]; exact h)
 have c1 : c.2.1 = 1 := by rw [hc]
 have c2 : (if twoB c.1 = true then c.2.2.2.1 else 1) = 1 := by rw [hc]; rfl
 have hnm : nameB (toB a) = true ∧ nameB (toB b) = true := by
  rw [begunP, c1, c2, hat] at hbg;simp only [kindOf_eq hy, hd, and_self, if_true] at hbg;have h1 : nameB (toB c.2.2.1) = true ∧ (twoB c.1 = true → nameB (toB c.2.2.2.2.1) = true) := by
   cases Classical.em (nameB (toB c.2.2.1) = true ∧ (twoB c.1 = true → nameB (toB c.2.2.2.2.1) = true)) with
   | inl h => exact h
   | inr h => rw [if_neg h] at hbg; exact absurd hbg (by decide)
  rw [hc] at h1;exact ⟨h1.1, h1.2 rfl⟩
 have hm : volDoP next l c = onP next l k k c := by
  rw [volDoP, if_pos hcb, if_pos hbg, c1, c2, hat];simp only;rw [if_neg (by rw [hc]; simp)]
 rw [hm] at h0 hDV ⊢;rw [onP] at h0 hDV ⊢;have cn : c.2.2.1 = a := by rw [hc]
 have cb : c.2.2.2.2.1 = b := by rw [hc]
 have ct : c.2.2.2.1 = 1 := by rw [hc]
 have ck : c.1 = 6 := by rw [hc]
 simp only [cn, entsOf_eq hy, ck] at h0 hDV ⊢
 cases hla : lookD y.2.2.2.2 a with
 | none => rw [hla] at h0; exact absurd h0 (by simp [resC])
 | some e =>
   have hem := lookD_mem hla;obtain ⟨he1, x, hxm, hxe⟩ := hV.toVW.ent y hym e hem;obtain ⟨xi, hxi⟩ := Option.isSome_iff_exists.1 (atN_is.2 ⟨x, hxm, hxe⟩);obtain ⟨x', hx', hxi'⟩ := at_of hxi;obtain rfl : x' = x := srt_inj hV.toVW.srt (List.mem_of_getElem? hx') hxm (hxi'.trans hxe.symm);have hx1 : x'.1 ≠ 1 := by rw [hxe]; exact he1
   have hxid : inB x'.1 1 100000 = true := hV.toVW.inB_id hxm;have hwas := look_inV hV hym hy1 hnm.1 hla hxm hxe;simp only [hla, hxi, hx', show ¬ ((6 : Int) = 3) by omega, show ¬ ((6 : Int) = 7) by omega, show ¬ ((6 : Int) = 4) by omega, show ¬ ((6 : Int) = 5) by omega, or_self, false_and, if_false, if_true] at h0 hDV ⊢;rw [renP] at h0 hDV ⊢;simp only [cn, cb, c1, ct, entsOf_eq hy] at h0 hDV ⊢
   by_cases hloop : x'.2.1 = 2 ∧ (c.2.2.2.1 = x'.1 ∨ Blw l x'.1 c.2.2.2.1)
   ·rw [if_pos hloop] at h0; exact absurd h0 (by simp [resC])
   ·simp only [if_neg hloop] at h0 hDV ⊢
    have hset : ∀ (d : List EntT) (z : Nod), z ∈ l → z.1 ≠ 1 → z ∈ l.set k (y.1, y.2.1, y.2.2.1, y.2.2.2.1, d) := fun d z hz hz1 => (set_mem hV.toVW.srt hy).2 (.inr ⟨hz, by rw [hy1]; exact hz1⟩);have hin : ∀ d : List EntT, ((y.1, y.2.1, y.2.2.1, y.2.2.2.1, d) : Nod) ∈ l.set k (y.1, y.2.1, y.2.2.1, y.2.2.2.1, d) := fun d => (set_mem hV.toVW.srt hy).2 (.inl rfl)
    cases hlb : lookD y.2.2.2.2 b with
    | none =>
      simp only [hlb, show ¬ ((1 : Int) ≠ 1 ∧ 12 ≤ y.2.2.2.2.length) by simp, if_false] at h0 hDV ⊢;have hab : aliB (toB a) (toB b) = false := by
       cases h : aliB (toB a) (toB b) with
       | false => rfl
       | true => rw [lookD_same h, hlb] at hla; cases hla
      have hyk : (nEnts l k (dropD y.2.2.2.2 a).1)[k]? = some (y.1, y.2.1, y.2.2.1, y.2.2.2.1, (dropD y.2.2.2.2 a).1) := by
       rw [nEnts_eq hy, List.getElem?_set_self (List.getElem?_eq_some_iff.1 hy).1]
      have hl2 : nEnts (nEnts l k (dropD y.2.2.2.2 a).1) k (addD (entsOf (nEnts l k (dropD y.2.2.2.2 a).1) k) b x'.1).1 = l.set k (y.1, y.2.1, y.2.2.1, y.2.2.2.1, (addD (dropD y.2.2.2.2 a).1 b x'.1).1) := by
       rw [entsOf_eq hyk, nEnts_eq hyk, nEnts_eq hy, List.set_set]
      rw [hl2] at hDV ⊢;have hlen : (dropD y.2.2.2.2 a).1.length < 12 := by
       have h1 := (drop_ids hla).length_eq;have h2 := hR.len;simp only [idsE, List.length_map, List.length_cons] at h1;omega
      have hnb : dirAt (dropD y.2.2.2.2 a).1 (toB b) = none := none_of fun z hz => dirAt_none (lookD_none hlb) z ((drop_sub _ _).subset hz);have hadd : (addD (dropD y.2.2.2.2 a).1 b x'.1).1 = insD (dropD y.2.2.2.2 a).1 (hashN (toB b), (idxN (dropD y.2.2.2.2 a).1 (hashN (toB b)) : Int), b, x'.1) := by
       rw [addD, if_pos (by simp [hnm.2, hnb, hxid, hlen])]
      rw [hadd] at hDV ⊢;have hlk := lookD_ins (e := (hashN (toB b), (idxN (dropD y.2.2.2.2 a).1 (hashN (toB b)) : Int), b, x'.1)) hnb (aliB_self hnm.2);refine ⟨_, x'.1, _, _, _, _, rfl, hwas, look_inV hDV (hin _) hy1 hnm.2 hlk (hset _ x' hxm hx1) rfl, fun h => (by rw [h] at hab; cases hab), fun _ => .inl (look_inV_no hDV (hin _) hy1 hnm.1 (lookD_none' (none_of fun z hz => ?_)))⟩
      rcases List.mem_cons.1 ((insD_perm _ _).mem_iff.1 hz) with h | h
      ·rw [h, aliB_symm]; exact hab
      ·exact dirAt_none (drop_none hR hla) z h
    | some e2 =>
      simp only [hlb] at h0 hDV ⊢;have he2m := lookD_mem hlb
      by_cases hei : e2.2.2.2 = x'.1
      ·simp only [hei, if_true] at h0 hDV ⊢
       cases hab : aliB (toB a) (toB b) with
       | true =>
         simp only [hab, and_self, if_true] at h0 hDV ⊢;rw [nEnts_eq hy] at hDV ⊢;have hlk := look_resp hR hlb hnm.2 hxid;have hlk2 : lookD (respD y.2.2.2.2 b x'.1).1 a = some (e2.1, e2.2.1, b, x'.1) := by rw [lookD_same hab]; exact hlk
         exact ⟨_, x'.1, _, _, _, _, rfl, hwas, look_inV hDV (hin _) hy1 hnm.2 hlk (hset _ x' hxm hx1) rfl, fun _ => ⟨rfl, look_inV hDV (hin _) hy1 hnm.1 hlk2 (hset _ x' hxm hx1) rfl, by rw [List.length_set]⟩, fun h => nomatch h⟩
       | false =>
         simp only [hab, Bool.false_eq_true, and_false, if_false] at h0 hDV ⊢;exact ⟨_, x'.1, _, _, _, _, rfl, hwas, look_inV hV hym hy1 hnm.2 hlb hxm hei.symm, (fun h => nomatch h), fun _ => .inr rfl⟩
      ·simp only [if_neg hei] at h0 hDV ⊢
       have hab : aliB (toB a) (toB b) = false := by
        cases h : aliB (toB a) (toB b) with
        | false => rfl
        | true =>
          rw [lookD_same h, hlb] at hla;injection hla with hla;exact absurd (by rw [hla]; exact hxe.symm) hei
       obtain ⟨he21, o, hom, hoe⟩ := hV.toVW.ent y hym e2 he2m;obtain ⟨j, hj⟩ := Option.isSome_iff_exists.1 (atN_is.2 ⟨o, hom, hoe⟩);obtain ⟨o', ho', hoi'⟩ := at_of hj;obtain rfl : o' = o := srt_inj hV.toVW.srt (List.mem_of_getElem? ho') hom (hoi'.trans hoe.symm);simp only [hj, Option.bind_some, ho'] at h0 hDV ⊢
       by_cases hcl : clashP x' o' ≠ 0
       ·rw [if_pos hcl] at h0; exact absurd h0 (by simp only [resC]; exact hcl)
       ·simp only [if_neg hcl] at h0 hDV ⊢
        have hyk : (nEnts l k (respD y.2.2.2.2 b x'.1).1)[k]? = some (y.1, y.2.1, y.2.2.1, y.2.2.2.1, (respD y.2.2.2.2 b x'.1).1) := by
         rw [nEnts_eq hy, List.getElem?_set_self (List.getElem?_eq_some_iff.1 hy).1]
        have hl3 : nEnts (nEnts l k (respD y.2.2.2.2 b x'.1).1) k (dropD (entsOf (nEnts l k (respD y.2.2.2.2 b x'.1).1) k) a).1 = l.set k (y.1, y.2.1, y.2.2.1, y.2.2.2.1, (dropD (respD y.2.2.2.2 b x'.1).1 a).1) := by
         rw [entsOf_eq hyk, nEnts_eq hyk, nEnts_eq hy, List.set_set]
        rw [hl3] at hDV ⊢;have hs3 : Srt (l.set k (y.1, y.2.1, y.2.2.1, y.2.2.2.1, (dropD (respD y.2.2.2.2 b x'.1).1 a).1)) := set_srt hV.toVW.srt hy rfl;have hne : e2 ≠ e := fun h => hei (by rw [h]; exact hxe.symm);have hR2 := respD_R hR b x'.1;have hla2 : lookD (respD y.2.2.2.2 b x'.1).1 a = some e := resp_look hlb hla hne hxid;have hlb2 := drop_other hR2 hla2 (look_resp hR hlb hnm.2 hxid) hab;have ho1 : o'.1 ≠ 1 := by rw [hoe]; exact he21
        have hyo : (y.1, y.2.1, y.2.2.1, y.2.2.2.1, (dropD (respD y.2.2.2.2 b x'.1).1 a).1) ∈ nLess (l.set k (y.1, y.2.1, y.2.2.1, y.2.2.2.1, (dropD (respD y.2.2.2.2 b x'.1).1 a).1)) o'.1 := less_keep hs3 (hin _) (by show y.1 ≠ o'.1; rw [hy1]; exact ho1.symm);have hxo : x' ∈ nLess (l.set k (y.1, y.2.1, y.2.2.1, y.2.2.2.1, (dropD (respD y.2.2.2.2 b x'.1).1 a).1)) o'.1 := less_keep hs3 (hset _ x' hxm hx1) (by rw [hoe]; exact fun h => hei h.symm);exact ⟨_, x'.1, _, _, _, _, rfl, hwas, look_inV hDV hyo hy1 hnm.2 hlb2 hxo rfl, fun h => (by rw [h] at hab; cases hab), fun _ => .inl (look_inV_no hDV hyo hy1 hnm.1 (lookD_none' (drop_none hR2 hla2)))⟩
end Go.Proofs.YtllonpbhgbhogaaGreatDoor
