/-
  Many texts in one: MVolOk4, VolLinks, Func, SlIns, EntAt, Crc.
-/
import Derived.Test.YtllonpbhgbhogaaGreatDoorGf
import Derived.Test.YtllonpbhgbhogaaGreatDoorGe
import Derived.Shelf.Spec.SlicesInsert
import Derived.Lib.AppendZerosOnto
import Derived.Test.YtllonpbhgbhogaaGreatDoorGa
set_option linter.unusedVariables false
set_option linter.unusedSimpArgs false
namespace Go.Proofs.YtllonpbhgbhogaaGreatDoor
open Go.RowKit
theorem blw_kid {l : List Nod} (h : Srt l) {a b : Int} (hb : Blw l a b) : ∃ c, Kid l a c := by
 induction hb with
 | one hk => exact ⟨_, (kid_iff h).1 hk⟩
 | more _ _ ih => exact ih
theorem lookD_none {d : List EntT} {s : ByteArray} (h : lookD d s = none) : dirAt d (toB s) = none := by
 cases h1 : dirAt d (toB s) with
 | none => rfl
 | some k =>
   obtain ⟨e, h2, _⟩ := dirAt_some h1;rw [lookD, h1, Option.bind_some, h2] at h; cases h
theorem none_of {d : List EntT} {s : List UInt8} (h : ∀ e ∈ d, aliB (toB e.2.2.1) s = false) : dirAt d s = none := by
 rw [dirAt, List.findIdx?_eq_none_iff];intro e he; simp [h e he]
theorem lookD_mem {d : List EntT} {s : ByteArray} {e : EntT} (h : lookD d s = some e) : e ∈ d := by
 obtain ⟨k, _, h2⟩ := look_at h;exact List.mem_of_getElem? h2
theorem drop_sub (d : List EntT) (s : ByteArray) : (dropD d s).1.Sublist d := by
 rw [dropD]; split
 ·exact List.Sublist.refl _
 ·exact List.eraseIdx_sublist _ _
theorem loop_not {next : Int} {l : List Nod} {x y : Nod} (h : VOk next l) (hx : x ∈ l) (hy : y ∈ l) (hyd : y.2.1 = 2) (hloop : ¬ (x.2.1 = 2 ∧ (y.1 = x.1 ∨ Blw l x.1 y.1))) : y.1 ≠ x.1 ∧ ¬ Blw l x.1 y.1 := by
 by_cases hxd : x.2.1 = 2
 ·exact ⟨fun e => hloop ⟨hxd, .inl e⟩, fun e => hloop ⟨hxd, .inr e⟩⟩
 ·refine ⟨fun e => ?_, fun e => ?_⟩
  ·have := srt_inj h.srt hy hx e
   subst this; exact hxd hyd
  ·obtain ⟨c, z, hz, hzx, en, hen, _⟩ := blw_kid h.srt e
   have := srt_inj h.srt hz hx hzx;subst this
   rcases h.typ z hx with t | t
   ·rw [t.2.1] at hen; simp at hen
   ·exact hxd t.1
theorem mv_V {next : Int} {l : List Nod} {k t : Nat} {yk yt x : Nod} {s s2 : ByteArray} {e : EntT} (h : VOk next l) (hk : l[k]? = some yk) (hkd : yk.2.1 = 2) (ht : l[t]? = some yt) (htd : yt.2.1 = 2) (hl : lookD yk.2.2.2.2 s = some e) (hxm : x ∈ l) (hex : e.2.2.2 = x.1)
 (hna : nameB (toB s2) = true) (hno : lookD yt.2.2.2.2 s2 = none) (hlen : k ≠ t → yt.2.2.2.2.length < 12) (hloop : ¬ (x.2.1 = 2 ∧ (yt.1 = x.1 ∨ Blw l x.1 yt.1))) :
 VOk next (nEnts (nEnts l k (dropD yk.2.2.2.2 s).1) t (addD (entsOf (nEnts l k (dropD yk.2.2.2.2 s).1) t) s2 x.1).1) := by
 have htm := List.mem_of_getElem? ht;have hdk := h.toVW.dir hk hkd;have hp := drop_ids hl;have hdr := dropD_R hdk s;have hsub := drop_sub yk.2.2.2.2 s;rw [hex] at hp
 generalize (dropD yk.2.2.2.2 s).1 = d1 at hp hdr hsub
 have hx1 : x.1 ≠ 1 := (h.toVW.ids hk (hp.mem_iff.2 List.mem_cons_self)).1;have hW1 : VW next (nEnts l k d1) := nEnts_VW h.toVW hk hkd hdr fun e he => h.toVW.ids hk (hp.mem_iff.2 (List.mem_cons_of_mem _ (mem_ids he)));have hnm1 : ∀ i, namedN l i = namedN (nEnts l k d1) i + (if i = x.1 then 1 else 0) := fun i => by
  have h3 := nEnts_named (d := d1) (i := i) hk;rw [hp.count_eq, count_cons'] at h3;omega
 have ht1 := nEnts_at (d := d1) hk ht;have hat0 : dirAt yt.2.2.2.2 (toB s2) = none := lookD_none hno;obtain ⟨dt, hdt⟩ : ∃ dt, dt = if t = k then d1 else yt.2.2.2.2 := ⟨_, rfl⟩;rw [← hdt] at ht1;have hdtn : dirAt dt (toB s2) = none := none_of fun e he => dirAt_none hat0 e (by
  rw [hdt] at he
  split at he
  ·rename_i hh; subst hh
   rw [hk] at ht; injection ht with ht; subst ht;exact hsub.subset he
  ·exact he)
 have hdtl : dt.length < 12 := by
  rw [hdt]
  split
  ·have h3 := hp.length_eq
   have h4 := hdk.len;simp only [idsE, List.length_map, List.length_cons] at h3;omega
  ·rename_i hh; exact hlen fun e => hh e.symm
 have hold1 := fun {z : Nod} (hz : z ∈ nEnts l k d1) => nEnts_old h.srt hk hz;have hkid1 : ∀ a b, Kid l a b → b ≠ x.1 → Kid (nEnts l k d1) a b := fun a b hab hb => by
  rw [nEnts_kid h.srt hk]
  by_cases e4 : a = yk.1
  ·exact .inl ⟨e4, (List.mem_cons.1 (hp.mem_iff.1 ((kid_at h.srt hk).1 (e4 ▸ hab)))).resolve_left hb⟩
  ·exact .inr ⟨e4, hab⟩
 have hex1 : ∃ z ∈ nEnts l k d1, z.1 = x.1 := (nEnts_ex h.srt hk).2 ⟨x, hxm, rfl⟩
 generalize nEnts l k d1 = l1 at hW1 hnm1 ht1 hold1 hkid1 hex1
 obtain ⟨yt', hyt'⟩ : ∃ y : Nod, y = (yt.1, yt.2.1, yt.2.2.1, yt.2.2.2.1, dt) := ⟨_, rfl⟩;rw [← hyt'] at ht1;have y1 : yt'.1 = yt.1 := by rw [hyt']
 have y2 : yt'.2.1 = 2 := by rw [hyt']; exact htd
 have y5 : yt'.2.2.2.2 = dt := by rw [hyt']
 clear hyt';have hp2 := add_ids (d := dt) (id := x.1) hna hdtn (h.toVW.inB_id hxm) hdtl;have hdt1 : DirR dt := by have := hW1.dir ht1 y2; rwa [y5] at this
 have hdr2 := addD_R hdt1 s2 x.1;rw [entsOf_eq ht1, y5]
 generalize (addD dt s2 x.1).1 = d2 at hp2 hdr2
 have hW2 : VW next (nEnts l1 t d2) := nEnts_VW hW1 ht1 y2 hdr2 fun e he => by
  rcases List.mem_cons.1 (hp2.mem_iff.1 (mem_ids he)) with h3 | h3
  ·rw [h3]; exact ⟨hx1, hex1⟩
  ·exact hW1.ids ht1 (by rw [y5]; exact h3)
 have hnm2 : ∀ i, namedN (nEnts l1 t d2) i = namedN l i := fun i => by
  have h3 := nEnts_named (d := d2) (i := i) ht1;rw [hp2.count_eq, count_cons', y5] at h3;have := hnm1 i;omega
 have hold2 : ∀ {z : Nod}, z ∈ nEnts l1 t d2 → ∃ q ∈ l, z.1 = q.1 ∧ z.2.1 = q.2.1 ∧ z.2.2.1 = q.2.2.1 := fun hz => by
  obtain ⟨q, hq, a1, a2, a3⟩ := nEnts_old hW1.srt ht1 hz;obtain ⟨r, hr, b1, b2, b3⟩ := hold1 hq;exact ⟨r, hr, a1.trans b1, a2.trans b2, a3.trans b3⟩
 obtain ⟨hne, hnb⟩ := loop_not h hxm htm htd hloop;have hmv := rch_move (o := 0) h.srt hW2.srt (x := x.1) (t := yt.1) (fun a b hab => by
  by_cases hb : b = x.1
  ·exact .inr (.inl hb)
  ·exact .inl (kid_sup hW1.srt ht1 (fun b hb => hp2.mem_iff.2 (List.mem_cons_of_mem _ (by rw [← y5]; exact hb))) (hkid1 a b hab hb)))
  (fun b ⟨z, hz, e0, _⟩ => by have := h.rng z hz; omega)
  ((nEnts_kid hW1.srt ht1).2 (.inl ⟨y1.symm, hp2.mem_iff.2 List.mem_cons_self⟩)) hne hnb (by have := h.rng yt htm; omega) (h.rch yt htm)
 refine ⟨hW2, fun z hz => ?_, fun z hz => ?_, fun z hz => ?_⟩
 ·obtain ⟨q, hq, a1, a2, a3⟩ := hold2 hz
  rw [a2, a3]; exact h.one q hq
 ·obtain ⟨q, hq, a1, a2, a3⟩ := hold2 hz
  rw [a1, a3, hnm2]; exact h.lnk q hq
 ·obtain ⟨q, hq, a1, a2, a3⟩ := hold2 hz
  rw [a1];exact (hmv _ (h.rch q hq)).resolve_left (by have := h.rng q hq; omega)
theorem resp_look {d : List EntT} {s s2 : ByteArray} {id : Int} {e e2 : EntT} (h2 : lookD d s2 = some e2) (h1 : lookD d s = some e) (hne : e2 ≠ e) (hid : inB id 1 100000 = true) : lookD (respD d s2 id).1 s = some e := by
 obtain ⟨j, a1, a2⟩ := look_at h1;obtain ⟨j2, b1, b2⟩ := look_at h2;have hj : j2 ≠ j := fun hh => by subst hh; rw [a2] at b2; injection b2 with b2; exact hne b2.symm
 obtain ⟨c1, c2, c3⟩ := List.findIdx?_eq_some_iff_getElem.1 a1;obtain ⟨q2, d2, d3⟩ := dirAt_some b1;rw [b2] at d2; injection d2 with d2; subst d2;rw [respD_eq b1 b2 hid];have hj2 := (List.getElem?_eq_some_iff.1 b2).1;have h3 : dirAt (d.set j2 (e2.1, e2.2.1, s2, id)) (toB s) = some j := by
  refine List.findIdx?_eq_some_iff_getElem.2 ⟨by rw [List.length_set]; exact c1, ?_, fun i hi => ?_⟩
  ·rw [List.getElem_set_ne hj]; exact c2
  ·by_cases hij : j2 = i
   ·subst hij
    rw [List.getElem_set_self];intro hh;have h5 := aliB_trans d3 hh;have h6 := c3 j2 hi;rw [(List.getElem?_eq_some_iff.1 b2).2] at h6;exact h6 h5
   ·rw [List.getElem_set_ne hij]; exact c3 i hi
 rw [lookD, h3, Option.bind_some, List.getElem?_set_ne hj, a2]
theorem over_V {next : Int} {l : List Nod} {k t : Nat} {yk yt x o : Nod} {s s2 : ByteArray} {e e2 : EntT} (h : VOk next l) (hk : l[k]? = some yk) (hkd : yk.2.1 = 2) (ht : l[t]? = some yt) (htd : yt.2.1 = 2) (hl : lookD yk.2.2.2.2 s = some e) (hxm : x ∈ l) (hex : e.2.2.2 = x.1)
 (hl2 : lookD yt.2.2.2.2 s2 = some e2) (hom : o ∈ l) (heo : e2.2.2.2 = o.1) (hne : o.1 ≠ x.1) (ho5 : o.2.2.2.2 = []) (hloop : ¬ (x.2.1 = 2 ∧ (yt.1 = x.1 ∨ Blw l x.1 yt.1))) :
 VOk next (nLess (nEnts (nEnts l t (respD yt.2.2.2.2 s2 x.1).1) k (dropD (entsOf (nEnts l t (respD yt.2.2.2.2 s2 x.1).1) k) s).1) o.1) := by
 have htm := List.mem_of_getElem? ht;have hkm := List.mem_of_getElem? hk;have hdt := h.toVW.dir ht htd;have hpt := drop_ids hl2;have hpr := resp_ids hl2 (h.toVW.inB_id hxm);have hdr := respD_R hdt s2 x.1;have hlk : k = t → lookD (respD yt.2.2.2.2 s2 x.1).1 s = some e := fun hh => by
  subst hh;rw [hk] at ht; injection ht with ht; subst ht;exact resp_look hl2 hl (fun e3 => hne (by rw [← heo, ← hex, e3])) (h.toVW.inB_id hxm)
 rw [heo] at hpt
 generalize (respD yt.2.2.2.2 s2 x.1).1 = d1 at hpr hdr hlk
 generalize idsE (dropD yt.2.2.2.2 s2).1 = r at hpt hpr
 have hx1 : x.1 ≠ 1 := (h.toVW.ids hk (by rw [← hex]; exact mem_ids (lookD_mem hl))).1;have ho1 : o.1 ≠ 1 := (h.toVW.ids ht (by rw [← heo]; exact mem_ids (lookD_mem hl2))).1;have hoyk : o.1 ≠ yk.1 := fun e3 => by
  have := srt_inj h.srt hom hkm e3;subst this;have := lookD_mem hl;rw [ho5] at this; simp at this
 have hoyt : o.1 ≠ yt.1 := fun e3 => by
  have := srt_inj h.srt hom htm e3;subst this;have := lookD_mem hl2;rw [ho5] at this; simp at this
 have hok : ∀ b, ¬ Kid l o.1 b := fun b ⟨z, hz, e0, en, hen, _⟩ => by
  have := srt_inj h.srt hz hom e0;subst this;rw [ho5] at hen; simp at hen
 have hW1 : VW next (nEnts l t d1) := nEnts_VW h.toVW ht htd hdr fun en he => by
  rcases List.mem_cons.1 (hpr.mem_iff.1 (mem_ids he)) with h3 | h3
  ·rw [h3]; exact ⟨hx1, x, hxm, rfl⟩
  ·exact h.toVW.ids ht (hpt.mem_iff.2 (List.mem_cons_of_mem _ h3))
 have hnm1 : ∀ i, namedN (nEnts l t d1) i + (if i = o.1 then 1 else 0) = namedN l i + (if i = x.1 then 1 else 0) := fun i => by
  have h3 := nEnts_named (d := d1) (i := i) ht;rw [hpt.count_eq, hpr.count_eq, count_cons', count_cons'] at h3;omega
 have hk1 := nEnts_at (d := d1) ht hk;obtain ⟨dk, hdk⟩ : ∃ dk, dk = if k = t then d1 else yk.2.2.2.2 := ⟨_, rfl⟩;rw [← hdk] at hk1;have hlk2 : lookD dk s = some e := by
  rw [hdk]; split
  ·rename_i hh; exact hlk hh
  ·exact hl
 have hold1 := fun {z : Nod} (hz : z ∈ nEnts l t d1) => nEnts_old h.srt ht hz;have hkid1 : ∀ a b, Kid l a b → b ≠ o.1 → Kid (nEnts l t d1) a b := fun a b hab hb => by
  rw [nEnts_kid h.srt ht]
  by_cases e4 : a = yt.1
  ·exact .inl ⟨e4, hpr.mem_iff.2 (List.mem_cons_of_mem _ ((List.mem_cons.1 (hpt.mem_iff.1 ((kid_at h.srt ht).1 (e4 ▸ hab)))).resolve_left hb))⟩
  ·exact .inr ⟨e4, hab⟩
 have hko1 : ∀ b, ¬ Kid (nEnts l t d1) o.1 b := fun b hb => by
  rcases (nEnts_kid h.srt ht).1 hb with ⟨e3, _⟩ | ⟨_, h3⟩
  ·exact hoyt e3
  ·exact hok b h3
 have hex1 : ∃ z ∈ nEnts l t d1, z.1 = o.1 := (nEnts_ex h.srt ht).2 ⟨o, hom, rfl⟩;have htx1 : Kid (nEnts l t d1) yt.1 x.1 := (nEnts_kid h.srt ht).2 (.inl ⟨rfl, hpr.mem_iff.2 List.mem_cons_self⟩)
 generalize nEnts l t d1 = l1 at hW1 hnm1 hk1 hold1 hkid1 hko1 hex1 htx1
 obtain ⟨yk', hyk'⟩ : ∃ y : Nod, y = (yk.1, yk.2.1, yk.2.2.1, yk.2.2.2.1, dk) := ⟨_, rfl⟩;rw [← hyk'] at hk1;have y1 : yk'.1 = yk.1 := by rw [hyk']
 have y2 : yk'.2.1 = 2 := by rw [hyk']; exact hkd
 have y5 : yk'.2.2.2.2 = dk := by rw [hyk']
 clear hyk';rw [entsOf_eq hk1, y5];have hp2 := drop_ids hlk2;rw [hex] at hp2;have hdk1 : DirR dk := by have := hW1.dir hk1 y2; rwa [y5] at this
 have hdr2 := dropD_R hdk1 s
 generalize (dropD dk s).1 = d2 at hp2 hdr2
 have hW2 : VW next (nEnts l1 k d2) := nEnts_VW hW1 hk1 y2 hdr2 fun en he => hW1.ids hk1 (by rw [y5]; exact hp2.mem_iff.2 (List.mem_cons_of_mem _ (mem_ids he)));have hnm2 : ∀ i, namedN l i = namedN (nEnts l1 k d2) i + (if i = o.1 then 1 else 0) := fun i => by
  have h3 := nEnts_named (d := d2) (i := i) hk1;rw [y5, hp2.count_eq, count_cons'] at h3;have := hnm1 i;omega
 have hold2 : ∀ {z : Nod}, z ∈ nEnts l1 k d2 → ∃ q ∈ l, z.1 = q.1 ∧ z.2.1 = q.2.1 ∧ z.2.2.1 = q.2.2.1 := fun hz => by
  obtain ⟨q, hq, a1, a2, a3⟩ := nEnts_old hW1.srt hk1 hz;obtain ⟨r, hr, b1, b2, b3⟩ := hold1 hq;exact ⟨r, hr, a1.trans b1, a2.trans b2, a3.trans b3⟩
 have hkid2 : ∀ a b, Kid l1 a b → b ≠ x.1 → Kid (nEnts l1 k d2) a b := fun a b hab hb => by
  rw [nEnts_kid hW1.srt hk1]
  by_cases e4 : a = yk'.1
  ·exact .inl ⟨e4, (List.mem_cons.1 (hp2.mem_iff.1 (by rw [← y5]; exact (kid_at hW1.srt hk1).1 (e4 ▸ hab)))).resolve_left hb⟩
  ·exact .inr ⟨e4, hab⟩
 have htx2 : Kid (nEnts l1 k d2) yt.1 x.1 := by
  rw [nEnts_kid hW1.srt hk1]
  by_cases e4 : yt.1 = yk'.1
  ·left
   refine ⟨e4, ?_⟩;have hyy : yt = yk := srt_inj h.srt htm hkm (e4.trans y1);have hkt : k = t := by
    have a1 := nodup_at h.srt hk;have a2 := nodup_at h.srt ht;rw [hyy, a1] at a2; injection a2
   have hdd : dk = d1 := by rw [hdk, if_pos hkt]
   rw [hdd] at hp2;have h6 : (idsE d2).Perm r := List.Perm.cons_inv (hp2.symm.trans hpr);refine h6.mem_iff.2 ?_;have h7 : x.1 ∈ idsE yt.2.2.2.2 := by rw [hyy, ← hex]; exact mem_ids (lookD_mem hl)
   exact (List.mem_cons.1 (hpt.mem_iff.1 h7)).resolve_left fun e5 => hne e5.symm
  ·exact .inr ⟨e4, htx1⟩
 obtain ⟨hnx, hnb⟩ := loop_not h hxm htm htd hloop;have hmv := rch_move (o := o.1) h.srt hW2.srt (x := x.1) (t := yt.1) (fun a b hab => by
  by_cases hb : b = x.1
  ·exact .inr (.inl hb)
  ·by_cases hb2 : b = o.1
   ·exact .inr (.inr hb2)
   ·exact .inl (hkid2 a b (hkid1 a b hab hb2) hb))
  hok htx2 hnx hnb (fun e3 => hoyt e3.symm) (h.rch yt htm)
 refine less_V hW2 (fun z hz => ?_) (fun z hz => ?_) ho1 (fun b hb => ?_) (fun z hz => ?_) ((nEnts_ex hW1.srt hk1).2 hex1)
 ·obtain ⟨q, hq, a1, a2, a3⟩ := hold2 hz
  rw [a2, a3]; exact h.one q hq
 ·obtain ⟨q, hq, a1, a2, a3⟩ := hold2 hz
  rw [a1, a3]
  rcases h.lnk q hq with h6 | h6
  ·exact .inl h6
  ·right; rw [h6, hnm2]; split <;> simp
 ·rcases (nEnts_kid hW1.srt hk1).1 hb with ⟨e3, _⟩ | ⟨_, h3⟩
  ·exact hoyk (e3.trans y1)
  ·exact hko1 b h3
 ·obtain ⟨q, hq, a1, a2, a3⟩ := hold2 hz
  rw [a1]; exact hmv _ (h.rch q hq)
theorem clash_0 {next : Int} {l : List Nod} {x o : Nod} (h : VOk next l) (hx : x ∈ l) (ho : o ∈ l) (hc : clashP x o = 0) : o.2.2.2.2 = [] := by
 unfold clashP at hc
 rcases h.typ o ho with t | t
 ·exact t.2.1
 ·by_cases hx2 : x.2.1 = 2
  ·rw [if_neg (by omega)] at hc
   split at hc
   ·omega
   ·rename_i hh
    rcases he : o.2.2.2.2 with _ | ⟨a, r⟩
    ·rfl
    ·exact absurd ⟨hx2, by rw [he]; simp⟩ hh
  ·rw [if_neg (by omega), if_neg (by simp [hx2]), if_pos ⟨hx2, t.1⟩] at hc
   omega
theorem at_of {l : List Nod} {i : Int} {k : Nat} (h : atN l i = some k) : ∃ y, l[k]? = some y ∧ y.1 = i := atN_some h
theorem ren_V {next : Int} {l : List Nod} {k t : Nat} {yk yt x : Nod} {e : EntT} {c : CallT} (h : VOk next l) (hk : l[k]? = some yk) (hkd : yk.2.1 = 2) (hkc : yk.1 = c.2.1) (ht : l[t]? = some yt) (htd : yt.2.1 = 2) (htc : yt.1 = c.2.2.2.1) (hl : lookD yk.2.2.2.2 c.2.2.1 = some e) (hxm : x ∈ l) (hex : e.2.2.2 = x.1)
 (hna : nameB (toB c.2.2.2.2.1) = true) : VOk (renP next l k t x c).1.1 (renP next l k t x c).1.2 := by
 unfold renP;rw [entsOf_eq ht, entsOf_eq hk]
 by_cases hloop : x.2.1 = 2 ∧ (c.2.2.2.1 = x.1 ∨ Blw l x.1 c.2.2.2.1)
 ·rw [if_pos hloop]; exact h
 rw [if_neg hloop];rw [← htc] at hloop
 cases h2 : lookD yt.2.2.2.2 c.2.2.2.2.1 with
 | none =>
   simp only
   by_cases h3 : c.2.1 ≠ c.2.2.2.1 ∧ 12 ≤ yt.2.2.2.2.length
   ·rw [if_pos h3]; exact h
   rw [if_neg h3];refine mv_V h hk hkd ht htd hl hxm hex hna h2 (fun hkt => ?_) hloop;have : c.2.1 ≠ c.2.2.2.1 := fun e4 => hkt (by
    have a1 := nodup_at h.srt hk;have a2 := nodup_at h.srt ht;rw [hkc, e4, ← htc, a2] at a1; injection a1 with a1; exact a1.symm)
   have := fun h12 => h3 ⟨this, h12⟩;omega
 | some e2 =>
   simp only
   by_cases h3 : e2.2.2.2 = x.1
   ·rw [if_pos h3]
    by_cases h4 : c.2.1 = c.2.2.2.1 ∧ aliB (toB c.2.2.1) (toB c.2.2.2.2.1) = true
    ·rw [if_pos h4]
     have hp1 := drop_ids h2;have hp2 := resp_ids h2 (h.toVW.inB_id hxm);rw [h3] at hp1;exact same_V h ht htd (respD_R (h.toVW.dir ht htd) _ _) (hp2.trans hp1.symm)
    ·rw [if_neg h4]; exact h
   ·rw [if_neg h3]
    cases h5 : (atN l e2.2.2.2).bind fun j => l[j]? with
    | none => exact h
    | some o =>
      rw [Option.bind_eq_some_iff] at h5;obtain ⟨j, hj, hoj⟩ := h5;obtain ⟨o', ho', hoi⟩ := at_of hj;rw [hoj] at ho'; injection ho' with ho'; subst ho';simp only
      by_cases h6 : clashP x o ≠ 0
      ·rw [if_pos h6]; exact h
      ·rw [if_neg h6]
       have hom := List.mem_of_getElem? hoj;exact over_V h hk hkd ht htd hl hxm hex h2 hom hoi.symm (by rw [hoi]; exact h3) (clash_0 h hxm hom (by omega)) hloop
theorem begun_0 {l : List Nod} {c : CallT} (h : begunP l c = 0) : ∃ k t yk yt, atN l c.2.1 = some k ∧ atN l (if twoB c.1 = true then c.2.2.2.1 else c.2.1) = some t ∧ l[k]? = some yk ∧ yk.1 = c.2.1 ∧ yk.2.1 = 2 ∧ l[t]? = some yt ∧ yt.1 = (if twoB c.1 = true then c.2.2.2.1 else c.2.1) ∧ yt.2.1 = 2 ∧ nameB (toB c.2.2.1) = true ∧ (twoB c.1 = true → nameB (toB c.2.2.2.2.1) = true) := by
 unfold begunP at h
 split at h
 ·rename_i k t h1 h2
  obtain ⟨yk, a1, a2⟩ := at_of h1;obtain ⟨yt, b1, b2⟩ := at_of h2;rw [kindOf_eq a1, kindOf_eq b1] at h
  split at h
  ·rename_i h3
   split at h
   ·rename_i h4
    exact ⟨k, t, yk, yt, h1, h2, a1, a2, h3.1, b1, b2, h3.2, h4.1, h4.2⟩
   ·omega
  ·omega
 ·omega
theorem do_V {next : Int} {l : List Nod} {c : CallT} (h : VOk next l) : VOk (volDoP next l c).1.1 (volDoP next l c).1.2 := by
 unfold volDoP
 by_cases hc : callB c = true
 rotate_left
 ·rw [if_neg hc]; exact h
 rw [if_pos hc]
 by_cases hb : begunP l c = 0
 rotate_left
 ·rw [if_neg hb]; exact h
 rw [if_pos hb];obtain ⟨k, t, yk, yt, hk1, ht1, hk, hkc, hkd, ht, htc, htd, hn, hna⟩ := begun_0 hb;rw [hk1, ht1];simp only
 by_cases h12 : c.1 = 1 ∨ c.1 = 2
 ·rw [if_pos h12]; exact make_V h hk hkd hn
 rw [if_neg h12];unfold onP;rw [entsOf_eq hk]
 cases hl : lookD yk.2.2.2.2 c.2.2.1 with
 | none => exact h
 | some e =>
   simp only
   cases ha : atN l e.2.2.2 with
   | none => exact h
   | some xi =>
     obtain ⟨x, hx, hxe⟩ := at_of ha;have hxm := List.mem_of_getElem? hx;simp only [hx]
     by_cases g1 : (c.1 = 3 ∨ c.1 = 7) ∧ x.2.1 = 2
     ·rw [if_pos g1]; exact h
     rw [if_neg g1]
     by_cases g2 : c.1 = 4 ∧ x.2.1 ≠ 2
     ·rw [if_pos g2]; exact h
     rw [if_neg g2]
     by_cases g3 : c.1 = 4 ∧ x.2.2.2.2 ≠ []
     ·rw [if_pos g3]; exact h
     rw [if_neg g3]
     by_cases g4 : c.1 = 3 ∨ c.1 = 4
     ·rw [if_pos g4]
      refine unl_V h hk hkd hl hx hxe.symm ?_
      rcases g4 with g4 | g4
      ·rcases h.typ x hxm with t | t
       ·exact t.2.1
       ·exact absurd ⟨.inl g4, t.1⟩ g1
      ·exact Classical.byContradiction fun hh => g3 ⟨g4, hh⟩
     rw [if_neg g4]
     by_cases g5 : c.1 = 5
     ·rw [if_pos g5]
      exact link_V h ht htd hx (hna (by simp [twoB, g5]))
     rw [if_neg g5]
     by_cases g6 : c.1 = 6
     ·rw [if_pos g6]
      have h2 : twoB c.1 = true := by simp [twoB, g6]
      rw [if_pos h2] at htc;exact ren_V h hk hkd hkc ht htd htc hl hxm hxe.symm (hna h2)
     rw [if_neg g6]
     by_cases g7 : c.1 = 7
     ·rw [if_pos g7]
      refine data_V h hx (fun e5 => g1 ⟨.inr g7, e5⟩) ?_;simp only [callB, Bool.and_eq_true, decide_eq_true_eq] at hc;exact hc.1.1.2
     ·rw [if_neg g7]; exact h
end Go.Proofs.YtllonpbhgbhogaaGreatDoor
namespace Go.Proofs.YtllonpbhgbhogaaGreatDoor
open Go.RowKit
def FewE (L : List (Value × Nod)) : Prop := ∀ p ∈ L, p.2.2.2.2.2.length ≤ 1048576
theorem entsN_le (es : List EntT) (id : Int) : entsN es id ≤ es.length := List.countP_le_length
theorem namedN_le {L : List (Value × Nod)} (h : FewE L) (id : Int) : ∀ k, k ≤ L.length → namedN ((nodes L).take k) id ≤ k * 1048576
 | 0, _ => by simp [namedN]
 | k + 1, hk => by
   obtain ⟨p, hp⟩ : ∃ p, L[k]? = some p := ⟨_, List.getElem?_eq_getElem (by omega)⟩;rw [namedN_take (nodes_at hp)];have h1 := namedN_le h id k (by omega);have h2 := entsN_le p.2.2.2.2.2 id;have h3 := h p (List.mem_of_getElem? hp);omega
theorem entsN_all {es : List EntT} {m : Nat} (h : es.length = m) (id : Int) : entsN (es.take m) id = entsN es id := by rw [List.take_of_length_le (by omega)]
set_option maxRecDepth 100000 in
set_option maxHeartbeats 4000000 in
theorem implLinks_any (next : Int) (A : Option Addr) (n c : Nat) (L : List (Value × Nod)) (id : Int) (w : World) (h : RdN w A n L) (hn : n ≤ 1048576) (hfew : FewE L) :
 Calls Tryz.prog 95 #[.agg #[.int .i64 next, .slice A n c], .int .i64 id] w fun e w' => e = .returned (.int .i64 (namedN (nodes L) id)) ∧ Fr w w' := by
 have HL := Lib.hid h.len;have HR := Lib.hid h;have HFE := Lib.hid hfew;have HB := Lib.hid (fun k hk => namedN_le hfew id k hk);have HF0 := Lib.hid ((Hp.start w).lay_ 31 [.int .i64 next, .slice A n c] rfl).fr;obtain ⟨z, hz⟩ : ∃ z : Nat, z = namedN (nodes L) id := ⟨_, rfl⟩;rw [← hz];have HZ := Lib.hid hz;clear hz h hfew;go_enter Tryz.func95, Tryz.ntmps95;go_wp2_with fail
 go_loopw [5, 13] (fun cv iv wr => ∃ i k : Nat, iv = .int .i64 i ∧ cv = .int .i64 k ∧ i ≤ n ∧ k = namedN ((nodes L).take i) id ∧ Fr w wr) (fun _ iv _ => n - (intOf iv).toNat)
 case atStart => exact ⟨0, 0, rfl, rfl, by omega, rfl, HF0.out⟩
 case round =>
  obtain ⟨i, k, rfl, rfl, hi, hk, hf⟩ := hrel;have HKE := Lib.hid hk;have HF := Lib.hid hf;have hkb : k ≤ i * 1048576 := by rw [hk]; exact HB.out i (by rw [HL.out]; exact hi)
  clear hk hf;have hi0 : (0 : Int) ≤ (i : Int) := by omega
  by_cases hlt : i < n
  ·have hi1 : (i : Int) < (n : Int) := by omega
   obtain ⟨⟨v, x0, x1, x2, x3, es⟩, hx⟩ := some_at HL.out hlt;have hm := HFE.out _ (List.mem_of_getElem? hx);obtain ⟨bk, of, B1, d1, rfl, e1, r1, c1⟩ := (HR.out.fr HF.out).elem hx;simp only at e1 r1 hm;subst e1;have ca0 := c1 0 _ rfl; simp only [Nat.add_zero] at ca0;have ca1 := c1 1 _ rfl;have ca2 := c1 2 _ rfl;have ca3 := c1 3 _ rfl;have ca4 := c1 4 _ rfl;have HX := Lib.hid (nodes_at hx);have H2 := ((Hp.start w).go HF.out).lay_ 76 [.int .i64 x0, .int .i64 x1, .int .i64 x2, .string x3, .slice B1 es.length d1] rfl;have HF2 := Lib.hid H2.fr;have HR1 := Lib.hid (r1.fr (((Hp.start wr).lay_ 76 [.int .i64 x0, .int .i64 x1, .int .i64 x2, .string x3, .slice B1 es.length d1] rfl).fr));obtain ⟨m, hmm⟩ : ∃ m, m = es.length := ⟨_, rfl⟩;have HM := Lib.hid hmm.symm;rw [← hmm] at hm ca4 HF2 HR1;clear hx c1 r1 H2 hmm;obtain ⟨wA, hwA⟩ : ∃ x, x = wr.alloc (.cells #[.int .i64 x0, .int .i64 x1, .int .i64 x2, .string x3, .slice B1 m d1] 76) := ⟨_, rfl⟩;have HR2 := Lib.hid (show Rd wA B1 m 4 (es.flatMap cEnt) by rw [hwA]; exact HR1.out);have HF3 := Lib.hid (show Fr w wA by rw [hwA]; exact HF2.out);have HWA := Lib.hid hwA;clear hwA HR1 HF2;go_wp2_with fail
   go_loopw [5, 20] (fun cv jv wq => ∃ j q : Nat, jv = .int .i64 j ∧ cv = .int .i64 q ∧ j ≤ m ∧ q = k + entsN (es.take j) id ∧ Fr wA wq) (fun _ jv _ => m - (intOf jv).toNat)
   case atStart => exact ⟨0, k, rfl, rfl, by omega, by simp [entsN], by rw [HWA.out]; exact Below.refl _ _⟩
   case round =>
    obtain ⟨j, q, rfl, rfl, hj, hq, hf⟩ := hrel;have HQE := Lib.hid hq;have HFQ := Lib.hid hf;have hqb : q ≤ k + m := by
     have h1 := entsN_le (es.take j) id;rw [List.length_take] at h1;omega
    clear hq hf;have hj0 : (0 : Int) ≤ (j : Int) := by omega
    by_cases hjt : j < m
    ·have hj1 : (j : Int) < (m : Int) := by omega
     obtain ⟨⟨y0, y1, y2, y3⟩, hy⟩ := some_at HM.out hjt;obtain ⟨bq, oq, rfl, hcell⟩ := (HR2.out.fr HFQ.out).elem cEnt_len hy (by omega);have cb0 := hcell 0 _ rfl; simp only [Nat.add_zero] at cb0;have cb1 := hcell 1 _ rfl;have cb2 := hcell 2 _ rfl;have cb3 := hcell 3 _ rfl;have HES := Lib.hid (entsN_take hy id);have HF4 := Lib.hid (HFQ.out.then ((Hp.start _).lay_ 109 [.int .i64 y0, .int .i64 y1, .string y2, .int .i64 y3] rfl).fr);clear hy hcell
     by_cases he : y3 = id
     ·have HE := Lib.hid (show q + 1 = k + entsN (es.take (j + 1)) id by rw [HES.out, HQE.out, if_pos he]; omega)
      subst he;go_wp2_with fail;go_roundw
      case rel => exact ⟨j + 1, q + 1, by go_num, by go_num, by omega, HE.out, HF4.out⟩
      case measure => simp [intOf]; omega
     ·have HE := Lib.hid (show q = k + entsN (es.take (j + 1)) id by rw [HES.out, HQE.out, if_neg he]; rfl)
      have he2 : (y3 == id) = false := by simpa using he
      go_wp2_with fail;go_roundw
      case rel => exact ⟨j + 1, q, by go_num, rfl, by omega, HE.out, HF4.out⟩
      case measure => simp [intOf]; omega
    ·have hj1 : ¬ (j : Int) < (m : Int) := by omega
     have HE := Lib.hid (show q = namedN ((nodes L).take (i + 1)) id by
      rw [namedN_take HX.out, HQE.out, HKE.out, show j = m by omega, entsN_all HM.out])
     have HF5 := Lib.hid (HF3.out.then HFQ.out);go_wp2_with fail;go_roundw
     case rel => exact ⟨i + 1, q, by go_num, rfl, by omega, HE.out, HF5.out⟩
     case measure => simp [intOf]; omega
  ·have hi1 : ¬ (i : Int) < (n : Int) := by omega
   have HE := Lib.hid (show z = k by
    rw [HZ.out, HKE.out, List.take_of_length_le (by rw [nodes_len, HL.out]; omega)])
   go_wp2_with fail;go_ret;rw [HE.out];exact ⟨rfl, HF.out⟩
end Go.Proofs.YtllonpbhgbhogaaGreatDoor
namespace Go.Proofs.YtllonpbhgbhogaaGreatDoor
open Go.RowKit
def findZ {α : Type} (P : α → Bool) (l : List α) : Int := match l.findIdx? P with
 | some k => (k : Int)
 | none => -1
theorem findZ_hit {α : Type} {P : α → Bool} {l : List α} {k : Nat} {x : α} (hno : ∀ y ∈ l.take k, P y = false) (hx : l[k]? = some x) (he : P x = true) : findZ P l = (k : Int) := by
 have : l.findIdx? P = some k := by
  obtain ⟨hk, hxe⟩ := List.getElem?_eq_some_iff.1 hx;refine List.findIdx?_eq_some_iff_getElem.2 ⟨hk, by rw [hxe]; exact he, fun j hj => ?_⟩;have hjm : l[j] ∈ l.take k := by
   rw [List.mem_take_iff_getElem];exact ⟨j, by omega, rfl⟩
  simp [hno _ hjm]
 rw [findZ, this]
theorem findZ_miss {α : Type} {P : α → Bool} {l : List α} (hno : ∀ y ∈ l, P y = false) : findZ P l = -1 := by
 have : l.findIdx? P = none := List.findIdx?_eq_none_iff.2 fun x hx => hno x hx;rw [findZ, this]
theorem findZ_any {α : Type} (P : α → Bool) (l : List α) : decide (0 ≤ findZ P l) = l.any P := by
 unfold findZ
 cases h : l.findIdx? P with
 | none =>
   have h1 : l.any P = false := by
    rw [List.any_eq_false];intro x hx;have := List.findIdx?_eq_none_iff.1 h x hx;simp [this]
   rw [h1]; decide
 | some k =>
   obtain ⟨hk, h1, _⟩ := List.findIdx?_eq_some_iff_getElem.1 h;have h2 : l.any P = true := List.any_eq_true.2 ⟨l[k], List.getElem_mem hk, h1⟩;rw [h2]; simp
theorem take_no {α : Type} {P : α → Bool} {l : List α} {i : Nat} {x : α} (hno : ∀ y ∈ l.take i, P y = false) (hx : l[i]? = some x) (he : P x = false) : ∀ y ∈ l.take (i + 1), P y = false := by
 intro y hy;rw [List.take_add_one, hx] at hy
 rcases List.mem_append.1 hy with h | h
 ·exact hno y h
 ·simp only [Option.toList_some, List.mem_singleton] at h
  rw [h]; exact he
set_option maxRecDepth 100000 in
set_option maxHeartbeats 2000000 in
theorem idxE_inodeOk (cap : Value) (P : EntT → Bool) (A : Option Addr) (n c : Nat) (l : List EntT) (w : World) (h : Rd w A n 4 (l.flatMap cEnt)) (hn : n ≤ 1048576)
 (hP : ∀ e ∈ l, ∀ w', Fr w w' → Calls Tryz.prog 98 #[.agg #[.int .i64 e.1, .int .i64 e.2.1, .string e.2.2.1, .int .i64 e.2.2.2], cap] w' fun r w'' => r = .returned (.bool (P e)) ∧ Fr w' w'') :
 Calls Tryz.prog 136 #[.slice A n c, .func (.func 98) #[] #[cap]] w fun e w' => e = .returned (.int .i64 (findZ P l)) ∧ Fr w w' := by
 have HL := Lib.hid (h.lenk cEnt_len (by omega));have HR := Lib.hid h;have HP := Lib.hid hP;clear h hP;obtain ⟨z, hz⟩ : ∃ z, z = findZ P l := ⟨_, rfl⟩;rw [← hz];have HZ := Lib.hid hz;clear hz;go_enter Tryz.func136, Tryz.ntmps136;go_wp2_with fail
 go_loopw [5, 8] (fun jv iv wr => ∃ i : Nat, iv = .int .i64 i ∧ i ≤ n ∧ (∀ y ∈ l.take i, P y = false) ∧ Fr w wr) (fun _ iv _ => n - (intOf iv).toNat)
 case atStart => exact ⟨0, rfl, by omega, by simp, Below.refl _ _⟩
 case round =>
  obtain ⟨i, rfl, hi, hno, hf⟩ := hrel;have HO := Lib.hid hno;have HF := Lib.hid hf;clear hno hf;have hi0 : (0 : Int) ≤ (i : Int) := by omega
  by_cases hlt : i < n
  ·have hi1 : (i : Int) < (n : Int) := by omega
   obtain ⟨⟨x0, x1, x2, x3⟩, hx⟩ := at_some HL.out hlt;obtain ⟨bk, of, rfl, hcell⟩ := (HR.out.fr HF.out).elem cEnt_len hx (by omega);have ca0 := hcell 0 _ rfl; simp only [Nat.add_zero] at ca0;have ca1 := hcell 1 _ rfl;have ca2 := hcell 2 _ rfl;have ca3 := hcell 3 _ rfl;have HX := Lib.hid hx;clear hx hcell;go_wp2_with fail;have HC := HP.out _ (HX.out.mem) _ HF.out;simp only at HC;refine HC.mono ?_;clear HC;rintro e w2 ⟨rfl, f2⟩;obtain ⟨pb, hpb⟩ : ∃ b, P (x0, x1, x2, x3) = b := ⟨_, rfl⟩;have HPB := Lib.hid hpb;rw [hpb];clear hpb
   cases pb with
   | true =>
     have HE := Lib.hid (HZ.out.trans (findZ_hit HO.out HX.out HPB.out));go_wp2_with fail;go_ret;rw [HE.out];exact ⟨rfl, HF.out.then f2⟩
   | false =>
     have HO2 := Lib.hid (take_no HO.out HX.out HPB.out);have F2 := Lib.hid (HF.out.then f2);clear f2;go_wp2_with fail;go_roundw
     case rel => exact ⟨i + 1, by go_num, by omega, HO2.out, F2.out⟩
     case measure => simp [intOf]; omega
  ·have hi1 : ¬ (i : Int) < (n : Int) := by omega
   have HE := Lib.hid (HZ.out.trans (findZ_miss (by
    have := HO.out
    rwa [List.take_of_length_le (by rw [HL.out]; omega)] at this)))
   go_wp2_with fail;go_ret;rw [HE.out];exact ⟨rfl, HF.out⟩
set_option maxRecDepth 100000 in
set_option maxHeartbeats 2000000 in
theorem idxE_entAt (cap : Value) (P : EntT → Bool) (A : Option Addr) (n c : Nat) (l : List EntT) (w : World) (h : Rd w A n 4 (l.flatMap cEnt)) (hn : n ≤ 1048576)
 (hP : ∀ e ∈ l, ∀ w', Fr w w' → Calls Tryz.prog 150 #[.agg #[.int .i64 e.1, .int .i64 e.2.1, .string e.2.2.1, .int .i64 e.2.2.2], cap] w' fun r w'' => r = .returned (.bool (P e)) ∧ Fr w' w'') :
 Calls Tryz.prog 136 #[.slice A n c, .func (.func 150) #[] #[cap]] w fun e w' => e = .returned (.int .i64 (findZ P l)) ∧ Fr w w' := by
 have HL := Lib.hid (h.lenk cEnt_len (by omega));have HR := Lib.hid h;have HP := Lib.hid hP;clear h hP;obtain ⟨z, hz⟩ : ∃ z, z = findZ P l := ⟨_, rfl⟩;rw [← hz];have HZ := Lib.hid hz;clear hz;go_enter Tryz.func136, Tryz.ntmps136;go_wp2_with fail
 go_loopw [5, 8] (fun jv iv wr => ∃ i : Nat, iv = .int .i64 i ∧ i ≤ n ∧ (∀ y ∈ l.take i, P y = false) ∧ Fr w wr) (fun _ iv _ => n - (intOf iv).toNat)
 case atStart => exact ⟨0, rfl, by omega, by simp, Below.refl _ _⟩
 case round =>
  obtain ⟨i, rfl, hi, hno, hf⟩ := hrel;have HO := Lib.hid hno;have HF := Lib.hid hf;clear hno hf;have hi0 : (0 : Int) ≤ (i : Int) := by omega
  by_cases hlt : i < n
  ·have hi1 : (i : Int) < (n : Int) := by omega
   obtain ⟨⟨x0, x1, x2, x3⟩, hx⟩ := at_some HL.out hlt;obtain ⟨bk, of, rfl, hcell⟩ := (HR.out.fr HF.out).elem cEnt_len hx (by omega);have ca0 := hcell 0 _ rfl; simp only [Nat.add_zero] at ca0;have ca1 := hcell 1 _ rfl;have ca2 := hcell 2 _ rfl;have ca3 := hcell 3 _ rfl;have HX := Lib.hid hx;clear hx hcell;go_wp2_with fail;have HC := HP.out _ (HX.out.mem) _ HF.out;simp only at HC;refine HC.mono ?_;clear HC;rintro e w2 ⟨rfl, f2⟩;obtain ⟨pb, hpb⟩ : ∃ b, P (x0, x1, x2, x3) = b := ⟨_, rfl⟩;have HPB := Lib.hid hpb;rw [hpb];clear hpb
   cases pb with
   | true =>
     have HE := Lib.hid (HZ.out.trans (findZ_hit HO.out HX.out HPB.out));go_wp2_with fail;go_ret;rw [HE.out];exact ⟨rfl, HF.out.then f2⟩
   | false =>
     have HO2 := Lib.hid (take_no HO.out HX.out HPB.out);have F2 := Lib.hid (HF.out.then f2);clear f2;go_wp2_with fail;go_roundw
     case rel => exact ⟨i + 1, by go_num, by omega, HO2.out, F2.out⟩
     case measure => simp [intOf]; omega
  ·have hi1 : ¬ (i : Int) < (n : Int) := by omega
   have HE := Lib.hid (HZ.out.trans (findZ_miss (by
    have := HO.out
    rwa [List.take_of_length_le (by rw [HL.out]; omega)] at this)))
   go_wp2_with fail;go_ret;rw [HE.out];exact ⟨rfl, HF.out⟩
set_option maxRecDepth 100000 in
set_option maxHeartbeats 2000000 in
theorem idxE_add (cap : Value) (P : EntT → Bool) (A : Option Addr) (n c : Nat) (l : List EntT) (w : World) (h : Rd w A n 4 (l.flatMap cEnt)) (hn : n ≤ 1048576)
 (hP : ∀ e ∈ l, ∀ w', Fr w w' → Calls Tryz.prog 162 #[.agg #[.int .i64 e.1, .int .i64 e.2.1, .string e.2.2.1, .int .i64 e.2.2.2], cap] w' fun r w'' => r = .returned (.bool (P e)) ∧ Fr w' w'') :
 Calls Tryz.prog 136 #[.slice A n c, .func (.func 162) #[] #[cap]] w fun e w' => e = .returned (.int .i64 (findZ P l)) ∧ Fr w w' := by
 have HL := Lib.hid (h.lenk cEnt_len (by omega));have HR := Lib.hid h;have HP := Lib.hid hP;clear h hP;obtain ⟨z, hz⟩ : ∃ z, z = findZ P l := ⟨_, rfl⟩;rw [← hz];have HZ := Lib.hid hz;clear hz;go_enter Tryz.func136, Tryz.ntmps136;go_wp2_with fail
 go_loopw [5, 8] (fun jv iv wr => ∃ i : Nat, iv = .int .i64 i ∧ i ≤ n ∧ (∀ y ∈ l.take i, P y = false) ∧ Fr w wr) (fun _ iv _ => n - (intOf iv).toNat)
 case atStart => exact ⟨0, rfl, by omega, by simp, Below.refl _ _⟩
 case round =>
  obtain ⟨i, rfl, hi, hno, hf⟩ := hrel;have HO := Lib.hid hno;have HF := Lib.hid hf;clear hno hf;have hi0 : (0 : Int) ≤ (i : Int) := by omega
  by_cases hlt : i < n
  ·have hi1 : (i : Int) < (n : Int) := by omega
   obtain ⟨⟨x0, x1, x2, x3⟩, hx⟩ := at_some HL.out hlt;obtain ⟨bk, of, rfl, hcell⟩ := (HR.out.fr HF.out).elem cEnt_len hx (by omega);have ca0 := hcell 0 _ rfl; simp only [Nat.add_zero] at ca0;have ca1 := hcell 1 _ rfl;have ca2 := hcell 2 _ rfl;have ca3 := hcell 3 _ rfl;have HX := Lib.hid hx;clear hx hcell;go_wp2_with fail;have HC := HP.out _ (HX.out.mem) _ HF.out;simp only at HC;refine HC.mono ?_;clear HC;rintro e w2 ⟨rfl, f2⟩;obtain ⟨pb, hpb⟩ : ∃ b, P (x0, x1, x2, x3) = b := ⟨_, rfl⟩;have HPB := Lib.hid hpb;rw [hpb];clear hpb
   cases pb with
   | true =>
     have HE := Lib.hid (HZ.out.trans (findZ_hit HO.out HX.out HPB.out));go_wp2_with fail;go_ret;rw [HE.out];exact ⟨rfl, HF.out.then f2⟩
   | false =>
     have HO2 := Lib.hid (take_no HO.out HX.out HPB.out);have F2 := Lib.hid (HF.out.then f2);clear f2;go_wp2_with fail;go_roundw
     case rel => exact ⟨i + 1, by go_num, by omega, HO2.out, F2.out⟩
     case measure => simp [intOf]; omega
  ·have hi1 : ¬ (i : Int) < (n : Int) := by omega
   have HE := Lib.hid (HZ.out.trans (findZ_miss (by
    have := HO.out
    rwa [List.take_of_length_le (by rw [HL.out]; omega)] at this)))
   go_wp2_with fail;go_ret;rw [HE.out];exact ⟨rfl, HF.out⟩
set_option maxRecDepth 100000 in
set_option maxHeartbeats 2000000 in
theorem idxN_volOk (cap : Value) (P : (Value × Nod) → Bool) (A : Option Addr) (n c : Nat) (l : List (Value × Nod)) (w : World) (h : RdN w A n l) (hn : n ≤ 1048576)
 (hP : ∀ p ∈ l, ∀ w', Fr w w' → Calls Tryz.prog 54 #[.agg #[.int .i64 p.2.1, .int .i64 p.2.2.1, .int .i64 p.2.2.2.1, .string p.2.2.2.2.1, p.1], cap] w' fun r w'' => r = .returned (.bool (P p)) ∧ Fr w' w'') :
 Calls Tryz.prog 99 #[.slice A n c, .func (.func 54) #[] #[cap]] w fun e w' => e = .returned (.int .i64 (findZ P l)) ∧ Fr w w' := by
 have HL := Lib.hid (h.len);have HR := Lib.hid h;have HP := Lib.hid hP;clear h hP;obtain ⟨z, hz⟩ : ∃ z, z = findZ P l := ⟨_, rfl⟩;rw [← hz];have HZ := Lib.hid hz;clear hz;go_enter Tryz.func99, Tryz.ntmps99;go_wp2_with fail
 go_loopw [5, 8] (fun jv iv wr => ∃ i : Nat, iv = .int .i64 i ∧ i ≤ n ∧ (∀ y ∈ l.take i, P y = false) ∧ Fr w wr) (fun _ iv _ => n - (intOf iv).toNat)
 case atStart => exact ⟨0, rfl, by omega, by simp, Below.refl _ _⟩
 case round =>
  obtain ⟨i, rfl, hi, hno, hf⟩ := hrel;have HO := Lib.hid hno;have HF := Lib.hid hf;clear hno hf;have hi0 : (0 : Int) ≤ (i : Int) := by omega
  by_cases hlt : i < n
  ·have hi1 : (i : Int) < (n : Int) := by omega
   obtain ⟨⟨v, x0, x1, x2, x3, es⟩, hx⟩ := at_some HL.out hlt;obtain ⟨bk, of, B1, d1, rfl, e1, r1, c1⟩ := (HR.out.fr HF.out).elem hx;simp only at e1 r1;subst e1;have ca0 := c1 0 _ rfl; simp only [Nat.add_zero] at ca0;have ca1 := c1 1 _ rfl;have ca2 := c1 2 _ rfl;have ca3 := c1 3 _ rfl;have ca4 := c1 4 _ rfl;have HX := Lib.hid hx;clear hx c1 r1;go_wp2_with fail;have HC := HP.out _ (HX.out.mem) _ HF.out;simp only at HC;refine HC.mono ?_;clear HC;rintro e w2 ⟨rfl, f2⟩;obtain ⟨pb, hpb⟩ : ∃ b, P (.slice B1 es.length d1, x0, x1, x2, x3, es) = b := ⟨_, rfl⟩;have HPB := Lib.hid hpb;rw [hpb];clear hpb
   cases pb with
   | true =>
     have HE := Lib.hid (HZ.out.trans (findZ_hit HO.out HX.out HPB.out));go_wp2_with fail;go_ret;rw [HE.out];exact ⟨rfl, HF.out.then f2⟩
   | false =>
     have HO2 := Lib.hid (take_no HO.out HX.out HPB.out);have F2 := Lib.hid (HF.out.then f2);clear f2;go_wp2_with fail;go_roundw
     case rel => exact ⟨i + 1, by go_num, by omega, HO2.out, F2.out⟩
     case measure => simp [intOf]; omega
  ·have hi1 : ¬ (i : Int) < (n : Int) := by omega
   have HE := Lib.hid (HZ.out.trans (findZ_miss (by
    have := HO.out
    rwa [List.take_of_length_le (by rw [HL.out]; omega)] at this)))
   go_wp2_with fail;go_ret;rw [HE.out];exact ⟨rfl, HF.out⟩
set_option maxRecDepth 100000 in
set_option maxHeartbeats 2000000 in
theorem hasE_inodeOk (cap : Value) (P : EntT → Bool) (A : Option Addr) (n c : Nat) (l : List EntT) (w : World) (h : Rd w A n 4 (l.flatMap cEnt)) (hn : n ≤ 1048576)
 (hP : ∀ e ∈ l, ∀ w', Fr w w' → Calls Tryz.prog 98 #[.agg #[.int .i64 e.1, .int .i64 e.2.1, .string e.2.2.1, .int .i64 e.2.2.2], cap] w' fun r w'' => r = .returned (.bool (P e)) ∧ Fr w' w'') :
 Calls Tryz.prog 97 #[.slice A n c, .func (.func 98) #[] #[cap]] w fun e w' => e = .returned (.bool (l.any P)) ∧ Fr w w' := by
 have HR := Lib.hid h;have HP := Lib.hid hP;clear h hP;have HA := Lib.hid (findZ_any P l);obtain ⟨z, hz⟩ : ∃ z, z = findZ P l := ⟨_, rfl⟩;rw [← hz] at HA;have HZ := Lib.hid hz;rw [← HA.out];clear hz;go_enter Tryz.func97, Tryz.ntmps97;go_wp2_with fail;refine (idxE_inodeOk cap P A n c l _ HR.out hn HP.out).mono ?_;rintro e w2 ⟨rfl, f2⟩;rw [← HZ.out]
 by_cases h0 : 0 ≤ z
 ·have HE := Lib.hid (decide_eq_true h0)
  go_wp2_with fail;go_ret;rw [HE.out];exact ⟨rfl, f2⟩
 ·have HE := Lib.hid (decide_eq_false h0)
  go_wp2_with fail;go_ret;rw [HE.out];exact ⟨rfl, f2⟩
set_option maxRecDepth 100000 in
set_option maxHeartbeats 2000000 in
theorem hasE_add (cap : Value) (P : EntT → Bool) (A : Option Addr) (n c : Nat) (l : List EntT) (w : World) (h : Rd w A n 4 (l.flatMap cEnt)) (hn : n ≤ 1048576)
 (hP : ∀ e ∈ l, ∀ w', Fr w w' → Calls Tryz.prog 162 #[.agg #[.int .i64 e.1, .int .i64 e.2.1, .string e.2.2.1, .int .i64 e.2.2.2], cap] w' fun r w'' => r = .returned (.bool (P e)) ∧ Fr w' w'') :
 Calls Tryz.prog 97 #[.slice A n c, .func (.func 162) #[] #[cap]] w fun e w' => e = .returned (.bool (l.any P)) ∧ Fr w w' := by
 have HR := Lib.hid h;have HP := Lib.hid hP;clear h hP;have HA := Lib.hid (findZ_any P l);obtain ⟨z, hz⟩ : ∃ z, z = findZ P l := ⟨_, rfl⟩;rw [← hz] at HA;have HZ := Lib.hid hz;rw [← HA.out];clear hz;go_enter Tryz.func97, Tryz.ntmps97;go_wp2_with fail;refine (idxE_add cap P A n c l _ HR.out hn HP.out).mono ?_;rintro e w2 ⟨rfl, f2⟩;rw [← HZ.out]
 by_cases h0 : 0 ≤ z
 ·have HE := Lib.hid (decide_eq_true h0)
  go_wp2_with fail;go_ret;rw [HE.out];exact ⟨rfl, f2⟩
 ·have HE := Lib.hid (decide_eq_false h0)
  go_wp2_with fail;go_ret;rw [HE.out];exact ⟨rfl, f2⟩
set_option maxRecDepth 100000 in
set_option maxHeartbeats 2000000 in
theorem hasN_volOk (cap : Value) (P : (Value × Nod) → Bool) (A : Option Addr) (n c : Nat) (l : List (Value × Nod)) (w : World) (h : RdN w A n l) (hn : n ≤ 1048576)
 (hP : ∀ p ∈ l, ∀ w', Fr w w' → Calls Tryz.prog 54 #[.agg #[.int .i64 p.2.1, .int .i64 p.2.2.1, .int .i64 p.2.2.2.1, .string p.2.2.2.2.1, p.1], cap] w' fun r w'' => r = .returned (.bool (P p)) ∧ Fr w' w'') :
 Calls Tryz.prog 53 #[.slice A n c, .func (.func 54) #[] #[cap]] w fun e w' => e = .returned (.bool (l.any P)) ∧ Fr w w' := by
 have HR := Lib.hid h;have HP := Lib.hid hP;clear h hP;have HA := Lib.hid (findZ_any P l);obtain ⟨z, hz⟩ : ∃ z, z = findZ P l := ⟨_, rfl⟩;rw [← hz] at HA;have HZ := Lib.hid hz;rw [← HA.out];clear hz;go_enter Tryz.func53, Tryz.ntmps53;go_wp2_with fail;refine (idxN_volOk cap P A n c l _ HR.out hn HP.out).mono ?_;rintro e w2 ⟨rfl, f2⟩;rw [← HZ.out]
 by_cases h0 : 0 ≤ z
 ·have HE := Lib.hid (decide_eq_true h0)
  go_wp2_with fail;go_ret;rw [HE.out];exact ⟨rfl, f2⟩
 ·have HE := Lib.hid (decide_eq_false h0)
  go_wp2_with fail;go_ret;rw [HE.out];exact ⟨rfl, f2⟩
end Go.Proofs.YtllonpbhgbhogaaGreatDoor
namespace Go.Proofs.YtllonpbhgbhogaaGreatDoor
open Go.RowKit Go.Lib
theorem flat_insert {α : Type} (f : α → List Value) (k : Nat) (hk : ∀ x, (f x).length = k) (e : α) : ∀ (L : List α) (j : Nat), j ≤ L.length → (L.flatMap f).take (j * k) ++ f e ++ (L.flatMap f).drop (j * k) = (L.insertIdx j e).flatMap f
 | L, 0, h => by simp
 | [], j + 1, h => by simp at h
 | a :: L, j + 1, h => by
   have ih := flat_insert f k hk e L j (by simpa using h);rw [List.insertIdx_succ_cons, List.flatMap_cons, List.flatMap_cons, ← ih];have e1 : (j + 1) * k = (f a).length + j * k := by rw [hk, Nat.add_mul, Nat.one_mul, Nat.add_comm]
   rw [e1, List.take_length_add_append, List.drop_length_add_append]
   simp
theorem own_more {w : World} {b g n c k : Nat} {E : TypeId} {xs : List Value} (h : w.ownsRow b E k (.slice (some ⟨g, 0, none⟩) n c) n xs) (hn : n + 1 ≤ c) : ∃ ys, ys.length = k ∧ w.ownsRow b E k (.slice (some ⟨g, 0, none⟩) (n + 1) c) (n + 1) (xs ++ ys) := by
 rcases h.2 with ⟨e, _⟩ | ⟨g2, cap, cur, e, h1, h2, h3, h4, h5, h6⟩
 ·cases e
 ·injection e with e0 e1 e3
  injection e0 with e0; injection e0 with e0 _;subst e0 e3;have hck : (n + 1) * k ≤ c * k := Nat.mul_le_mul_right _ hn;have hk1 : (n + 1) * k = n * k + k := by rw [Nat.add_mul, Nat.one_mul]
  have hy : ((cur.toList.drop (n * k)).take k).length = k := by rw [List.length_take, List.length_drop, Array.length_toList]; omega
  refine ⟨_, hy, by rw [List.length_append, hy, h.1, hk1], .inr ⟨g, c, cur, rfl, h1, h2, hn, h4, h5, ?_⟩⟩;rw [hk1, List.take_add, h6]
section
set_option maxRecDepth 1000000 in
set_option maxHeartbeats 4000000 in
theorem insE_shift (g n c j ga : Nat) (L : List (Int × Int × ByteArray × Int)) (e : Int × Int × ByteArray × Int) (w : World) (h : w.ownsRow 0 109 4 (.slice (some ⟨g, 0, none⟩) n c) n (L.flatMap cEnt)) (hv : w.ownsRow 0 109 4 (.slice (some ⟨ga, 0, none⟩) 1 1) 1 (cEnt e)) (hga : ga ≠ g) (hj : j < n) (hroom : n + 1 ≤ c) :
 Calls Tryz.prog 163 #[.slice (some ⟨g, 0, none⟩) n c, .int .i64 (j : Int), .slice (some ⟨ga, 0, none⟩) 1 1] w fun r w' =>
  r = .returned (.slice (some ⟨g, 0, none⟩) (n + 1) c) ∧ Hp [g] w w' [.row 109 4 (.slice (some ⟨g, 0, none⟩) (n + 1) c) (n + 1) ((L.insertIdx j e).flatMap cEnt)] := by
 have hL : (L.flatMap cEnt).length = n * 4 := h.1;have hLl : L.length = n := by rw [flat_len cEnt_len] at hL; omega
 have hcap := own_cap2 h;simp only [maxLen] at hcap;obtain ⟨ys, hyl, hm⟩ := own_more h hroom;have H := Hp.start_row hm;have hrm := fun {q : Nat} (hq : q < c * 4) => own_room h hq;have hfz := fun q : Nat => h.frozenAt q;have hget := fun {q : Nat} {u : Value} (hu : (L.flatMap cEnt)[q]? = some u) => (Hp.start_row h).at_ 0 rfl hu;have hgetv := fun {q : Nat} {u : Value} (hu : (cEnt e)[q]? = some u) => (Hp.start_row hv).at_ 0 rfl hu;obtain ⟨i0, hi0, hz0, hz1, hz2⟩ := info_parts infoEnt;have hsz : (Tryz.prog.info? 109).map (·.size) = some 4 := by rw [hi0]; simp [hz1]
 have u9 := run_underlying (P := Tryz.prog) Tryz.underlying74;have mixed : Tryz.prog.follows .mixedOrders = true := by kernel_rfl
 have hcl0 : ∀ u ∈ (L.flatMap cEnt).drop (j * 4), u.oneCell' = true := by
  intro u hu;obtain ⟨x, _, hx⟩ := List.mem_flatMap.1 (List.mem_of_mem_drop hu);exact cEnt_one x u hx
 have hdl : ((L.flatMap cEnt).drop (j * 4)).length = (n - j) * 4 := by rw [List.length_drop, hL]; omega
 obtain ⟨tA, kA, hsa, hka, _⟩ := World.shape?_of_cell? (hgetv (q := 0) rfl);obtain ⟨tB, kB, hsb, hkb, _⟩ := World.shape?_of_cell? (hget (q := 0) (List.getElem?_eq_getElem (by omega)));simp only at hka hkb hsa hsb;have hov : ∀ lb cb, (callFunc 170 #[.slice (some ⟨ga, 0, none⟩) 1 1, .slice (some ⟨g, (j + 1) * 4, none⟩) lb cb]).run Tryz.prog w = .ok (.value (.bool false)) w := fun lb cb => by
  rw [run_callFunc_extern Tryz.func170 (by kernel_rfl) (by kernel_rfl) (by kernel_rfl) (e := Extern.SlicesOverlaps.overlaps #[74, 74] #[4]) (by kernel_rfl),
   Lib.run_overlaps_apart w 74 4 109 Tryz.underlying74 4 (fun w => by simp [sizeOf, typeInfo, hi0, hz1]) ⟨ga, 0, none⟩ ⟨g, (j + 1) * 4, none⟩ 1 1 lb cb hga tA tB kA kB hsa hsb (by omega) (hv.frozenAt _) (hv.frozenAt _)]
  rfl
 obtain ⟨xs, hxs⟩ : ∃ xs, xs = L.flatMap cEnt := ⟨_, rfl⟩;have hcp1 : ∀ ty dc sc, (Builtin.copy_ #[74, 74] ty #[.slice (some ⟨g, (j + 1) * 4, none⟩) (n - j) dc, .slice (some ⟨g, j * 4, none⟩) (n + 1 - j) sc]).run Tryz.prog w.drew = .ok (goInt (Nat.min (n + 1 - j) (n - j) : Nat)) (w.drew.setCells g ((j + 1) * 4) (xs.drop (j * 4))) := fun ty dc sc =>
  run_copyK w.drew _ _ ty 109 4 g ((j + 1) * 4) (n - j) dc ⟨g, j * 4, none⟩ (n + 1 - j) sc (xs.drop (j * 4)) Tryz.underlying74 hsz (by rw [hxs, hdl]; simp only [Nat.min_def]; split <;> omega)
   (fun q v hq => by rw [hxs] at hq; rw [Addr.add_lit]; exact hget (by rwa [List.getElem?_drop] at hq))
   (fun q hq => hrm (by rw [hxs, hdl] at hq; omega)) (fun q hq => hfz _) (by rw [hxs]; exact hcl0)
 have H1 := Hp.puts 0 (xs.drop (j * 4)) _ ((j + 1) * 4) _ _ H.drew rfl;obtain ⟨W1, hW1⟩ : ∃ W1, W1 = w.drew.setCells g ((j + 1) * 4) (xs.drop (j * 4)) := ⟨_, rfl⟩;rw [← hW1] at hcp1 H1;have hr1 := H1.row 0 rfl;have hv1 : ∀ q u, (cEnt e)[q]? = some u → W1.cell? ⟨ga, q, none⟩ = some u := fun q u hu => by
  rw [hW1, World.cell?_setCells_out g _ _ _ _ (fun hh _ => absurd hh hga)];exact hgetv hu
 have hcp2 : ∀ ty dc, (Builtin.copy_ #[74, 74] ty #[.slice (some ⟨g, j * 4, none⟩) (n + 1 - j) dc, .slice (some ⟨ga, 0, none⟩) 1 1]).run Tryz.prog W1 = .ok (goInt (Nat.min 1 (n + 1 - j) : Nat)) (W1.setCells g (j * 4) (cEnt e)) := fun ty dc =>
  run_copyK W1 _ _ ty 109 4 g (j * 4) (n + 1 - j) dc ⟨ga, 0, none⟩ 1 1 (cEnt e) Tryz.underlying74 hsz (by rw [cEnt_len]; simp only [Nat.min_def]; split <;> omega)
   (fun q v hq => by rw [Addr.add_lit, Nat.zero_add]; exact hv1 q v hq) (fun q hq => own_room hr1 (by rw [cEnt_len] at hq; omega)) (fun q hq => hr1.frozenAt _) (cEnt_one e)
 have H2 := Lib.hid ((Hp.puts 0 (cEnt e) _ (j * 4) _ _ H1 rfl).recast (l' := [.row 109 4 (.slice (some ⟨g, 0, none⟩) (n + 1) c) (n + 1) ((L.insertIdx j e).flatMap cEnt)]) (by
  have e2 := flat_insert cEnt 4 cEnt_len e L j (by omega)
  show [Ob.row _ _ _ _ (layL (layL (L.flatMap cEnt ++ ys) ((j + 1) * 4) (xs.drop (j * 4))) (j * 4) (cEnt e))] = _
  congr 2
  have hal : (L.flatMap cEnt ++ ys).length = (n + 1) * 4 := by rw [List.length_append, hL, hyl]; omega
  have hxl : (xs.drop (j * 4)).length = (n - j) * 4 := by rw [hxs, hdl]
  have e3 : layL (L.flatMap cEnt ++ ys) ((j + 1) * 4) (xs.drop (j * 4)) = (L.flatMap cEnt ++ ys).take ((j + 1) * 4) ++ xs.drop (j * 4) := by
   rw [layL_eq _ _ _ (by rw [hxl, hal]; omega), hxl, List.drop_of_length_le (l := L.flatMap cEnt ++ ys) (by rw [hal]; omega), List.append_nil]
  have hql : ((L.flatMap cEnt ++ ys).take ((j + 1) * 4)).length = (j + 1) * 4 := by rw [List.length_take, hal]; omega
  rw [e3, layL_eq _ _ _ (by rw [cEnt_len, List.length_append, hql, hxl]; omega), ← e2, cEnt_len];rw [List.take_append_of_le_length (by rw [hql]; omega), List.take_take, Nat.min_eq_left (by omega), List.take_append_of_le_length (by rw [hL]; omega), show j * 4 + 4 = (j + 1) * 4 by omega];rw [show ((L.flatMap cEnt ++ ys).take ((j + 1) * 4) ++ xs.drop (j * 4)).drop ((j + 1) * 4) = xs.drop (j * 4) from by
   have := List.drop_left (l₁ := (L.flatMap cEnt ++ ys).take ((j + 1) * 4)) (l₂ := xs.drop (j * 4))
   rwa [hql] at this, hxs]))
 have hw1 : IntKind.i64.wrap ((j : Int) + 1) = (j : Int) + 1 := by rw [IntKind.wrap_i64]; omega
 have htn : ((j : Int) + 1).toNat = j + 1 := by omega
 have hz2' : ¬ ((j : Int) = (n : Int)) := by omega
 have hz3 : ((j : Int) == (n : Int)) = false := by simp; omega
 have hb0 : (0 : Int) ≤ (j : Int) + 1 := by omega
 have hb1 : ¬ (c : Int) < (n : Int) + 1 := by omega
 have hb2 : ¬ (c = j + 1) := by omega
 have hb3 : (j : Int) + 1 ≤ (n : Int) + 1 := by omega
 have hb4 : ¬ (c = j) := by omega
 have hb5 : (n : Int) + 1 ≤ (c : Int) := by omega
 have hb6 : (j : Int) ≤ (n : Int) + 1 := by omega
 have hb7 : (0 : Int) ≤ (n : Int) + 1 := by omega
 have hin : j ≤ n := by omega
 have hin2 : (j : Int) ≤ (n : Int) := by omega
 have hic : j ≤ c := by omega
 clear hW1 H1 hr1 hv1 H hm h hv hget hgetv hrm hfz hdl hL hLl hcl0 hxs hsa hsb hka hkb hyl;go_enter Tryz.func163, Tryz.ntmps163;go_wp2_with (simp only [hov])
 go_region_law_o (refine step_copy_runI rfl _ _ 74 74 rfl _ _ (by simp [Act.eval, Act.put]) (by simp [Act.eval, Act.put]) (hcp1 _ _ _) ?_)
 go_wp2_with (at_builtin; refine wpList_copy_runI _ rfl _ _ 74 74 rfl _ _ rfl rfl (hcp2 _ _) ?_);go_ret;exact ⟨rfl, H2.out⟩
theorem zero_size (z : Array Value) (k : Nat) : (Builtin.zeroCells z k).size = k * z.size := by simp [Builtin.zeroCells]
set_option maxRecDepth 1000000 in
set_option maxHeartbeats 4000000 in
theorem insE_grow (g n c j ga : Nat) (L : List (Int × Int × ByteArray × Int)) (e : Int × Int × ByteArray × Int) (w : World) (h : w.ownsRow 0 109 4 (.slice (some ⟨g, 0, none⟩) n c) n (L.flatMap cEnt)) (hv : w.ownsRow 0 109 4 (.slice (some ⟨ga, 0, none⟩) 1 1) 1 (cEnt e)) (hga : ga ≠ g) (hj : j < n) (hroom : c < n + 1) (hn16 : n ≤ 1048576) :
 Calls Tryz.prog 163 #[.slice (some ⟨g, 0, none⟩) n c, .int .i64 (j : Int), .slice (some ⟨ga, 0, none⟩) 1 1] w fun r w' =>
  ∃ v', r = .returned v' ∧ Hp [] w w' [.row 109 4 v' (n + 1) ((L.insertIdx j e).flatMap cEnt)] := by
 have hL : (L.flatMap cEnt).length = n * 4 := h.1;have hLl : L.length = n := by rw [flat_len cEnt_len] at hL; omega
 have hcap := own_cap2 h;simp only [maxLen] at hcap;have hget := fun {q : Nat} {u : Value} (hu : (L.flatMap cEnt)[q]? = some u) => (Hp.start_row h).at_ 0 rfl hu;have hgetv := fun {q : Nat} {u : Value} (hu : (cEnt e)[q]? = some u) => (Hp.start_row hv).at_ 0 rfl hu;obtain ⟨i0, hi0, hz0, hz1, hz2⟩ := info_parts infoEnt;have hsz : (Tryz.prog.info? 109).map (·.size) = some 4 := by rw [hi0]; simp [hz1]
 have mixed : Tryz.prog.follows .mixedOrders = true := by kernel_rfl
 have hgw : g < w.heap.size := block_lt_of_cell (hget (q := 0) (List.getElem?_eq_getElem (by omega)));have hvw : ga < w.heap.size := block_lt_of_cell (hgetv (q := 0) rfl);have hcl0 : ∀ u ∈ (L.flatMap cEnt).drop (j * 4), u.oneCell' = true := by
  intro u hu;obtain ⟨x, _, hx⟩ := List.mem_flatMap.1 (List.mem_of_mem_drop hu);exact cEnt_one x u hx
 obtain ⟨xs, hxs⟩ : ∃ xs, xs = L.flatMap cEnt := ⟨_, rfl⟩;rw [← hxs] at hL hget hcl0;have hdl : (xs.drop (j * 4)).length = (n - j) * 4 := by rw [List.length_drop, hL]; omega
 have hkk : (n : Int) + 1 - (j : Int) = ((n + 1 - j : Nat) : Int) := by omega
 have hik : j + (n + 1 - j) = n + 1 := by omega
 have hold : (Builtin.firstCells i0.size j (.slice (some ⟨g, 0, none⟩) j c)).run Tryz.prog w.drew = .ok (xs.take (j * 4)).toArray w.drew := by
  rw [hz1];exact run_firstCells_some w.drew 4 j ⟨g, 0, none⟩ j c (xs.take (j * 4)) (by rw [List.length_take, hL]; omega) (fun q v hq => by
   rw [Addr.add_lit, Nat.zero_add];rw [List.getElem?_take] at hq
   split at hq
   ·exact hget hq
   ·cases hq)
 obtain ⟨z, hz⟩ : ∃ z : Array Value, z = (Value.agg #[.int .i64 0, .int .i64 0, .string ⟨#[]⟩, .int .i64 0]).cells := ⟨_, rfl⟩;have hzs : z.size = 4 := by rw [hz]; rfl
 obtain ⟨G, hG⟩ : ∃ G, G = grownCap w (n + 1) c 109 := ⟨_, rfl⟩;have hGn : n + 1 ≤ G := by rw [hG]; exact grownCap_ge w _ _ _
 have hG63 : G ≤ maxLen := by rw [hG]; exact grownCap_le_maxLen w (n + 1) c _ (by unfold maxLen; omega)
 obtain ⟨ROW, hROW⟩ : ∃ ROW : Array Value, ROW = (xs.take (j * 4)).toArray ++ Builtin.zeroCells z (n + 1 - j) ++ Builtin.zeroCells z (G - (n + 1)) := ⟨_, rfl⟩;have hrz : ∀ ty, (Builtin.append_ #[74, 3] ty #[.slice (some ⟨g, 0, none⟩) j c, .int .i64 ((n : Int) + 1 - (j : Int))]).run Tryz.prog w =
  .ok (.slice (some ⟨w.heap.size, 0, none⟩) (n + 1) G) (w.drew.alloc (.cells ROW 109)) := fun ty => by
  have h := Lib.run_append_grow_zeros w 74 3 ty 109 i0 _ .i64 .i64 Tryz.underlying74 Tryz.underlying3 hi0 hz0 (some ⟨g, 0, none⟩) j c (xs.take (j * 4)) hold (n + 1 - j) (by omega) (by omega) (by omega) (by omega) (by rw [hz2]; omega) (by rw [hz2, hik]; exact growslice_fits hroom (by omega));rw [hik] at h;rw [hkk, hROW, hz, hG];exact h
 have hRs : ROW.size = G * 4 := by
  rw [hROW, Array.size_append, Array.size_append, zero_size, zero_size, hzs, List.size_toArray, List.length_take, hL]; omega
 obtain ⟨N, hN⟩ : ∃ N, N = w.heap.size := ⟨_, rfl⟩;obtain ⟨R0, hR0⟩ : ∃ R0, R0 = ROW.toList.take ((n + 1) * 4) := ⟨_, rfl⟩;have hR0l : R0.length = (n + 1) * 4 := by rw [hR0, List.length_take, Array.length_toList, hRs]; omega
 have hR0t : R0.take (j * 4) = xs.take (j * 4) := by
  rw [hR0, List.take_take, Nat.min_eq_left (by omega), hROW, Array.toList_append, Array.toList_append, List.append_assoc, List.take_append_of_le_length (by simp only [List.length_take, hL]; omega), List.take_take, Nat.min_self]
 obtain ⟨W1, hW1⟩ : ∃ W1, W1 = (w.alloc (.cells ROW 109)).drew := ⟨_, rfl⟩;have H1 : Hp [] w W1 [.row 109 4 (.slice (some ⟨N, 0, none⟩) (n + 1) G) (n + 1) R0] := by
  rw [hW1, hN];refine Hp.one_row ⟨by rw [hR0l], .inr ⟨w.heap.size, G, ROW, rfl, Nat.le_refl _, ?_, hGn, hG63, hRs, hR0.symm⟩⟩ ((Fr.al (Below.refl _ _) _).then (Fr.drew_ _))
  show (w.heap.push _)[w.heap.size]? = _
  simp
 have hr1 := H1.row 0 rfl;have hO : ∀ b q v, b < w.heap.size → w.cell? ⟨b, q, none⟩ = some v → W1.cell? ⟨b, q, none⟩ = some v := fun b q v hb hh => by
  rw [hW1]; show (w.alloc _).cell? _ = _;rw [World.cell?_alloc_past (w := w) _ b q hb]; exact hh
 have hcpA : ∀ (W : World), (∀ x, W.cell? x = W1.cell? x) → (∀ x, W.frozen? x = W1.frozen? x) → ∀ ty dc, (Builtin.copy_ #[74, 74] ty #[.slice (some ⟨N, j * 4, none⟩) (n + 1 - j) dc, .slice (some ⟨ga, 0, none⟩) 1 1]).run Tryz.prog W = .ok (goInt (Nat.min 1 (n + 1 - j) : Nat)) (W.setCells N (j * 4) (cEnt e)) := fun W hWc hWf ty dc =>
  run_copyK W _ _ ty 109 4 N (j * 4) (n + 1 - j) dc ⟨ga, 0, none⟩ 1 1 (cEnt e) Tryz.underlying74 hsz (by rw [cEnt_len]; simp only [Nat.min_def]; split <;> omega)
   (fun q v hq => by rw [Addr.add_lit, Nat.zero_add, hWc]; exact hO _ _ _ hvw (hgetv hq)) (fun q hq => by rw [hWc]; exact own_room hr1 (by rw [cEnt_len] at hq; omega)) (fun q hq => by rw [hWf]; exact hr1.frozenAt _) (cEnt_one e)
 have H2 := Hp.puts 0 (cEnt e) _ (j * 4) _ _ H1 rfl;have H3 := H2.drew;have hr3 := H3.row 0 rfl;have hgN : g ≠ N := by omega
 have hcpB : ∀ (W : World), (∀ x, W.cell? x = (W1.setCells N (j * 4) (cEnt e)).cell? x) → (∀ x, W.frozen? x = (W1.setCells N (j * 4) (cEnt e)).frozen? x) → ∀ ty dc sc, (Builtin.copy_ #[74, 74] ty #[.slice (some ⟨N, (j + 1) * 4, none⟩) (n - j) dc, .slice (some ⟨g, j * 4, none⟩) (n - j) sc]).run Tryz.prog W = .ok (goInt (Nat.min (n - j) (n - j) : Nat)) (W.setCells N ((j + 1) * 4) (xs.drop (j * 4))) := fun W hWc hWf ty dc sc =>
  run_copyK W _ _ ty 109 4 N ((j + 1) * 4) (n - j) dc ⟨g, j * 4, none⟩ (n - j) sc (xs.drop (j * 4)) Tryz.underlying74 hsz (by rw [hdl, show Nat.min (n - j) (n - j) = n - j from Nat.min_self _])
   (fun q v hq => by
    rw [Addr.add_lit, hWc, World.cell?_setCells_out N _ _ _ _ (fun hh _ => absurd hh hgN)];exact hO _ _ _ hgw (hget (by rwa [List.getElem?_drop] at hq)))
   (fun q hq => by rw [hWc]; exact own_room hr3 (by rw [hdl] at hq; omega)) (fun q hq => by rw [hWf]; exact hr3.frozenAt _) hcl0
 have H4 := Lib.hid ((Hp.puts 0 (xs.drop (j * 4)) _ ((j + 1) * 4) _ _ H3 rfl).recast (l' := [.row 109 4 (.slice (some ⟨N, 0, none⟩) (n + 1) G) (n + 1) ((L.insertIdx j e).flatMap cEnt)]) (by
  have e2 := flat_insert cEnt 4 cEnt_len e L j (by omega);rw [← hxs] at e2
  show [Ob.row _ _ _ _ (layL (layL R0 (j * 4) (cEnt e)) ((j + 1) * 4) (xs.drop (j * 4)))] = _
  congr 2
  have e3 : layL R0 (j * 4) (cEnt e) = R0.take (j * 4) ++ cEnt e ++ R0.drop (j * 4 + 4) := by
   rw [layL_eq _ _ _ (by rw [cEnt_len, hR0l]; omega), cEnt_len]
  have hql : (R0.take (j * 4) ++ cEnt e).length = (j + 1) * 4 := by rw [List.length_append, List.length_take, cEnt_len, hR0l]; omega
  rw [layL_eq _ _ _ (by rw [layL_len, hdl, hR0l]; omega), List.drop_of_length_le (l := layL R0 (j * 4) (cEnt e)) (by rw [layL_len, hdl, hR0l]; omega), List.append_nil, ← e2, e3, List.take_append_of_le_length (by rw [hql]; exact Nat.le_refl _), List.take_of_length_le (by rw [hql]; exact Nat.le_refl _), hR0t]))
 have hE1 : ∀ x, (w.drew.alloc (.cells ROW 109)).cell? x = W1.cell? x := fun x => by rw [hW1]; rfl
 have hE2 : ∀ x, (w.drew.alloc (.cells ROW 109)).frozen? x = W1.frozen? x := fun x => by rw [hW1]; rfl
 have hw1 : IntKind.i64.wrap ((j : Int) + 1) = (j : Int) + 1 := by rw [IntKind.wrap_i64]; omega
 have htn : ((j : Int) + 1).toNat = j + 1 := by omega
 have hz2' : ¬ ((j : Int) = (n : Int)) := by omega
 have hz3' : ((j : Int) == (n : Int)) = false := by simp; omega
 have hb0 : (0 : Int) ≤ (j : Int) + 1 := by omega
 have hb1 : (c : Int) < (n : Int) + 1 := by omega
 have hb3 : (j : Int) + 1 ≤ (n : Int) + 1 := by omega
 have hb6 : (j : Int) ≤ (n : Int) + 1 := by omega
 have hb4 : ¬ (c = j) := by omega
 have hGi : ¬ (G = j) := by omega
 have hGim : ¬ (G = j + 1) := by omega
 have hin2 : (j : Int) ≤ (n : Int) := by omega
 have hin : j ≤ n := by omega
 have hic : j ≤ c := by omega
 rw [← hN] at hrz;simp only [maxLen] at hG63;subst hW1;have hF1 : ∀ x, (((w.alloc (.cells ROW 109)).drew.setCells N (j * 4) (cEnt e)).drew).cell? x = ((w.alloc (.cells ROW 109)).drew.setCells N (j * 4) (cEnt e)).cell? x := fun x => rfl;have hF2 : ∀ x, (((w.alloc (.cells ROW 109)).drew.setCells N (j * 4) (cEnt e)).drew).frozen? x = ((w.alloc (.cells ROW 109)).drew.setCells N (j * 4) (cEnt e)).frozen? x := fun x => rfl;have hA9 := fun ty dc => hcpA ((w.alloc (.cells ROW 109)).drew) (fun _ => rfl) (fun _ => rfl) ty dc;clear hr1 hr3 H1 H2 H3 hO hold hkk hik hROW hG hRs hR0 hR0l hR0t h hv hget hgetv hdl hL hLl hcl0 hxs hz hzs hN hgw hvw;go_enter Tryz.func163, Tryz.ntmps163;go_wp2_with (at_builtin; refine Lib.wpList_append_run _ rfl _ _ _ _ rfl _ _ rfl rfl _ _ (hrz _) ?_);go_wp2_with (simp only [hA9])
 go_region_law_o (refine step_copy_runI rfl _ _ 74 74 rfl _ _ (by simp [Act.eval, Act.put]) (by simp [Act.eval, Act.put]) (hcpB _ hF1 hF2 _ _ _) ?_)
 go_wp2
 go_ret;exact ⟨_, rfl, H4.out⟩
theorem Hp.wide {W : List Nat} {w0 w : World} {l : List Ob} (h : Hp [] w0 w l) : Hp W w0 w l :=
 ⟨Gr.of_fr h.fr, h.ok, fun o ho g hg => .inl ((h.own o ho g hg).elim id fun hh => by simp at hh), h.ap⟩
set_option maxRecDepth 1000000 in
set_option maxHeartbeats 4000000 in
theorem insE_end (A : Option Addr) (n c ga : Nat) (L : List (Int × Int × ByteArray × Int)) (e : Int × Int × ByteArray × Int) (w : World) (h : w.ownsRow 0 109 4 (.slice A n c) n (L.flatMap cEnt)) (hv : w.ownsRow 0 109 4 (.slice (some ⟨ga, 0, none⟩) 1 1) 1 (cEnt e)) (hn16 : n ≤ 1048576) :
 Calls Tryz.prog 163 #[.slice A n c, .int .i64 (n : Int), .slice (some ⟨ga, 0, none⟩) 1 1] w fun r w' =>
  ∃ v', r = .returned v' ∧ Hp (Value.slice A n c).ownBlock.toList w w' [.row 109 4 v' (n + 1) (L.flatMap cEnt ++ cEnt e)] := by
 have H := Hp.start_row h;have hrv := Rd.of_own hv;have hnb : ((n : Int) == (n : Int)) = true := by simp
 clear h hv;have hcn : (c = n) = True ∨ (c = n) = False := by by_cases hh : c = n <;> simp [hh]
 rcases hcn with hcn | hcn
 all_goals
  go_enter Tryz.func163, Tryz.ntmps163;go_wp2_with (at_builtin; refine wp_appRd (H) rfl _ _ _ rfl Tryz.underlying74 infoEnt rfl (by decide) 0 _ _ _ rfl rfl _ _ _ _ rfl (fun hh => by cases hh) (hrv) (cEnt_one e) (by first | (simp only [maxLen]; omega) | (simp [maxLen]; done) | (simp [maxLen]; omega)) (by first | omega | (simp; done) | (simp; omega)) ?_)
  intro v' w2 H2;have H9 := Lib.hid H2;clear H2 H;go_wp2_with fail;go_ret;exact ⟨v', rfl, H9.out⟩
theorem insE_any (A : Option Addr) (n c j ga : Nat) (L : List (Int × Int × ByteArray × Int)) (e : Int × Int × ByteArray × Int) (w : World) (h : w.ownsRow 0 109 4 (.slice A n c) n (L.flatMap cEnt)) (hv : w.ownsRow 0 109 4 (.slice (some ⟨ga, 0, none⟩) 1 1) 1 (cEnt e)) (hga : ∀ g, A = some ⟨g, 0, none⟩ → ga ≠ g) (hj : j ≤ n) (hn16 : n ≤ 1048576) :
 Calls Tryz.prog 163 #[.slice A n c, .int .i64 (j : Int), .slice (some ⟨ga, 0, none⟩) 1 1] w fun r w' =>
  ∃ v', r = .returned v' ∧ Hp (Value.slice A n c).ownBlock.toList w w' [.row 109 4 v' (n + 1) ((L.insertIdx j e).flatMap cEnt)] := by
 have hL : (L.flatMap cEnt).length = n * 4 := h.1;have hLl : L.length = n := by rw [flat_len cEnt_len] at hL; omega
 rcases Nat.lt_or_eq_of_le hj with hlt | rfl
 ·obtain ⟨g, rfl, _, _⟩ := own_form h (by omega)
  by_cases hroom : n + 1 ≤ c
  ·exact (insE_shift g n c j ga L e w h hv (hga g rfl) hlt hroom).mono fun r w' ⟨h1, h2⟩ => ⟨_, h1, h2⟩
  ·exact (insE_grow g n c j ga L e w h hv (hga g rfl) hlt (by omega) hn16).mono fun r w' ⟨v', h1, h2⟩ => ⟨v', h1, h2.wide⟩
 ·refine (insE_end A j c ga L e w h hv hn16).mono fun r w' ⟨v', h1, h2⟩ => ⟨v', h1, h2.recast ?_⟩
  have e2 := flat_insert cEnt 4 cEnt_len e L j (by omega);rw [← e2, List.take_of_length_le (by rw [hL]; exact Nat.le_refl _), List.drop_of_length_le (by rw [hL]; exact Nat.le_refl _), List.append_nil]
end
end Go.Proofs.YtllonpbhgbhogaaGreatDoor
namespace Go.Proofs.YtllonpbhgbhogaaGreatDoor
open Go.RowKit
def dirZ (d : List EntT) (s : ByteArray) : Int := match dirAt d (toB s) with
 | some k => (k : Int)
 | none => -1
theorem dirZ_some {d : List EntT} {s : ByteArray} {k : Nat} (h : dirAt d (toB s) = some k) : dirZ d s = (k : Int) := by rw [dirZ, h]
theorem dirZ_none {d : List EntT} {s : ByteArray} (h : dirAt d (toB s) = none) : dirZ d s = -1 := by rw [dirZ, h]
def sameKey (t : ByteArray) (e : EntT) : Bool := decide (ofB (keyR (toB e.2.2.1)).1 = t)
theorem findIdx_congr {α : Type} {p q : α → Bool} : ∀ {l : List α}, (∀ x ∈ l, p x = q x) → l.findIdx? p = l.findIdx? q
 | [], _ => rfl
 | x :: l, h => by
   rw [List.findIdx?_cons, List.findIdx?_cons, h x List.mem_cons_self, findIdx_congr (l := l) fun y hy => h y (List.mem_cons_of_mem _ hy)]
theorem same_ali {e : EntT} {s : List UInt8} (h1 : (keyR (toB e.2.2.1)).2 = true) (h2 : (keyR s).2 = true) : sameKey (ofB (keyR s).1) e = aliB (toB e.2.2.1) s := by
 rw [sameKey, aliB, h1, h2, Bool.true_and, Bool.true_and];apply decide_eq_decide.2;exact ⟨fun e => by have := congrArg toB e; rwa [toB_ofB, toB_ofB] at this, fun e => by rw [e]⟩
theorem ent_key {d : List EntT} (h : DirR d) {e : EntT} (he : e ∈ d) : (keyR (toB e.2.2.1)).2 = true := by
 have h1 := h.one e he;simp only [entB1, Bool.and_eq_true] at h1;exact h1.1.1.1
theorem findZ_dir {d : List EntT} (h : DirR d) {s : ByteArray} (h2 : (keyR (toB s)).2 = true) : findZ (sameKey (ofB (keyR (toB s)).1)) d = dirZ d s := by
 rw [findZ, dirZ, dirAt, findIdx_congr fun e he => same_ali (ent_key h he) h2]
 all_goals (cases List.findIdx? (fun e : EntT => aliB (toB e.2.2.1) (toB s)) d <;> rfl)
theorem dirZ_bad {d : List EntT} {s : ByteArray} (h2 : (keyR (toB s)).2 = false) : dirZ d s = -1 := by
 refine dirZ_none ?_;rw [dirAt, List.findIdx?_eq_none_iff];intro e he;simp [aliB, h2]
theorem isId_any (x : Int) (w : World) :
 Calls Tryz.prog 134 #[.int .i64 x] w fun e w' => e = .returned (.bool (inB x 1 100000)) ∧ Fr w w' := by
 go_enter Tryz.func134, Tryz.ntmps134;go_wp2_with fail;refine (within_any x 1 100000 _).mono ?_;rintro e _ ⟨rfl, rfl⟩;go_wp2_with fail;go_ret;exact ⟨rfl, Below.refl _ _⟩
set_option maxHeartbeats 1000000 in
theorem copyEnts_any (A : Option Addr) (n c : Nat) (L : List EntT) (w : World) (h : Rd w A n 4 (L.flatMap cEnt)) (hn : n ≤ 1048576) (hc : A = none → c = 0) :
 Calls Tryz.prog 73 #[.slice A n c] w fun e w' => ∃ v', e = .returned v' ∧ Hp [] w w' [.row 109 4 v' n (L.flatMap cEnt)] := by
 have H := (Hp.start w).nil_ 109 4;have h1 : ∀ u ∈ L.flatMap cEnt, u.oneCell' = true := fun u hu => by
  obtain ⟨x, _, hx⟩ := List.mem_flatMap.1 hu;exact cEnt_one x u hx
 go_enter Tryz.func73, Tryz.ntmps73;go_wp2_with (at_builtin; refine wp_appRd (H) rfl _ _ _ rfl Tryz.underlying74 infoEnt rfl (by decide) 0 _ _ _ rfl rfl _ _ _ _ rfl (hc) (h) (h1) (by first | (simp only [maxLen]; omega) | (simp [maxLen]; done) | (simp [maxLen]; omega)) (by first | omega | (simp; done) | (simp; omega)) ?_)
 intro v' w2 H2;have H9 := Lib.hid (H2.recast (l' := [.row 109 4 v' n (L.flatMap cEnt)]) (by simp));clear H2 H;go_wp2_with fail;go_ret;exact ⟨v', rfl, H9.out⟩
set_option maxRecDepth 100000 in
set_option maxHeartbeats 1000000 in
theorem entC_any (y0 y1 : Int) (y2 : ByteArray) (y3 : Int) (t : ByteArray) (g : Nat) (w : World) (h0 : w.cell? ⟨g, 0, none⟩ = some (.string t)) (hy : y2.size ≤ 16777216) (hk : KT w) :
 Calls Tryz.prog 150 #[.agg #[.int .i64 y0, .int .i64 y1, .string y2, .int .i64 y3], .pointer (some ⟨g, 0, none⟩)] w fun r w' => r = .returned (.bool (sameKey t (y0, y1, y2, y3))) ∧ Fr w w' := by
 have H := (Hp.start w).lay_ 109 [.int .i64 y0, .int .i64 y1, .string y2, .int .i64 y3] rfl;obtain ⟨kk, hkk⟩ : ∃ k : ByteArray, k = ofB (keyR (toB y2)).1 := ⟨_, rfl⟩;have HE : sameKey t (y0, y1, y2, y3) = decide (kk = t) := by rw [hkk]; rfl
 have HKK := Lib.hid hkk;rw [HE];clear hkk HE;have y2c := H.fa 0 2 rfl rfl
 by_cases hs : kk = t
 ·subst hs
  have hsb : (kk.toList == kk.toList) = true := beq_self_eq_true _;go_enter Tryz.func150, Tryz.ntmps150;go_wp2_with fail;refine (implKeyOf_any y2 _ hy (hk.fr H.fr)).mono ?_;rintro e w2 ⟨rfl, f2⟩;rw [← HKK.out];have F := (H.go f2).fr;have h2 := fr_cellM F h0;go_wp2_with fail;go_ret;exact ⟨by simp, F⟩
 ·have hsb : (kk.toList == t.toList) = false := str_ne hs
  have HE := Lib.hid (decide_eq_false hs);go_enter Tryz.func150, Tryz.ntmps150;go_wp2_with fail;refine (implKeyOf_any y2 _ hy (hk.fr H.fr)).mono ?_;rintro e w2 ⟨rfl, f2⟩;rw [← HKK.out];have F := (H.go f2).fr;have h2 := fr_cellM F h0;go_wp2_with fail;go_ret;rw [HE.out];exact ⟨rfl, F⟩
set_option maxRecDepth 100000 in
set_option maxHeartbeats 1000000 in
theorem implEntAt_any (A : Option Addr) (n c : Nat) (d : List EntT) (s : ByteArray) (w : World) (h : Rd w A n 4 (d.flatMap cEnt)) (hn : n ≤ 1048576) (hd : DirR d) (hz : ∀ e ∈ d, e.2.2.1.size ≤ 16777216) (hs : s.size ≤ 16777216) (hk : KT w) :
 Calls Tryz.prog 120 #[.slice A n c, .string s] w fun e w' => e = .returned (.int .i64 (dirZ d s)) ∧ Fr w w' := by
 obtain ⟨kk, hkk⟩ : ∃ k : ByteArray, k = ofB (keyR (toB s)).1 := ⟨_, rfl⟩;obtain ⟨ok, hok⟩ : ∃ b : Bool, (keyR (toB s)).2 = b := ⟨_, rfl⟩;have HKK := Lib.hid hkk;have HOK := Lib.hid hok;have HR := Lib.hid h;have HD := Lib.hid hd;have HZ := Lib.hid hz;clear hkk hok h hd hz;go_enter Tryz.func120, Tryz.ntmps120;go_wp2_with fail;refine (implKeyOf_any s _ hs hk).mono ?_;rintro e w2 ⟨rfl, f2⟩;rw [← HKK.out, HOK.out];have H := ((Hp.start w).go f2).lay_ 9 [.string kk] rfl;have hk2 := hk.fr H.fr;clear f2
 cases ok with
 | false =>
   have HE := Lib.hid (dirZ_bad (d := d) HOK.out);go_wp2_with fail;go_ret;rw [HE.out];exact ⟨rfl, H.fr⟩
 | true =>
   have h0 := H.fa 0 0 rfl rfl;have HC := Lib.hid (idxE_entAt (.pointer (some ⟨w2.heap.size, 0, none⟩)) (sameKey kk) A n c d _ (HR.out.fr H.fr) hn fun e he w' f => entC_any e.1 e.2.1 e.2.2.1 e.2.2.2 kk w2.heap.size w' (fr_cellM f h0) (HZ.out e he) (hk2.fr f));have HE := Lib.hid (show findZ (sameKey kk) d = dirZ d s by rw [HKK.out]; exact findZ_dir HD.out HOK.out);have HF := Lib.hid H;clear H h0 hk2;go_wp2_with fail;refine HC.out.mono ?_;rintro e w3 ⟨rfl, f3⟩;rw [HE.out];have F := (HF.out.go f3).fr;clear f3;go_wp2_with fail;go_ret;exact ⟨rfl, F⟩
end Go.Proofs.YtllonpbhgbhogaaGreatDoor
namespace Go.Proofs.YtllonpbhgbhogaaGreatDoor
open Go.RowKit
set_option maxRecDepth 100000 in
set_option maxHeartbeats 2000000 in
theorem implCrc_any (s : ByteArray) (w : World) (hs : s.size ≤ 1099511627776) :
 Calls Tryz.prog 132 #[.string s] w fun e w' => e = .returned (.int .i64 (crcZ (toB s))) ∧ w' = w := by
 have HT := Lib.hid (show (toB s).length = s.size from toB_len s);obtain ⟨n, hn⟩ : ∃ n, n = s.size := ⟨_, rfl⟩;have HN := Lib.hid hn;clear hn;go_enter Tryz.func132, Tryz.ntmps132;go_wp2_with fail
 go_loopw [3, 4] (fun cv iv wr => ∃ (i c : Nat), iv = .int .i64 i ∧ cv = .int .i64 c ∧ i ≤ n ∧ c < 4294967296 ∧ c = ((toB s).take i).foldl crcByte 4294967295 ∧ w = wr) (fun _ iv _ => n - (intOf iv).toNat)
 case atStart => exact ⟨0, 4294967295, rfl, rfl, by omega, by decide, rfl, rfl⟩
 case round =>
  obtain ⟨i, c, rfl, rfl, hi, hc, hcf, hw⟩ := hrel;have HC := Lib.hid hcf;have HW := Lib.hid hw;clear hcf hw
  by_cases hlt : i < n
  ·have hlt1 : (i : Int) < (s.size : Int) := by rw [← HN.out]; omega
   have hks : i < s.size := by rw [← HN.out]; exact hlt
   have hi0 : (0 : Int) ≤ (i : Int) := by omega
   obtain ⟨b, hb⟩ := at_some (HT.out.trans HN.out.symm) hlt;have hbb := b.toNat_lt;have hg := toB_getC hb hks;have HS := Lib.hid (crc_take hb);obtain ⟨c0, hc0⟩ : ∃ x, x = c ^^^ b.toNat := ⟨_, rfl⟩;have hc0b : c0 < 4294967296 := by rw [hc0]; exact xor32 hc (by omega)
   have hx : bits .xor .i64 (c : Int) (b.toNat : Int) = (c0 : Int) := by rw [hc0]; exact bits_xor hc (by omega)
   have HC0 := Lib.hid hc0;clear hc0 hb;go_wp2_with fail
   go_loopw [3, 18] (fun cv kv wr => ∃ (k d : Nat), kv = .int .i64 k ∧ cv = .int .i64 d ∧ k ≤ 8 ∧ d < 4294967296 ∧ d = crcBits k c0 ∧ w = wr) (fun _ kv _ => 8 - (intOf kv).toNat)
   case atStart => exact ⟨0, c0, rfl, rfl, by omega, hc0b, rfl, HW.out⟩
   case round =>
    obtain ⟨k, d, rfl, rfl, hk, hd, hdf, hw⟩ := hrel;have HD := Lib.hid hdf;have HW := Lib.hid hw;clear hdf hw;have hk0 : (0 : Int) ≤ (k : Int) := by omega
    by_cases hk8 : k < 8
    ·have hk81 : (k : Int) < 8 := by omega
     obtain ⟨q, hq1, hq2⟩ : ∃ q : Nat, 2 * q ≤ d ∧ d ≤ 2 * q + 1 := ⟨d / 2, by omega, by omega⟩;have a2 : (d : Int) / 2 = (q : Int) := by omega
     have a4 : (d : Int).tdiv 2 = (q : Int) := by rw [Int.tdiv_eq_ediv_of_nonneg (by omega)]; omega
     have hqd : d / 2 = q := by omega
     by_cases hr : d % 2 = 1
     ·have a1 : bits .and .i64 (d : Int) 1 = 1 := by rw [and_1c (by omega) (by omega)]; omega
      have a3 : (d : Int).tmod 2 = 1 := by rw [Int.tmod_eq_emod_of_nonneg (by omega)]; omega
      obtain ⟨e, he⟩ : ∃ x, x = q ^^^ 2197175160 := ⟨_, rfl⟩;have heb : e < 4294967296 := by rw [he]; exact xor32 (by omega) (by decide)
      have hx2 : bits .xor .i64 (q : Int) 2197175160 = (e : Int) := by rw [he]; exact bits_xor (b := 2197175160) (by omega) (by decide)
      have HE := Lib.hid (show e = crcBits (k + 1) c0 by rw [crcBits, ← HD.out, crcBit, if_pos hr, hqd, he]);clear he hqd;go_wp2_with fail;go_roundw
      case rel => exact ⟨k + 1, e, by go_num, rfl, by omega, heb, HE.out, HW.out⟩
      case measure => simp [intOf]; omega
     ·have hr0 : d % 2 = 0 := by omega
      have a1 : bits .and .i64 (d : Int) 1 = 0 := by rw [and_1c (by omega) (by omega)]; omega
      have a3 : (d : Int).tmod 2 = 0 := by rw [Int.tmod_eq_emod_of_nonneg (by omega)]; omega
      have HE := Lib.hid (show q = crcBits (k + 1) c0 by rw [crcBits, ← HD.out, crcBit, if_neg hr, hqd]);clear hqd;go_wp2_with fail;go_roundw
      case rel => exact ⟨k + 1, q, by go_num, rfl, by omega, by omega, HE.out, HW.out⟩
      case measure => simp [intOf]; omega
    ·have hk81 : ¬ ((k : Int) < 8) := by omega
     have hk8e : k = 8 := by omega
     have HE := Lib.hid (show d = ((toB s).take (i + 1)).foldl crcByte 4294967295 by rw [HS.out, ← HC.out, crcByte, ← HC0.out, HD.out, hk8e]);clear hk8e;go_wp2_with fail;go_roundw
     case rel => exact ⟨i + 1, d, by go_num, rfl, by omega, hd, HE.out, HW.out⟩
     case measure => simp [intOf]; omega
  ·have hlt1 : ¬ ((i : Int) < (s.size : Int)) := by rw [← HN.out]; omega
   have hz : crcZ (toB s) = 4294967295 - (c : Int) := by
    rw [crcZ, crcL, HC.out, List.take_of_length_le (by rw [HT.out, ← HN.out]; omega)]
   have HZ := Lib.hid hz;have hwc : IntKind.i64.wrap (4294967295 - (c : Int)) = 4294967295 - (c : Int) := IntWalk.i64_in _ (by omega);clear hz;go_wp2_with fail;go_ret;rw [HZ.out];exact ⟨rfl, HW.out.symm⟩
set_option maxRecDepth 100000 in
set_option maxHeartbeats 2000000 in
theorem specCrc_any (s : ByteArray) (w : World) (hs : s.size ≤ 1099511627776) :
 Calls Tryz.prog 153 #[.string s] w fun e w' => e = .returned (.int .i64 (crcZ (toB s))) ∧ w' = w := by
 have HT := Lib.hid (show (toB s).length = s.size from toB_len s);obtain ⟨n, hn⟩ : ∃ n, n = s.size := ⟨_, rfl⟩;have HN := Lib.hid hn;clear hn;go_enter Tryz.func153, Tryz.ntmps153;go_wp2_with fail
 go_loopw [3, 4] (fun cv iv wr => ∃ (i c : Nat), iv = .int .i64 i ∧ cv = .int .i64 c ∧ i ≤ n ∧ c < 4294967296 ∧ c = ((toB s).take i).foldl crcByte 4294967295 ∧ w = wr) (fun _ iv _ => n - (intOf iv).toNat)
 case atStart => exact ⟨0, 4294967295, rfl, rfl, by omega, by decide, rfl, rfl⟩
 case round =>
  obtain ⟨i, c, rfl, rfl, hi, hc, hcf, hw⟩ := hrel;have HC := Lib.hid hcf;have HW := Lib.hid hw;clear hcf hw
  by_cases hlt : i < n
  ·have hlt1 : (i : Int) < (s.size : Int) := by rw [← HN.out]; omega
   have hks : i < s.size := by rw [← HN.out]; exact hlt
   have hi0 : (0 : Int) ≤ (i : Int) := by omega
   obtain ⟨b, hb⟩ := at_some (HT.out.trans HN.out.symm) hlt;have hbb := b.toNat_lt;have hg := toB_getC hb hks;have HS := Lib.hid (crc_take hb);obtain ⟨c0, hc0⟩ : ∃ x, x = c ^^^ b.toNat := ⟨_, rfl⟩;have hc0b : c0 < 4294967296 := by rw [hc0]; exact xor32 hc (by omega)
   have hx : bits .xor .i64 (c : Int) (b.toNat : Int) = (c0 : Int) := by rw [hc0]; exact bits_xor hc (by omega)
   have HC0 := Lib.hid hc0;clear hc0 hb;go_wp2_with fail
   go_loopw [3, 5] (fun cv kv wr => ∃ (k d : Nat), kv = .int .i64 k ∧ cv = .int .i64 d ∧ k ≤ 8 ∧ d < 4294967296 ∧ d = crcBits k c0 ∧ w = wr) (fun _ kv _ => 8 - (intOf kv).toNat)
   case atStart => exact ⟨0, c0, rfl, rfl, by omega, hc0b, rfl, HW.out⟩
   case round =>
    obtain ⟨k, d, rfl, rfl, hk, hd, hdf, hw⟩ := hrel;have HD := Lib.hid hdf;have HW := Lib.hid hw;clear hdf hw;have hk0 : (0 : Int) ≤ (k : Int) := by omega
    by_cases hk8 : k < 8
    ·have hk81 : (k : Int) < 8 := by omega
     obtain ⟨q, hq1, hq2⟩ : ∃ q : Nat, 2 * q ≤ d ∧ d ≤ 2 * q + 1 := ⟨d / 2, by omega, by omega⟩;have a2 : (d : Int) / 2 = (q : Int) := by omega
     have a4 : (d : Int).tdiv 2 = (q : Int) := by rw [Int.tdiv_eq_ediv_of_nonneg (by omega)]; omega
     have hqd : d / 2 = q := by omega
     by_cases hr : d % 2 = 1
     ·have a1 : bits .and .i64 (d : Int) 1 = 1 := by rw [and_1c (by omega) (by omega)]; omega
      have a3 : (d : Int).tmod 2 = 1 := by rw [Int.tmod_eq_emod_of_nonneg (by omega)]; omega
      obtain ⟨e, he⟩ : ∃ x, x = q ^^^ 2197175160 := ⟨_, rfl⟩;have heb : e < 4294967296 := by rw [he]; exact xor32 (by omega) (by decide)
      have hx2 : bits .xor .i64 (q : Int) 2197175160 = (e : Int) := by rw [he]; exact bits_xor (b := 2197175160) (by omega) (by decide)
      have HE := Lib.hid (show e = crcBits (k + 1) c0 by rw [crcBits, ← HD.out, crcBit, if_pos hr, hqd, he]);clear he hqd;go_wp2_with fail;go_roundw
      case rel => exact ⟨k + 1, e, by go_num, rfl, by omega, heb, HE.out, HW.out⟩
      case measure => simp [intOf]; omega
     ·have hr0 : d % 2 = 0 := by omega
      have a1 : bits .and .i64 (d : Int) 1 = 0 := by rw [and_1c (by omega) (by omega)]; omega
      have a3 : (d : Int).tmod 2 = 0 := by rw [Int.tmod_eq_emod_of_nonneg (by omega)]; omega
      have HE := Lib.hid (show q = crcBits (k + 1) c0 by rw [crcBits, ← HD.out, crcBit, if_neg hr, hqd]);clear hqd;go_wp2_with fail;go_roundw
      case rel => exact ⟨k + 1, q, by go_num, rfl, by omega, by omega, HE.out, HW.out⟩
      case measure => simp [intOf]; omega
    ·have hk81 : ¬ ((k : Int) < 8) := by omega
     have hk8e : k = 8 := by omega
     have HE := Lib.hid (show d = ((toB s).take (i + 1)).foldl crcByte 4294967295 by rw [HS.out, ← HC.out, crcByte, ← HC0.out, HD.out, hk8e]);clear hk8e;go_wp2_with fail;go_roundw
     case rel => exact ⟨i + 1, d, by go_num, rfl, by omega, hd, HE.out, HW.out⟩
     case measure => simp [intOf]; omega
  ·have hlt1 : ¬ ((i : Int) < (s.size : Int)) := by rw [← HN.out]; omega
   have hz : crcZ (toB s) = 4294967295 - (c : Int) := by
    rw [crcZ, crcL, HC.out, List.take_of_length_le (by rw [HT.out, ← HN.out]; omega)]
   have HZ := Lib.hid hz;have hwc : IntKind.i64.wrap (4294967295 - (c : Int)) = 4294967295 - (c : Int) := IntWalk.i64_in _ (by omega);clear hz;go_wp2_with fail;go_ret;rw [HZ.out];exact ⟨rfl, HW.out.symm⟩
end Go.Proofs.YtllonpbhgbhogaaGreatDoor