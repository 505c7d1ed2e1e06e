/-
  Many texts in one: MVolOk4, SlIns, EntAt, DropI.
-/
import Derived.Test.YtmpldngnkacnmaaGreatDoorGn
import Derived.Shelf.Spec.SlicesInsert
import Derived.Lib.AppendZerosOnto
import Derived.Test.YtmpldngnkacnmaaGreatDoorGk
import Derived.Test.YtmpldngnkacnmaaGreatDoorGe
import Derived.Test.YtmpldngnkacnmaaGreatDoorGa
import Derived.Test.YtmpldngnkacnmaaGreatDoorDirOkI
set_option linter.unusedVariables false
set_option linter.unusedSimpArgs false
namespace Go.Proofs.YtmpldngnkacnmaaGreatDoor
open Go.RowKit
theorem blw_kid {l : List Nod} (h : Srt l) {a b : Int} (hb : Blw l a b) : ∃ c, Kid l a c := by
 induction hb with
 | one hk => exact ⟨_, (kid_iff h).1 hk⟩
 | more _ _ ih => exact ih
theorem lookD_none {d : List EntT} {s : ByteArray} (h : lookD d s = none) : dirAt d (toB s) = none := by
 cases h1 : dirAt d (toB s) with
 | none => rfl
 | some k =>
   obtain ⟨e, h2, _⟩ := dirAt_some h1;rw [lookD, h1, Option.bind_some, h2] at h; cases h
theorem none_of {d : List EntT} {s : List UInt8} (h : ∀ e ∈ d, aliB (toB e.2.2.1) s = false) : dirAt d s = none := by
 rw [dirAt, List.findIdx?_eq_none_iff];intro e he; simp [h e he]
theorem lookD_mem {d : List EntT} {s : ByteArray} {e : EntT} (h : lookD d s = some e) : e ∈ d := by
 obtain ⟨k, _, h2⟩ := look_at h;exact List.mem_of_getElem? h2
theorem drop_sub (d : List EntT) (s : ByteArray) : (dropD d s).1.Sublist d := by
 rw [dropD]; split
 ·exact List.Sublist.refl _
 ·exact List.eraseIdx_sublist _ _
theorem loop_not {next : Int} {l : List Nod} {x y : Nod} (h : VOk next l) (hx : x ∈ l) (hy : y ∈ l) (hyd : y.2.1 = 2) (hloop : ¬ (x.2.1 = 2 ∧ (y.1 = x.1 ∨ Blw l x.1 y.1))) : y.1 ≠ x.1 ∧ ¬ Blw l x.1 y.1 := by
 by_cases hxd : x.2.1 = 2
 ·exact ⟨fun e => hloop ⟨hxd, .inl e⟩, fun e => hloop ⟨hxd, .inr e⟩⟩
 ·refine ⟨fun e => ?_, fun e => ?_⟩
  ·have := srt_inj h.srt hy hx e
   subst this; exact hxd hyd
  ·obtain ⟨c, z, hz, hzx, en, hen, _⟩ := blw_kid h.srt e
   have := srt_inj h.srt hz hx hzx;subst this
   rcases h.typ z hx with t | t
   ·rw [t.2.1] at hen; simp at hen
   ·exact hxd t.1
theorem mv_V {next : Int} {l : List Nod} {k t : Nat} {yk yt x : Nod} {s s2 : ByteArray} {e : EntT} (h : VOk next l) (hk : l[k]? = some yk) (hkd : yk.2.1 = 2) (ht : l[t]? = some yt) (htd : yt.2.1 = 2) (hl : lookD yk.2.2.2.2 s = some e) (hxm : x ∈ l) (hex : e.2.2.2 = x.1)
 (hna : nameB (toB s2) = true) (hno : lookD yt.2.2.2.2 s2 = none) (hlen : k ≠ t → yt.2.2.2.2.length < 12) (hloop : ¬ (x.2.1 = 2 ∧ (yt.1 = x.1 ∨ Blw l x.1 yt.1))) :
 VOk next (nEnts (nEnts l k (dropD yk.2.2.2.2 s).1) t (addD (entsOf (nEnts l k (dropD yk.2.2.2.2 s).1) t) s2 x.1).1) := by
 have htm := List.mem_of_getElem? ht;have hdk := h.toVW.dir hk hkd;have hp := drop_ids hl;have hdr := dropD_R hdk s;have hsub := drop_sub yk.2.2.2.2 s;rw [hex] at hp
 generalize (dropD yk.2.2.2.2 s).1 = d1 at hp hdr hsub
 have hx1 : x.1 ≠ 1 := (h.toVW.ids hk (hp.mem_iff.2 List.mem_cons_self)).1;have hW1 : VW next (nEnts l k d1) := nEnts_VW h.toVW hk hkd hdr fun e he => h.toVW.ids hk (hp.mem_iff.2 (List.mem_cons_of_mem _ (mem_ids he)));have hnm1 : ∀ i, namedN l i = namedN (nEnts l k d1) i + (if i = x.1 then 1 else 0) := fun i => by
  have h3 := nEnts_named (d := d1) (i := i) hk;rw [hp.count_eq, count_cons'] at h3;omega
 have ht1 := nEnts_at (d := d1) hk ht;have hat0 : dirAt yt.2.2.2.2 (toB s2) = none := lookD_none hno;obtain ⟨dt, hdt⟩ : ∃ dt, dt = if t = k then d1 else yt.2.2.2.2 := ⟨_, rfl⟩;rw [← hdt] at ht1;have hdtn : dirAt dt (toB s2) = none := none_of fun e he => dirAt_none hat0 e (by
  rw [hdt] at he
  split at he
  ·rename_i hh; subst hh
   rw [hk] at ht; injection ht with ht; subst ht;exact hsub.subset he
  ·exact he)
 have hdtl : dt.length < 12 := by
  rw [hdt]
  split
  ·have h3 := hp.length_eq
   have h4 := hdk.len;simp only [idsE, List.length_map, List.length_cons] at h3;omega
  ·rename_i hh; exact hlen fun e => hh e.symm
 have hold1 := fun {z : Nod} (hz : z ∈ nEnts l k d1) => nEnts_old h.srt hk hz;have hkid1 : ∀ a b, Kid l a b → b ≠ x.1 → Kid (nEnts l k d1) a b := fun a b hab hb => by
  rw [nEnts_kid h.srt hk]
  by_cases e4 : a = yk.1
  ·exact .inl ⟨e4, (List.mem_cons.1 (hp.mem_iff.1 ((kid_at h.srt hk).1 (e4 ▸ hab)))).resolve_left hb⟩
  ·exact .inr ⟨e4, hab⟩
 have hex1 : ∃ z ∈ nEnts l k d1, z.1 = x.1 := (nEnts_ex h.srt hk).2 ⟨x, hxm, rfl⟩
 generalize nEnts l k d1 = l1 at hW1 hnm1 ht1 hold1 hkid1 hex1
 obtain ⟨yt', hyt'⟩ : ∃ y : Nod, y = (yt.1, yt.2.1, yt.2.2.1, yt.2.2.2.1, dt) := ⟨_, rfl⟩;rw [← hyt'] at ht1;have y1 : yt'.1 = yt.1 := by rw [hyt']
 have y2 : yt'.2.1 = 2 := by rw [hyt']; exact htd
 have y5 : yt'.2.2.2.2 = dt := by rw [hyt']
 clear hyt';have hp2 := add_ids (d := dt) (id := x.1) hna hdtn (h.toVW.inB_id hxm) hdtl;have hdt1 : DirR dt := by have := hW1.dir ht1 y2; rwa [y5] at this
 have hdr2 := addD_R hdt1 s2 x.1;rw [entsOf_eq ht1, y5]
 generalize (addD dt s2 x.1).1 = d2 at hp2 hdr2
 have hW2 : VW next (nEnts l1 t d2) := nEnts_VW hW1 ht1 y2 hdr2 fun e he => by
  rcases List.mem_cons.1 (hp2.mem_iff.1 (mem_ids he)) with h3 | h3
  ·rw [h3]; exact ⟨hx1, hex1⟩
  ·exact hW1.ids ht1 (by rw [y5]; exact h3)
 have hnm2 : ∀ i, namedN (nEnts l1 t d2) i = namedN l i := fun i => by
  have h3 := nEnts_named (d := d2) (i := i) ht1;rw [hp2.count_eq, count_cons', y5] at h3;have := hnm1 i;omega
 have hold2 : ∀ {z : Nod}, z ∈ nEnts l1 t d2 → ∃ q ∈ l, z.1 = q.1 ∧ z.2.1 = q.2.1 ∧ z.2.2.1 = q.2.2.1 := fun hz => by
  obtain ⟨q, hq, a1, a2, a3⟩ := nEnts_old hW1.srt ht1 hz;obtain ⟨r, hr, b1, b2, b3⟩ := hold1 hq;exact ⟨r, hr, a1.trans b1, a2.trans b2, a3.trans b3⟩
 obtain ⟨hne, hnb⟩ := loop_not h hxm htm htd hloop;have hmv := rch_move (o := 0) h.srt hW2.srt (x := x.1) (t := yt.1) (fun a b hab => by
  by_cases hb : b = x.1
  ·exact .inr (.inl hb)
  ·exact .inl (kid_sup hW1.srt ht1 (fun b hb => hp2.mem_iff.2 (List.mem_cons_of_mem _ (by rw [← y5]; exact hb))) (hkid1 a b hab hb)))
  (fun b ⟨z, hz, e0, _⟩ => by have := h.rng z hz; omega)
  ((nEnts_kid hW1.srt ht1).2 (.inl ⟨y1.symm, hp2.mem_iff.2 List.mem_cons_self⟩)) hne hnb (by have := h.rng yt htm; omega) (h.rch yt htm)
 refine ⟨hW2, fun z hz => ?_, fun z hz => ?_, fun z hz => ?_⟩
 ·obtain ⟨q, hq, a1, a2, a3⟩ := hold2 hz
  rw [a2, a3]; exact h.one q hq
 ·obtain ⟨q, hq, a1, a2, a3⟩ := hold2 hz
  rw [a1, a3, hnm2]; exact h.lnk q hq
 ·obtain ⟨q, hq, a1, a2, a3⟩ := hold2 hz
  rw [a1];exact (hmv _ (h.rch q hq)).resolve_left (by have := h.rng q hq; omega)
theorem resp_look {d : List EntT} {s s2 : ByteArray} {id : Int} {e e2 : EntT} (h2 : lookD d s2 = some e2) (h1 : lookD d s = some e) (hne : e2 ≠ e) (hid : inB id 1 100000 = true) : lookD (respD d s2 id).1 s = some e := by
 obtain ⟨j, a1, a2⟩ := look_at h1;obtain ⟨j2, b1, b2⟩ := look_at h2;have hj : j2 ≠ j := fun hh => by subst hh; rw [a2] at b2; injection b2 with b2; exact hne b2.symm
 obtain ⟨c1, c2, c3⟩ := List.findIdx?_eq_some_iff_getElem.1 a1;obtain ⟨q2, d2, d3⟩ := dirAt_some b1;rw [b2] at d2; injection d2 with d2; subst d2;rw [respD_eq b1 b2 hid];have hj2 := (List.getElem?_eq_some_iff.1 b2).1;have h3 : dirAt (d.set j2 (e2.1, e2.2.1, s2, id)) (toB s) = some j := by
  refine List.findIdx?_eq_some_iff_getElem.2 ⟨by rw [List.length_set]; exact c1, ?_, fun i hi => ?_⟩
  ·rw [List.getElem_set_ne hj]; exact c2
  ·by_cases hij : j2 = i
   ·subst hij
    rw [List.getElem_set_self];intro hh;have h5 := aliB_trans d3 hh;have h6 := c3 j2 hi;rw [(List.getElem?_eq_some_iff.1 b2).2] at h6;exact h6 h5
   ·rw [List.getElem_set_ne hij]; exact c3 i hi
 rw [lookD, h3, Option.bind_some, List.getElem?_set_ne hj, a2]
theorem over_V {next : Int} {l : List Nod} {k t : Nat} {yk yt x o : Nod} {s s2 : ByteArray} {e e2 : EntT} (h : VOk next l) (hk : l[k]? = some yk) (hkd : yk.2.1 = 2) (ht : l[t]? = some yt) (htd : yt.2.1 = 2) (hl : lookD yk.2.2.2.2 s = some e) (hxm : x ∈ l) (hex : e.2.2.2 = x.1)
 (hl2 : lookD yt.2.2.2.2 s2 = some e2) (hom : o ∈ l) (heo : e2.2.2.2 = o.1) (hne : o.1 ≠ x.1) (ho5 : o.2.2.2.2 = []) (hloop : ¬ (x.2.1 = 2 ∧ (yt.1 = x.1 ∨ Blw l x.1 yt.1))) :
 VOk next (nLess (nEnts (nEnts l t (respD yt.2.2.2.2 s2 x.1).1) k (dropD (entsOf (nEnts l t (respD yt.2.2.2.2 s2 x.1).1) k) s).1) o.1) := by
 have htm := List.mem_of_getElem? ht;have hkm := List.mem_of_getElem? hk;have hdt := h.toVW.dir ht htd;have hpt := drop_ids hl2;have hpr := resp_ids hl2 (h.toVW.inB_id hxm);have hdr := respD_R hdt s2 x.1;have hlk : k = t → lookD (respD yt.2.2.2.2 s2 x.1).1 s = some e := fun hh => by
  subst hh;rw [hk] at ht; injection ht with ht; subst ht;exact resp_look hl2 hl (fun e3 => hne (by rw [← heo, ← hex, e3])) (h.toVW.inB_id hxm)
 rw [heo] at hpt
 generalize (respD yt.2.2.2.2 s2 x.1).1 = d1 at hpr hdr hlk
 generalize idsE (dropD yt.2.2.2.2 s2).1 = r at hpt hpr
 have hx1 : x.1 ≠ 1 := (h.toVW.ids hk (by rw [← hex]; exact mem_ids (lookD_mem hl))).1;have ho1 : o.1 ≠ 1 := (h.toVW.ids ht (by rw [← heo]; exact mem_ids (lookD_mem hl2))).1;have hoyk : o.1 ≠ yk.1 := fun e3 => by
  have := srt_inj h.srt hom hkm e3;subst this;have := lookD_mem hl;rw [ho5] at this; simp at this
 have hoyt : o.1 ≠ yt.1 := fun e3 => by
  have := srt_inj h.srt hom htm e3;subst this;have := lookD_mem hl2;rw [ho5] at this; simp at this
 have hok : ∀ b, ¬ Kid l o.1 b := fun b ⟨z, hz, e0, en, hen, _⟩ => by
  have := srt_inj h.srt hz hom e0;subst this;rw [ho5] at hen; simp at hen
 have hW1 : VW next (nEnts l t d1) := nEnts_VW h.toVW ht htd hdr fun en he => by
  rcases List.mem_cons.1 (hpr.mem_iff.1 (mem_ids he)) with h3 | h3
  ·rw [h3]; exact ⟨hx1, x, hxm, rfl⟩
  ·exact h.toVW.ids ht (hpt.mem_iff.2 (List.mem_cons_of_mem _ h3))
 have hnm1 : ∀ i, namedN (nEnts l t d1) i + (if i = o.1 then 1 else 0) = namedN l i + (if i = x.1 then 1 else 0) := fun i => by
  have h3 := nEnts_named (d := d1) (i := i) ht;rw [hpt.count_eq, hpr.count_eq, count_cons', count_cons'] at h3;omega
 have hk1 := nEnts_at (d := d1) ht hk;obtain ⟨dk, hdk⟩ : ∃ dk, dk = if k = t then d1 else yk.2.2.2.2 := ⟨_, rfl⟩;rw [← hdk] at hk1;have hlk2 : lookD dk s = some e := by
  rw [hdk]; split
  ·rename_i hh; exact hlk hh
  ·exact hl
 have hold1 := fun {z : Nod} (hz : z ∈ nEnts l t d1) => nEnts_old h.srt ht hz;have hkid1 : ∀ a b, Kid l a b → b ≠ o.1 → Kid (nEnts l t d1) a b := fun a b hab hb => by
  rw [nEnts_kid h.srt ht]
  by_cases e4 : a = yt.1
  ·exact .inl ⟨e4, hpr.mem_iff.2 (List.mem_cons_of_mem _ ((List.mem_cons.1 (hpt.mem_iff.1 ((kid_at h.srt ht).1 (e4 ▸ hab)))).resolve_left hb))⟩
  ·exact .inr ⟨e4, hab⟩
 have hko1 : ∀ b, ¬ Kid (nEnts l t d1) o.1 b := fun b hb => by
  rcases (nEnts_kid h.srt ht).1 hb with ⟨e3, _⟩ | ⟨_, h3⟩
  ·exact hoyt e3
  ·exact hok b h3
 have hex1 : ∃ z ∈ nEnts l t d1, z.1 = o.1 := (nEnts_ex h.srt ht).2 ⟨o, hom, rfl⟩;have htx1 : Kid (nEnts l t d1) yt.1 x.1 := (nEnts_kid h.srt ht).2 (.inl ⟨rfl, hpr.mem_iff.2 List.mem_cons_self⟩)
 generalize nEnts l t d1 = l1 at hW1 hnm1 hk1 hold1 hkid1 hko1 hex1 htx1
 obtain ⟨yk', hyk'⟩ : ∃ y : Nod, y = (yk.1, yk.2.1, yk.2.2.1, yk.2.2.2.1, dk) := ⟨_, rfl⟩;rw [← hyk'] at hk1;have y1 : yk'.1 = yk.1 := by rw [hyk']
 have y2 : yk'.2.1 = 2 := by rw [hyk']; exact hkd
 have y5 : yk'.2.2.2.2 = dk := by rw [hyk']
 clear hyk';rw [entsOf_eq hk1, y5];have hp2 := drop_ids hlk2;rw [hex] at hp2;have hdk1 : DirR dk := by have := hW1.dir hk1 y2; rwa [y5] at this
 have hdr2 := dropD_R hdk1 s
 generalize (dropD dk s).1 = d2 at hp2 hdr2
 have hW2 : VW next (nEnts l1 k d2) := nEnts_VW hW1 hk1 y2 hdr2 fun en he => hW1.ids hk1 (by rw [y5]; exact hp2.mem_iff.2 (List.mem_cons_of_mem _ (mem_ids he)));have hnm2 : ∀ i, namedN l i = namedN (nEnts l1 k d2) i + (if i = o.1 then 1 else 0) := fun i => by
  have h3 := nEnts_named (d := d2) (i := i) hk1;rw [y5, hp2.count_eq, count_cons'] at h3;have := hnm1 i;omega
 have hold2 : ∀ {z : Nod}, z ∈ nEnts l1 k d2 → ∃ q ∈ l, z.1 = q.1 ∧ z.2.1 = q.2.1 ∧ z.2.2.1 = q.2.2.1 := fun hz => by
  obtain ⟨q, hq, a1, a2, a3⟩ := nEnts_old hW1.srt hk1 hz;obtain ⟨r, hr, b1, b2, b3⟩ := hold1 hq;exact ⟨r, hr, a1.trans b1, a2.trans b2, a3.trans b3⟩
 have hkid2 : ∀ a b, Kid l1 a b → b ≠ x.1 → Kid (nEnts l1 k d2) a b := fun a b hab hb => by
  rw [nEnts_kid hW1.srt hk1]
  by_cases e4 : a = yk'.1
  ·exact .inl ⟨e4, (List.mem_cons.1 (hp2.mem_iff.1 (by rw [← y5]; exact (kid_at hW1.srt hk1).1 (e4 ▸ hab)))).resolve_left hb⟩
  ·exact .inr ⟨e4, hab⟩
 have htx2 : Kid (nEnts l1 k d2) yt.1 x.1 := by
  rw [nEnts_kid hW1.srt hk1]
  by_cases e4 : yt.1 = yk'.1
  ·left
   refine ⟨e4, ?_⟩;have hyy : yt = yk := srt_inj h.srt htm hkm (e4.trans y1);have hkt : k = t := by
    have a1 := nodup_at h.srt hk;have a2 := nodup_at h.srt ht;rw [hyy, a1] at a2; injection a2
   have hdd : dk = d1 := by rw [hdk, if_pos hkt]
   rw [hdd] at hp2;have h6 : (idsE d2).Perm r := List.Perm.cons_inv (hp2.symm.trans hpr);refine h6.mem_iff.2 ?_;have h7 : x.1 ∈ idsE yt.2.2.2.2 := by rw [hyy, ← hex]; exact mem_ids (lookD_mem hl)
   exact (List.mem_cons.1 (hpt.mem_iff.1 h7)).resolve_left fun e5 => hne e5.symm
  ·exact .inr ⟨e4, htx1⟩
 obtain ⟨hnx, hnb⟩ := loop_not h hxm htm htd hloop;have hmv := rch_move (o := o.1) h.srt hW2.srt (x := x.1) (t := yt.1) (fun a b hab => by
  by_cases hb : b = x.1
  ·exact .inr (.inl hb)
  ·by_cases hb2 : b = o.1
   ·exact .inr (.inr hb2)
   ·exact .inl (hkid2 a b (hkid1 a b hab hb2) hb))
  hok htx2 hnx hnb (fun e3 => hoyt e3.symm) (h.rch yt htm)
 refine less_V hW2 (fun z hz => ?_) (fun z hz => ?_) ho1 (fun b hb => ?_) (fun z hz => ?_) ((nEnts_ex hW1.srt hk1).2 hex1)
 ·obtain ⟨q, hq, a1, a2, a3⟩ := hold2 hz
  rw [a2, a3]; exact h.one q hq
 ·obtain ⟨q, hq, a1, a2, a3⟩ := hold2 hz
  rw [a1, a3]
  rcases h.lnk q hq with h6 | h6
  ·exact .inl h6
  ·right; rw [h6, hnm2]; split <;> simp
 ·rcases (nEnts_kid hW1.srt hk1).1 hb with ⟨e3, _⟩ | ⟨_, h3⟩
  ·exact hoyk (e3.trans y1)
  ·exact hko1 b h3
 ·obtain ⟨q, hq, a1, a2, a3⟩ := hold2 hz
  rw [a1]; exact hmv _ (h.rch q hq)
theorem clash_0 {next : Int} {l : List Nod} {x o : Nod} (h : VOk next l) (hx : x ∈ l) (ho : o ∈ l) (hc : clashP x o = 0) : o.2.2.2.2 = [] := by
 unfold clashP at hc
 rcases h.typ o ho with t | t
 ·exact t.2.1
 ·by_cases hx2 : x.2.1 = 2
  ·rw [if_neg (by omega)] at hc
   split at hc
   ·omega
   ·rename_i hh
    rcases he : o.2.2.2.2 with _ | ⟨a, r⟩
    ·rfl
    ·exact absurd ⟨hx2, by rw [he]; simp⟩ hh
  ·rw [if_neg (by omega), if_neg (by simp [hx2]), if_pos ⟨hx2, t.1⟩] at hc
   omega
theorem at_of {l : List Nod} {i : Int} {k : Nat} (h : atN l i = some k) : ∃ y, l[k]? = some y ∧ y.1 = i := atN_some h
theorem ren_V {next : Int} {l : List Nod} {k t : Nat} {yk yt x : Nod} {e : EntT} {c : CallT} (h : VOk next l) (hk : l[k]? = some yk) (hkd : yk.2.1 = 2) (hkc : yk.1 = c.2.1) (ht : l[t]? = some yt) (htd : yt.2.1 = 2) (htc : yt.1 = c.2.2.2.1) (hl : lookD yk.2.2.2.2 c.2.2.1 = some e) (hxm : x ∈ l) (hex : e.2.2.2 = x.1)
 (hna : nameB (toB c.2.2.2.2.1) = true) : VOk (renP next l k t x c).1.1 (renP next l k t x c).1.2 := by
 unfold renP;rw [entsOf_eq ht, entsOf_eq hk]
 by_cases hloop : x.2.1 = 2 ∧ (c.2.2.2.1 = x.1 ∨ Blw l x.1 c.2.2.2.1)
 ·rw [if_pos hloop]; exact h
 rw [if_neg hloop];rw [← htc] at hloop
 cases h2 : lookD yt.2.2.2.2 c.2.2.2.2.1 with
 | none =>
   simp only
   by_cases h3 : c.2.1 ≠ c.2.2.2.1 ∧ 12 ≤ yt.2.2.2.2.length
   ·rw [if_pos h3]; exact h
   rw [if_neg h3];refine mv_V h hk hkd ht htd hl hxm hex hna h2 (fun hkt => ?_) hloop;have : c.2.1 ≠ c.2.2.2.1 := fun e4 => hkt (by
    have a1 := nodup_at h.srt hk;have a2 := nodup_at h.srt ht;rw [hkc, e4, ← htc, a2] at a1; injection a1 with a1; exact a1.symm)
   have := fun h12 => h3 ⟨this, h12⟩;omega
 | some e2 =>
   simp only
   by_cases h3 : e2.2.2.2 = x.1
   ·rw [if_pos h3]
    by_cases h4 : c.2.1 = c.2.2.2.1 ∧ aliB (toB c.2.2.1) (toB c.2.2.2.2.1) = true
    ·rw [if_pos h4]
     have hp1 := drop_ids h2;have hp2 := resp_ids h2 (h.toVW.inB_id hxm);rw [h3] at hp1;exact same_V h ht htd (respD_R (h.toVW.dir ht htd) _ _) (hp2.trans hp1.symm)
    ·rw [if_neg h4]; exact h
   ·rw [if_neg h3]
    cases h5 : (atN l e2.2.2.2).bind fun j => l[j]? with
    | none => exact h
    | some o =>
      rw [Option.bind_eq_some_iff] at h5;obtain ⟨j, hj, hoj⟩ := h5;obtain ⟨o', ho', hoi⟩ := at_of hj;rw [hoj] at ho'; injection ho' with ho'; subst ho';simp only
      by_cases h6 : clashP x o ≠ 0
      ·rw [if_pos h6]; exact h
      ·rw [if_neg h6]
       have hom := List.mem_of_getElem? hoj;exact over_V h hk hkd ht htd hl hxm hex h2 hom hoi.symm (by rw [hoi]; exact h3) (clash_0 h hxm hom (by omega)) hloop
theorem begun_0 {l : List Nod} {c : CallT} (h : begunP l c = 0) : ∃ k t yk yt, atN l c.2.1 = some k ∧ atN l (if twoB c.1 = true then c.2.2.2.1 else c.2.1) = some t ∧ l[k]? = some yk ∧ yk.1 = c.2.1 ∧ yk.2.1 = 2 ∧ l[t]? = some yt ∧ yt.1 = (if twoB c.1 = true then c.2.2.2.1 else c.2.1) ∧ yt.2.1 = 2 ∧ nameB (toB c.2.2.1) = true ∧ (twoB c.1 = true → nameB (toB c.2.2.2.2.1) = true) := by
 unfold begunP at h
 split at h
 ·rename_i k t h1 h2
  obtain ⟨yk, a1, a2⟩ := at_of h1;obtain ⟨yt, b1, b2⟩ := at_of h2;rw [kindOf_eq a1, kindOf_eq b1] at h
  split at h
  ·rename_i h3
   split at h
   ·rename_i h4
    exact ⟨k, t, yk, yt, h1, h2, a1, a2, h3.1, b1, b2, h3.2, h4.1, h4.2⟩
   ·omega
  ·omega
 ·omega
theorem do_V {next : Int} {l : List Nod} {c : CallT} (h : VOk next l) : VOk (volDoP next l c).1.1 (volDoP next l c).1.2 := by
 unfold volDoP
 by_cases hc : callB c = true
 rotate_left
 ·rw [if_neg hc]; exact h
 rw [if_pos hc]
 by_cases hb : begunP l c = 0
 rotate_left
 ·rw [if_neg hb]; exact h
 rw [if_pos hb];obtain ⟨k, t, yk, yt, hk1, ht1, hk, hkc, hkd, ht, htc, htd, hn, hna⟩ := begun_0 hb;rw [hk1, ht1];simp only
 by_cases h12 : c.1 = 1 ∨ c.1 = 2
 ·rw [if_pos h12]; exact make_V h hk hkd hn
 rw [if_neg h12];unfold onP;rw [entsOf_eq hk]
 cases hl : lookD yk.2.2.2.2 c.2.2.1 with
 | none => exact h
 | some e =>
   simp only
   cases ha : atN l e.2.2.2 with
   | none => exact h
   | some xi =>
     obtain ⟨x, hx, hxe⟩ := at_of ha;have hxm := List.mem_of_getElem? hx;simp only [hx]
     by_cases g1 : (c.1 = 3 ∨ c.1 = 7) ∧ x.2.1 = 2
     ·rw [if_pos g1]; exact h
     rw [if_neg g1]
     by_cases g2 : c.1 = 4 ∧ x.2.1 ≠ 2
     ·rw [if_pos g2]; exact h
     rw [if_neg g2]
     by_cases g3 : c.1 = 4 ∧ x.2.2.2.2 ≠ []
     ·rw [if_pos g3]; exact h
     rw [if_neg g3]
     by_cases g4 : c.1 = 3 ∨ c.1 = 4
     ·rw [if_pos g4]
      refine unl_V h hk hkd hl hx hxe.symm ?_
      rcases g4 with g4 | g4
      ·rcases h.typ x hxm with t | t
       ·exact t.2.1
       ·exact absurd ⟨.inl g4, t.1⟩ g1
      ·exact Classical.byContradiction fun hh => g3 ⟨g4, hh⟩
     rw [if_neg g4]
     by_cases g5 : c.1 = 5
     ·rw [if_pos g5]
      exact link_V h ht htd hx (hna (by simp [twoB, g5]))
     rw [if_neg g5]
     by_cases g6 : c.1 = 6
     ·rw [if_pos g6]
      have h2 : twoB c.1 = true := by simp [twoB, g6]
      rw [if_pos h2] at htc;exact ren_V h hk hkd hkc ht htd htc hl hxm hxe.symm (hna h2)
     rw [if_neg g6]
     by_cases g7 : c.1 = 7
     ·rw [if_pos g7]
      refine data_V h hx (fun e5 => g1 ⟨.inr g7, e5⟩) ?_;simp only [callB, Bool.and_eq_true, decide_eq_true_eq] at hc;exact hc.1.1.2
     ·rw [if_neg g7]; exact h
end Go.Proofs.YtmpldngnkacnmaaGreatDoor
namespace Go.Proofs.YtmpldngnkacnmaaGreatDoor
open Go.RowKit Go.Lib
section
end
end Go.Proofs.YtmpldngnkacnmaaGreatDoor
namespace Go.Proofs.YtmpldngnkacnmaaGreatDoor
open Go.RowKit
def dirZ (d : List EntT) (s : ByteArray) : Int := match dirAt d (toB s) with
 | some k => (k : Int)
 | none => -1
theorem dirZ_some {d : List EntT} {s : ByteArray} {k : Nat} (h : dirAt d (toB s) = some k) : dirZ d s = (k : Int) := by rw [dirZ, h]
theorem dirZ_none {d : List EntT} {s : ByteArray} (h : dirAt d (toB s) = none) : dirZ d s = -1 := by rw [dirZ, h]
theorem ent_key {d : List EntT} (h : DirR d) {e : EntT} (he : e ∈ d) : (keyR (toB e.2.2.1)).2 = true := by
 have h1 := h.one e he;simp only [entB1, Bool.and_eq_true] at h1;exact h1.1.1.1
end Go.Proofs.YtmpldngnkacnmaaGreatDoor
namespace Go.Proofs.YtmpldngnkacnmaaGreatDoor
open Go.RowKit
def GaveD (w : World) (p : List EntT × Bool) (e : Ending) (w' : World) : Prop := ∃ v', e = .returned (.tuple #[v', .bool p.2]) ∧ Hp [] w w' [.row 90 4 v' p.1.length (p.1.flatMap cEnt)]
end Go.Proofs.YtmpldngnkacnmaaGreatDoor