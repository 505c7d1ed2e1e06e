/-
  Many texts in one: MCall, Bputs, ToS, ToW, ToN, ToD, Sz, SzD.
-/
import Derived.Test.YtaogikhpglcmjaaGreatDoorGa
import Derived.Test.YtaogikhpglcmjaaGreatDoorGb
import Derived.Test.YtaogikhpglcmjaaGreatDoorGi
import Derived.Test.YtaogikhpglcmjaaGreatDoorGt
import Derived.StillTailTactics
import Derived.Test.YtaogikhpglcmjaaGreatDoorGs
import Derived.Test.YtaogikhpglcmjaaGreatDoorGq
import Derived.Test.YtaogikhpglcmjaaGreatDoorGw
namespace Go.Proofs.YtaogikhpglcmjaaGreatDoor
/-- A call: kind, directory, name, to, as, data. -/
abbrev CallT := Int × Int × ByteArray × Int × ByteArray × ByteArray
def twoB (k : Int) : Bool := k == 5 || k == 6
def callB (c : CallT) : Bool := inB c.1 1 8 && inB c.2.1 0 100000 && inB c.2.2.2.1 0 100000 && decide (c.2.2.1.size ≤ 24) && decide (c.2.2.2.2.1.size ≤ 24) && decide (c.2.2.2.2.2.size ≤ 20) &&
  (twoB c.1 || (c.2.2.2.1 == 0 && decide (c.2.2.2.2.1.size = 0))) && (c.1 == 7 || decide (c.2.2.2.2.2.size = 0))
end Go.Proofs.YtaogikhpglcmjaaGreatDoor

namespace Go.Proofs.YtaogikhpglcmjaaGreatDoor
open Go.RowKit
/-- A block's cells, written one by one. -/
def layW (w : World) (g : Nat) : Nat → List Value → World
  | _, [] => w
  | j, v :: vs => layW (w.setCell ⟨g, j, none⟩ v) g (j + 1) vs
theorem Hp.blays_aux {W : List Nat} {w0 : World} {g : Nat} {t : TypeId} : ∀ (vs pre post : List Value) (w : World) (l : List Ob) (i : Nat), Hp W w0 w l → l[i]? = some (.blk g t (pre ++ post)) → post.length = vs.length → Hp W w0 (layW w g pre.length vs) (l.set i (.blk g t (pre ++ vs)))
  | [], pre, post, w, l, i, h, hi, hl => by
    have e : post = [] := List.eq_nil_of_length_eq_zero hl
    subst e
    have e2 : l.set i (.blk g t (pre ++ [])) = l := by
      apply List.ext_getElem?
      intro j
      by_cases hij : i = j
      · subst hij; rw [List.getElem?_set_self (List.getElem?_eq_some_iff.1 hi).1, hi]
      · rw [List.getElem?_set_ne hij]
    rw [e2]; exact h
  | v :: vs, pre, [], w, l, i, h, hi, hl => by simp at hl
  | v :: vs, pre, p :: post, w, l, i, h, hi, hl => by
    have h1 := h.bput i hi pre.length v
    rw [List.set_append_right _ _ (Nat.le_refl _), Nat.sub_self, List.set_cons_zero] at h1
    have h2 := Hp.blays_aux vs (pre ++ [v]) post _ _ i h1 (by rw [List.getElem?_set_self (List.getElem?_eq_some_iff.1 hi).1, List.append_assoc]; rfl) (by simpa using hl)
    rw [List.set_set, List.length_append, List.append_assoc] at h2
    exact h2
theorem Hp.blays {W : List Nat} {w0 w : World} {l : List Ob} {g : Nat} {t : TypeId} {cs : List Value} (h : Hp W w0 w l) (i : Nat) (hi : l[i]? = some (.blk g t cs)) (vs : List Value) (hl : cs.length = vs.length) : Hp W w0 (layW w g 0 vs) (l.set i (.blk g t vs)) :=
  Hp.blays_aux vs [] cs w l i h hi hl

end Go.Proofs.YtaogikhpglcmjaaGreatDoor

namespace Go.Proofs.YtaogikhpglcmjaaGreatDoor
open Go.RowKit



theorem toEnt_any (x0 : Int) (x1 : Int) (x2 : ByteArray) (x3 : Int) (w : World) :
    Calls Tryz.prog 140 #[.agg #[.int .i64 x0, .int .i64 x1, .string x2, .int .i64 x3]] w fun e w' => e = .returned (.agg #[.int .i64 x0, .int .i64 x1, .string x2, .int .i64 x3]) ∧ Fr w w' := by
  go_enter Tryz.func140, Tryz.ntmps140
  go_wp2
  exact bodyPost_ret (v := .agg #[.int .i64 x0, .int .i64 x1, .string x2, .int .i64 x3]) (by simp [results, Tryz.results140, go_sem]) rfl ⟨rfl, by repeat (first | exact Below.refl _ _ | refine Below.alloc ?_ (by first | (simp; done) | (simp; omega)) _ | refine Below.setCell ?_ (by first | (simp; done) | (simp; omega)) _)⟩

set_option maxHeartbeats 1000000 in
theorem toEntS_any (A : Option Addr) (n c : Nat) (l : List (Int × Int × ByteArray × Int)) (w : World) (h : Rd w A n 4 (l.flatMap cEnt)) (hn : n ≤ 1048576) :
    Calls Tryz.prog 123 #[.slice A n c] w fun e w' => ∃ g, e = .returned (.slice (some ⟨g, 0, none⟩) n n) ∧ w'.ownsRow w.heap.size 127 4 (.slice (some ⟨g, 0, none⟩) n n) n (l.flatMap cEnt) ∧ Fr w w' := by
  obtain ⟨i0, hi, hz0, hz1, hz2⟩ := info_parts infoEnt
  go_enter Tryz.func123, Tryz.ntmps123
  go_wp2_with (at_make; refine wpList_make_full _ rfl _ _ 88 rfl w.heap.size 127 i0 _ 4 Tryz.underlying88 hi hz0 hz1 _ _ _ _ n rfl rfl rfl rfl ?c1 ?c2 ?c3 ?_)
  case c1 => rw [hz2]; omega
  case c2 => simp only [maxLen]; omega
  case c3 => omega
  intro w1 hown hg
  have hw1 : Fr w w1 := Fr.of_grown hg
  clear hg
  obtain ⟨zs, hown⟩ : ∃ zs, w1.ownsRow w.heap.size 127 4 (.slice (some ⟨w.heap.size, 0, none⟩) n n) n zs := ⟨_, hown⟩
  have hzl := hown.1
  have HZ := Lib.hid hzl
  clear hzl
  go_wp2_with fail
  go_loopw [4] (fun i wr => ∃ k : Nat, k ≤ n ∧ i = .int .i64 k ∧ wr.ownsRow w.heap.size 127 4 (.slice (some ⟨w.heap.size, 0, none⟩) n n) n ((l.take k).flatMap cEnt ++ zs.drop (k * 4)) ∧ Fr w wr)
    (fun i _ => n - (intOf i).toNat)
  case atStart => exact ⟨0, Nat.zero_le _, rfl, by simpa using hown, hw1⟩
  case round =>
    clear hown hw1
    obtain ⟨k, hk, rfl, hown, hfr⟩ := hrel
    by_cases hlt : k < n
    · obtain ⟨⟨x0, x1, x2, x3⟩, hb⟩ := some_at (h.lenk cEnt_len (by omega)) hlt
      obtain ⟨bk, of, rfl, hcell⟩ := (h.fr hfr).elem cEnt_len hb (by omega)
      have ca0 := hcell 0 _ rfl; simp only [Nat.add_zero] at ca0
      have ca1 := hcell 1 _ rfl
      have ca2 := hcell 2 _ rfl
      have ca3 := hcell 3 _ rfl
      have HO := Lib.hid hown
      have HF := Lib.hid hfr
      have HB := Lib.hid hb
      clear hown hfr hb h hcell
      go_wp2_with fail
      refine (toEnt_any _ _ _ _ _).mono ?_
      rintro e w2 ⟨rfl, f2⟩
      have ho2 := own_fr HO.out f2
      have hst := ((((ho2.stored (k * 4) (.int .i64 x0)).1.stored (k * 4 + 1) (.int .i64 x1)).1.stored (k * 4 + 2) (.string x2)).1.stored (k * 4 + 3) (.int .i64 x3)).1
      have hse := sets_elem (x := (x0, x1, x2, x3)) cEnt_len HB.out HZ.out hlt
      have HST := Lib.hid hst
      have HSE := Lib.hid hse
      have hf0 := ho2.frozenAt (k * 4)
      have ⟨d0, hd0⟩ : ∃ d, w2.cell? ⟨w.heap.size, k * 4, none⟩ = some d := by rw [ho2.cellAt _ (by omega)]; exact ⟨_, List.getElem?_eq_getElem (by have := ho2.1; omega)⟩
      have hf1 := ho2.frozenAt (k * 4 + 1)
      have ⟨d1, hd1⟩ : ∃ d, w2.cell? ⟨w.heap.size, k * 4 + 1, none⟩ = some d := by rw [ho2.cellAt _ (by omega)]; exact ⟨_, List.getElem?_eq_getElem (by have := ho2.1; omega)⟩
      have hf2 := ho2.frozenAt (k * 4 + 2)
      have ⟨d2, hd2⟩ : ∃ d, w2.cell? ⟨w.heap.size, k * 4 + 2, none⟩ = some d := by rw [ho2.cellAt _ (by omega)]; exact ⟨_, List.getElem?_eq_getElem (by have := ho2.1; omega)⟩
      have hf3 := ho2.frozenAt (k * 4 + 3)
      have ⟨d3, hd3⟩ : ∃ d, w2.cell? ⟨w.heap.size, k * 4 + 3, none⟩ = some d := by rw [ho2.cellAt _ (by omega)]; exact ⟨_, List.getElem?_eq_getElem (by have := ho2.1; omega)⟩
      have HF2 := Lib.hid (HF.out.then f2)
      clear hst hse ho2 f2
      go_wp2
      go_roundw
      case rel => exact ⟨k + 1, by omega, by go_num, by rw [← HSE.out]; exact HST.out, (Below.setCell (Below.setCell (Below.setCell (Below.setCell HF2.out (Nat.le_refl _) _) (Nat.le_refl _) _) (Nat.le_refl _) _) (Nat.le_refl _) _)⟩
      case measure => simp [intOf]; omega
    · obtain rfl : k = n := by omega
      have hx : l.take k = l := List.take_of_length_le (by have := h.lenk cEnt_len (by omega); omega)
      rw [hx, List.drop_of_length_le (by have := HZ.out; omega), List.append_nil] at hown
      go_wp2
      go_ret
      exact ⟨w.heap.size, rfl, hown, hfr⟩




theorem toCall_any (x0 : Int) (x1 : Int) (x2 : ByteArray) (x3 : Int) (x4 : ByteArray) (x5 : ByteArray) (w : World) :
    Calls Tryz.prog 75 #[.agg #[.int .i64 x0, .int .i64 x1, .string x2, .int .i64 x3, .string x4, .string x5]] w fun e w' => e = .returned (.agg #[.int .i64 x0, .int .i64 x1, .string x2, .int .i64 x3, .string x4, .string x5]) ∧ Fr w w' := by
  go_enter Tryz.func75, Tryz.ntmps75
  go_wp2
  exact bodyPost_ret (v := .agg #[.int .i64 x0, .int .i64 x1, .string x2, .int .i64 x3, .string x4, .string x5]) (by simp [results, Tryz.results75, go_sem]) rfl ⟨rfl, by repeat (first | exact Below.refl _ _ | refine Below.alloc ?_ (by first | (simp; done) | (simp; omega)) _ | refine Below.setCell ?_ (by first | (simp; done) | (simp; omega)) _)⟩

set_option maxHeartbeats 1000000 in
theorem toCallS_any (A : Option Addr) (n c : Nat) (l : List (Int × Int × ByteArray × Int × ByteArray × ByteArray)) (w : World) (h : Rd w A n 6 (l.flatMap cCall)) (hn : n ≤ 1048576) :
    Calls Tryz.prog 42 #[.slice A n c] w fun e w' => ∃ g, e = .returned (.slice (some ⟨g, 0, none⟩) n n) ∧ w'.ownsRow w.heap.size 75 6 (.slice (some ⟨g, 0, none⟩) n n) n (l.flatMap cCall) ∧ Fr w w' := by
  obtain ⟨i0, hi, hz0, hz1, hz2⟩ := info_parts infoCall
  go_enter Tryz.func42, Tryz.ntmps42
  go_wp2_with (at_make; refine wpList_make_full _ rfl _ _ 50 rfl w.heap.size 75 i0 _ 6 Tryz.underlying50 hi hz0 hz1 _ _ _ _ n rfl rfl rfl rfl ?c1 ?c2 ?c3 ?_)
  case c1 => rw [hz2]; omega
  case c2 => simp only [maxLen]; omega
  case c3 => omega
  intro w1 hown hg
  have hw1 : Fr w w1 := Fr.of_grown hg
  clear hg
  obtain ⟨zs, hown⟩ : ∃ zs, w1.ownsRow w.heap.size 75 6 (.slice (some ⟨w.heap.size, 0, none⟩) n n) n zs := ⟨_, hown⟩
  have hzl := hown.1
  have HZ := Lib.hid hzl
  clear hzl
  go_wp2_with fail
  go_loopw [4] (fun i wr => ∃ k : Nat, k ≤ n ∧ i = .int .i64 k ∧ wr.ownsRow w.heap.size 75 6 (.slice (some ⟨w.heap.size, 0, none⟩) n n) n ((l.take k).flatMap cCall ++ zs.drop (k * 6)) ∧ Fr w wr)
    (fun i _ => n - (intOf i).toNat)
  case atStart => exact ⟨0, Nat.zero_le _, rfl, by simpa using hown, hw1⟩
  case round =>
    clear hown hw1
    obtain ⟨k, hk, rfl, hown, hfr⟩ := hrel
    by_cases hlt : k < n
    · obtain ⟨⟨x0, x1, x2, x3, x4, x5⟩, hb⟩ := some_at (h.lenk cCall_len (by omega)) hlt
      obtain ⟨bk, of, rfl, hcell⟩ := (h.fr hfr).elem cCall_len hb (by omega)
      have ca0 := hcell 0 _ rfl; simp only [Nat.add_zero] at ca0
      have ca1 := hcell 1 _ rfl
      have ca2 := hcell 2 _ rfl
      have ca3 := hcell 3 _ rfl
      have ca4 := hcell 4 _ rfl
      have ca5 := hcell 5 _ rfl
      have HO := Lib.hid hown
      have HF := Lib.hid hfr
      have HB := Lib.hid hb
      clear hown hfr hb h hcell
      go_wp2_with fail
      refine (toCall_any _ _ _ _ _ _ _).mono ?_
      rintro e w2 ⟨rfl, f2⟩
      have ho2 := own_fr HO.out f2
      have hst := ((((((ho2.stored (k * 6) (.int .i64 x0)).1.stored (k * 6 + 1) (.int .i64 x1)).1.stored (k * 6 + 2) (.string x2)).1.stored (k * 6 + 3) (.int .i64 x3)).1.stored (k * 6 + 4) (.string x4)).1.stored (k * 6 + 5) (.string x5)).1
      have hse := sets_elem (x := (x0, x1, x2, x3, x4, x5)) cCall_len HB.out HZ.out hlt
      have HST := Lib.hid hst
      have HSE := Lib.hid hse
      have hf0 := ho2.frozenAt (k * 6)
      have ⟨d0, hd0⟩ : ∃ d, w2.cell? ⟨w.heap.size, k * 6, none⟩ = some d := by rw [ho2.cellAt _ (by omega)]; exact ⟨_, List.getElem?_eq_getElem (by have := ho2.1; omega)⟩
      have hf1 := ho2.frozenAt (k * 6 + 1)
      have ⟨d1, hd1⟩ : ∃ d, w2.cell? ⟨w.heap.size, k * 6 + 1, none⟩ = some d := by rw [ho2.cellAt _ (by omega)]; exact ⟨_, List.getElem?_eq_getElem (by have := ho2.1; omega)⟩
      have hf2 := ho2.frozenAt (k * 6 + 2)
      have ⟨d2, hd2⟩ : ∃ d, w2.cell? ⟨w.heap.size, k * 6 + 2, none⟩ = some d := by rw [ho2.cellAt _ (by omega)]; exact ⟨_, List.getElem?_eq_getElem (by have := ho2.1; omega)⟩
      have hf3 := ho2.frozenAt (k * 6 + 3)
      have ⟨d3, hd3⟩ : ∃ d, w2.cell? ⟨w.heap.size, k * 6 + 3, none⟩ = some d := by rw [ho2.cellAt _ (by omega)]; exact ⟨_, List.getElem?_eq_getElem (by have := ho2.1; omega)⟩
      have hf4 := ho2.frozenAt (k * 6 + 4)
      have ⟨d4, hd4⟩ : ∃ d, w2.cell? ⟨w.heap.size, k * 6 + 4, none⟩ = some d := by rw [ho2.cellAt _ (by omega)]; exact ⟨_, List.getElem?_eq_getElem (by have := ho2.1; omega)⟩
      have hf5 := ho2.frozenAt (k * 6 + 5)
      have ⟨d5, hd5⟩ : ∃ d, w2.cell? ⟨w.heap.size, k * 6 + 5, none⟩ = some d := by rw [ho2.cellAt _ (by omega)]; exact ⟨_, List.getElem?_eq_getElem (by have := ho2.1; omega)⟩
      have HF2 := Lib.hid (HF.out.then f2)
      clear hst hse ho2 f2
      go_wp2
      go_roundw
      case rel => exact ⟨k + 1, by omega, by go_num, by rw [← HSE.out]; exact HST.out, (Below.setCell (Below.setCell (Below.setCell (Below.setCell (Below.setCell (Below.setCell HF2.out (Nat.le_refl _) _) (Nat.le_refl _) _) (Nat.le_refl _) _) (Nat.le_refl _) _) (Nat.le_refl _) _) (Nat.le_refl _) _)⟩
      case measure => simp [intOf]; omega
    · obtain rfl : k = n := by omega
      have hx : l.take k = l := List.take_of_length_le (by have := h.lenk cCall_len (by omega); omega)
      rw [hx, List.drop_of_length_le (by have := HZ.out; omega), List.append_nil] at hown
      go_wp2
      go_ret
      exact ⟨w.heap.size, rfl, hown, hfr⟩


end Go.Proofs.YtaogikhpglcmjaaGreatDoor

namespace Go.Proofs.YtaogikhpglcmjaaGreatDoor
open Go.RowKit

theorem toWrite_any (x0 : Int) (x1 : ByteArray) (w : World) :
    Calls Tryz.prog 107 #[.agg #[.int .i64 x0, .string x1]] w fun e w' => e = .returned (.agg #[.int .i64 x0, .string x1]) ∧ Fr w w' := by
  go_enter Tryz.func107, Tryz.ntmps107
  go_wp2
  exact bodyPost_ret (v := .agg #[.int .i64 x0, .string x1]) (by simp [results, Tryz.results107, go_sem]) rfl ⟨rfl, by repeat (first | exact Below.refl _ _ | refine Below.alloc ?_ (by first | (simp; done) | (simp; omega)) _ | refine Below.setCell ?_ (by first | (simp; done) | (simp; omega)) _)⟩

set_option maxHeartbeats 1000000 in
theorem toWriteS_any (A : Option Addr) (n c : Nat) (l : List (Int × ByteArray)) (w : World) (h : Rd w A n 2 (l.flatMap cWrite)) (hn : n ≤ 1048576) :
    Calls Tryz.prog 74 #[.slice A n c] w fun e w' => ∃ g, e = .returned (.slice (some ⟨g, 0, none⟩) n n) ∧ w'.ownsRow w.heap.size 61 2 (.slice (some ⟨g, 0, none⟩) n n) n (l.flatMap cWrite) ∧ Fr w w' := by
  obtain ⟨i0, hi, hz0, hz1, hz2⟩ := info_parts infoWrite
  go_enter Tryz.func74, Tryz.ntmps74
  go_wp2_with (at_make; refine wpList_make_full _ rfl _ _ 27 rfl w.heap.size 61 i0 _ 2 Tryz.underlying27 hi hz0 hz1 _ _ _ _ n rfl rfl rfl rfl ?c1 ?c2 ?c3 ?_)
  case c1 => rw [hz2]; omega
  case c2 => simp only [maxLen]; omega
  case c3 => omega
  intro w1 hown hg
  have hw1 : Fr w w1 := Fr.of_grown hg
  clear hg
  obtain ⟨zs, hown⟩ : ∃ zs, w1.ownsRow w.heap.size 61 2 (.slice (some ⟨w.heap.size, 0, none⟩) n n) n zs := ⟨_, hown⟩
  have hzl := hown.1
  have HZ := Lib.hid hzl
  clear hzl
  go_wp2_with fail
  go_loopw [4] (fun i wr => ∃ k : Nat, k ≤ n ∧ i = .int .i64 k ∧ wr.ownsRow w.heap.size 61 2 (.slice (some ⟨w.heap.size, 0, none⟩) n n) n ((l.take k).flatMap cWrite ++ zs.drop (k * 2)) ∧ Fr w wr)
    (fun i _ => n - (intOf i).toNat)
  case atStart => exact ⟨0, Nat.zero_le _, rfl, by simpa using hown, hw1⟩
  case round =>
    clear hown hw1
    obtain ⟨k, hk, rfl, hown, hfr⟩ := hrel
    by_cases hlt : k < n
    · obtain ⟨⟨x0, x1⟩, hb⟩ := some_at (h.lenk cWrite_len (by omega)) hlt
      obtain ⟨bk, of, rfl, hcell⟩ := (h.fr hfr).elem cWrite_len hb (by omega)
      have ca0 := hcell 0 _ rfl; simp only [Nat.add_zero] at ca0
      have ca1 := hcell 1 _ rfl
      have HO := Lib.hid hown
      have HF := Lib.hid hfr
      have HB := Lib.hid hb
      clear hown hfr hb h hcell
      go_wp2_with fail
      refine (toWrite_any _ _ _).mono ?_
      rintro e w2 ⟨rfl, f2⟩
      have ho2 := own_fr HO.out f2
      have hst := ((ho2.stored (k * 2) (.int .i64 x0)).1.stored (k * 2 + 1) (.string x1)).1
      have hse := sets_elem (x := (x0, x1)) cWrite_len HB.out HZ.out hlt
      have HST := Lib.hid hst
      have HSE := Lib.hid hse
      have hf0 := ho2.frozenAt (k * 2)
      have ⟨d0, hd0⟩ : ∃ d, w2.cell? ⟨w.heap.size, k * 2, none⟩ = some d := by rw [ho2.cellAt _ (by omega)]; exact ⟨_, List.getElem?_eq_getElem (by have := ho2.1; omega)⟩
      have hf1 := ho2.frozenAt (k * 2 + 1)
      have ⟨d1, hd1⟩ : ∃ d, w2.cell? ⟨w.heap.size, k * 2 + 1, none⟩ = some d := by rw [ho2.cellAt _ (by omega)]; exact ⟨_, List.getElem?_eq_getElem (by have := ho2.1; omega)⟩
      have HF2 := Lib.hid (HF.out.then f2)
      clear hst hse ho2 f2
      go_wp2
      go_roundw
      case rel => exact ⟨k + 1, by omega, by go_num, by rw [← HSE.out]; exact HST.out, (Below.setCell (Below.setCell HF2.out (Nat.le_refl _) _) (Nat.le_refl _) _)⟩
      case measure => simp [intOf]; omega
    · obtain rfl : k = n := by omega
      have hx : l.take k = l := List.take_of_length_le (by have := h.lenk cWrite_len (by omega); omega)
      rw [hx, List.drop_of_length_le (by have := HZ.out; omega), List.append_nil] at hown
      go_wp2
      go_ret
      exact ⟨w.heap.size, rfl, hown, hfr⟩




end Go.Proofs.YtaogikhpglcmjaaGreatDoor

namespace Go.Proofs.YtaogikhpglcmjaaGreatDoor
open Go.RowKit

set_option linter.unusedVariables false
set_option linter.unusedSimpArgs false

set_option maxRecDepth 100000 in
set_option maxHeartbeats 4000000 in
theorem toInode_any (x0 x1 x2 : Int) (x3 : ByteArray) (es : List (Int × Int × ByteArray × Int)) (B : Option Addr) (m d : Nat) (w : World)
    (hB : Rd w B m 4 (es.flatMap cEnt)) (hm : m ≤ 1048576) :
    Calls Tryz.prog 106 #[.agg #[.int .i64 x0, .int .i64 x1, .int .i64 x2, .string x3, .slice B m d]] w fun e w' => ∃ g : Nat, e = .returned (.agg #[.int .i64 x0, .int .i64 x1, .int .i64 x2, .string x3, .slice (some ⟨g, 0, none⟩) m m]) ∧ Hp [] w w' [.row 127 4 (.slice (some ⟨g, 0, none⟩) m m) m (es.flatMap cEnt)] := by
  have H := (((Hp.start w).lay_ 133 [.int .i64 x0, .int .i64 x1, .int .i64 x2, .string x3, .slice B m d] rfl).lay_ 90 [.int .i64 0, .int .i64 0, .int .i64 0, .string ⟨#[]⟩, .slice none 0 0] (g := w.heap.size + 1) (by simp)).lay_ 90 [.int .i64 x0, .int .i64 x1, .int .i64 x2, .string x3, .slice none 0 0] (g := w.heap.size + 1 + 1) (by simp)
  obtain ⟨g2, hg2⟩ : ∃ x, x = w.heap.size + 1 + 1 := ⟨_, rfl⟩
  rw [← hg2] at H
  have HG2 := Lib.hid hg2
  clear hg2
  obtain ⟨g1, hg1⟩ : ∃ x, x = w.heap.size + 1 := ⟨_, rfl⟩
  rw [← hg1] at H
  have HG1 := Lib.hid hg1
  clear hg1
  obtain ⟨g0, hg0⟩ : ∃ x, x = w.heap.size := ⟨_, rfl⟩
  rw [← hg0] at H
  have HG0 := Lib.hid hg0
  clear hg0
  go_enter Tryz.func106, Tryz.ntmps106
  have y0 := H.bat 2 rfl (j := 0) rfl
  have y1 := H.bat 2 rfl (j := 1) rfl
  have y2 := H.bat 2 rfl (j := 2) rfl
  have y3 := H.bat 2 rfl (j := 3) rfl
  have y4 := H.bat 2 rfl (j := 4) rfl
  have H9 := H
  go_wp2_with fail
  (try rw [← HG2.out]); (try rw [← HG1.out]); (try rw [← HG0.out])
  refine (toEntS_any B m d es _ (H9.old hB) hm).mono ?_
  rintro e w0 ⟨g, rfl, o2, f2⟩
  replace H := H9.made o2 f2
  clear H9 y0 y1 y2 y3 y4 
  clear o2 f2
  have y0 := H.bat 3 rfl (j := 0) rfl
  have y1 := H.bat 3 rfl (j := 1) rfl
  have y2 := H.bat 3 rfl (j := 2) rfl
  have y3 := H.bat 3 rfl (j := 3) rfl
  have y4 := H.bat 3 rfl (j := 4) rfl
  have e0 := H.bfree 1 rfl 0
  have s0 := H.bat 1 rfl (j := 0) rfl
  have e1 := H.bfree 1 rfl 1
  have s1 := H.bat 1 rfl (j := 1) rfl
  have e2 := H.bfree 1 rfl 2
  have s2 := H.bat 1 rfl (j := 2) rfl
  have e3 := H.bfree 1 rfl 3
  have s3 := H.bat 1 rfl (j := 3) rfl
  have e4 := H.bfree 1 rfl 4
  have s4 := H.bat 1 rfl (j := 4) rfl
  have n12 : ¬ g1 = g2 := by have q1 := HG1.out; have q2 := HG2.out; omega
  have n21 : ¬ g2 = g1 := by have q1 := HG1.out; have q2 := HG2.out; omega
  have p0 := H.bfree 2 rfl 0
  have r0 := H.bat 2 rfl (j := 0) rfl
  have p1 := H.bfree 2 rfl 1
  have r1 := H.bat 2 rfl (j := 1) rfl
  have p2 := H.bfree 2 rfl 2
  have r2 := H.bat 2 rfl (j := 2) rfl
  have p3 := H.bfree 2 rfl 3
  have r3 := H.bat 2 rfl (j := 3) rfl
  have p4 := H.bfree 2 rfl 4
  have r4 := H.bat 2 rfl (j := 4) rfl
  have H8 := Hp.blays (H.bput 1 rfl 4 (.slice (some ⟨g, 0, none⟩) m m)) 2 rfl [.int .i64 x0, .int .i64 x1, .int .i64 x2, .string x3, .slice (some ⟨g, 0, none⟩) m m] rfl
  simp only [layW] at H8
  have c0 := H8.bat 2 rfl (j := 0) rfl
  have c1 := H8.bat 2 rfl (j := 1) rfl
  have c2 := H8.bat 2 rfl (j := 2) rfl
  have c3 := H8.bat 2 rfl (j := 3) rfl
  have c4 := H8.bat 2 rfl (j := 4) rfl
  have H9 := Lib.hid (H8.sub (l' := [.row 127 4 (.slice (some ⟨g, 0, none⟩) m m) m (es.flatMap cEnt)]) (by simp))
  clear H H8
  go_wp2_with fail
  exact bodyPost_ret (v := .agg #[.int .i64 x0, .int .i64 x1, .int .i64 x2, .string x3, .slice (some ⟨g, 0, none⟩) m m]) (by simp [results, Tryz.results106, go_sem, c0, c1, c2, c3, c4]) rfl ⟨_, rfl, H9.out⟩
theorem sets5 {l1 zs : List Value} {k n : Nat} (h1 : l1.length = k * 5) (hz : zs.length = n * 5) (hk : k < n) (a b c d e : Value) :
    (((((l1 ++ zs.drop (k * 5)).set (k * 5) a).set (k * 5 + 1) b).set (k * 5 + 2) c).set (k * 5 + 3) d).set (k * 5 + 4) e = l1 ++ [a, b, c, d, e] ++ zs.drop ((k + 1) * 5) := by
  have hd : (zs.drop (k * 5)).length = n * 5 - k * 5 := by rw [List.length_drop, hz]
  have h2 : zs.drop ((k + 1) * 5) = (zs.drop (k * 5)).drop 5 := by rw [List.drop_drop]; congr 1; omega
  rw [h2]
  match zs.drop (k * 5), hd with
  | z0 :: z1 :: z2 :: z3 :: z4 :: r, _ =>
    rw [← h1]
    simp [List.set_append_right]
  | [], h | [_], h | [_, _], h | [_, _, _], h | [_, _, _, _], h => simp only [List.length_nil, List.length_cons] at h; omega
set_option maxRecDepth 100000 in
set_option maxHeartbeats 4000000 in
theorem toInodeS_any (A : Option Addr) (n c : Nat) (L : List (Value × Nod)) (w : World) (h : RdN w A n L) (hn : n ≤ 1048576) (hE : ∀ p ∈ L, p.2.2.2.2.2.length ≤ 1048576) :
    Calls Tryz.prog 73 #[.slice A n c] w fun e w' => ∃ (g : Nat) (L' : List (Value × Nod)), e = .returned (.slice (some ⟨g, 0, none⟩) n n) ∧ nodes L' = nodes L ∧ Hp [] w w' [obN (.slice (some ⟨g, 0, none⟩) n n) n L'] := by
  obtain ⟨i0, hi, hz0, hz1, hz2⟩ := info_parts infoInode
  have HL := Lib.hid h.len
  go_enter Tryz.func73, Tryz.ntmps73
  go_wp2_with (at_make; refine wpList_make_full _ rfl _ _ 24 rfl w.heap.size 90 i0 _ 5 Tryz.underlying24 hi hz0 hz1 _ _ _ _ n rfl rfl rfl rfl ?c1 ?c2 ?c3 ?_)
  case c1 => rw [hz2]; omega
  case c2 => simp only [maxLen]; omega
  case c3 => omega
  intro w1 hown hg
  have hw1 : Fr w w1 := Fr.of_grown hg
  clear hg hi hz0 hz1 hz2
  obtain ⟨zs, hown⟩ : ∃ zs, w1.ownsRow w.heap.size 90 5 (.slice (some ⟨w.heap.size, 0, none⟩) n n) n zs := ⟨_, hown⟩
  have HZ := Lib.hid hown.1
  obtain ⟨g, hgs⟩ : ∃ g, g = w.heap.size := ⟨_, rfl⟩
  have HGS := Lib.hid hgs
  have H0 : Hp [] w w1 [.many [], .row 90 5 (.slice (some ⟨g, 0, none⟩) n n) n zs] := Hp.many0 (by rw [hgs]; exact Hp.one_row hown hw1)
  rw [← hgs]
  clear hown hw1 hgs
  go_wp2_with fail
  go_loopw [4] (fun i wr => ∃ (k : Nat) (L' : List (Value × Nod)), k ≤ n ∧ i = .int .i64 k ∧ nodes L' = (nodes L).take k ∧ L'.length = k ∧ Hp [] w wr [.many (L'.map rowE), .row 90 5 (.slice (some ⟨g, 0, none⟩) n n) n (L'.flatMap cNV ++ zs.drop (k * 5))])
    (fun i _ => n - (intOf i).toNat)
  case atStart => exact ⟨0, [], Nat.zero_le _, rfl, rfl, rfl, by simpa using H0⟩
  case round =>
    clear H0
    obtain ⟨k, L', hk, rfl, hnl, hll, H⟩ := hrel
    have HNL := Lib.hid hnl
    have HLL := Lib.hid hll
    clear hnl hll
    by_cases hlt : k < n
    · obtain ⟨⟨v, x0, x1, x2, x3, es⟩, hx⟩ := some_at HL.out hlt
      obtain ⟨bk, of, B, d, rfl, e1, r1, c1⟩ := (h.fr H.fr).elem hx
      have he := hE _ (List.mem_of_getElem? hx)
      simp only at e1 r1 he
      subst e1
      have ca0 := c1 0 _ rfl; simp only [Nat.add_zero] at ca0
      have ca1 := c1 1 _ rfl
      have ca2 := c1 2 _ rfl
      have ca3 := c1 3 _ rfl
      have ca4 := c1 4 _ rfl
      have HX := Lib.hid hx
      clear hx c1
      go_wp2_with fail
      refine (toInode_any x0 x1 x2 x3 es B _ d _ r1 he).mono ?_
      rintro e w2 ⟨g2, rfl, K⟩
      have H2 := H.join K
      clear K H
      replace H2 : Hp [] w w2 [.row 127 4 (.slice (some ⟨g2, 0, none⟩) es.length es.length) es.length (es.flatMap cEnt), .many (L'.map rowE), .row 90 5 (.slice (some ⟨g, 0, none⟩) n n) n (L'.flatMap cNV ++ zs.drop (k * 5))] := H2
      have e0 := H2.free 2 rfl (k * 5)
      have e1 := H2.free 2 rfl (k * 5 + 1)
      have e2 := H2.free 2 rfl (k * 5 + 2)
      have e3 := H2.free 2 rfl (k * 5 + 3)
      have e4 := H2.free 2 rfl (k * 5 + 4)
      have hzl : (L'.flatMap cNV ++ zs.drop (k * 5)).length = n * 5 := H2.len 2 rfl
      have ⟨d0, s0⟩ : ∃ d, w2.cell? ⟨g, k * 5, none⟩ = some d := ⟨_, H2.at_ 2 rfl (List.getElem?_eq_getElem (by omega))⟩
      have ⟨d1, s1⟩ : ∃ d, w2.cell? ⟨g, k * 5 + 1, none⟩ = some d := ⟨_, H2.at_ 2 rfl (List.getElem?_eq_getElem (by omega))⟩
      have ⟨d2, s2⟩ : ∃ d, w2.cell? ⟨g, k * 5 + 2, none⟩ = some d := ⟨_, H2.at_ 2 rfl (List.getElem?_eq_getElem (by omega))⟩
      have ⟨d3, s3⟩ : ∃ d, w2.cell? ⟨g, k * 5 + 3, none⟩ = some d := ⟨_, H2.at_ 2 rfl (List.getElem?_eq_getElem (by omega))⟩
      have ⟨d4, s4⟩ : ∃ d, w2.cell? ⟨g, k * 5 + 4, none⟩ = some d := ⟨_, H2.at_ 2 rfl (List.getElem?_eq_getElem (by omega))⟩
      have H3 := ((((H2.put 2 rfl (k * 5) (.int .i64 x0)).put 2 rfl (k * 5 + 1) (.int .i64 x1)).put 2 rfl (k * 5 + 2) (.int .i64 x2)).put 2 rfl (k * 5 + 3) (.string x3)).put 2 rfl (k * 5 + 4) (.slice (some ⟨g2, 0, none⟩) es.length es.length)
      have H4 := Lib.hid (Hp.push (rs := L'.map rowE) (r := rowE (.slice (some ⟨g2, 0, none⟩) es.length es.length, x0, x1, x2, x3, es)) H3 0 rfl)
      clear H2 H3 hzl
      go_wp2
      go_roundw
      case rel => exact ⟨k + 1, L' ++ [(.slice (some ⟨g2, 0, none⟩) es.length es.length, x0, x1, x2, x3, es)], by omega, by go_num, by
        rw [nodes, List.map_append, ← nodes, HNL.out, List.take_add_one, nodes, List.getElem?_map, HX.out]; rfl, by rw [List.length_append, HLL.out]; rfl, by
        have h4 := H4.out
        rw [List.map_append, List.flatMap_append]
        refine h4.recast ?_
        have h5 := sets5 (l1 := L'.flatMap cNV) (zs := zs) (k := k) (n := n) (by rw [flat_len cNV_len, HLL.out]) HZ.out hlt (.int .i64 x0) (.int .i64 x1) (.int .i64 x2) (.string x3) (.slice (some ⟨g2, 0, none⟩) es.length es.length)
        show [_, Ob.row _ _ _ _ _] = _
        rw [h5]
        rfl⟩
      case measure => simp [intOf]; omega
    · obtain rfl : k = n := by omega
      have H9 := Lib.hid (Hp.join2 (r := rowN (.slice (some ⟨g, 0, none⟩) k k) k L') (rs := L'.map rowE) (Hp.swap (H.recast (by rw [List.drop_of_length_le (by have := HZ.out; omega), List.append_nil]; rfl))))
      clear H
      go_wp2
      go_ret
      exact ⟨g, L', rfl, by rw [HNL.out, List.take_of_length_le (by rw [nodes_len, HL.out]; exact Nat.le_refl _)], H9.out⟩

set_option maxRecDepth 100000 in
set_option maxHeartbeats 4000000 in
theorem toVol_any (x0 : Int) (A : Option Addr) (n c : Nat) (L : List (Value × Nod)) (w : World)
    (h : RdN w A n L) (hn : n ≤ 1048576) (hE : ∀ p ∈ L, p.2.2.2.2.2.length ≤ 1048576) :
    Calls Tryz.prog 40 #[.agg #[.int .i64 x0, .slice A n c]] w fun e w' => ∃ (g : Nat) (L1 : List (Value × Nod)), e = .returned (.agg #[.int .i64 x0, .slice (some ⟨g, 0, none⟩) n n]) ∧ nodes L1 = nodes L ∧ Hp [] w w' [obN (.slice (some ⟨g, 0, none⟩) n n) n L1] := by
  have H := (((Hp.start w).lay_ 39 [.int .i64 x0, .slice A n c] rfl).lay_ 26 [.int .i64 0, .slice none 0 0] (g := w.heap.size + 1) (by simp)).lay_ 26 [.int .i64 x0, .slice none 0 0] (g := w.heap.size + 1 + 1) (by simp)
  obtain ⟨g2, hg2⟩ : ∃ x, x = w.heap.size + 1 + 1 := ⟨_, rfl⟩
  rw [← hg2] at H
  have HG2 := Lib.hid hg2
  clear hg2
  obtain ⟨g1, hg1⟩ : ∃ x, x = w.heap.size + 1 := ⟨_, rfl⟩
  rw [← hg1] at H
  have HG1 := Lib.hid hg1
  clear hg1
  obtain ⟨g0, hg0⟩ : ∃ x, x = w.heap.size := ⟨_, rfl⟩
  rw [← hg0] at H
  have HG0 := Lib.hid hg0
  clear hg0
  go_enter Tryz.func40, Tryz.ntmps40
  have y0 := H.bat 2 rfl (j := 0) rfl
  have y1 := H.bat 2 rfl (j := 1) rfl
  have H9 := H
  go_wp2_with fail
  (try rw [← HG2.out]); (try rw [← HG1.out]); (try rw [← HG0.out])
  refine (toInodeS_any A n c L _ (h.fr H9.fr) hn hE).mono ?_
  rintro e w0 ⟨g, L1, rfl, hL1, K⟩
  replace H := H9.join K
  clear H9 y0 y1 
  clear K
  have HL1 := Lib.hid hL1
  clear hL1
  have y0 := H.bat 3 rfl (j := 0) rfl
  have y1 := H.bat 3 rfl (j := 1) rfl
  have e0 := H.bfree 1 rfl 0
  have s0 := H.bat 1 rfl (j := 0) rfl
  have e1 := H.bfree 1 rfl 1
  have s1 := H.bat 1 rfl (j := 1) rfl
  have n12 : ¬ g1 = g2 := by have q1 := HG1.out; have q2 := HG2.out; omega
  have n21 : ¬ g2 = g1 := by have q1 := HG1.out; have q2 := HG2.out; omega
  have p0 := H.bfree 2 rfl 0
  have r0 := H.bat 2 rfl (j := 0) rfl
  have p1 := H.bfree 2 rfl 1
  have r1 := H.bat 2 rfl (j := 1) rfl
  have H8 := Hp.blays (H.bput 1 rfl 1 (.slice (some ⟨g, 0, none⟩) n n)) 2 rfl [.int .i64 x0, .slice (some ⟨g, 0, none⟩) n n] rfl
  simp only [layW] at H8
  have c0 := H8.bat 2 rfl (j := 0) rfl
  have c1 := H8.bat 2 rfl (j := 1) rfl
  have H9 := Lib.hid (H8.sub (l' := [obN (.slice (some ⟨g, 0, none⟩) n n) n L1]) (by simp))
  clear H H8
  go_wp2_with fail
  exact bodyPost_ret (v := .agg #[.int .i64 x0, .slice (some ⟨g, 0, none⟩) n n]) (by simp [results, Tryz.results40, go_sem, c0, c1]) rfl ⟨_, _, rfl, HL1.out, H9.out⟩
end Go.Proofs.YtaogikhpglcmjaaGreatDoor

namespace Go.Proofs.YtaogikhpglcmjaaGreatDoor
open Go.RowKit

set_option linter.unusedVariables false
set_option linter.unusedSimpArgs false

set_option maxRecDepth 100000 in
set_option maxHeartbeats 4000000 in
theorem toDev_any (A : Option Addr) (n c : Nat) (l : List ByteArray) (B : Option Addr) (m d : Nat) (ws : List (Int × ByteArray)) (w : World)
    (h : Rd w A n 1 (l.map Value.string)) (hB : Rd w B m 2 (ws.flatMap cWrite)) (hn : n ≤ 1048576) (hm : m ≤ 1048576) :
    Calls Tryz.prog 41 #[.agg #[.slice A n c, .slice B m d]] w fun e w' => ∃ (g g3 : Nat), e = .returned (.agg #[.slice (some ⟨g, 0, none⟩) n n, .slice (some ⟨g3, 0, none⟩) m m]) ∧ Hp [] w w' [.row 61 2 (.slice (some ⟨g3, 0, none⟩) m m) m (ws.flatMap cWrite), .row 9 1 (.slice (some ⟨g, 0, none⟩) n n) n (l.map Value.string)] := by
  have H := (((Hp.start w).lay_ 42 [.slice A n c, .slice B m d] rfl).lay_ 49 [.slice none 0 0, .slice none 0 0] (g := w.heap.size + 1) (by simp)).lay_ 49 [.slice none 0 0, .slice none 0 0] (g := w.heap.size + 1 + 1) (by simp)
  obtain ⟨g2, hg2⟩ : ∃ x, x = w.heap.size + 1 + 1 := ⟨_, rfl⟩
  rw [← hg2] at H
  have HG2 := Lib.hid hg2
  clear hg2
  obtain ⟨g1, hg1⟩ : ∃ x, x = w.heap.size + 1 := ⟨_, rfl⟩
  rw [← hg1] at H
  have HG1 := Lib.hid hg1
  clear hg1
  obtain ⟨g0, hg0⟩ : ∃ x, x = w.heap.size := ⟨_, rfl⟩
  rw [← hg0] at H
  have HG0 := Lib.hid hg0
  clear hg0
  go_enter Tryz.func41, Tryz.ntmps41
  have y0 := H.bat 2 rfl (j := 0) rfl
  have y1 := H.bat 2 rfl (j := 1) rfl
  have H9 := H
  go_wp2_with fail
  (try rw [← HG2.out]); (try rw [← HG1.out]); (try rw [← HG0.out])
  refine (toStringS_any A n c l _ (H9.old h) hn).mono ?_
  rintro e w0 ⟨g, rfl, oz, fz⟩
  replace H := H9.made oz fz
  clear H9 y0 y1 
  clear oz fz
  have y0 := H.bat 3 rfl (j := 0) rfl
  have y1 := H.bat 3 rfl (j := 1) rfl
  have e0 := H.bfree 1 rfl 0
  have s0 := H.bat 1 rfl (j := 0) rfl
  have H9 := (H.bput 1 rfl 0 (.slice (some ⟨g, 0, none⟩) n n))
  go_wp2_with fail
  refine (toWriteS_any B m d ws _ (H9.old hB) hm).mono ?_
  rintro e w1 ⟨g3, rfl, oz, fz⟩
  replace H := H9.made oz fz
  clear H9 y0 y1 e0 s0
  clear oz fz
  have y0 := H.bat 4 rfl (j := 0) rfl
  have y1 := H.bat 4 rfl (j := 1) rfl
  have e0 := H.bfree 2 rfl 0
  have s0 := H.bat 2 rfl (j := 0) rfl
  have e1 := H.bfree 2 rfl 1
  have s1 := H.bat 2 rfl (j := 1) rfl
  have n12 : ¬ g1 = g2 := by have q1 := HG1.out; have q2 := HG2.out; omega
  have n21 : ¬ g2 = g1 := by have q1 := HG1.out; have q2 := HG2.out; omega
  have p0 := H.bfree 3 rfl 0
  have r0 := H.bat 3 rfl (j := 0) rfl
  have p1 := H.bfree 3 rfl 1
  have r1 := H.bat 3 rfl (j := 1) rfl
  have H8 := Hp.blays (H.bput 2 rfl 1 (.slice (some ⟨g3, 0, none⟩) m m)) 3 rfl [.slice (some ⟨g, 0, none⟩) n n, .slice (some ⟨g3, 0, none⟩) m m] rfl
  simp only [layW] at H8
  have c0 := H8.bat 3 rfl (j := 0) rfl
  have c1 := H8.bat 3 rfl (j := 1) rfl
  have H9 := Lib.hid (H8.sub (l' := [.row 61 2 (.slice (some ⟨g3, 0, none⟩) m m) m (ws.flatMap cWrite), .row 9 1 (.slice (some ⟨g, 0, none⟩) n n) n (l.map Value.string)]) (by simp))
  clear H H8
  go_wp2_with fail
  exact bodyPost_ret (v := .agg #[.slice (some ⟨g, 0, none⟩) n n, .slice (some ⟨g3, 0, none⟩) m m]) (by simp [results, Tryz.results41, go_sem, c0, c1]) rfl ⟨_, _, rfl, H9.out⟩
set_option maxRecDepth 100000 in
set_option maxHeartbeats 16000000 in
theorem toFs_any (up : Bool) (m1 m2 sq st sv tr : Int) (A1 A2 A3 A6 A7 A8 : Option Addr) (n1 n2 n3 n6 n7 n8 c1 c2 c3 c6 c7 c8 : Nat) (L1 L2 : List (Value × Nod)) (base bl : List ByteArray) (pd : List (Int × ByteArray)) (calls : List (Int × Int × ByteArray × Int × ByteArray × ByteArray)) (w : World)
    (h1 : RdN w A1 n1 L1) (hn1 : n1 ≤ 1048576) (hE1 : ∀ p ∈ L1, p.2.2.2.2.2.length ≤ 1048576) (h2 : RdN w A2 n2 L2) (hn2 : n2 ≤ 1048576) (hE2 : ∀ p ∈ L2, p.2.2.2.2.2.length ≤ 1048576) (h3 : Rd w A3 n3 1 (base.map Value.string)) (hn3 : n3 ≤ 1048576) (h6 : Rd w A6 n6 1 (bl.map Value.string)) (hn6 : n6 ≤ 1048576) (h7 : Rd w A7 n7 2 (pd.flatMap cWrite)) (hn7 : n7 ≤ 1048576) (h8 : Rd w A8 n8 6 (calls.flatMap cCall)) (hn8 : n8 ≤ 1048576) :
    Calls Tryz.prog 19 #[.agg #[.bool up, .int .i64 m1, .slice A1 n1 c1, .int .i64 m2, .slice A2 n2 c2, .slice A3 n3 c3, .int .i64 sq, .int .i64 st, .slice A6 n6 c6, .slice A7 n7 c7, .slice A8 n8 c8, .int .i64 sv, .int .i64 tr]] w fun e w' => ∃ (ga gb gc gd ge gf : Nat) (La Lb : List (Value × Nod)), e = .returned (.agg #[.bool up, .int .i64 m1, .slice (some ⟨ga, 0, none⟩) n1 n1, .int .i64 m2, .slice (some ⟨gb, 0, none⟩) n2 n2, .slice (some ⟨gc, 0, none⟩) n3 n3, .int .i64 sq, .int .i64 st, .slice (some ⟨gd, 0, none⟩) n6 n6, .slice (some ⟨ge, 0, none⟩) n7 n7, .slice (some ⟨gf, 0, none⟩) n8 n8, .int .i64 sv, .int .i64 tr]) ∧ nodes La = nodes L1 ∧ nodes Lb = nodes L2 ∧ Hp [] w w' [.row 75 6 (.slice (some ⟨gf, 0, none⟩) n8 n8) n8 (calls.flatMap cCall), .row 61 2 (.slice (some ⟨ge, 0, none⟩) n7 n7) n7 (pd.flatMap cWrite), .row 9 1 (.slice (some ⟨gd, 0, none⟩) n6 n6) n6 (bl.map Value.string), .row 9 1 (.slice (some ⟨gc, 0, none⟩) n3 n3) n3 (base.map Value.string), obN (.slice (some ⟨gb, 0, none⟩) n2 n2) n2 Lb, obN (.slice (some ⟨ga, 0, none⟩) n1 n1) n1 La] := by
  have H := (((Hp.start w).lay_ 45 [.bool up, .int .i64 m1, .slice A1 n1 c1, .int .i64 m2, .slice A2 n2 c2, .slice A3 n3 c3, .int .i64 sq, .int .i64 st, .slice A6 n6 c6, .slice A7 n7 c7, .slice A8 n8 c8, .int .i64 sv, .int .i64 tr] rfl).lay_ 52 [.bool false, .int .i64 0, .slice none 0 0, .int .i64 0, .slice none 0 0, .slice none 0 0, .int .i64 0, .int .i64 0, .slice none 0 0, .slice none 0 0, .slice none 0 0, .int .i64 0, .int .i64 0] (g := w.heap.size + 1) (by simp)).lay_ 52 [.bool up, .int .i64 0, .slice none 0 0, .int .i64 0, .slice none 0 0, .slice none 0 0, .int .i64 0, .int .i64 0, .slice none 0 0, .slice none 0 0, .slice none 0 0, .int .i64 0, .int .i64 0] (g := w.heap.size + 1 + 1) (by simp)
  obtain ⟨g2, hg2⟩ : ∃ x, x = w.heap.size + 1 + 1 := ⟨_, rfl⟩
  rw [← hg2] at H
  have HG2 := Lib.hid hg2
  clear hg2
  obtain ⟨g1, hg1⟩ : ∃ x, x = w.heap.size + 1 := ⟨_, rfl⟩
  rw [← hg1] at H
  have HG1 := Lib.hid hg1
  clear hg1
  obtain ⟨g0, hg0⟩ : ∃ x, x = w.heap.size := ⟨_, rfl⟩
  rw [← hg0] at H
  have HG0 := Lib.hid hg0
  clear hg0
  go_enter Tryz.func19, Tryz.ntmps19
  have y0 := H.bat 2 rfl (j := 0) rfl
  have y1 := H.bat 2 rfl (j := 1) rfl
  have y2 := H.bat 2 rfl (j := 2) rfl
  have y3 := H.bat 2 rfl (j := 3) rfl
  have y4 := H.bat 2 rfl (j := 4) rfl
  have y5 := H.bat 2 rfl (j := 5) rfl
  have y6 := H.bat 2 rfl (j := 6) rfl
  have y7 := H.bat 2 rfl (j := 7) rfl
  have y8 := H.bat 2 rfl (j := 8) rfl
  have y9 := H.bat 2 rfl (j := 9) rfl
  have y10 := H.bat 2 rfl (j := 10) rfl
  have y11 := H.bat 2 rfl (j := 11) rfl
  have y12 := H.bat 2 rfl (j := 12) rfl
  have H9 := H
  go_wp2_with fail
  (try rw [← HG2.out]); (try rw [← HG1.out]); (try rw [← HG0.out])
  refine (toVol_any m1 A1 n1 c1 L1 _ (h1.fr H9.fr) hn1 hE1).mono ?_
  rintro e w0 ⟨ga, La, rfl, hLa, K⟩
  replace H := H9.join K
  clear H9 y0 y1 y2 y3 y4 y5 y6 y7 y8 y9 y10 y11 y12 
  clear K
  have HLa := Lib.hid hLa
  clear hLa
  have y0 := H.bat 3 rfl (j := 0) rfl
  have y1 := H.bat 3 rfl (j := 1) rfl
  have y2 := H.bat 3 rfl (j := 2) rfl
  have y3 := H.bat 3 rfl (j := 3) rfl
  have y4 := H.bat 3 rfl (j := 4) rfl
  have y5 := H.bat 3 rfl (j := 5) rfl
  have y6 := H.bat 3 rfl (j := 6) rfl
  have y7 := H.bat 3 rfl (j := 7) rfl
  have y8 := H.bat 3 rfl (j := 8) rfl
  have y9 := H.bat 3 rfl (j := 9) rfl
  have y10 := H.bat 3 rfl (j := 10) rfl
  have y11 := H.bat 3 rfl (j := 11) rfl
  have y12 := H.bat 3 rfl (j := 12) rfl
  have e1 := H.bfree 1 rfl 1
  have s1 := H.bat 1 rfl (j := 1) rfl
  have e2 := H.bfree 1 rfl 2
  have s2 := H.bat 1 rfl (j := 2) rfl
  have H9 := ((H.bput 1 rfl 1 (.int .i64 m1)).bput 1 rfl 2 (.slice (some ⟨ga, 0, none⟩) n1 n1))
  go_wp2_with fail
  refine (toVol_any m2 A2 n2 c2 L2 _ (h2.fr H9.fr) hn2 hE2).mono ?_
  rintro e w1 ⟨gb, Lb, rfl, hLb, K⟩
  replace H := H9.join K
  clear H9 y0 y1 y2 y3 y4 y5 y6 y7 y8 y9 y10 y11 y12 e1 s1 e2 s2
  clear K
  have HLb := Lib.hid hLb
  clear hLb
  have y0 := H.bat 4 rfl (j := 0) rfl
  have y1 := H.bat 4 rfl (j := 1) rfl
  have y2 := H.bat 4 rfl (j := 2) rfl
  have y3 := H.bat 4 rfl (j := 3) rfl
  have y4 := H.bat 4 rfl (j := 4) rfl
  have y5 := H.bat 4 rfl (j := 5) rfl
  have y6 := H.bat 4 rfl (j := 6) rfl
  have y7 := H.bat 4 rfl (j := 7) rfl
  have y8 := H.bat 4 rfl (j := 8) rfl
  have y9 := H.bat 4 rfl (j := 9) rfl
  have y10 := H.bat 4 rfl (j := 10) rfl
  have y11 := H.bat 4 rfl (j := 11) rfl
  have y12 := H.bat 4 rfl (j := 12) rfl
  have e3 := H.bfree 2 rfl 3
  have s3 := H.bat 2 rfl (j := 3) rfl
  have e4 := H.bfree 2 rfl 4
  have s4 := H.bat 2 rfl (j := 4) rfl
  have H9 := ((H.bput 2 rfl 3 (.int .i64 m2)).bput 2 rfl 4 (.slice (some ⟨gb, 0, none⟩) n2 n2))
  go_wp2_with fail
  refine (toStringS_any A3 n3 c3 base _ (H9.old h3) hn3).mono ?_
  rintro e w2 ⟨gc, rfl, oz, fz⟩
  replace H := H9.made oz fz
  clear H9 y0 y1 y2 y3 y4 y5 y6 y7 y8 y9 y10 y11 y12 e3 s3 e4 s4
  clear oz fz
  have y0 := H.bat 5 rfl (j := 0) rfl
  have y1 := H.bat 5 rfl (j := 1) rfl
  have y2 := H.bat 5 rfl (j := 2) rfl
  have y3 := H.bat 5 rfl (j := 3) rfl
  have y4 := H.bat 5 rfl (j := 4) rfl
  have y5 := H.bat 5 rfl (j := 5) rfl
  have y6 := H.bat 5 rfl (j := 6) rfl
  have y7 := H.bat 5 rfl (j := 7) rfl
  have y8 := H.bat 5 rfl (j := 8) rfl
  have y9 := H.bat 5 rfl (j := 9) rfl
  have y10 := H.bat 5 rfl (j := 10) rfl
  have y11 := H.bat 5 rfl (j := 11) rfl
  have y12 := H.bat 5 rfl (j := 12) rfl
  have e5 := H.bfree 3 rfl 5
  have s5 := H.bat 3 rfl (j := 5) rfl
  have e6 := H.bfree 3 rfl 6
  have s6 := H.bat 3 rfl (j := 6) rfl
  have e7 := H.bfree 3 rfl 7
  have s7 := H.bat 3 rfl (j := 7) rfl
  have H9 := (((H.bput 3 rfl 5 (.slice (some ⟨gc, 0, none⟩) n3 n3)).bput 3 rfl 6 (.int .i64 sq)).bput 3 rfl 7 (.int .i64 st))
  go_wp2_with fail
  refine (toDev_any A6 n6 c6 bl A7 n7 c7 pd _ (H9.old h6) (H9.old h7) hn6 hn7).mono ?_
  rintro e w3 ⟨gd, ge, rfl, K⟩
  replace H := H9.join K
  clear H9 y0 y1 y2 y3 y4 y5 y6 y7 y8 y9 y10 y11 y12 e5 s5 e6 s6 e7 s7
  clear K
  have y0 := H.bat 7 rfl (j := 0) rfl
  have y1 := H.bat 7 rfl (j := 1) rfl
  have y2 := H.bat 7 rfl (j := 2) rfl
  have y3 := H.bat 7 rfl (j := 3) rfl
  have y4 := H.bat 7 rfl (j := 4) rfl
  have y5 := H.bat 7 rfl (j := 5) rfl
  have y6 := H.bat 7 rfl (j := 6) rfl
  have y7 := H.bat 7 rfl (j := 7) rfl
  have y8 := H.bat 7 rfl (j := 8) rfl
  have y9 := H.bat 7 rfl (j := 9) rfl
  have y10 := H.bat 7 rfl (j := 10) rfl
  have y11 := H.bat 7 rfl (j := 11) rfl
  have y12 := H.bat 7 rfl (j := 12) rfl
  have e8 := H.bfree 5 rfl 8
  have s8 := H.bat 5 rfl (j := 8) rfl
  have e9 := H.bfree 5 rfl 9
  have s9 := H.bat 5 rfl (j := 9) rfl
  have H9 := ((H.bput 5 rfl 8 (.slice (some ⟨gd, 0, none⟩) n6 n6)).bput 5 rfl 9 (.slice (some ⟨ge, 0, none⟩) n7 n7))
  go_wp2_with fail
  refine (toCallS_any A8 n8 c8 calls _ (H9.old h8) hn8).mono ?_
  rintro e w4 ⟨gf, rfl, oz, fz⟩
  replace H := H9.made oz fz
  clear H9 y0 y1 y2 y3 y4 y5 y6 y7 y8 y9 y10 y11 y12 e8 s8 e9 s9
  clear oz fz
  have y0 := H.bat 8 rfl (j := 0) rfl
  have y1 := H.bat 8 rfl (j := 1) rfl
  have y2 := H.bat 8 rfl (j := 2) rfl
  have y3 := H.bat 8 rfl (j := 3) rfl
  have y4 := H.bat 8 rfl (j := 4) rfl
  have y5 := H.bat 8 rfl (j := 5) rfl
  have y6 := H.bat 8 rfl (j := 6) rfl
  have y7 := H.bat 8 rfl (j := 7) rfl
  have y8 := H.bat 8 rfl (j := 8) rfl
  have y9 := H.bat 8 rfl (j := 9) rfl
  have y10 := H.bat 8 rfl (j := 10) rfl
  have y11 := H.bat 8 rfl (j := 11) rfl
  have y12 := H.bat 8 rfl (j := 12) rfl
  have e0 := H.bfree 6 rfl 0
  have s0 := H.bat 6 rfl (j := 0) rfl
  have e1 := H.bfree 6 rfl 1
  have s1 := H.bat 6 rfl (j := 1) rfl
  have e2 := H.bfree 6 rfl 2
  have s2 := H.bat 6 rfl (j := 2) rfl
  have e3 := H.bfree 6 rfl 3
  have s3 := H.bat 6 rfl (j := 3) rfl
  have e4 := H.bfree 6 rfl 4
  have s4 := H.bat 6 rfl (j := 4) rfl
  have e5 := H.bfree 6 rfl 5
  have s5 := H.bat 6 rfl (j := 5) rfl
  have e6 := H.bfree 6 rfl 6
  have s6 := H.bat 6 rfl (j := 6) rfl
  have e7 := H.bfree 6 rfl 7
  have s7 := H.bat 6 rfl (j := 7) rfl
  have e8 := H.bfree 6 rfl 8
  have s8 := H.bat 6 rfl (j := 8) rfl
  have e9 := H.bfree 6 rfl 9
  have s9 := H.bat 6 rfl (j := 9) rfl
  have e10 := H.bfree 6 rfl 10
  have s10 := H.bat 6 rfl (j := 10) rfl
  have e11 := H.bfree 6 rfl 11
  have s11 := H.bat 6 rfl (j := 11) rfl
  have e12 := H.bfree 6 rfl 12
  have s12 := H.bat 6 rfl (j := 12) rfl
  have n12 : ¬ g1 = g2 := by have q1 := HG1.out; have q2 := HG2.out; omega
  have n21 : ¬ g2 = g1 := by have q1 := HG1.out; have q2 := HG2.out; omega
  have p0 := H.bfree 7 rfl 0
  have r0 := H.bat 7 rfl (j := 0) rfl
  have p1 := H.bfree 7 rfl 1
  have r1 := H.bat 7 rfl (j := 1) rfl
  have p2 := H.bfree 7 rfl 2
  have r2 := H.bat 7 rfl (j := 2) rfl
  have p3 := H.bfree 7 rfl 3
  have r3 := H.bat 7 rfl (j := 3) rfl
  have p4 := H.bfree 7 rfl 4
  have r4 := H.bat 7 rfl (j := 4) rfl
  have p5 := H.bfree 7 rfl 5
  have r5 := H.bat 7 rfl (j := 5) rfl
  have p6 := H.bfree 7 rfl 6
  have r6 := H.bat 7 rfl (j := 6) rfl
  have p7 := H.bfree 7 rfl 7
  have r7 := H.bat 7 rfl (j := 7) rfl
  have p8 := H.bfree 7 rfl 8
  have r8 := H.bat 7 rfl (j := 8) rfl
  have p9 := H.bfree 7 rfl 9
  have r9 := H.bat 7 rfl (j := 9) rfl
  have p10 := H.bfree 7 rfl 10
  have r10 := H.bat 7 rfl (j := 10) rfl
  have p11 := H.bfree 7 rfl 11
  have r11 := H.bat 7 rfl (j := 11) rfl
  have p12 := H.bfree 7 rfl 12
  have r12 := H.bat 7 rfl (j := 12) rfl
  have H8 := Hp.blays (((H.bput 6 rfl 10 (.slice (some ⟨gf, 0, none⟩) n8 n8)).bput 6 rfl 11 (.int .i64 sv)).bput 6 rfl 12 (.int .i64 tr)) 7 rfl [.bool up, .int .i64 m1, .slice (some ⟨ga, 0, none⟩) n1 n1, .int .i64 m2, .slice (some ⟨gb, 0, none⟩) n2 n2, .slice (some ⟨gc, 0, none⟩) n3 n3, .int .i64 sq, .int .i64 st, .slice (some ⟨gd, 0, none⟩) n6 n6, .slice (some ⟨ge, 0, none⟩) n7 n7, .slice (some ⟨gf, 0, none⟩) n8 n8, .int .i64 sv, .int .i64 tr] rfl
  simp only [layW] at H8
  have c0 := H8.bat 7 rfl (j := 0) rfl
  have c1 := H8.bat 7 rfl (j := 1) rfl
  have c2 := H8.bat 7 rfl (j := 2) rfl
  have c3 := H8.bat 7 rfl (j := 3) rfl
  have c4 := H8.bat 7 rfl (j := 4) rfl
  have c5 := H8.bat 7 rfl (j := 5) rfl
  have c6 := H8.bat 7 rfl (j := 6) rfl
  have c7 := H8.bat 7 rfl (j := 7) rfl
  have c8 := H8.bat 7 rfl (j := 8) rfl
  have c9 := H8.bat 7 rfl (j := 9) rfl
  have c10 := H8.bat 7 rfl (j := 10) rfl
  have c11 := H8.bat 7 rfl (j := 11) rfl
  have c12 := H8.bat 7 rfl (j := 12) rfl
  have H9 := Lib.hid (H8.sub (l' := [.row 75 6 (.slice (some ⟨gf, 0, none⟩) n8 n8) n8 (calls.flatMap cCall), .row 61 2 (.slice (some ⟨ge, 0, none⟩) n7 n7) n7 (pd.flatMap cWrite), .row 9 1 (.slice (some ⟨gd, 0, none⟩) n6 n6) n6 (bl.map Value.string), .row 9 1 (.slice (some ⟨gc, 0, none⟩) n3 n3) n3 (base.map Value.string), obN (.slice (some ⟨gb, 0, none⟩) n2 n2) n2 Lb, obN (.slice (some ⟨ga, 0, none⟩) n1 n1) n1 La]) (by simp))
  clear H H8
  go_wp2_with fail
  exact bodyPost_ret (v := .agg #[.bool up, .int .i64 m1, .slice (some ⟨ga, 0, none⟩) n1 n1, .int .i64 m2, .slice (some ⟨gb, 0, none⟩) n2 n2, .slice (some ⟨gc, 0, none⟩) n3 n3, .int .i64 sq, .int .i64 st, .slice (some ⟨gd, 0, none⟩) n6 n6, .slice (some ⟨ge, 0, none⟩) n7 n7, .slice (some ⟨gf, 0, none⟩) n8 n8, .int .i64 sv, .int .i64 tr]) (by simp [results, Tryz.results19, go_sem, c0, c1, c2, c3, c4, c5, c6, c7, c8, c9, c10, c11, c12]) rfl ⟨_, _, _, _, _, _, _, _, rfl, HLa.out, HLb.out, H9.out⟩
end Go.Proofs.YtaogikhpglcmjaaGreatDoor

namespace Go.Proofs.YtaogikhpglcmjaaGreatDoor
open Go.RowKit

set_option linter.unusedVariables false
set_option linter.unusedSimpArgs false
/-- The sizes of elements, added up; with one more for each. -/
def sumF {α : Type} (f : α → Nat) (l : List α) : Nat := (l.map f).sum
def totF {α : Type} (f : α → Nat) (l : List α) : Nat := l.length + sumF f l
theorem sumF_mem {α : Type} {f : α → Nat} {x : α} : ∀ {l : List α}, x ∈ l → f x ≤ sumF f l
  | [], h => by simp at h
  | y :: l, h => by
    simp only [sumF, List.map_cons, List.sum_cons]
    rcases List.mem_cons.1 h with rfl | h
    · omega
    · have := sumF_mem (f := f) h; simp only [sumF] at this; omega
theorem totF_mem {α : Type} {f : α → Nat} {l : List α} {x : α} (h : x ∈ l) : f x ≤ totF f l := by have := sumF_mem (f := f) h; unfold totF; omega
theorem totF_len {α : Type} (f : α → Nat) (l : List α) : l.length ≤ totF f l := by unfold totF; omega
theorem sumF_step {α : Type} {f : α → Nat} {l : List α} {k : Nat} {s : α} (h : l[k]? = some s) : sumF f (l.take (k + 1)) = sumF f (l.take k) + f s := by
  rw [List.take_add_one, h]; simp [sumF]
theorem sumF_le {α : Type} (f : α → Nat) (l : List α) (k : Nat) : sumF f (l.take k) ≤ sumF f l := by
  have h := congrArg (sumF f) (List.take_append_drop k l)
  simp only [sumF, List.map_append, List.sum_append] at h ⊢
  omega
def wEnt (e : Int × Int × ByteArray × Int) : Nat := e.2.2.1.size
def wWrite (e : Int × ByteArray) : Nat := e.2.size
def wCall (c : Int × Int × ByteArray × Int × ByteArray × ByteArray) : Nat := c.2.2.1.size + c.2.2.2.2.1.size + c.2.2.2.2.2.size
def wNod (x : Value × Nod) : Nat := x.2.2.2.2.1.size + totF wEnt x.2.2.2.2.2
/-- A slice of whose elements each is given a size by a contract. -/
def SzOk (v : ByteArray) : Prop := v.size ≤ 9223372036854775807

theorem szEnt_any (x0 x1 : Int) (x2 : ByteArray) (x3 : Int) (left : Int) (w : World) (h0 : x2.size ≤ 9223372036854775807) (h0_ : 0 ≤ left) (h1_ : left ≤ 1048576) :
    Calls Tryz.prog 138 #[.agg #[.int .i64 x0, .int .i64 x1, .string x2, .int .i64 x3], .int .i64 left] w fun e w' => e = .returned (.int .i64 (szOf left (x2.size))) ∧ Fr w w' := by
  by_cases g0 : left < (x2.size : Int)
  · go_enter Tryz.func138, Tryz.ntmps138
    go_wp2
    go_ret
    exact ⟨ret_int (by unfold szOf; split <;> omega), by repeat (first | exact Below.refl _ _ | refine Below.alloc ?_ (by first | (simp; done) | (simp; omega)) _ | refine Below.setCell ?_ (by first | (simp; done) | (simp; omega)) _)⟩
  ·
    go_enter Tryz.func138, Tryz.ntmps138
    go_wp2
    go_ret
    exact ⟨ret_int (by unfold szOf; split <;> omega), by repeat (first | exact Below.refl _ _ | refine Below.alloc ?_ (by first | (simp; done) | (simp; omega)) _ | refine Below.setCell ?_ (by first | (simp; done) | (simp; omega)) _)⟩
theorem szCall_any (x0 x1 : Int) (x2 : ByteArray) (x3 : Int) (x4 x5 : ByteArray) (left : Int) (w : World) (h0 : x2.size ≤ 9223372036854775807) (h1 : x4.size ≤ 9223372036854775807) (h2 : x5.size ≤ 9223372036854775807) (h0_ : 0 ≤ left) (h1_ : left ≤ 1048576) :
    Calls Tryz.prog 69 #[.agg #[.int .i64 x0, .int .i64 x1, .string x2, .int .i64 x3, .string x4, .string x5], .int .i64 left] w fun e w' => e = .returned (.int .i64 (szOf left (x2.size + x4.size + x5.size))) ∧ Fr w w' := by
  by_cases g0 : left < (x2.size : Int)
  · go_enter Tryz.func69, Tryz.ntmps69
    go_wp2
    go_ret
    exact ⟨ret_int (by unfold szOf; split <;> omega), by repeat (first | exact Below.refl _ _ | refine Below.alloc ?_ (by first | (simp; done) | (simp; omega)) _ | refine Below.setCell ?_ (by first | (simp; done) | (simp; omega)) _)⟩
  ·
    by_cases g1 : left - x2.size < (x4.size : Int)
    · go_enter Tryz.func69, Tryz.ntmps69
      go_wp2
      go_ret
      exact ⟨ret_int (by unfold szOf; split <;> omega), by repeat (first | exact Below.refl _ _ | refine Below.alloc ?_ (by first | (simp; done) | (simp; omega)) _ | refine Below.setCell ?_ (by first | (simp; done) | (simp; omega)) _)⟩
    ·
      by_cases g2 : left - x2.size - x4.size < (x5.size : Int)
      · go_enter Tryz.func69, Tryz.ntmps69
        go_wp2
        go_ret
        exact ⟨ret_int (by unfold szOf; split <;> omega), by repeat (first | exact Below.refl _ _ | refine Below.alloc ?_ (by first | (simp; done) | (simp; omega)) _ | refine Below.setCell ?_ (by first | (simp; done) | (simp; omega)) _)⟩
      ·
        go_enter Tryz.func69, Tryz.ntmps69
        go_wp2
        go_ret
        exact ⟨ret_int (by unfold szOf; split <;> omega), by repeat (first | exact Below.refl _ _ | refine Below.alloc ?_ (by first | (simp; done) | (simp; omega)) _ | refine Below.setCell ?_ (by first | (simp; done) | (simp; omega)) _)⟩
set_option maxHeartbeats 1000000 in
theorem szEntS_fr (A : Option Addr) (n c : Nat) (l : List (Int × Int × ByteArray × Int)) (left : Int) (w : World) (h : Rd w A n 4 (l.flatMap cEnt)) (ok : ∀ s ∈ l, s.2.2.1.size ≤ 9223372036854775807) (hn : n ≤ 9223372036854775807) (h0 : 0 ≤ left) (h1 : left ≤ 1048576) :
    Calls Tryz.prog 119 #[.slice A n c, .int .i64 left] w fun e w' => e = .returned (.int .i64 (szOf left (totF wEnt l))) ∧ Fr w w' := by
  have hl : l.length = n := h.lenk cEnt_len (by omega)
  have HL := Lib.hid hl
  by_cases hlt : left < n
  · have hr : szOf left (totF wEnt l) = -1 := szOf_no (by have := totF_len wEnt l; omega)
    have HR := Lib.hid hr
    clear hr hl
    go_enter Tryz.func119, Tryz.ntmps119
    go_wp2
    go_ret
    exact ⟨ret_int HR.out.symm, Below.refl _ _⟩
  · clear hl
    go_enter Tryz.func119, Tryz.ntmps119
    go_wp2_with fail
    go_loopw [1, 5] (fun v i wr => ∃ k : Nat, k ≤ n ∧ i = .int .i64 k ∧ v = .int .i64 (left - n - (sumF wEnt (l.take k) : Nat)) ∧ 0 ≤ left - n - (sumF wEnt (l.take k) : Nat) ∧ Fr w wr) (fun _ i _ => n - (intOf i).toNat)
    case atStart => exact ⟨0, Nat.zero_le _, rfl, by simp [sumF], by simp [sumF]; omega, Below.refl _ _⟩
    case round =>
      obtain ⟨k, hk, rfl, rfl, hb, hf⟩ := hrel
      have HF := Lib.hid hf
      clear hf
      by_cases hlt2 : k < n
      · obtain ⟨⟨x0, x1, x2, x3⟩, hs⟩ := some_at HL.out hlt2
        obtain ⟨bk, of, rfl, hcell⟩ := (h.fr HF.out).elem cEnt_len hs (by omega)
        have ca0 := hcell 0 _ rfl; simp only [Nat.add_zero] at ca0
        have ca1 := hcell 1 _ rfl
        have ca2 := hcell 2 _ rfl
        have ca3 := hcell 3 _ rfl
        clear hcell
        have hsz := ok _ (List.mem_of_getElem? hs)
        have hst := sumF_step (f := wEnt) hs
        have hle := sumF_le wEnt l (k + 1)
        have HST := Lib.hid hst
        have HLE := Lib.hid hle
        clear hs hst hle
        generalize sumF wEnt (l.take k) = q at hb HST
        obtain ⟨z, hz⟩ : ∃ z : Nat, z = x2.size := ⟨_, rfl⟩
        have HZ := Lib.hid hz
        clear hz
        obtain ⟨lf, hlf⟩ : ∃ x : Int, x = left - n - (q : Nat) := ⟨_, rfl⟩
        have hlf0 : 0 ≤ lf := by omega
        have hlf1 : lf ≤ 1048576 := by omega
        rw [← hlf]
        have HLF := Lib.hid hlf
        clear hlf
        go_wp2_with fail
        refine (szEnt_any _ _ _ _ _ _ hsz (by omega) (by omega)).mono ?_
        rintro e w2 ⟨rfl, f2⟩
        have F2 := Lib.hid (HF.out.then f2)
        clear f2
        rw [show x2.size = z from HZ.out.symm]
        by_cases hover : lf < z
        · rw [szOf_no hover]
          go_wp2
          go_ret
          exact ⟨ret_int (szOf_no (by have q1 := HST.out; have q2 := HLE.out; have q3 := HL.out; have q4 := HZ.out; have q5 := HLF.out; unfold totF; simp only [wEnt] at *; omega)).symm, F2.out⟩
        · rw [szOf_yes hover]
          have hp : 0 ≤ lf - (z : Int) := by omega
          go_wp2
          go_roundw
          case rel => exact ⟨k + 1, by omega, by go_num, by rw [HST.out]; have q4 := HZ.out; have q5 := HLF.out; simp only [wEnt] at *; congr 1; omega, by rw [HST.out]; have q4 := HZ.out; have q5 := HLF.out; simp only [wEnt] at *; omega, F2.out⟩
          case measure => simp [intOf]; omega
      · have e : sumF wEnt (l.take k) = sumF wEnt l := by rw [List.take_of_length_le (by have := HL.out; omega)]
        go_wp2
        go_ret
        exact ⟨ret_int (by have q3 := HL.out; rw [szOf_yes (by unfold totF; omega)]; unfold totF; omega), HF.out⟩

set_option maxHeartbeats 1000000 in
theorem szCallS_fr (A : Option Addr) (n c : Nat) (l : List (Int × Int × ByteArray × Int × ByteArray × ByteArray)) (left : Int) (w : World) (h : Rd w A n 6 (l.flatMap cCall)) (ok : ∀ s ∈ l, s.2.2.1.size ≤ 9223372036854775807 ∧ s.2.2.2.2.1.size ≤ 9223372036854775807 ∧ s.2.2.2.2.2.size ≤ 9223372036854775807) (hn : n ≤ 9223372036854775807) (h0 : 0 ≤ left) (h1 : left ≤ 1048576) :
    Calls Tryz.prog 34 #[.slice A n c, .int .i64 left] w fun e w' => e = .returned (.int .i64 (szOf left (totF wCall l))) ∧ Fr w w' := by
  have hl : l.length = n := h.lenk cCall_len (by omega)
  have HL := Lib.hid hl
  by_cases hlt : left < n
  · have hr : szOf left (totF wCall l) = -1 := szOf_no (by have := totF_len wCall l; omega)
    have HR := Lib.hid hr
    clear hr hl
    go_enter Tryz.func34, Tryz.ntmps34
    go_wp2
    go_ret
    exact ⟨ret_int HR.out.symm, Below.refl _ _⟩
  · clear hl
    go_enter Tryz.func34, Tryz.ntmps34
    go_wp2_with fail
    go_loopw [1, 5] (fun v i wr => ∃ k : Nat, k ≤ n ∧ i = .int .i64 k ∧ v = .int .i64 (left - n - (sumF wCall (l.take k) : Nat)) ∧ 0 ≤ left - n - (sumF wCall (l.take k) : Nat) ∧ Fr w wr) (fun _ i _ => n - (intOf i).toNat)
    case atStart => exact ⟨0, Nat.zero_le _, rfl, by simp [sumF], by simp [sumF]; omega, Below.refl _ _⟩
    case round =>
      obtain ⟨k, hk, rfl, rfl, hb, hf⟩ := hrel
      have HF := Lib.hid hf
      clear hf
      by_cases hlt2 : k < n
      · obtain ⟨⟨x0, x1, x2, x3, x4, x5⟩, hs⟩ := some_at HL.out hlt2
        obtain ⟨bk, of, rfl, hcell⟩ := (h.fr HF.out).elem cCall_len hs (by omega)
        have ca0 := hcell 0 _ rfl; simp only [Nat.add_zero] at ca0
        have ca1 := hcell 1 _ rfl
        have ca2 := hcell 2 _ rfl
        have ca3 := hcell 3 _ rfl
        have ca4 := hcell 4 _ rfl
        have ca5 := hcell 5 _ rfl
        clear hcell
        have hsz := ok _ (List.mem_of_getElem? hs)
        have hst := sumF_step (f := wCall) hs
        have hle := sumF_le wCall l (k + 1)
        have HST := Lib.hid hst
        have HLE := Lib.hid hle
        clear hs hst hle
        generalize sumF wCall (l.take k) = q at hb HST
        obtain ⟨z, hz⟩ : ∃ z : Nat, z = x2.size + x4.size + x5.size := ⟨_, rfl⟩
        have HZ := Lib.hid hz
        clear hz
        obtain ⟨lf, hlf⟩ : ∃ x : Int, x = left - n - (q : Nat) := ⟨_, rfl⟩
        have hlf0 : 0 ≤ lf := by omega
        have hlf1 : lf ≤ 1048576 := by omega
        rw [← hlf]
        have HLF := Lib.hid hlf
        clear hlf
        go_wp2_with fail
        refine (szCall_any _ _ _ _ _ _ _ _ hsz.1 hsz.2.1 hsz.2.2 (by omega) (by omega)).mono ?_
        rintro e w2 ⟨rfl, f2⟩
        have F2 := Lib.hid (HF.out.then f2)
        clear f2
        rw [show x2.size + x4.size + x5.size = z from HZ.out.symm]
        by_cases hover : lf < z
        · rw [szOf_no hover]
          go_wp2
          go_ret
          exact ⟨ret_int (szOf_no (by have q1 := HST.out; have q2 := HLE.out; have q3 := HL.out; have q4 := HZ.out; have q5 := HLF.out; unfold totF; simp only [wCall] at *; omega)).symm, F2.out⟩
        · rw [szOf_yes hover]
          have hp : 0 ≤ lf - (z : Int) := by omega
          go_wp2
          go_roundw
          case rel => exact ⟨k + 1, by omega, by go_num, by rw [HST.out]; have q4 := HZ.out; have q5 := HLF.out; simp only [wCall] at *; congr 1; omega, by rw [HST.out]; have q4 := HZ.out; have q5 := HLF.out; simp only [wCall] at *; omega, F2.out⟩
          case measure => simp [intOf]; omega
      · have e : sumF wCall (l.take k) = sumF wCall l := by rw [List.take_of_length_le (by have := HL.out; omega)]
        go_wp2
        go_ret
        exact ⟨ret_int (by have q3 := HL.out; rw [szOf_yes (by unfold totF; omega)]; unfold totF; omega), HF.out⟩

set_option maxHeartbeats 1000000 in
theorem szInode_any (x0 x1 x2 : Int) (x3 : ByteArray) (es : List (Int × Int × ByteArray × Int)) (B : Option Addr) (m d : Nat) (left : Int) (w : World)
    (hB : Rd w B m 4 (es.flatMap cEnt)) (ok3 : x3.size ≤ 9223372036854775807) (okE : ∀ s ∈ es, s.2.2.1.size ≤ 9223372036854775807) (hm : m ≤ 9223372036854775807) (h0_ : 0 ≤ left) (h1_ : left ≤ 1048576) :
    Calls Tryz.prog 101 #[.agg #[.int .i64 x0, .int .i64 x1, .int .i64 x2, .string x3, .slice B m d], .int .i64 left] w fun e w' => e = .returned (.int .i64 (szOf left (x3.size + totF wEnt es))) ∧ Fr w w' := by
  obtain ⟨z0, hz0⟩ : ∃ z : Nat, z = x3.size := ⟨_, rfl⟩
  obtain ⟨z1, hz1⟩ : ∃ z : Nat, z = totF wEnt es := ⟨_, rfl⟩
  rw [show x3.size + totF wEnt es = z0 + z1 from by omega]
  have HZ0 := Lib.hid hz0
  have HZ1 := Lib.hid hz1
  clear hz0 hz1
  have H := (Hp.start w).lay_ 133 [.int .i64 x0, .int .i64 x1, .int .i64 x2, .string x3, .slice B m d] rfl
  go_enter Tryz.func101, Tryz.ntmps101
  have y0 := H.bat 0 rfl (j := 0) rfl
  have y1 := H.bat 0 rfl (j := 1) rfl
  have y2 := H.bat 0 rfl (j := 2) rfl
  have y3 := H.bat 0 rfl (j := 3) rfl
  have y4 := H.bat 0 rfl (j := 4) rfl
  have g0 : x3.size = z0 := HZ0.out.symm
  by_cases hv0 : left < (z0 : Int)
  · have hvs : left < (x3.size : Int) := by omega
    clear g0
    go_wp2
    go_ret
    exact ⟨ret_int (by unfold szOf; split <;> omega), by repeat (first | exact Below.refl _ _ | refine Below.alloc ?_ (by first | (simp; done) | (simp; omega)) _ | refine Below.setCell ?_ (by first | (simp; done) | (simp; omega)) _)⟩
  have hvs : ¬ left < (x3.size : Int) := by omega
  obtain ⟨lf0, hlf0⟩ : ∃ x : Int, x = left - (x3.size : Int) := ⟨_, rfl⟩
  have hlz0 : lf0 = left - z0 := by omega
  have hl0_0 : 0 ≤ lf0 := by omega
  have hl1_0 : lf0 ≤ 1048576 := by omega
  clear g0 hv0
  go_wp2_with fail
  rw [← hlf0]
  have HLF0 := Lib.hid hlf0
  have HLZ0 := Lib.hid hlz0
  clear hlf0 hlz0 hvs
  have y0 := H.bat 0 rfl (j := 0) rfl
  have y1 := H.bat 0 rfl (j := 1) rfl
  have y2 := H.bat 0 rfl (j := 2) rfl
  have y3 := H.bat 0 rfl (j := 3) rfl
  have y4 := H.bat 0 rfl (j := 4) rfl
  refine (szEntS_fr B m d es lf0 _ (hB.fr H.fr) okE hm (by omega) (by omega)).mono ?_
  rintro e w1_ ⟨rfl, f1⟩
  replace H := H.go f1
  clear f1 y0 y1 y2 y3 y4
  rw [show totF wEnt es = z1 from HZ1.out.symm]
  by_cases hv1 : lf0 < (z1 : Int)
  · rw [szOf_no hv1]
    have y0 := H.bat 0 rfl (j := 0) rfl
    have y1 := H.bat 0 rfl (j := 1) rfl
    have y2 := H.bat 0 rfl (j := 2) rfl
    have y3 := H.bat 0 rfl (j := 3) rfl
    have y4 := H.bat 0 rfl (j := 4) rfl
    go_wp2
    go_ret
    exact ⟨ret_int (by have q0 := HLZ0.out; unfold szOf; split <;> omega), H.fr⟩
  rw [szOf_yes hv1]
  obtain ⟨lf1, hlf1⟩ : ∃ x : Int, x = lf0 - (z1 : Int) := ⟨_, rfl⟩
  have hl0_1 : 0 ≤ lf1 := by omega
  have hl1_1 : lf1 ≤ 1048576 := by omega
  rw [← hlf1]
  have HLZ1 := Lib.hid hlf1
  clear hlf1
  have y0 := H.bat 0 rfl (j := 0) rfl
  have y1 := H.bat 0 rfl (j := 1) rfl
  have y2 := H.bat 0 rfl (j := 2) rfl
  have y3 := H.bat 0 rfl (j := 3) rfl
  have y4 := H.bat 0 rfl (j := 4) rfl
  go_wp2
  go_ret
  exact ⟨ret_int (by have q0 := HLZ0.out; have q1 := HLZ1.out; unfold szOf; split <;> omega), H.fr⟩
set_option maxHeartbeats 1000000 in
theorem szInodeS_fr (A : Option Addr) (n c : Nat) (l : List (Value × Nod)) (left : Int) (w : World) (h : RdN w A n l) (ok : ∀ p ∈ l, p.2.2.2.2.1.size ≤ 9223372036854775807 ∧ (∀ s ∈ p.2.2.2.2.2, s.2.2.1.size ≤ 9223372036854775807) ∧ p.2.2.2.2.2.length ≤ 9223372036854775807) (hn : n ≤ 9223372036854775807) (h0 : 0 ≤ left) (h1 : left ≤ 1048576) :
    Calls Tryz.prog 67 #[.slice A n c, .int .i64 left] w fun e w' => e = .returned (.int .i64 (szOf left (totF wNod l))) ∧ Fr w w' := by
  have hl : l.length = n := h.len
  have HL := Lib.hid hl
  by_cases hlt : left < n
  · have hr : szOf left (totF wNod l) = -1 := szOf_no (by have := totF_len wNod l; omega)
    have HR := Lib.hid hr
    clear hr hl
    go_enter Tryz.func67, Tryz.ntmps67
    go_wp2
    go_ret
    exact ⟨ret_int HR.out.symm, Below.refl _ _⟩
  · clear hl
    go_enter Tryz.func67, Tryz.ntmps67
    go_wp2_with fail
    go_loopw [1, 5] (fun v i wr => ∃ k : Nat, k ≤ n ∧ i = .int .i64 k ∧ v = .int .i64 (left - n - (sumF wNod (l.take k) : Nat)) ∧ 0 ≤ left - n - (sumF wNod (l.take k) : Nat) ∧ Fr w wr) (fun _ i _ => n - (intOf i).toNat)
    case atStart => exact ⟨0, Nat.zero_le _, rfl, by simp [sumF], by simp [sumF]; omega, Below.refl _ _⟩
    case round =>
      obtain ⟨k, hk, rfl, rfl, hb, hf⟩ := hrel
      have HF := Lib.hid hf
      clear hf
      by_cases hlt2 : k < n
      · obtain ⟨⟨v, x0, x1, x2, x3, es⟩, hs⟩ := some_at HL.out hlt2
        obtain ⟨bk, of, B, d, rfl, e1, r1, c1⟩ := (h.fr HF.out).elem hs
        simp only at e1 r1
        subst e1
        have ca0 := c1 0 _ rfl; simp only [Nat.add_zero] at ca0
        have ca1 := c1 1 _ rfl
        have ca2 := c1 2 _ rfl
        have ca3 := c1 3 _ rfl
        have ca4 := c1 4 _ rfl
        clear c1
        have hsz := ok _ (List.mem_of_getElem? hs)
        have hst := sumF_step (f := wNod) hs
        have hle := sumF_le wNod l (k + 1)
        have HST := Lib.hid hst
        have HLE := Lib.hid hle
        clear hs hst hle
        generalize sumF wNod (l.take k) = q at hb HST
        obtain ⟨z, hz⟩ : ∃ z : Nat, z = x3.size + totF wEnt es := ⟨_, rfl⟩
        have HZ := Lib.hid hz
        clear hz
        obtain ⟨lf, hlf⟩ : ∃ x : Int, x = left - n - (q : Nat) := ⟨_, rfl⟩
        have hlf0 : 0 ≤ lf := by omega
        have hlf1 : lf ≤ 1048576 := by omega
        rw [← hlf]
        have HLF := Lib.hid hlf
        clear hlf
        go_wp2_with fail
        refine (szInode_any x0 x1 x2 x3 es B _ d _ _ r1 hsz.1 hsz.2.1 hsz.2.2 (by omega) (by omega)).mono ?_
        rintro e w2 ⟨rfl, f2⟩
        have F2 := Lib.hid (HF.out.then f2)
        clear f2
        rw [show x3.size + totF wEnt es = z from HZ.out.symm]
        by_cases hover : lf < z
        · rw [szOf_no hover]
          go_wp2
          go_ret
          exact ⟨ret_int (szOf_no (by have q1 := HST.out; have q2 := HLE.out; have q3 := HL.out; have q4 := HZ.out; have q5 := HLF.out; unfold totF; simp only [wNod] at *; omega)).symm, F2.out⟩
        · rw [szOf_yes hover]
          have hp : 0 ≤ lf - (z : Int) := by omega
          go_wp2
          go_roundw
          case rel => exact ⟨k + 1, by omega, by go_num, by rw [HST.out]; have q4 := HZ.out; have q5 := HLF.out; simp only [wNod] at *; congr 1; omega, by rw [HST.out]; have q4 := HZ.out; have q5 := HLF.out; simp only [wNod] at *; omega, F2.out⟩
          case measure => simp [intOf]; omega
      · have e : sumF wNod (l.take k) = sumF wNod l := by rw [List.take_of_length_le (by have := HL.out; omega)]
        go_wp2
        go_ret
        exact ⟨ret_int (by have q3 := HL.out; rw [szOf_yes (by unfold totF; omega)]; unfold totF; omega), HF.out⟩

/-- The texts and rows of inodes fit into a machine. -/
def OkN (L : List (Value × Nod)) : Prop := ∀ p ∈ L, p.2.2.2.2.1.size ≤ 9223372036854775807 ∧ (∀ s ∈ p.2.2.2.2.2, s.2.2.1.size ≤ 9223372036854775807) ∧ p.2.2.2.2.2.length ≤ 9223372036854775807
set_option maxHeartbeats 1000000 in
theorem szVol_any (x0 : Int) (A : Option Addr) (n c : Nat) (L : List (Value × Nod)) (left : Int) (w : World)
    (h : RdN w A n L) (ok : OkN L) (hn : n ≤ 9223372036854775807) (h0_ : 0 ≤ left) (h1_ : left ≤ 1048576) :
    Calls Tryz.prog 32 #[.agg #[.int .i64 x0, .slice A n c], .int .i64 left] w fun e w' => e = .returned (.int .i64 (szOf left (totF wNod L))) ∧ Fr w w' := by
  obtain ⟨z0, hz0⟩ : ∃ z : Nat, z = totF wNod L := ⟨_, rfl⟩
  rw [show totF wNod L = z0 from by omega]
  have HZ0 := Lib.hid hz0
  clear hz0
  have H := (Hp.start w).lay_ 39 [.int .i64 x0, .slice A n c] rfl
  go_enter Tryz.func32, Tryz.ntmps32
  have y0 := H.bat 0 rfl (j := 0) rfl
  have y1 := H.bat 0 rfl (j := 1) rfl
  go_wp2_with fail
  refine (szInodeS_fr A n c L left _ (h.fr H.fr) ok hn (by omega) (by omega)).mono ?_
  rintro e w0_ ⟨rfl, f0⟩
  replace H := H.go f0
  clear f0 y0 y1
  rw [show totF wNod L = z0 from HZ0.out.symm]
  by_cases hv0 : left < (z0 : Int)
  · rw [szOf_no hv0]
    have y0 := H.bat 0 rfl (j := 0) rfl
    have y1 := H.bat 0 rfl (j := 1) rfl
    go_wp2
    go_ret
    exact ⟨ret_int (by unfold szOf; split <;> omega), H.fr⟩
  rw [szOf_yes hv0]
  obtain ⟨lf0, hlf0⟩ : ∃ x : Int, x = left - (z0 : Int) := ⟨_, rfl⟩
  have hl0_0 : 0 ≤ lf0 := by omega
  have hl1_0 : lf0 ≤ 1048576 := by omega
  rw [← hlf0]
  have HLZ0 := Lib.hid hlf0
  clear hlf0
  have y0 := H.bat 0 rfl (j := 0) rfl
  have y1 := H.bat 0 rfl (j := 1) rfl
  go_wp2
  go_ret
  exact ⟨ret_int (by have q0 := HLZ0.out; unfold szOf; split <;> omega), H.fr⟩
end Go.Proofs.YtaogikhpglcmjaaGreatDoor

namespace Go.Proofs.YtaogikhpglcmjaaGreatDoor
open Go.RowKit

set_option linter.unusedVariables false
set_option linter.unusedSimpArgs false

theorem szWrite_any (x0 : Int) (x1 : ByteArray) (left : Int) (w : World) (h0 : x1.size ≤ 9223372036854775807) (h0_ : 0 ≤ left) (h1_ : left ≤ 1048576) :
    Calls Tryz.prog 102 #[.agg #[.int .i64 x0, .string x1], .int .i64 left] w fun e w' => e = .returned (.int .i64 (szOf left (x1.size))) ∧ Fr w w' := by
  by_cases g0 : left < (x1.size : Int)
  · go_enter Tryz.func102, Tryz.ntmps102
    go_wp2
    go_ret
    exact ⟨ret_int (by unfold szOf; split <;> omega), by repeat (first | exact Below.refl _ _ | refine Below.alloc ?_ (by first | (simp; done) | (simp; omega)) _ | refine Below.setCell ?_ (by first | (simp; done) | (simp; omega)) _)⟩
  ·
    go_enter Tryz.func102, Tryz.ntmps102
    go_wp2
    go_ret
    exact ⟨ret_int (by unfold szOf; split <;> omega), by repeat (first | exact Below.refl _ _ | refine Below.alloc ?_ (by first | (simp; done) | (simp; omega)) _ | refine Below.setCell ?_ (by first | (simp; done) | (simp; omega)) _)⟩
set_option maxHeartbeats 1000000 in
theorem szWriteS_fr (A : Option Addr) (n c : Nat) (l : List (Int × ByteArray)) (left : Int) (w : World) (h : Rd w A n 2 (l.flatMap cWrite)) (ok : ∀ s ∈ l, s.2.size ≤ 9223372036854775807) (hn : n ≤ 9223372036854775807) (h0 : 0 ≤ left) (h1 : left ≤ 1048576) :
    Calls Tryz.prog 68 #[.slice A n c, .int .i64 left] w fun e w' => e = .returned (.int .i64 (szOf left (totF wWrite l))) ∧ Fr w w' := by
  have hl : l.length = n := h.lenk cWrite_len (by omega)
  have HL := Lib.hid hl
  by_cases hlt : left < n
  · have hr : szOf left (totF wWrite l) = -1 := szOf_no (by have := totF_len wWrite l; omega)
    have HR := Lib.hid hr
    clear hr hl
    go_enter Tryz.func68, Tryz.ntmps68
    go_wp2
    go_ret
    exact ⟨ret_int HR.out.symm, Below.refl _ _⟩
  · clear hl
    go_enter Tryz.func68, Tryz.ntmps68
    go_wp2_with fail
    go_loopw [1, 5] (fun v i wr => ∃ k : Nat, k ≤ n ∧ i = .int .i64 k ∧ v = .int .i64 (left - n - (sumF wWrite (l.take k) : Nat)) ∧ 0 ≤ left - n - (sumF wWrite (l.take k) : Nat) ∧ Fr w wr) (fun _ i _ => n - (intOf i).toNat)
    case atStart => exact ⟨0, Nat.zero_le _, rfl, by simp [sumF], by simp [sumF]; omega, Below.refl _ _⟩
    case round =>
      obtain ⟨k, hk, rfl, rfl, hb, hf⟩ := hrel
      have HF := Lib.hid hf
      clear hf
      by_cases hlt2 : k < n
      · obtain ⟨⟨x0, x1⟩, hs⟩ := some_at HL.out hlt2
        obtain ⟨bk, of, rfl, hcell⟩ := (h.fr HF.out).elem cWrite_len hs (by omega)
        have ca0 := hcell 0 _ rfl; simp only [Nat.add_zero] at ca0
        have ca1 := hcell 1 _ rfl
        clear hcell
        have hsz := ok _ (List.mem_of_getElem? hs)
        have hst := sumF_step (f := wWrite) hs
        have hle := sumF_le wWrite l (k + 1)
        have HST := Lib.hid hst
        have HLE := Lib.hid hle
        clear hs hst hle
        generalize sumF wWrite (l.take k) = q at hb HST
        obtain ⟨z, hz⟩ : ∃ z : Nat, z = x1.size := ⟨_, rfl⟩
        have HZ := Lib.hid hz
        clear hz
        obtain ⟨lf, hlf⟩ : ∃ x : Int, x = left - n - (q : Nat) := ⟨_, rfl⟩
        have hlf0 : 0 ≤ lf := by omega
        have hlf1 : lf ≤ 1048576 := by omega
        rw [← hlf]
        have HLF := Lib.hid hlf
        clear hlf
        go_wp2_with fail
        refine (szWrite_any _ _ _ _ hsz (by omega) (by omega)).mono ?_
        rintro e w2 ⟨rfl, f2⟩
        have F2 := Lib.hid (HF.out.then f2)
        clear f2
        rw [show x1.size = z from HZ.out.symm]
        by_cases hover : lf < z
        · rw [szOf_no hover]
          go_wp2
          go_ret
          exact ⟨ret_int (szOf_no (by have q1 := HST.out; have q2 := HLE.out; have q3 := HL.out; have q4 := HZ.out; have q5 := HLF.out; unfold totF; simp only [wWrite] at *; omega)).symm, F2.out⟩
        · rw [szOf_yes hover]
          have hp : 0 ≤ lf - (z : Int) := by omega
          go_wp2
          go_roundw
          case rel => exact ⟨k + 1, by omega, by go_num, by rw [HST.out]; have q4 := HZ.out; have q5 := HLF.out; simp only [wWrite] at *; congr 1; omega, by rw [HST.out]; have q4 := HZ.out; have q5 := HLF.out; simp only [wWrite] at *; omega, F2.out⟩
          case measure => simp [intOf]; omega
      · have e : sumF wWrite (l.take k) = sumF wWrite l := by rw [List.take_of_length_le (by have := HL.out; omega)]
        go_wp2
        go_ret
        exact ⟨ret_int (by have q3 := HL.out; rw [szOf_yes (by unfold totF; omega)]; unfold totF; omega), HF.out⟩

set_option maxHeartbeats 1000000 in
theorem szDev_any (A : Option Addr) (n c : Nat) (l : List ByteArray) (B : Option Addr) (m d : Nat) (ws : List (Int × ByteArray)) (left : Int) (w : World)
    (h : Rd w A n 1 (l.map Value.string)) (hB : Rd w B m 2 (ws.flatMap cWrite)) (ok : ∀ s ∈ l, s.size ≤ 9223372036854775807) (okW : ∀ s ∈ ws, s.2.size ≤ 9223372036854775807) (hn : n ≤ 9223372036854775807) (hm : m ≤ 9223372036854775807) (h0_ : 0 ≤ left) (h1_ : left ≤ 1048576) :
    Calls Tryz.prog 33 #[.agg #[.slice A n c, .slice B m d], .int .i64 left] w fun e w' => e = .returned (.int .i64 (szOf left (strTot l + totF wWrite ws))) ∧ Fr w w' := by
  obtain ⟨z0, hz0⟩ : ∃ z : Nat, z = strTot l := ⟨_, rfl⟩
  obtain ⟨z1, hz1⟩ : ∃ z : Nat, z = totF wWrite ws := ⟨_, rfl⟩
  rw [show strTot l + totF wWrite ws = z0 + z1 from by omega]
  have HZ0 := Lib.hid hz0
  have HZ1 := Lib.hid hz1
  clear hz0 hz1
  have H := (Hp.start w).lay_ 42 [.slice A n c, .slice B m d] rfl
  go_enter Tryz.func33, Tryz.ntmps33
  have y0 := H.bat 0 rfl (j := 0) rfl
  have y1 := H.bat 0 rfl (j := 1) rfl
  go_wp2_with fail
  refine (szStringS_fr A n c l left _ (h.fr H.fr) ok hn (by omega) (by omega)).mono ?_
  rintro e w0_ ⟨rfl, f0⟩
  replace H := H.go f0
  clear f0 y0 y1
  rw [show strTot l = z0 from HZ0.out.symm]
  by_cases hv0 : left < (z0 : Int)
  · rw [szOf_no hv0]
    have y0 := H.bat 0 rfl (j := 0) rfl
    have y1 := H.bat 0 rfl (j := 1) rfl
    go_wp2
    go_ret
    exact ⟨ret_int (by unfold szOf; split <;> omega), H.fr⟩
  rw [szOf_yes hv0]
  obtain ⟨lf0, hlf0⟩ : ∃ x : Int, x = left - (z0 : Int) := ⟨_, rfl⟩
  have hl0_0 : 0 ≤ lf0 := by omega
  have hl1_0 : lf0 ≤ 1048576 := by omega
  rw [← hlf0]
  have HLZ0 := Lib.hid hlf0
  clear hlf0
  have y0 := H.bat 0 rfl (j := 0) rfl
  have y1 := H.bat 0 rfl (j := 1) rfl
  go_wp2_with fail
  refine (szWriteS_fr B m d ws lf0 _ (hB.fr H.fr) okW hm (by omega) (by omega)).mono ?_
  rintro e w1_ ⟨rfl, f1⟩
  replace H := H.go f1
  clear f1 y0 y1
  rw [show totF wWrite ws = z1 from HZ1.out.symm]
  by_cases hv1 : lf0 < (z1 : Int)
  · rw [szOf_no hv1]
    have y0 := H.bat 0 rfl (j := 0) rfl
    have y1 := H.bat 0 rfl (j := 1) rfl
    go_wp2
    go_ret
    exact ⟨ret_int (by have q0 := HLZ0.out; unfold szOf; split <;> omega), H.fr⟩
  rw [szOf_yes hv1]
  obtain ⟨lf1, hlf1⟩ : ∃ x : Int, x = lf0 - (z1 : Int) := ⟨_, rfl⟩
  have hl0_1 : 0 ≤ lf1 := by omega
  have hl1_1 : lf1 ≤ 1048576 := by omega
  rw [← hlf1]
  have HLZ1 := Lib.hid hlf1
  clear hlf1
  have y0 := H.bat 0 rfl (j := 0) rfl
  have y1 := H.bat 0 rfl (j := 1) rfl
  go_wp2
  go_ret
  exact ⟨ret_int (by have q0 := HLZ0.out; have q1 := HLZ1.out; unfold szOf; split <;> omega), H.fr⟩
set_option maxHeartbeats 1000000 in
theorem szFs_any (up : Bool) (m1 m2 sq st sv tr : Int) (A1 A2 A3 A6 A7 A8 : Option Addr) (n1 n2 n3 n6 n7 n8 c1 c2 c3 c6 c7 c8 : Nat) (L1 L2 : List (Value × Nod)) (base bl : List ByteArray) (pd : List (Int × ByteArray)) (calls : List (Int × Int × ByteArray × Int × ByteArray × ByteArray)) (left : Int) (w : World)
    (h1 : RdN w A1 n1 L1) (ok1 : OkN L1) (hn1 : n1 ≤ 9223372036854775807) (h2 : RdN w A2 n2 L2) (ok2 : OkN L2) (hn2 : n2 ≤ 9223372036854775807) (h3 : Rd w A3 n3 1 (base.map Value.string)) (ok3 : ∀ s ∈ base, s.size ≤ 9223372036854775807) (hn3 : n3 ≤ 9223372036854775807) (h6 : Rd w A6 n6 1 (bl.map Value.string)) (ok6 : ∀ s ∈ bl, s.size ≤ 9223372036854775807) (hn6 : n6 ≤ 9223372036854775807) (h7 : Rd w A7 n7 2 (pd.flatMap cWrite)) (ok7 : ∀ s ∈ pd, s.2.size ≤ 9223372036854775807) (hn7 : n7 ≤ 9223372036854775807) (h8 : Rd w A8 n8 6 (calls.flatMap cCall)) (ok8 : ∀ s ∈ calls, s.2.2.1.size ≤ 9223372036854775807 ∧ s.2.2.2.2.1.size ≤ 9223372036854775807 ∧ s.2.2.2.2.2.size ≤ 9223372036854775807) (hn8 : n8 ≤ 9223372036854775807) (h0_ : 0 ≤ left) (h1_ : left ≤ 1048576) :
    Calls Tryz.prog 17 #[.agg #[.bool up, .int .i64 m1, .slice A1 n1 c1, .int .i64 m2, .slice A2 n2 c2, .slice A3 n3 c3, .int .i64 sq, .int .i64 st, .slice A6 n6 c6, .slice A7 n7 c7, .slice A8 n8 c8, .int .i64 sv, .int .i64 tr], .int .i64 left] w fun e w' => e = .returned (.int .i64 (szOf left (totF wNod L1 + totF wNod L2 + strTot base + (strTot bl + totF wWrite pd) + totF wCall calls))) ∧ Fr w w' := by
  obtain ⟨z0, hz0⟩ : ∃ z : Nat, z = totF wNod L1 := ⟨_, rfl⟩
  obtain ⟨z1, hz1⟩ : ∃ z : Nat, z = totF wNod L2 := ⟨_, rfl⟩
  obtain ⟨z2, hz2⟩ : ∃ z : Nat, z = strTot base := ⟨_, rfl⟩
  obtain ⟨z3, hz3⟩ : ∃ z : Nat, z = (strTot bl + totF wWrite pd) := ⟨_, rfl⟩
  obtain ⟨z4, hz4⟩ : ∃ z : Nat, z = totF wCall calls := ⟨_, rfl⟩
  rw [show totF wNod L1 + totF wNod L2 + strTot base + (strTot bl + totF wWrite pd) + totF wCall calls = z0 + z1 + z2 + z3 + z4 from by omega]
  have HZ0 := Lib.hid hz0
  have HZ1 := Lib.hid hz1
  have HZ2 := Lib.hid hz2
  have HZ3 := Lib.hid hz3
  have HZ4 := Lib.hid hz4
  clear hz0 hz1 hz2 hz3 hz4
  have H := (Hp.start w).lay_ 45 [.bool up, .int .i64 m1, .slice A1 n1 c1, .int .i64 m2, .slice A2 n2 c2, .slice A3 n3 c3, .int .i64 sq, .int .i64 st, .slice A6 n6 c6, .slice A7 n7 c7, .slice A8 n8 c8, .int .i64 sv, .int .i64 tr] rfl
  go_enter Tryz.func17, Tryz.ntmps17
  have y0 := H.bat 0 rfl (j := 0) rfl
  have y1 := H.bat 0 rfl (j := 1) rfl
  have y2 := H.bat 0 rfl (j := 2) rfl
  have y3 := H.bat 0 rfl (j := 3) rfl
  have y4 := H.bat 0 rfl (j := 4) rfl
  have y5 := H.bat 0 rfl (j := 5) rfl
  have y6 := H.bat 0 rfl (j := 6) rfl
  have y7 := H.bat 0 rfl (j := 7) rfl
  have y8 := H.bat 0 rfl (j := 8) rfl
  have y9 := H.bat 0 rfl (j := 9) rfl
  have y10 := H.bat 0 rfl (j := 10) rfl
  have y11 := H.bat 0 rfl (j := 11) rfl
  have y12 := H.bat 0 rfl (j := 12) rfl
  go_wp2_with fail
  refine (szVol_any m1 A1 n1 c1 L1 left _ (h1.fr H.fr) ok1 hn1 (by omega) (by omega)).mono ?_
  rintro e w0_ ⟨rfl, f0⟩
  replace H := H.go f0
  clear f0 y0 y1 y2 y3 y4 y5 y6 y7 y8 y9 y10 y11 y12
  rw [show totF wNod L1 = z0 from HZ0.out.symm]
  by_cases hv0 : left < (z0 : Int)
  · rw [szOf_no hv0]
    have y0 := H.bat 0 rfl (j := 0) rfl
    have y1 := H.bat 0 rfl (j := 1) rfl
    have y2 := H.bat 0 rfl (j := 2) rfl
    have y3 := H.bat 0 rfl (j := 3) rfl
    have y4 := H.bat 0 rfl (j := 4) rfl
    have y5 := H.bat 0 rfl (j := 5) rfl
    have y6 := H.bat 0 rfl (j := 6) rfl
    have y7 := H.bat 0 rfl (j := 7) rfl
    have y8 := H.bat 0 rfl (j := 8) rfl
    have y9 := H.bat 0 rfl (j := 9) rfl
    have y10 := H.bat 0 rfl (j := 10) rfl
    have y11 := H.bat 0 rfl (j := 11) rfl
    have y12 := H.bat 0 rfl (j := 12) rfl
    go_wp2
    go_ret
    exact ⟨ret_int (by unfold szOf; split <;> omega), H.fr⟩
  rw [szOf_yes hv0]
  obtain ⟨lf0, hlf0⟩ : ∃ x : Int, x = left - (z0 : Int) := ⟨_, rfl⟩
  have hl0_0 : 0 ≤ lf0 := by omega
  have hl1_0 : lf0 ≤ 1048576 := by omega
  rw [← hlf0]
  have HLZ0 := Lib.hid hlf0
  clear hlf0
  have y0 := H.bat 0 rfl (j := 0) rfl
  have y1 := H.bat 0 rfl (j := 1) rfl
  have y2 := H.bat 0 rfl (j := 2) rfl
  have y3 := H.bat 0 rfl (j := 3) rfl
  have y4 := H.bat 0 rfl (j := 4) rfl
  have y5 := H.bat 0 rfl (j := 5) rfl
  have y6 := H.bat 0 rfl (j := 6) rfl
  have y7 := H.bat 0 rfl (j := 7) rfl
  have y8 := H.bat 0 rfl (j := 8) rfl
  have y9 := H.bat 0 rfl (j := 9) rfl
  have y10 := H.bat 0 rfl (j := 10) rfl
  have y11 := H.bat 0 rfl (j := 11) rfl
  have y12 := H.bat 0 rfl (j := 12) rfl
  go_wp2_with fail
  refine (szVol_any m2 A2 n2 c2 L2 lf0 _ (h2.fr H.fr) ok2 hn2 (by omega) (by omega)).mono ?_
  rintro e w1_ ⟨rfl, f1⟩
  replace H := H.go f1
  clear f1 y0 y1 y2 y3 y4 y5 y6 y7 y8 y9 y10 y11 y12
  rw [show totF wNod L2 = z1 from HZ1.out.symm]
  by_cases hv1 : lf0 < (z1 : Int)
  · rw [szOf_no hv1]
    have y0 := H.bat 0 rfl (j := 0) rfl
    have y1 := H.bat 0 rfl (j := 1) rfl
    have y2 := H.bat 0 rfl (j := 2) rfl
    have y3 := H.bat 0 rfl (j := 3) rfl
    have y4 := H.bat 0 rfl (j := 4) rfl
    have y5 := H.bat 0 rfl (j := 5) rfl
    have y6 := H.bat 0 rfl (j := 6) rfl
    have y7 := H.bat 0 rfl (j := 7) rfl
    have y8 := H.bat 0 rfl (j := 8) rfl
    have y9 := H.bat 0 rfl (j := 9) rfl
    have y10 := H.bat 0 rfl (j := 10) rfl
    have y11 := H.bat 0 rfl (j := 11) rfl
    have y12 := H.bat 0 rfl (j := 12) rfl
    go_wp2
    go_ret
    exact ⟨ret_int (by have q0 := HLZ0.out; unfold szOf; split <;> omega), H.fr⟩
  rw [szOf_yes hv1]
  obtain ⟨lf1, hlf1⟩ : ∃ x : Int, x = lf0 - (z1 : Int) := ⟨_, rfl⟩
  have hl0_1 : 0 ≤ lf1 := by omega
  have hl1_1 : lf1 ≤ 1048576 := by omega
  rw [← hlf1]
  have HLZ1 := Lib.hid hlf1
  clear hlf1
  have y0 := H.bat 0 rfl (j := 0) rfl
  have y1 := H.bat 0 rfl (j := 1) rfl
  have y2 := H.bat 0 rfl (j := 2) rfl
  have y3 := H.bat 0 rfl (j := 3) rfl
  have y4 := H.bat 0 rfl (j := 4) rfl
  have y5 := H.bat 0 rfl (j := 5) rfl
  have y6 := H.bat 0 rfl (j := 6) rfl
  have y7 := H.bat 0 rfl (j := 7) rfl
  have y8 := H.bat 0 rfl (j := 8) rfl
  have y9 := H.bat 0 rfl (j := 9) rfl
  have y10 := H.bat 0 rfl (j := 10) rfl
  have y11 := H.bat 0 rfl (j := 11) rfl
  have y12 := H.bat 0 rfl (j := 12) rfl
  go_wp2_with fail
  refine (szStringS_fr A3 n3 c3 base lf1 _ (h3.fr H.fr) ok3 hn3 (by omega) (by omega)).mono ?_
  rintro e w2_ ⟨rfl, f2⟩
  replace H := H.go f2
  clear f2 y0 y1 y2 y3 y4 y5 y6 y7 y8 y9 y10 y11 y12
  rw [show strTot base = z2 from HZ2.out.symm]
  by_cases hv2 : lf1 < (z2 : Int)
  · rw [szOf_no hv2]
    have y0 := H.bat 0 rfl (j := 0) rfl
    have y1 := H.bat 0 rfl (j := 1) rfl
    have y2 := H.bat 0 rfl (j := 2) rfl
    have y3 := H.bat 0 rfl (j := 3) rfl
    have y4 := H.bat 0 rfl (j := 4) rfl
    have y5 := H.bat 0 rfl (j := 5) rfl
    have y6 := H.bat 0 rfl (j := 6) rfl
    have y7 := H.bat 0 rfl (j := 7) rfl
    have y8 := H.bat 0 rfl (j := 8) rfl
    have y9 := H.bat 0 rfl (j := 9) rfl
    have y10 := H.bat 0 rfl (j := 10) rfl
    have y11 := H.bat 0 rfl (j := 11) rfl
    have y12 := H.bat 0 rfl (j := 12) rfl
    go_wp2
    go_ret
    exact ⟨ret_int (by have q0 := HLZ0.out; have q1 := HLZ1.out; unfold szOf; split <;> omega), H.fr⟩
  rw [szOf_yes hv2]
  obtain ⟨lf2, hlf2⟩ : ∃ x : Int, x = lf1 - (z2 : Int) := ⟨_, rfl⟩
  have hl0_2 : 0 ≤ lf2 := by omega
  have hl1_2 : lf2 ≤ 1048576 := by omega
  rw [← hlf2]
  have HLZ2 := Lib.hid hlf2
  clear hlf2
  have y0 := H.bat 0 rfl (j := 0) rfl
  have y1 := H.bat 0 rfl (j := 1) rfl
  have y2 := H.bat 0 rfl (j := 2) rfl
  have y3 := H.bat 0 rfl (j := 3) rfl
  have y4 := H.bat 0 rfl (j := 4) rfl
  have y5 := H.bat 0 rfl (j := 5) rfl
  have y6 := H.bat 0 rfl (j := 6) rfl
  have y7 := H.bat 0 rfl (j := 7) rfl
  have y8 := H.bat 0 rfl (j := 8) rfl
  have y9 := H.bat 0 rfl (j := 9) rfl
  have y10 := H.bat 0 rfl (j := 10) rfl
  have y11 := H.bat 0 rfl (j := 11) rfl
  have y12 := H.bat 0 rfl (j := 12) rfl
  go_wp2_with fail
  refine (szDev_any A6 n6 c6 bl A7 n7 c7 pd lf2 _ (h6.fr H.fr) (h7.fr H.fr) ok6 ok7 hn6 hn7 (by omega) (by omega)).mono ?_
  rintro e w3_ ⟨rfl, f3⟩
  replace H := H.go f3
  clear f3 y0 y1 y2 y3 y4 y5 y6 y7 y8 y9 y10 y11 y12
  rw [show (strTot bl + totF wWrite pd) = z3 from HZ3.out.symm]
  by_cases hv3 : lf2 < (z3 : Int)
  · rw [szOf_no hv3]
    have y0 := H.bat 0 rfl (j := 0) rfl
    have y1 := H.bat 0 rfl (j := 1) rfl
    have y2 := H.bat 0 rfl (j := 2) rfl
    have y3 := H.bat 0 rfl (j := 3) rfl
    have y4 := H.bat 0 rfl (j := 4) rfl
    have y5 := H.bat 0 rfl (j := 5) rfl
    have y6 := H.bat 0 rfl (j := 6) rfl
    have y7 := H.bat 0 rfl (j := 7) rfl
    have y8 := H.bat 0 rfl (j := 8) rfl
    have y9 := H.bat 0 rfl (j := 9) rfl
    have y10 := H.bat 0 rfl (j := 10) rfl
    have y11 := H.bat 0 rfl (j := 11) rfl
    have y12 := H.bat 0 rfl (j := 12) rfl
    go_wp2
    go_ret
    exact ⟨ret_int (by have q0 := HLZ0.out; have q1 := HLZ1.out; have q2 := HLZ2.out; unfold szOf; split <;> omega), H.fr⟩
  rw [szOf_yes hv3]
  obtain ⟨lf3, hlf3⟩ : ∃ x : Int, x = lf2 - (z3 : Int) := ⟨_, rfl⟩
  have hl0_3 : 0 ≤ lf3 := by omega
  have hl1_3 : lf3 ≤ 1048576 := by omega
  rw [← hlf3]
  have HLZ3 := Lib.hid hlf3
  clear hlf3
  have y0 := H.bat 0 rfl (j := 0) rfl
  have y1 := H.bat 0 rfl (j := 1) rfl
  have y2 := H.bat 0 rfl (j := 2) rfl
  have y3 := H.bat 0 rfl (j := 3) rfl
  have y4 := H.bat 0 rfl (j := 4) rfl
  have y5 := H.bat 0 rfl (j := 5) rfl
  have y6 := H.bat 0 rfl (j := 6) rfl
  have y7 := H.bat 0 rfl (j := 7) rfl
  have y8 := H.bat 0 rfl (j := 8) rfl
  have y9 := H.bat 0 rfl (j := 9) rfl
  have y10 := H.bat 0 rfl (j := 10) rfl
  have y11 := H.bat 0 rfl (j := 11) rfl
  have y12 := H.bat 0 rfl (j := 12) rfl
  go_wp2_with fail
  refine (szCallS_fr A8 n8 c8 calls lf3 _ (h8.fr H.fr) ok8 hn8 (by omega) (by omega)).mono ?_
  rintro e w4_ ⟨rfl, f4⟩
  replace H := H.go f4
  clear f4 y0 y1 y2 y3 y4 y5 y6 y7 y8 y9 y10 y11 y12
  rw [show totF wCall calls = z4 from HZ4.out.symm]
  by_cases hv4 : lf3 < (z4 : Int)
  · rw [szOf_no hv4]
    have y0 := H.bat 0 rfl (j := 0) rfl
    have y1 := H.bat 0 rfl (j := 1) rfl
    have y2 := H.bat 0 rfl (j := 2) rfl
    have y3 := H.bat 0 rfl (j := 3) rfl
    have y4 := H.bat 0 rfl (j := 4) rfl
    have y5 := H.bat 0 rfl (j := 5) rfl
    have y6 := H.bat 0 rfl (j := 6) rfl
    have y7 := H.bat 0 rfl (j := 7) rfl
    have y8 := H.bat 0 rfl (j := 8) rfl
    have y9 := H.bat 0 rfl (j := 9) rfl
    have y10 := H.bat 0 rfl (j := 10) rfl
    have y11 := H.bat 0 rfl (j := 11) rfl
    have y12 := H.bat 0 rfl (j := 12) rfl
    go_wp2
    go_ret
    exact ⟨ret_int (by have q0 := HLZ0.out; have q1 := HLZ1.out; have q2 := HLZ2.out; have q3 := HLZ3.out; unfold szOf; split <;> omega), H.fr⟩
  rw [szOf_yes hv4]
  obtain ⟨lf4, hlf4⟩ : ∃ x : Int, x = lf3 - (z4 : Int) := ⟨_, rfl⟩
  have hl0_4 : 0 ≤ lf4 := by omega
  have hl1_4 : lf4 ≤ 1048576 := by omega
  rw [← hlf4]
  have HLZ4 := Lib.hid hlf4
  clear hlf4
  have y0 := H.bat 0 rfl (j := 0) rfl
  have y1 := H.bat 0 rfl (j := 1) rfl
  have y2 := H.bat 0 rfl (j := 2) rfl
  have y3 := H.bat 0 rfl (j := 3) rfl
  have y4 := H.bat 0 rfl (j := 4) rfl
  have y5 := H.bat 0 rfl (j := 5) rfl
  have y6 := H.bat 0 rfl (j := 6) rfl
  have y7 := H.bat 0 rfl (j := 7) rfl
  have y8 := H.bat 0 rfl (j := 8) rfl
  have y9 := H.bat 0 rfl (j := 9) rfl
  have y10 := H.bat 0 rfl (j := 10) rfl
  have y11 := H.bat 0 rfl (j := 11) rfl
  have y12 := H.bat 0 rfl (j := 12) rfl
  go_wp2
  go_ret
  exact ⟨ret_int (by have q0 := HLZ0.out; have q1 := HLZ1.out; have q2 := HLZ2.out; have q3 := HLZ3.out; have q4 := HLZ4.out; unfold szOf; split <;> omega), H.fr⟩
end Go.Proofs.YtaogikhpglcmjaaGreatDoor
