/-
  Ext in the laws: made anew, compared, marked.
-/
import Derived.Test.YtbmoolmgfpcnkaaGa
import Derived.StillTailTactics
namespace Go.Proofs.Ytbmoolmgfpcnkaa
open Go.RowKit

def cExt (r : Int × Int × Int) : List Value := [.int .i64 r.1, .int .i64 r.2.1, .int .i64 r.2.2]
theorem cExt_len (r : Int × Int × Int) : (cExt r).length = 3 := rfl
theorem infoExt : (Try.prog.info? 92).map (fun i => (i.zero, i.size, i.bytes)) = some (some (.agg #[.int .i64 0, .int .i64 0, .int .i64 0]), 3, 24) := by kernel_rfl

theorem toExt_any (x0 : Int) (x1 : Int) (x2 : Int) (w : World) :
    Calls Try.prog 88 #[.agg #[.int .i64 x0, .int .i64 x1, .int .i64 x2]] w fun e w' => e = .returned (.agg #[.int .i64 x0, .int .i64 x1, .int .i64 x2]) ∧ Fr w w' := by
  go_enter Try.func88, Try.ntmps88
  go_wp2
  exact bodyPost_ret (v := .agg #[.int .i64 x0, .int .i64 x1, .int .i64 x2]) (by simp [results, Try.results88, go_sem]) rfl ⟨rfl, by repeat (first | exact Below.refl _ _ | refine Below.alloc ?_ (by first | (simp; done) | (simp; omega)) _ | refine Below.setCell ?_ (by first | (simp; done) | (simp; omega)) _)⟩

theorem eqExt_any (r s : Int × Int × Int) (w : World) :
    Calls Try.prog 91 #[.agg (cExt r).toArray, .agg (cExt s).toArray] w fun e w' => e = .returned (.bool (decide (r = s))) ∧ Fr w w' := by
  obtain ⟨x0, x1, x2⟩ := r
  obtain ⟨y0, y1, y2⟩ := s
  show Calls _ _ #[.agg #[.int .i64 x0, .int .i64 x1, .int .i64 x2], .agg #[.int .i64 y0, .int .i64 y1, .int .i64 y2]] _ _
  by_cases h0 : x0 = y0
  · by_cases h1 : x1 = y1
    · by_cases h2 : x2 = y2
      · go_enter Try.func91, Try.ntmps91
        go_wp2
        go_ret
        exact ⟨ret_bool (by simp [h0, h1, h2]), by repeat (first | exact Below.refl _ _ | refine Below.alloc ?_ (by first | (simp; done) | (simp; omega)) _ | refine Below.setCell ?_ (by first | (simp; done) | (simp; omega)) _)⟩
      · go_enter Try.func91, Try.ntmps91
        go_wp2
        go_ret
        exact ⟨ret_bool (by simp [h0, h1, h2]), by repeat (first | exact Below.refl _ _ | refine Below.alloc ?_ (by first | (simp; done) | (simp; omega)) _ | refine Below.setCell ?_ (by first | (simp; done) | (simp; omega)) _)⟩
    · go_enter Try.func91, Try.ntmps91
      go_wp2
      go_ret
      exact ⟨ret_bool (by simp [h0, h1]), by repeat (first | exact Below.refl _ _ | refine Below.alloc ?_ (by first | (simp; done) | (simp; omega)) _ | refine Below.setCell ?_ (by first | (simp; done) | (simp; omega)) _)⟩
  · go_enter Try.func91, Try.ntmps91
    go_wp2
    go_ret
    exact ⟨ret_bool (by simp [h0]), by repeat (first | exact Below.refl _ _ | refine Below.alloc ?_ (by first | (simp; done) | (simp; omega)) _ | refine Below.setCell ?_ (by first | (simp; done) | (simp; omega)) _)⟩

set_option maxHeartbeats 1000000 in
theorem toExtS_any (A : Option Addr) (n c : Nat) (l : List (Int × Int × Int)) (w : World) (h : Rd w A n 3 (l.flatMap cExt)) (hn : n ≤ 1048576) :
    Calls Try.prog 52 #[.slice A n c] w fun e w' => ∃ g, e = .returned (.slice (some ⟨g, 0, none⟩) n n) ∧ w'.ownsRow w.heap.size 92 3 (.slice (some ⟨g, 0, none⟩) n n) n (l.flatMap cExt) ∧ Fr w w' := by
  obtain ⟨i0, hi, hz0, hz1, hz2⟩ := info_parts infoExt
  go_enter Try.func52, Try.ntmps52
  go_wp2_with (at_make; refine wpList_make_full _ rfl _ _ 32 rfl w.heap.size 92 i0 _ 3 Try.underlying32 hi hz0 hz1 _ _ _ _ n rfl rfl rfl rfl ?c1 ?c2 ?c3 ?_)
  case c1 => rw [hz2]; omega
  case c2 => simp only [maxLen]; omega
  case c3 => omega
  intro w1 hown hg
  have hw1 : Fr w w1 := Fr.of_grown hg
  clear hg
  obtain ⟨zs, hown⟩ : ∃ zs, w1.ownsRow w.heap.size 92 3 (.slice (some ⟨w.heap.size, 0, none⟩) n n) n zs := ⟨_, hown⟩
  have hzl := hown.1
  have HZ := Lib.hid hzl
  clear hzl
  go_wp2_with fail
  go_loopw [4] (fun i wr => ∃ k : Nat, k ≤ n ∧ i = .int .i64 k ∧ wr.ownsRow w.heap.size 92 3 (.slice (some ⟨w.heap.size, 0, none⟩) n n) n ((l.take k).flatMap cExt ++ zs.drop (k * 3)) ∧ Fr w wr)
    (fun i _ => n - (intOf i).toNat)
  case atStart => exact ⟨0, Nat.zero_le _, rfl, by simpa using hown, hw1⟩
  case round =>
    clear hown hw1
    obtain ⟨k, hk, rfl, hown, hfr⟩ := hrel
    by_cases hlt : k < n
    · obtain ⟨⟨x0, x1, x2⟩, hb⟩ := some_at (h.lenk cExt_len (by omega)) hlt
      obtain ⟨bk, of, rfl, hcell⟩ := (h.fr hfr).elem cExt_len hb (by omega)
      have ca0 := hcell 0 _ rfl; simp only [Nat.add_zero] at ca0
      have ca1 := hcell 1 _ rfl
      have ca2 := hcell 2 _ rfl
      have HO := Lib.hid hown
      have HF := Lib.hid hfr
      have HB := Lib.hid hb
      clear hown hfr hb h hcell
      go_wp2_with fail
      refine (toExt_any _ _ _ _).mono ?_
      rintro e w2 ⟨rfl, f2⟩
      have ho2 := own_fr HO.out f2
      have hst := (((ho2.stored (k * 3) (.int .i64 x0)).1.stored (k * 3 + 1) (.int .i64 x1)).1.stored (k * 3 + 2) (.int .i64 x2)).1
      have hse := sets_elem (x := (x0, x1, x2)) cExt_len HB.out HZ.out hlt
      have HST := Lib.hid hst
      have HSE := Lib.hid hse
      have hf0 := ho2.frozenAt (k * 3)
      have ⟨d0, hd0⟩ : ∃ d, w2.cell? ⟨w.heap.size, k * 3, none⟩ = some d := by rw [ho2.cellAt _ (by omega)]; exact ⟨_, List.getElem?_eq_getElem (by have := ho2.1; omega)⟩
      have hf1 := ho2.frozenAt (k * 3 + 1)
      have ⟨d1, hd1⟩ : ∃ d, w2.cell? ⟨w.heap.size, k * 3 + 1, none⟩ = some d := by rw [ho2.cellAt _ (by omega)]; exact ⟨_, List.getElem?_eq_getElem (by have := ho2.1; omega)⟩
      have hf2 := ho2.frozenAt (k * 3 + 2)
      have ⟨d2, hd2⟩ : ∃ d, w2.cell? ⟨w.heap.size, k * 3 + 2, none⟩ = some d := by rw [ho2.cellAt _ (by omega)]; exact ⟨_, List.getElem?_eq_getElem (by have := ho2.1; omega)⟩
      have HF2 := Lib.hid (HF.out.then f2)
      clear hst hse ho2 f2
      go_wp2
      go_roundw
      case rel => exact ⟨k + 1, by omega, by go_num, by rw [← HSE.out]; exact HST.out, (Below.setCell (Below.setCell (Below.setCell HF2.out (Nat.le_refl _) _) (Nat.le_refl _) _) (Nat.le_refl _) _)⟩
      case measure => simp [intOf]; omega
    · obtain rfl : k = n := by omega
      have hx : l.take k = l := List.take_of_length_le (by have := h.lenk cExt_len (by omega); omega)
      rw [hx, List.drop_of_length_le (by have := HZ.out; omega), List.append_nil] at hown
      go_wp2
      go_ret
      exact ⟨w.heap.size, rfl, hown, hfr⟩

set_option maxRecDepth 100000 in
set_option maxHeartbeats 1000000 in
theorem eqExtS_any (A B : Option Addr) (n m c d : Nat) (l l' : List (Int × Int × Int)) (w : World) (h : Rd w A n 3 (l.flatMap cExt)) (h' : Rd w B m 3 (l'.flatMap cExt)) (hn : n ≤ 1114112) (hm : m ≤ 1114112) :
    Calls Try.prog 62 #[.slice A n c, .slice B m d] w fun e w' => e = .returned (.bool (decide (l = l'))) ∧ Fr w w' := by
  have hl := h.lenk cExt_len (by omega)
  have hl' := h'.lenk cExt_len (by omega)
  have HL := Lib.hid hl
  have HL' := Lib.hid hl'
  clear hl hl'
  by_cases hnm : n = m
  · subst hnm
    go_enter Try.func62, Try.ntmps62
    go_wp2_with fail
    go_loopw [5] (fun i wr => ∃ k : Nat, k ≤ n ∧ i = .int .i64 k ∧ l.take k = l'.take k ∧ Fr w wr) (fun i _ => n - (intOf i).toNat)
    case atStart => exact ⟨0, Nat.zero_le _, rfl, by simp, Below.refl _ _⟩
    case round =>
      obtain ⟨k, hk, rfl, htake, hfr⟩ := hrel
      have HT := Lib.hid htake
      by_cases hlt : k < n
      · obtain ⟨⟨x0, x1, x2⟩, hx⟩ := some_at HL.out hlt
        obtain ⟨⟨y0, y1, y2⟩, hy⟩ := some_at HL'.out hlt
        obtain ⟨bk, of, rfl, hcell⟩ := (h.fr hfr).elem cExt_len hx (by omega)
        obtain ⟨bk', of', rfl, hcell'⟩ := (h'.fr hfr).elem cExt_len hy (by omega)
        have ca0 := hcell 0 _ rfl; simp only [Nat.add_zero] at ca0
        have ca1 := hcell 1 _ rfl
        have ca2 := hcell 2 _ rfl
        have cb0 := hcell' 0 _ rfl; simp only [Nat.add_zero] at cb0
        have cb1 := hcell' 1 _ rfl
        have cb2 := hcell' 2 _ rfl
        have HX := Lib.hid hx
        have HY := Lib.hid hy
        have HF := Lib.hid hfr
        obtain ⟨bb, hbb, hcall⟩ : ∃ bb, decide ((x0, x1, x2) = (y0, y1, y2)) = bb ∧ ∀ w, Calls Try.prog 91 #[.agg #[.int .i64 x0, .int .i64 x1, .int .i64 x2], .agg #[.int .i64 y0, .int .i64 y1, .int .i64 y2]] w fun e w' => e = .returned (.bool bb) ∧ Fr w w' := ⟨_, rfl, eqExt_any (x0, x1, x2) (y0, y1, y2)⟩
        have HBB := Lib.hid hbb
        have HC := Lib.hid hcall
        clear h h' hx hy htake hfr hcell hcell' hbb hcall
        cases bb
        · go_wp2_with fail
          go_still_tail 8, (by kernel_rfl)
          go_wp2_with fail
          refine (HC.out _).mono ?_
          rintro e w2 ⟨rfl, f2⟩
          go_wp2
          go_ret
          have e : l ≠ l' := ne_of_at HX.out HY.out (of_decide_eq_false HBB.out)
          exact ⟨ret_bool (by simp [e]), HF.out.then (Fr.then (Fr.on (Below.refl _ _) 1) f2)⟩
        · go_wp2_with fail
          go_still_tail 8, (by kernel_rfl)
          go_wp2_with fail
          refine (HC.out _).mono ?_
          rintro e w2 ⟨rfl, f2⟩
          go_wp2
          go_roundw
          case rel => exact ⟨k + 1, by omega, by go_num, take_eq_step HT.out HX.out (of_decide_eq_true HBB.out ▸ HY.out), HF.out.then (Fr.then (Fr.on (Below.refl _ _) 1) f2)⟩
          case measure => simp [intOf]; omega
      · go_wp2
        go_ret
        have e : l = l' := take_eq_all (n := n) (by rw [show n = k from by omega]; exact HT.out) HL.out HL'.out
        exact ⟨by simp [e], hfr⟩
  · go_enter Try.func62, Try.ntmps62
    go_wp2
    go_ret
    have e : l ≠ l' := by rintro rfl; exact hnm (HL.out.symm.trans HL'.out)
    exact ⟨by simp [e], Below.refl _ _⟩

theorem szExtS_any (A : Option Addr) (n c : Nat) (left : Int) (w : World) (hn : n ≤ 9223372036854775807) (h0 : 0 ≤ left) (h1 : left ≤ 1048576) :
    Calls Try.prog 42 #[.slice A n c, .int .i64 left] w fun e w' => e = .returned (.int .i64 (szOf left n)) ∧ w = w' := by
  by_cases hlt : left < n
  all_goals
    go_enter Try.func42, Try.ntmps42
    go_wp2
    go_ret
    exact ⟨ret_int (by unfold szOf; split <;> omega), rfl⟩
theorem szExtS_fr (A : Option Addr) (n c : Nat) (left : Int) (w : World) (hn : n ≤ 9223372036854775807) (h0 : 0 ≤ left) (h1 : left ≤ 1048576) :
    Calls Try.prog 42 #[.slice A n c, .int .i64 left] w fun e w' => e = .returned (.int .i64 (szOf left n)) ∧ Fr w w' :=
  (szExtS_any A n c left w hn h0 h1).mono fun _ _ ⟨h, e⟩ => ⟨h, e ▸ Below.refl _ _⟩

/-- The marks of an element, from the number k on. -/
def mkExt (k : Nat) : Int × Int × Int := (k, (k + 1), (k + 2))
def marksExt (n k : Nat) : List (Int × Int × Int) := (List.range n).map fun i => mkExt (k + i * 3)
theorem marksExt_at {n k i : Nat} (h : i < n) : (marksExt n k)[i]? = some (mkExt (k + i * 3)) := by simp [marksExt, h]
theorem marksExt_len (n k : Nat) : (marksExt n k).length = n := by simp [marksExt]
theorem marksExt_take (n k i : Nat) (h : i ≤ n) : (marksExt n k).take i = marksExt i k := by
  rw [marksExt, marksExt, ← List.map_take, List.take_range, Nat.min_eq_left h]

set_option maxHeartbeats 1000000 in
theorem markExtS_any (A : Option Addr) (n c k base : Nat) (xs : List Value) (w : World) (h : w.ownsRow base 92 3 (.slice A n c) n xs) (hn : n ≤ 16777216) (hk : k ≤ 1099511627776) :
    Calls Try.prog 65 #[.slice A n c, .int .i64 k] w fun e w' => e = .returned (.int .i64 ((k + n * 3 : Nat) : Int)) ∧ w'.ownsRow base 92 3 (.slice A n c) n ((marksExt n k).flatMap cExt) ∧ w.grownBy w' (Value.slice A n c).ownBlock := by
  have hxl := h.1
  have HX := Lib.hid hxl
  have H := Lib.hid h
  clear hxl h
  go_enter Try.func65, Try.ntmps65
  go_wp2_with fail
  go_loopw [1, 5] (fun v i wr => ∃ j : Nat, j ≤ n ∧ i = .int .i64 j ∧ v = .int .i64 ((k + j * 3 : Nat) : Int) ∧ wr.ownsRow base 92 3 (.slice A n c) n ((marksExt j k).flatMap cExt ++ xs.drop (j * 3)) ∧ w.grownBy wr (Value.slice A n c).ownBlock)
    (fun _ i _ => n - (intOf i).toNat)
  case atStart => exact ⟨0, Nat.zero_le _, rfl, by simp, by simpa [marksExt] using H.out, World.grownBy.refl _ _⟩
  case round =>
    obtain ⟨i, hi, rfl, rfl, hown, hgr⟩ := hrel
    by_cases hlt : i < n
    · obtain ⟨g, rfl, _, _⟩ := own_form hown (by omega)
      have hst := (((hown.stored (i * 3) (.int .i64 ((mkExt (k + i * 3)).1))).1.stored (i * 3 + 1) (.int .i64 ((mkExt (k + i * 3)).2.1))).1.stored (i * 3 + 2) (.int .i64 ((mkExt (k + i * 3)).2.2))).1
      have hse := sets_elem (f := cExt) (l := marksExt n k) (x := mkExt (k + i * 3)) cExt_len (marksExt_at hlt) HX.out hlt
      rw [marksExt_take _ _ _ (by omega), marksExt_take _ _ _ (by omega)] at hse
      have HST := Lib.hid hst
      have HSE := Lib.hid hse
      have HG := Lib.hid hgr
      have hf0 := hown.frozenAt (i * 3)
      have ⟨d0, hd0⟩ : ∃ d, wr.cell? ⟨g, i * 3, none⟩ = some d := by rw [hown.cellAt _ (by omega)]; exact ⟨_, List.getElem?_eq_getElem (by have := hown.1; omega)⟩
      have hf1 := hown.frozenAt (i * 3 + 1)
      have ⟨d1, hd1⟩ : ∃ d, wr.cell? ⟨g, i * 3 + 1, none⟩ = some d := by rw [hown.cellAt _ (by omega)]; exact ⟨_, List.getElem?_eq_getElem (by have := hown.1; omega)⟩
      have hf2 := hown.frozenAt (i * 3 + 2)
      have ⟨d2, hd2⟩ : ∃ d, wr.cell? ⟨g, i * 3 + 2, none⟩ = some d := by rw [hown.cellAt _ (by omega)]; exact ⟨_, List.getElem?_eq_getElem (by have := hown.1; omega)⟩
      clear hst hse hown hgr
      go_wp2
      go_roundw
      case rel => exact ⟨i + 1, by omega, by go_num, by rw [show k + (i + 1) * 3 = k + i * 3 + 3 from by omega]; go_num, by rw [← HSE.out]; exact HST.out, (grown_set (grown_set (grown_set HG.out)))⟩
      case measure => simp [intOf]; omega
    · obtain rfl : i = n := by omega
      rw [List.drop_of_length_le (by have := HX.out; omega), List.append_nil] at hown
      go_wp2
      go_ret
      exact ⟨rfl, hown, hgr⟩

set_option maxHeartbeats 1000000 in
theorem heldExtS_any (A : Option Addr) (n c k : Nat) (w : World) (h : Rd w A n 3 ((marksExt n k).flatMap cExt)) (hn : n ≤ 16777216) (hk : k ≤ 1099511627776) :
    Calls Try.prog 68 #[.slice A n c, .int .i64 k] w fun e w' => e = .returned (.int .i64 ((k + n * 3 : Nat) : Int)) ∧ Fr w w' := by
  go_enter Try.func68, Try.ntmps68
  go_wp2_with fail
  go_loopw [1, 5] (fun v i wr => ∃ j : Nat, j ≤ n ∧ i = .int .i64 j ∧ v = .int .i64 ((k + j * 3 : Nat) : Int) ∧ Fr w wr) (fun _ i _ => n - (intOf i).toNat)
  case atStart => exact ⟨0, Nat.zero_le _, rfl, by simp, Below.refl _ _⟩
  case round =>
    obtain ⟨i, hi, rfl, rfl, hfr⟩ := hrel
    by_cases hlt : i < n
    · obtain ⟨bk, of, rfl, hcell⟩ := (h.fr hfr).elem cExt_len (marksExt_at hlt) (by omega)
      have ca0 : wr.cell? ⟨bk, of + i * 3, none⟩ = some (.int .i64 ((k : Int) + (i : Int) * 3)) := by have hh := hcell 0 _ rfl; simpa [cExt, mkExt] using hh
      have ca1 : wr.cell? ⟨bk, of + i * 3 + 1, none⟩ = some (.int .i64 ((k : Int) + (i : Int) * 3 + 1)) := by have hh := hcell 1 _ rfl; simpa [cExt, mkExt] using hh
      have ca2 : wr.cell? ⟨bk, of + i * 3 + 2, none⟩ = some (.int .i64 ((k : Int) + (i : Int) * 3 + 2)) := by have hh := hcell 2 _ rfl; simpa [cExt, mkExt] using hh
      have HF := Lib.hid hfr
      clear h hcell hfr
      go_wp2
      go_roundw
      case rel => exact ⟨i + 1, by omega, by go_num, by rw [show k + (i + 1) * 3 = k + i * 3 + 3 from by omega]; go_num, HF.out⟩
      case measure => simp [intOf]; omega
    · obtain rfl : i = n := by omega
      go_wp2
      go_ret
      exact ⟨rfl, hfr⟩

end Go.Proofs.Ytbmoolmgfpcnkaa

