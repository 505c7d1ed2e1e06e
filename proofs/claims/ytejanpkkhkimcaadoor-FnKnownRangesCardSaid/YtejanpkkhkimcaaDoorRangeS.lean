/-
  Range in the laws: made anew, compared, marked.
-/
import Derived.Test.YtejanpkkhkimcaaDoorKit
import Derived.StillTailTactics
namespace Go.Proofs.YtejanpkkhkimcaaDoor
open Go.RowKit

def cRange (r : Int × Int) : List Value := [.int .i64 r.1, .int .i64 r.2]
theorem cRange_len (r : Int × Int) : (cRange r).length = 2 := rfl
theorem infoRange : (Tryd.prog.info? 37).map (fun i => (i.zero, i.size, i.bytes)) = some (some (.agg #[.int .i64 0, .int .i64 0]), 2, 16) := by kernel_rfl

theorem eqRange_any (r s : Int × Int) (w : World) :
    Calls Tryd.prog 20 #[.agg (cRange r).toArray, .agg (cRange s).toArray] w fun e w' => e = .returned (.bool (decide (r = s))) ∧ Fr w w' := by
  obtain ⟨x0, x1⟩ := r
  obtain ⟨y0, y1⟩ := s
  show Calls _ _ #[.agg #[.int .i64 x0, .int .i64 x1], .agg #[.int .i64 y0, .int .i64 y1]] _ _
  by_cases h0 : x0 = y0
  · by_cases h1 : x1 = y1
    · go_enter Tryd.func20, Tryd.ntmps20
      go_wp2
      go_ret
      exact ⟨ret_bool (by simp [h0, h1]), by repeat (first | exact Below.refl _ _ | refine Below.alloc ?_ (by first | (simp; done) | (simp; omega)) _ | refine Below.setCell ?_ (by first | (simp; done) | (simp; omega)) _)⟩
    · go_enter Tryd.func20, Tryd.ntmps20
      go_wp2
      go_ret
      exact ⟨ret_bool (by simp [h0, h1]), by repeat (first | exact Below.refl _ _ | refine Below.alloc ?_ (by first | (simp; done) | (simp; omega)) _ | refine Below.setCell ?_ (by first | (simp; done) | (simp; omega)) _)⟩
  · go_enter Tryd.func20, Tryd.ntmps20
    go_wp2
    go_ret
    exact ⟨ret_bool (by simp [h0]), by repeat (first | exact Below.refl _ _ | refine Below.alloc ?_ (by first | (simp; done) | (simp; omega)) _ | refine Below.setCell ?_ (by first | (simp; done) | (simp; omega)) _)⟩

set_option maxRecDepth 100000 in
set_option maxHeartbeats 1000000 in
theorem eqRangeS_any (A B : Option Addr) (n m c d : Nat) (l l' : List (Int × Int)) (w : World) (h : Rd w A n 2 (l.flatMap cRange)) (h' : Rd w B m 2 (l'.flatMap cRange)) (hn : n ≤ 1048576) (hm : m ≤ 1048576) :
    Calls Tryd.prog 7 #[.slice A n c, .slice B m d] w fun e w' => e = .returned (.bool (decide (l = l'))) ∧ Fr w w' := by
  have hl := h.lenk cRange_len (by omega)
  have hl' := h'.lenk cRange_len (by omega)
  have HL := Lib.hid hl
  have HL' := Lib.hid hl'
  clear hl hl'
  by_cases hnm : n = m
  · subst hnm
    go_enter Tryd.func7, Tryd.ntmps7
    go_wp2_with fail
    go_loopw [5] (fun i wr => ∃ k : Nat, k ≤ n ∧ i = .int .i64 k ∧ l.take k = l'.take k ∧ Fr w wr) (fun i _ => n - (intOf i).toNat)
    case atStart => exact ⟨0, Nat.zero_le _, rfl, by simp, Below.refl _ _⟩
    case round =>
      obtain ⟨k, hk, rfl, htake, hfr⟩ := hrel
      have HT := Lib.hid htake
      by_cases hlt : k < n
      · obtain ⟨⟨x0, x1⟩, hx⟩ := some_at HL.out hlt
        obtain ⟨⟨y0, y1⟩, hy⟩ := some_at HL'.out hlt
        obtain ⟨bk, of, rfl, hcell⟩ := (h.fr hfr).elem cRange_len hx (by omega)
        obtain ⟨bk', of', rfl, hcell'⟩ := (h'.fr hfr).elem cRange_len hy (by omega)
        have ca0 := hcell 0 _ rfl; simp only [Nat.add_zero] at ca0
        have ca1 := hcell 1 _ rfl
        have cb0 := hcell' 0 _ rfl; simp only [Nat.add_zero] at cb0
        have cb1 := hcell' 1 _ rfl
        have HX := Lib.hid hx
        have HY := Lib.hid hy
        have HF := Lib.hid hfr
        obtain ⟨bb, hbb, hcall⟩ : ∃ bb, decide ((x0, x1) = (y0, y1)) = bb ∧ ∀ w, Calls Tryd.prog 20 #[.agg #[.int .i64 x0, .int .i64 x1], .agg #[.int .i64 y0, .int .i64 y1]] w fun e w' => e = .returned (.bool bb) ∧ Fr w w' := ⟨_, rfl, eqRange_any (x0, x1) (y0, y1)⟩
        have HBB := Lib.hid hbb
        have HC := Lib.hid hcall
        clear h h' hx hy htake hfr hcell hcell' hbb hcall
        cases bb
        · go_wp2_with fail
          go_still_tail 8, (by kernel_rfl)
          go_wp2_with fail
          refine (HC.out _).mono ?_
          rintro e w2 ⟨rfl, f2⟩
          go_wp2
          go_ret
          have e : l ≠ l' := ne_of_at HX.out HY.out (of_decide_eq_false HBB.out)
          exact ⟨ret_bool (by simp [e]), HF.out.then (Fr.then (Fr.on (Below.refl _ _) 1) f2)⟩
        · go_wp2_with fail
          go_still_tail 8, (by kernel_rfl)
          go_wp2_with fail
          refine (HC.out _).mono ?_
          rintro e w2 ⟨rfl, f2⟩
          go_wp2
          go_roundw
          case rel => exact ⟨k + 1, by omega, by go_num, take_eq_step HT.out HX.out (of_decide_eq_true HBB.out ▸ HY.out), HF.out.then (Fr.then (Fr.on (Below.refl _ _) 1) f2)⟩
          case measure => simp [intOf]; omega
      · go_wp2
        go_ret
        have e : l = l' := take_eq_all (n := n) (by rw [show n = k from by omega]; exact HT.out) HL.out HL'.out
        exact ⟨by simp [e], hfr⟩
  · go_enter Tryd.func7, Tryd.ntmps7
    go_wp2
    go_ret
    have e : l ≠ l' := by rintro rfl; exact hnm (HL.out.symm.trans HL'.out)
    exact ⟨by simp [e], Below.refl _ _⟩

/-- The marks of an element, from the number k on. -/
def mkRange (k : Nat) : Int × Int := (k, (k + 1))
def marksRange (n k : Nat) : List (Int × Int) := (List.range n).map fun i => mkRange (k + i * 2)
theorem marksRange_at {n k i : Nat} (h : i < n) : (marksRange n k)[i]? = some (mkRange (k + i * 2)) := by simp [marksRange, h]
theorem marksRange_len (n k : Nat) : (marksRange n k).length = n := by simp [marksRange]
theorem marksRange_take (n k i : Nat) (h : i ≤ n) : (marksRange n k).take i = marksRange i k := by
  rw [marksRange, marksRange, ← List.map_take, List.take_range, Nat.min_eq_left h]

set_option maxHeartbeats 1000000 in
theorem markRangeS_any (A : Option Addr) (n c k base : Nat) (xs : List Value) (w : World) (h : w.ownsRow base 37 2 (.slice A n c) n xs) (hn : n ≤ 16777216) (hk : k ≤ 1099511627776) :
    Calls Tryd.prog 8 #[.slice A n c, .int .i64 k] w fun e w' => e = .returned (.int .i64 ((k + n * 2 : Nat) : Int)) ∧ w'.ownsRow base 37 2 (.slice A n c) n ((marksRange n k).flatMap cRange) ∧ w.grownBy w' (Value.slice A n c).ownBlock := by
  have hxl := h.1
  have HX := Lib.hid hxl
  have H := Lib.hid h
  clear hxl h
  go_enter Tryd.func8, Tryd.ntmps8
  go_wp2_with fail
  go_loopw [1, 5] (fun v i wr => ∃ j : Nat, j ≤ n ∧ i = .int .i64 j ∧ v = .int .i64 ((k + j * 2 : Nat) : Int) ∧ wr.ownsRow base 37 2 (.slice A n c) n ((marksRange j k).flatMap cRange ++ xs.drop (j * 2)) ∧ w.grownBy wr (Value.slice A n c).ownBlock)
    (fun _ i _ => n - (intOf i).toNat)
  case atStart => exact ⟨0, Nat.zero_le _, rfl, by simp, by simpa [marksRange] using H.out, World.grownBy.refl _ _⟩
  case round =>
    obtain ⟨i, hi, rfl, rfl, hown, hgr⟩ := hrel
    by_cases hlt : i < n
    · obtain ⟨g, rfl, _, _⟩ := own_form hown (by omega)
      have hst := ((hown.stored (i * 2) (.int .i64 ((mkRange (k + i * 2)).1))).1.stored (i * 2 + 1) (.int .i64 ((mkRange (k + i * 2)).2))).1
      have hse := sets_elem (f := cRange) (l := marksRange n k) (x := mkRange (k + i * 2)) cRange_len (marksRange_at hlt) HX.out hlt
      rw [marksRange_take _ _ _ (by omega), marksRange_take _ _ _ (by omega)] at hse
      have HST := Lib.hid hst
      have HSE := Lib.hid hse
      have HG := Lib.hid hgr
      have hf0 := hown.frozenAt (i * 2)
      have ⟨d0, hd0⟩ : ∃ d, wr.cell? ⟨g, i * 2, none⟩ = some d := by rw [hown.cellAt _ (by omega)]; exact ⟨_, List.getElem?_eq_getElem (by have := hown.1; omega)⟩
      have hf1 := hown.frozenAt (i * 2 + 1)
      have ⟨d1, hd1⟩ : ∃ d, wr.cell? ⟨g, i * 2 + 1, none⟩ = some d := by rw [hown.cellAt _ (by omega)]; exact ⟨_, List.getElem?_eq_getElem (by have := hown.1; omega)⟩
      clear hst hse hown hgr
      go_wp2
      go_roundw
      case rel => exact ⟨i + 1, by omega, by go_num, by rw [show k + (i + 1) * 2 = k + i * 2 + 2 from by omega]; go_num, by rw [← HSE.out]; exact HST.out, (grown_set (grown_set HG.out))⟩
      case measure => simp [intOf]; omega
    · obtain rfl : i = n := by omega
      rw [List.drop_of_length_le (by have := HX.out; omega), List.append_nil] at hown
      go_wp2
      go_ret
      exact ⟨rfl, hown, hgr⟩

set_option maxHeartbeats 1000000 in
theorem heldRangeS_any (A : Option Addr) (n c k : Nat) (w : World) (h : Rd w A n 2 ((marksRange n k).flatMap cRange)) (hn : n ≤ 16777216) (hk : k ≤ 1099511627776) :
    Calls Tryd.prog 9 #[.slice A n c, .int .i64 k] w fun e w' => e = .returned (.int .i64 ((k + n * 2 : Nat) : Int)) ∧ Fr w w' := by
  go_enter Tryd.func9, Tryd.ntmps9
  go_wp2_with fail
  go_loopw [1, 5] (fun v i wr => ∃ j : Nat, j ≤ n ∧ i = .int .i64 j ∧ v = .int .i64 ((k + j * 2 : Nat) : Int) ∧ Fr w wr) (fun _ i _ => n - (intOf i).toNat)
  case atStart => exact ⟨0, Nat.zero_le _, rfl, by simp, Below.refl _ _⟩
  case round =>
    obtain ⟨i, hi, rfl, rfl, hfr⟩ := hrel
    by_cases hlt : i < n
    · obtain ⟨bk, of, rfl, hcell⟩ := (h.fr hfr).elem cRange_len (marksRange_at hlt) (by omega)
      have ca0 : wr.cell? ⟨bk, of + i * 2, none⟩ = some (.int .i64 ((k : Int) + (i : Int) * 2)) := by have hh := hcell 0 _ rfl; simpa [cRange, mkRange] using hh
      have ca1 : wr.cell? ⟨bk, of + i * 2 + 1, none⟩ = some (.int .i64 ((k : Int) + (i : Int) * 2 + 1)) := by have hh := hcell 1 _ rfl; simpa [cRange, mkRange] using hh
      have HF := Lib.hid hfr
      clear h hcell hfr
      go_wp2
      go_roundw
      case rel => exact ⟨i + 1, by omega, by go_num, by rw [show k + (i + 1) * 2 = k + i * 2 + 2 from by omega]; go_num, HF.out⟩
      case measure => simp [intOf]; omega
    · obtain rfl : i = n := by omega
      go_wp2
      go_ret
      exact ⟨rfl, hfr⟩

end Go.Proofs.YtejanpkkhkimcaaDoor

