/-
  Ent in the laws: made anew, compared, marked.
-/
import Derived.Test.YtlgclhnghpjgjaaFrC
import Derived.StillTailTactics
namespace Go.Proofs.Ytlgclhnghpjgjaa
open Go.RowKit

def cEnt (r : Int × Int × ByteArray × Int) : List Value := [.int .i64 r.1, .int .i64 r.2.1, .string r.2.2.1, .int .i64 r.2.2.2]
theorem cEnt_len (r : Int × Int × ByteArray × Int) : (cEnt r).length = 4 := rfl
theorem infoEnt : (Try.prog.info? 64).map (fun i => (i.zero, i.size, i.bytes)) = some (some (.agg #[.int .i64 0, .int .i64 0, .string ⟨#[]⟩, .int .i64 0]), 4, 40) := by kernel_rfl

theorem eqEnt_any (r s : Int × Int × ByteArray × Int) (w : World) :
    Calls Try.prog 49 #[.agg (cEnt r).toArray, .agg (cEnt s).toArray] w fun e w' => e = .returned (.bool (decide (r = s))) ∧ Fr w w' := by
  obtain ⟨x0, x1, x2, x3⟩ := r
  obtain ⟨y0, y1, y2, y3⟩ := s
  show Calls _ _ #[.agg #[.int .i64 x0, .int .i64 x1, .string x2, .int .i64 x3], .agg #[.int .i64 y0, .int .i64 y1, .string y2, .int .i64 y3]] _ _
  by_cases h0 : x0 = y0
  · by_cases h1 : x1 = y1
    · by_cases h2 : x2 = y2
      · subst h2
        by_cases h3 : x3 = y3
        · go_enter Try.func49, Try.ntmps49
          go_wp2
          go_ret
          exact ⟨ret_bool (by simp [h0, h1, h3]), by repeat (first | exact Below.refl _ _ | refine Below.alloc ?_ (by first | (simp; done) | (simp; omega)) _ | refine Below.setCell ?_ (by first | (simp; done) | (simp; omega)) _)⟩
        · go_enter Try.func49, Try.ntmps49
          go_wp2
          go_ret
          exact ⟨ret_bool (by simp [h0, h1, h3]), by repeat (first | exact Below.refl _ _ | refine Below.alloc ?_ (by first | (simp; done) | (simp; omega)) _ | refine Below.setCell ?_ (by first | (simp; done) | (simp; omega)) _)⟩
      · have hb2 : (x2.toList == y2.toList) = false := str_ne h2
        go_enter Try.func49, Try.ntmps49
        go_wp2
        go_ret
        exact ⟨ret_bool (by simp [h0, h1, h2]), by repeat (first | exact Below.refl _ _ | refine Below.alloc ?_ (by first | (simp; done) | (simp; omega)) _ | refine Below.setCell ?_ (by first | (simp; done) | (simp; omega)) _)⟩
    · go_enter Try.func49, Try.ntmps49
      go_wp2
      go_ret
      exact ⟨ret_bool (by simp [h0, h1]), by repeat (first | exact Below.refl _ _ | refine Below.alloc ?_ (by first | (simp; done) | (simp; omega)) _ | refine Below.setCell ?_ (by first | (simp; done) | (simp; omega)) _)⟩
  · go_enter Try.func49, Try.ntmps49
    go_wp2
    go_ret
    exact ⟨ret_bool (by simp [h0]), by repeat (first | exact Below.refl _ _ | refine Below.alloc ?_ (by first | (simp; done) | (simp; omega)) _ | refine Below.setCell ?_ (by first | (simp; done) | (simp; omega)) _)⟩

set_option maxRecDepth 100000 in
set_option maxHeartbeats 1000000 in
theorem eqEntS_any (A B : Option Addr) (n m c d : Nat) (l l' : List (Int × Int × ByteArray × Int)) (w : World) (h : Rd w A n 4 (l.flatMap cEnt)) (h' : Rd w B m 4 (l'.flatMap cEnt)) (hn : n ≤ 1048576) (hm : m ≤ 1048576) :
    Calls Try.prog 48 #[.slice A n c, .slice B m d] w fun e w' => e = .returned (.bool (decide (l = l'))) ∧ Fr w w' := by
  have hl := h.lenk cEnt_len (by omega)
  have hl' := h'.lenk cEnt_len (by omega)
  have HL := Lib.hid hl
  have HL' := Lib.hid hl'
  clear hl hl'
  by_cases hnm : n = m
  · subst hnm
    go_enter Try.func48, Try.ntmps48
    go_wp2_with fail
    go_loopw [5] (fun i wr => ∃ k : Nat, k ≤ n ∧ i = .int .i64 k ∧ l.take k = l'.take k ∧ Fr w wr) (fun i _ => n - (intOf i).toNat)
    case atStart => exact ⟨0, Nat.zero_le _, rfl, by simp, Below.refl _ _⟩
    case round =>
      obtain ⟨k, hk, rfl, htake, hfr⟩ := hrel
      have HT := Lib.hid htake
      by_cases hlt : k < n
      · obtain ⟨⟨x0, x1, x2, x3⟩, hx⟩ := some_at HL.out hlt
        obtain ⟨⟨y0, y1, y2, y3⟩, hy⟩ := some_at HL'.out hlt
        obtain ⟨bk, of, rfl, hcell⟩ := (h.fr hfr).elem cEnt_len hx (by omega)
        obtain ⟨bk', of', rfl, hcell'⟩ := (h'.fr hfr).elem cEnt_len hy (by omega)
        have ca0 := hcell 0 _ rfl; simp only [Nat.add_zero] at ca0
        have ca1 := hcell 1 _ rfl
        have ca2 := hcell 2 _ rfl
        have ca3 := hcell 3 _ rfl
        have cb0 := hcell' 0 _ rfl; simp only [Nat.add_zero] at cb0
        have cb1 := hcell' 1 _ rfl
        have cb2 := hcell' 2 _ rfl
        have cb3 := hcell' 3 _ rfl
        have HX := Lib.hid hx
        have HY := Lib.hid hy
        have HF := Lib.hid hfr
        obtain ⟨bb, hbb, hcall⟩ : ∃ bb, decide ((x0, x1, x2, x3) = (y0, y1, y2, y3)) = bb ∧ ∀ w, Calls Try.prog 49 #[.agg #[.int .i64 x0, .int .i64 x1, .string x2, .int .i64 x3], .agg #[.int .i64 y0, .int .i64 y1, .string y2, .int .i64 y3]] w fun e w' => e = .returned (.bool bb) ∧ Fr w w' := ⟨_, rfl, eqEnt_any (x0, x1, x2, x3) (y0, y1, y2, y3)⟩
        have HBB := Lib.hid hbb
        have HC := Lib.hid hcall
        clear h h' hx hy htake hfr hcell hcell' hbb hcall
        cases bb
        · go_wp2_with fail
          go_still_tail 8, (by kernel_rfl)
          go_wp2_with fail
          refine (HC.out _).mono ?_
          rintro e w2 ⟨rfl, f2⟩
          go_wp2
          go_ret
          have e : l ≠ l' := ne_of_at HX.out HY.out (of_decide_eq_false HBB.out)
          exact ⟨ret_bool (by simp [e]), HF.out.then (Fr.then (Fr.on (Below.refl _ _) 1) f2)⟩
        · go_wp2_with fail
          go_still_tail 8, (by kernel_rfl)
          go_wp2_with fail
          refine (HC.out _).mono ?_
          rintro e w2 ⟨rfl, f2⟩
          go_wp2
          go_roundw
          case rel => exact ⟨k + 1, by omega, by go_num, take_eq_step HT.out HX.out (of_decide_eq_true HBB.out ▸ HY.out), HF.out.then (Fr.then (Fr.on (Below.refl _ _) 1) f2)⟩
          case measure => simp [intOf]; omega
      · go_wp2
        go_ret
        have e : l = l' := take_eq_all (n := n) (by rw [show n = k from by omega]; exact HT.out) HL.out HL'.out
        exact ⟨by simp [e], hfr⟩
  · go_enter Try.func48, Try.ntmps48
    go_wp2
    go_ret
    have e : l ≠ l' := by rintro rfl; exact hnm (HL.out.symm.trans HL'.out)
    exact ⟨by simp [e], Below.refl _ _⟩

/-- The marks of an element, from the number k on. -/
def mkEnt (k : Nat) : Int × Int × ByteArray × Int := (k, (k + 1), markS (k + 2), (k + 3))
def marksEnt (n k : Nat) : List (Int × Int × ByteArray × Int) := (List.range n).map fun i => mkEnt (k + i * 4)
theorem marksEnt_at {n k i : Nat} (h : i < n) : (marksEnt n k)[i]? = some (mkEnt (k + i * 4)) := by simp [marksEnt, h]
theorem marksEnt_len (n k : Nat) : (marksEnt n k).length = n := by simp [marksEnt]
theorem marksEnt_take (n k i : Nat) (h : i ≤ n) : (marksEnt n k).take i = marksEnt i k := by
  rw [marksEnt, marksEnt, ← List.map_take, List.take_range, Nat.min_eq_left h]

set_option maxRecDepth 100000 in
set_option maxHeartbeats 4000000 in
theorem markEntS_any (A : Option Addr) (n c k base : Nat) (xs : List Value) (w : World) (h : w.ownsRow base 64 4 (.slice A n c) n xs) (hn : n ≤ 16777216) (hk : k ≤ 1000000000000) :
    Calls Try.prog 46 #[.slice A n c, .int .i64 k] w fun e w' => e = .returned (.int .i64 ((k + n * 4 : Nat) : Int)) ∧ w'.ownsRow base 64 4 (.slice A n c) n ((marksEnt n k).flatMap cEnt) ∧ w.grownBy w' (Value.slice A n c).ownBlock := by
  have hxl := h.1
  have HX := Lib.hid hxl
  have H := Lib.hid h
  clear hxl h
  go_enter Try.func46, Try.ntmps46
  go_wp2_with fail
  go_loopw [1, 5] (fun v i wr => ∃ j : Nat, j ≤ n ∧ i = .int .i64 j ∧ v = .int .i64 ((k + j * 4 : Nat) : Int) ∧ wr.ownsRow base 64 4 (.slice A n c) n ((marksEnt j k).flatMap cEnt ++ xs.drop (j * 4)) ∧ w.grownBy wr (Value.slice A n c).ownBlock)
    (fun _ i _ => n - (intOf i).toNat)
  case atStart => exact ⟨0, Nat.zero_le _, rfl, by simp, by simpa [marksEnt] using H.out, World.grownBy.refl _ _⟩
  case round =>
    obtain ⟨i, hi, rfl, rfl, hown, hgr⟩ := hrel
    by_cases hlt : i < n
    · obtain ⟨g, rfl, _, _⟩ := own_form hown (by omega)
      obtain ⟨p, hp⟩ : ∃ p, p = k + i * 4 := ⟨_, rfl⟩
      obtain ⟨p2, hp2⟩ : ∃ q, q = p + 2 := ⟨_, rfl⟩
      have hpb : p ≤ 1000200000000 := by omega
      have hpb2 : p2 ≤ 1000200000100 := by omega
      have hpr2 : (p : Int) + 1 + 1 = (p2 : Int) := by omega
      rw [← hp]
      have HP := Lib.hid hp
      have HP2 := Lib.hid hp2
      have HG := Lib.hid hgr
      have HO := Lib.hid hown
      have hse := sets_elem (f := cEnt) (l := marksEnt n k) (x := mkEnt (k + i * 4)) cEnt_len (marksEnt_at hlt) HX.out hlt
      rw [marksEnt_take _ _ _ (by omega), marksEnt_take _ _ _ (by omega)] at hse
      have HSE := Lib.hid hse
      clear hse hown hgr hp hp2
      have hf0 := (HO.out).frozenAt (i * 4)
      have ⟨d0, hd0⟩ : ∃ d, wr.cell? ⟨g, i * 4, none⟩ = some d := by rw [(HO.out).cellAt _ (by omega)]; exact ⟨_, List.getElem?_eq_getElem (by have := (HO.out).1; omega)⟩
      have hf1 := (HO.out).frozenAt (i * 4 + 1)
      have ⟨d1, hd1⟩ : ∃ d, wr.cell? ⟨g, i * 4 + 1, none⟩ = some d := by rw [(HO.out).cellAt _ (by omega)]; exact ⟨_, List.getElem?_eq_getElem (by have := (HO.out).1; omega)⟩
      go_wp2_with fail
      refine (markText_any p2 _ (by omega)).mono ?_
      rintro e w2 ⟨rfl, f2⟩
      have HO1 := Lib.hid (own_fr ((HO.out.stored (i * 4) (.int .i64 ((p : Int)))).1.stored (i * 4 + 1) (.int .i64 ((p : Int) + 1))).1 f2)
      have HG1 := Lib.hid (World.grownBy.trans (grown_set (j := i * 4 + 1) (u := .int .i64 ((p : Int) + 1)) (grown_set (j := i * 4) (u := .int .i64 ((p : Int))) HG.out)) (f2.grown _))
      clear f2 hf0 hd0 hf1 hd1
      have hf2 := (HO1.out).frozenAt (i * 4 + 2)
      have ⟨d2, hd2⟩ : ∃ d, w2.cell? ⟨g, i * 4 + 2, none⟩ = some d := by rw [(HO1.out).cellAt _ (by omega)]; exact ⟨_, List.getElem?_eq_getElem (by have := (HO1.out).1; omega)⟩
      have hf3 := (HO1.out).frozenAt (i * 4 + 3)
      have ⟨d3, hd3⟩ : ∃ d, w2.cell? ⟨g, i * 4 + 3, none⟩ = some d := by rw [(HO1.out).cellAt _ (by omega)]; exact ⟨_, List.getElem?_eq_getElem (by have := (HO1.out).1; omega)⟩
      have HST := Lib.hid ((HO1.out.stored (i * 4 + 2) (.string (markS p2))).1.stored (i * 4 + 3) (.int .i64 ((p2 : Int) + 1))).1
      have HGL := Lib.hid (grown_set (j := i * 4 + 3) (u := .int .i64 ((p2 : Int) + 1)) (grown_set (j := i * 4 + 2) (u := .string (markS p2)) HG1.out))
      go_wp2
      go_roundw
      case rel =>
        have hp := HP.out
        have hp2 := HP2.out
        subst hp2
        subst hp
        exact ⟨i + 1, by omega, by go_num, by rw [show k + (i + 1) * 4 = k + i * 4 + 4 from by omega]; go_num, by rw [← HSE.out]; exact HST.out, HGL.out⟩
      case measure => simp [intOf]; omega
    · obtain rfl : i = n := by omega
      rw [List.drop_of_length_le (by have := HX.out; omega), List.append_nil] at hown
      go_wp2
      go_ret
      exact ⟨rfl, hown, hgr⟩

set_option maxRecDepth 100000 in
set_option maxHeartbeats 4000000 in
theorem heldEntS_any (A : Option Addr) (n c k : Nat) (w : World) (h : Rd w A n 4 ((marksEnt n k).flatMap cEnt)) (hn : n ≤ 16777216) (hk : k ≤ 1000000000000) :
    Calls Try.prog 47 #[.slice A n c, .int .i64 k] w fun e w' => e = .returned (.int .i64 ((k + n * 4 : Nat) : Int)) ∧ Fr w w' := by
  go_enter Try.func47, Try.ntmps47
  go_wp2_with fail
  go_loopw [1, 5] (fun v i wr => ∃ j : Nat, j ≤ n ∧ i = .int .i64 j ∧ v = .int .i64 ((k + j * 4 : Nat) : Int) ∧ Fr w wr) (fun _ i _ => n - (intOf i).toNat)
  case atStart => exact ⟨0, Nat.zero_le _, rfl, by simp, Below.refl _ _⟩
  case round =>
    obtain ⟨i, hi, rfl, rfl, hfr⟩ := hrel
    by_cases hlt : i < n
    · obtain ⟨bk, of, rfl, hcell⟩ := (h.fr hfr).elem cEnt_len (marksEnt_at hlt) (by omega)
      have ca0 : wr.cell? ⟨bk, of + i * 4, none⟩ = some (.int .i64 ((k : Int) + (i : Int) * 4)) := by have hh := hcell 0 _ rfl; simpa [cEnt, mkEnt] using hh
      have ca1 : wr.cell? ⟨bk, of + i * 4 + 1, none⟩ = some (.int .i64 ((k : Int) + (i : Int) * 4 + 1)) := by have hh := hcell 1 _ rfl; simpa [cEnt, mkEnt] using hh
      have ca2 : wr.cell? ⟨bk, of + i * 4 + 2, none⟩ = some (.string (markS (k + i * 4 + 2))) := by have hh := hcell 2 _ rfl; simpa [cEnt, mkEnt] using hh
      have ca3 : wr.cell? ⟨bk, of + i * 4 + 3, none⟩ = some (.int .i64 ((k : Int) + (i : Int) * 4 + 3)) := by have hh := hcell 3 _ rfl; simpa [cEnt, mkEnt] using hh
      obtain ⟨p, hp⟩ : ∃ p, p = k + i * 4 := ⟨_, rfl⟩
      obtain ⟨p2, hp2⟩ : ∃ q, q = p + 2 := ⟨_, rfl⟩
      have hpb : p ≤ 1000200000000 := by omega
      have hpb2 : p2 ≤ 1000200000100 := by omega
      have hpr2 : (p : Int) + 1 + 1 = (p2 : Int) := by omega
      rw [← hp]
      replace ca0 : wr.cell? ⟨bk, of + i * 4, none⟩ = some (.int .i64 ((p : Int))) := by rw [ca0]; congr 2; omega
      replace ca1 : wr.cell? ⟨bk, of + i * 4 + 1, none⟩ = some (.int .i64 ((p : Int) + 1)) := by rw [ca1]; congr 2; omega
      replace ca2 : wr.cell? ⟨bk, of + i * 4 + 2, none⟩ = some (.string (markS p2)) := by rw [ca2, hp2, hp]
      replace ca3 : wr.cell? ⟨bk, of + i * 4 + 3, none⟩ = some (.int .i64 ((p2 : Int) + 1)) := by rw [ca3]; congr 2; omega
      have HP := Lib.hid hp
      have HP2 := Lib.hid hp2
      have HF := Lib.hid hfr
      clear h hcell hfr hp hp2
      have hcd2 : wr.drew.cell? ⟨bk, of + i * 4 + 2, none⟩ = some (.string (markS p2)) := by simpa using ca2
      go_wp2_with fail
      go_region_held3 (fun w' => w'.cell? ⟨bk, of + i * 4 + 2, none⟩ = some (.string (markS p2)))
        (first | exact hcd2 | exact hc2)
        ((first
          | (go_at_call 36
             refine (markText_any p2 _ (by omega)).mono ?_
             rintro e w2 ⟨rfl, f2⟩
             have hc2 := cell_later f2 hcd2
             have F2 := (Fr.drew_ _).then f2)))
      replace ca3 := fr_cellM F2 ca3
      go_wp2_with fail
      go_roundw
      case rel =>
        have hp := HP.out
        have hp2 := HP2.out
        subst hp2
        subst hp
        exact ⟨i + 1, by omega, by go_num, by rw [show k + (i + 1) * 4 = k + i * 4 + 4 from by omega]; go_num, (HF.out.then F2)⟩
      case measure => simp [intOf]; omega
    · obtain rfl : i = n := by omega
      go_wp2
      go_ret
      exact ⟨rfl, hfr⟩

end Go.Proofs.Ytlgclhnghpjgjaa

