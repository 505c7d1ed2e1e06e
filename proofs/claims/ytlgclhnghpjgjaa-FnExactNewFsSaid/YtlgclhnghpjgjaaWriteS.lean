/-
  Write in the laws: made anew, compared, marked.
-/
import Derived.Test.YtlgclhnghpjgjaaFrC
import Derived.StillTailTactics
namespace Go.Proofs.Ytlgclhnghpjgjaa
open Go.RowKit

def cWrite (r : Int × ByteArray) : List Value := [.int .i64 r.1, .string r.2]
theorem cWrite_len (r : Int × ByteArray) : (cWrite r).length = 2 := rfl
theorem infoWrite : (Try.prog.info? 69).map (fun i => (i.zero, i.size, i.bytes)) = some (some (.agg #[.int .i64 0, .string ⟨#[]⟩]), 2, 24) := by kernel_rfl

theorem eqWrite_any (r s : Int × ByteArray) (w : World) :
    Calls Try.prog 45 #[.agg (cWrite r).toArray, .agg (cWrite s).toArray] w fun e w' => e = .returned (.bool (decide (r = s))) ∧ Fr w w' := by
  obtain ⟨x0, x1⟩ := r
  obtain ⟨y0, y1⟩ := s
  show Calls _ _ #[.agg #[.int .i64 x0, .string x1], .agg #[.int .i64 y0, .string y1]] _ _
  by_cases h0 : x0 = y0
  · by_cases h1 : x1 = y1
    · subst h1
      go_enter Try.func45, Try.ntmps45
      go_wp2
      go_ret
      exact ⟨ret_bool (by simp [h0]), by repeat (first | exact Below.refl _ _ | refine Below.alloc ?_ (by first | (simp; done) | (simp; omega)) _ | refine Below.setCell ?_ (by first | (simp; done) | (simp; omega)) _)⟩
    · have hb1 : (x1.toList == y1.toList) = false := str_ne h1
      go_enter Try.func45, Try.ntmps45
      go_wp2
      go_ret
      exact ⟨ret_bool (by simp [h0, h1]), by repeat (first | exact Below.refl _ _ | refine Below.alloc ?_ (by first | (simp; done) | (simp; omega)) _ | refine Below.setCell ?_ (by first | (simp; done) | (simp; omega)) _)⟩
  · go_enter Try.func45, Try.ntmps45
    go_wp2
    go_ret
    exact ⟨ret_bool (by simp [h0]), by repeat (first | exact Below.refl _ _ | refine Below.alloc ?_ (by first | (simp; done) | (simp; omega)) _ | refine Below.setCell ?_ (by first | (simp; done) | (simp; omega)) _)⟩

set_option maxRecDepth 100000 in
set_option maxHeartbeats 1000000 in
theorem eqWriteS_any (A B : Option Addr) (n m c d : Nat) (l l' : List (Int × ByteArray)) (w : World) (h : Rd w A n 2 (l.flatMap cWrite)) (h' : Rd w B m 2 (l'.flatMap cWrite)) (hn : n ≤ 1048576) (hm : m ≤ 1048576) :
    Calls Try.prog 33 #[.slice A n c, .slice B m d] w fun e w' => e = .returned (.bool (decide (l = l'))) ∧ Fr w w' := by
  have hl := h.lenk cWrite_len (by omega)
  have hl' := h'.lenk cWrite_len (by omega)
  have HL := Lib.hid hl
  have HL' := Lib.hid hl'
  clear hl hl'
  by_cases hnm : n = m
  · subst hnm
    go_enter Try.func33, Try.ntmps33
    go_wp2_with fail
    go_loopw [5] (fun i wr => ∃ k : Nat, k ≤ n ∧ i = .int .i64 k ∧ l.take k = l'.take k ∧ Fr w wr) (fun i _ => n - (intOf i).toNat)
    case atStart => exact ⟨0, Nat.zero_le _, rfl, by simp, Below.refl _ _⟩
    case round =>
      obtain ⟨k, hk, rfl, htake, hfr⟩ := hrel
      have HT := Lib.hid htake
      by_cases hlt : k < n
      · obtain ⟨⟨x0, x1⟩, hx⟩ := some_at HL.out hlt
        obtain ⟨⟨y0, y1⟩, hy⟩ := some_at HL'.out hlt
        obtain ⟨bk, of, rfl, hcell⟩ := (h.fr hfr).elem cWrite_len hx (by omega)
        obtain ⟨bk', of', rfl, hcell'⟩ := (h'.fr hfr).elem cWrite_len hy (by omega)
        have ca0 := hcell 0 _ rfl; simp only [Nat.add_zero] at ca0
        have ca1 := hcell 1 _ rfl
        have cb0 := hcell' 0 _ rfl; simp only [Nat.add_zero] at cb0
        have cb1 := hcell' 1 _ rfl
        have HX := Lib.hid hx
        have HY := Lib.hid hy
        have HF := Lib.hid hfr
        obtain ⟨bb, hbb, hcall⟩ : ∃ bb, decide ((x0, x1) = (y0, y1)) = bb ∧ ∀ w, Calls Try.prog 45 #[.agg #[.int .i64 x0, .string x1], .agg #[.int .i64 y0, .string y1]] w fun e w' => e = .returned (.bool bb) ∧ Fr w w' := ⟨_, rfl, eqWrite_any (x0, x1) (y0, y1)⟩
        have HBB := Lib.hid hbb
        have HC := Lib.hid hcall
        clear h h' hx hy htake hfr hcell hcell' hbb hcall
        cases bb
        · go_wp2_with fail
          go_still_tail 8, (by kernel_rfl)
          go_wp2_with fail
          refine (HC.out _).mono ?_
          rintro e w2 ⟨rfl, f2⟩
          go_wp2
          go_ret
          have e : l ≠ l' := ne_of_at HX.out HY.out (of_decide_eq_false HBB.out)
          exact ⟨ret_bool (by simp [e]), HF.out.then (Fr.then (Fr.on (Below.refl _ _) 1) f2)⟩
        · go_wp2_with fail
          go_still_tail 8, (by kernel_rfl)
          go_wp2_with fail
          refine (HC.out _).mono ?_
          rintro e w2 ⟨rfl, f2⟩
          go_wp2
          go_roundw
          case rel => exact ⟨k + 1, by omega, by go_num, take_eq_step HT.out HX.out (of_decide_eq_true HBB.out ▸ HY.out), HF.out.then (Fr.then (Fr.on (Below.refl _ _) 1) f2)⟩
          case measure => simp [intOf]; omega
      · go_wp2
        go_ret
        have e : l = l' := take_eq_all (n := n) (by rw [show n = k from by omega]; exact HT.out) HL.out HL'.out
        exact ⟨by simp [e], hfr⟩
  · go_enter Try.func33, Try.ntmps33
    go_wp2
    go_ret
    have e : l ≠ l' := by rintro rfl; exact hnm (HL.out.symm.trans HL'.out)
    exact ⟨by simp [e], Below.refl _ _⟩

/-- The marks of an element, from the number k on. -/
def mkWrite (k : Nat) : Int × ByteArray := (k, markS (k + 1))
def marksWrite (n k : Nat) : List (Int × ByteArray) := (List.range n).map fun i => mkWrite (k + i * 2)
theorem marksWrite_at {n k i : Nat} (h : i < n) : (marksWrite n k)[i]? = some (mkWrite (k + i * 2)) := by simp [marksWrite, h]
theorem marksWrite_len (n k : Nat) : (marksWrite n k).length = n := by simp [marksWrite]
theorem marksWrite_take (n k i : Nat) (h : i ≤ n) : (marksWrite n k).take i = marksWrite i k := by
  rw [marksWrite, marksWrite, ← List.map_take, List.take_range, Nat.min_eq_left h]

set_option maxRecDepth 100000 in
set_option maxHeartbeats 4000000 in
theorem markWriteS_any (A : Option Addr) (n c k base : Nat) (xs : List Value) (w : World) (h : w.ownsRow base 69 2 (.slice A n c) n xs) (hn : n ≤ 16777216) (hk : k ≤ 1000000000000) :
    Calls Try.prog 37 #[.slice A n c, .int .i64 k] w fun e w' => e = .returned (.int .i64 ((k + n * 2 : Nat) : Int)) ∧ w'.ownsRow base 69 2 (.slice A n c) n ((marksWrite n k).flatMap cWrite) ∧ w.grownBy w' (Value.slice A n c).ownBlock := by
  have hxl := h.1
  have HX := Lib.hid hxl
  have H := Lib.hid h
  clear hxl h
  go_enter Try.func37, Try.ntmps37
  go_wp2_with fail
  go_loopw [1, 5] (fun v i wr => ∃ j : Nat, j ≤ n ∧ i = .int .i64 j ∧ v = .int .i64 ((k + j * 2 : Nat) : Int) ∧ wr.ownsRow base 69 2 (.slice A n c) n ((marksWrite j k).flatMap cWrite ++ xs.drop (j * 2)) ∧ w.grownBy wr (Value.slice A n c).ownBlock)
    (fun _ i _ => n - (intOf i).toNat)
  case atStart => exact ⟨0, Nat.zero_le _, rfl, by simp, by simpa [marksWrite] using H.out, World.grownBy.refl _ _⟩
  case round =>
    obtain ⟨i, hi, rfl, rfl, hown, hgr⟩ := hrel
    by_cases hlt : i < n
    · obtain ⟨g, rfl, _, _⟩ := own_form hown (by omega)
      obtain ⟨p, hp⟩ : ∃ p, p = k + i * 2 := ⟨_, rfl⟩
      obtain ⟨p1, hp1⟩ : ∃ q, q = p + 1 := ⟨_, rfl⟩
      have hpb : p ≤ 1000200000000 := by omega
      have hpb1 : p1 ≤ 1000200000100 := by omega
      have hpr1 : (p : Int) + 1 = (p1 : Int) := by omega
      rw [← hp]
      have HP := Lib.hid hp
      have HP1 := Lib.hid hp1
      have HG := Lib.hid hgr
      have HO := Lib.hid hown
      have hse := sets_elem (f := cWrite) (l := marksWrite n k) (x := mkWrite (k + i * 2)) cWrite_len (marksWrite_at hlt) HX.out hlt
      rw [marksWrite_take _ _ _ (by omega), marksWrite_take _ _ _ (by omega)] at hse
      have HSE := Lib.hid hse
      clear hse hown hgr hp hp1
      have hf0 := (HO.out).frozenAt (i * 2)
      have ⟨d0, hd0⟩ : ∃ d, wr.cell? ⟨g, i * 2, none⟩ = some d := by rw [(HO.out).cellAt _ (by omega)]; exact ⟨_, List.getElem?_eq_getElem (by have := (HO.out).1; omega)⟩
      go_wp2_with fail
      refine (markText_any p1 _ (by omega)).mono ?_
      rintro e w2 ⟨rfl, f2⟩
      have HO1 := Lib.hid (own_fr (HO.out.stored (i * 2) (.int .i64 ((p : Int)))).1 f2)
      have HG1 := Lib.hid (World.grownBy.trans (grown_set (j := i * 2) (u := .int .i64 ((p : Int))) HG.out) (f2.grown _))
      clear f2 hf0 hd0
      have hf1 := (HO1.out).frozenAt (i * 2 + 1)
      have ⟨d1, hd1⟩ : ∃ d, w2.cell? ⟨g, i * 2 + 1, none⟩ = some d := by rw [(HO1.out).cellAt _ (by omega)]; exact ⟨_, List.getElem?_eq_getElem (by have := (HO1.out).1; omega)⟩
      have HST := Lib.hid (HO1.out.stored (i * 2 + 1) (.string (markS p1))).1
      have HGL := Lib.hid (grown_set (j := i * 2 + 1) (u := .string (markS p1)) HG1.out)
      go_wp2
      go_roundw
      case rel =>
        have hp := HP.out
        have hp1 := HP1.out
        subst hp1
        subst hp
        exact ⟨i + 1, by omega, by go_num, by rw [show k + (i + 1) * 2 = k + i * 2 + 2 from by omega]; go_num, by rw [← HSE.out]; exact HST.out, HGL.out⟩
      case measure => simp [intOf]; omega
    · obtain rfl : i = n := by omega
      rw [List.drop_of_length_le (by have := HX.out; omega), List.append_nil] at hown
      go_wp2
      go_ret
      exact ⟨rfl, hown, hgr⟩

set_option maxRecDepth 100000 in
set_option maxHeartbeats 4000000 in
theorem heldWriteS_any (A : Option Addr) (n c k : Nat) (w : World) (h : Rd w A n 2 ((marksWrite n k).flatMap cWrite)) (hn : n ≤ 16777216) (hk : k ≤ 1000000000000) :
    Calls Try.prog 39 #[.slice A n c, .int .i64 k] w fun e w' => e = .returned (.int .i64 ((k + n * 2 : Nat) : Int)) ∧ Fr w w' := by
  go_enter Try.func39, Try.ntmps39
  go_wp2_with fail
  go_loopw [1, 5] (fun v i wr => ∃ j : Nat, j ≤ n ∧ i = .int .i64 j ∧ v = .int .i64 ((k + j * 2 : Nat) : Int) ∧ Fr w wr) (fun _ i _ => n - (intOf i).toNat)
  case atStart => exact ⟨0, Nat.zero_le _, rfl, by simp, Below.refl _ _⟩
  case round =>
    obtain ⟨i, hi, rfl, rfl, hfr⟩ := hrel
    by_cases hlt : i < n
    · obtain ⟨bk, of, rfl, hcell⟩ := (h.fr hfr).elem cWrite_len (marksWrite_at hlt) (by omega)
      have ca0 : wr.cell? ⟨bk, of + i * 2, none⟩ = some (.int .i64 ((k : Int) + (i : Int) * 2)) := by have hh := hcell 0 _ rfl; simpa [cWrite, mkWrite] using hh
      have ca1 : wr.cell? ⟨bk, of + i * 2 + 1, none⟩ = some (.string (markS (k + i * 2 + 1))) := by have hh := hcell 1 _ rfl; simpa [cWrite, mkWrite] using hh
      obtain ⟨p, hp⟩ : ∃ p, p = k + i * 2 := ⟨_, rfl⟩
      obtain ⟨p1, hp1⟩ : ∃ q, q = p + 1 := ⟨_, rfl⟩
      have hpb : p ≤ 1000200000000 := by omega
      have hpb1 : p1 ≤ 1000200000100 := by omega
      have hpr1 : (p : Int) + 1 = (p1 : Int) := by omega
      rw [← hp]
      replace ca0 : wr.cell? ⟨bk, of + i * 2, none⟩ = some (.int .i64 ((p : Int))) := by rw [ca0]; congr 2; omega
      replace ca1 : wr.cell? ⟨bk, of + i * 2 + 1, none⟩ = some (.string (markS p1)) := by rw [ca1, hp1, hp]
      have HP := Lib.hid hp
      have HP1 := Lib.hid hp1
      have HF := Lib.hid hfr
      clear h hcell hfr hp hp1
      have hcd1 : wr.drew.cell? ⟨bk, of + i * 2 + 1, none⟩ = some (.string (markS p1)) := by simpa using ca1
      go_wp2_with fail
      go_region_held3 (fun w' => w'.cell? ⟨bk, of + i * 2 + 1, none⟩ = some (.string (markS p1)))
        (first | exact hcd1 | exact hc1)
        ((first
          | (go_at_call 36
             refine (markText_any p1 _ (by omega)).mono ?_
             rintro e w2 ⟨rfl, f2⟩
             have hc1 := cell_later f2 hcd1
             have F2 := (Fr.drew_ _).then f2)))
      go_wp2_with fail
      go_roundw
      case rel =>
        have hp := HP.out
        have hp1 := HP1.out
        subst hp1
        subst hp
        exact ⟨i + 1, by omega, by go_num, by rw [show k + (i + 1) * 2 = k + i * 2 + 2 from by omega]; go_num, (HF.out.then F2)⟩
      case measure => simp [intOf]; omega
    · obtain rfl : i = n := by omega
      go_wp2
      go_ret
      exact ⟨rfl, hfr⟩

end Go.Proofs.Ytlgclhnghpjgjaa

