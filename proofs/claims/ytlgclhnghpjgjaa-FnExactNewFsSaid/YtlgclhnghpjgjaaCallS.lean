/-
  Call in the laws: made anew, compared, marked.
-/
import Derived.Test.YtlgclhnghpjgjaaFrC
import Derived.StillTailTactics
namespace Go.Proofs.Ytlgclhnghpjgjaa
open Go.RowKit

def cCall (r : Int × Int × ByteArray × Int × ByteArray × ByteArray) : List Value := [.int .i64 r.1, .int .i64 r.2.1, .string r.2.2.1, .int .i64 r.2.2.2.1, .string r.2.2.2.2.1, .string r.2.2.2.2.2]
theorem cCall_len (r : Int × Int × ByteArray × Int × ByteArray × ByteArray) : (cCall r).length = 6 := rfl
theorem infoCall : (Try.prog.info? 57).map (fun i => (i.zero, i.size, i.bytes)) = some (some (.agg #[.int .i64 0, .int .i64 0, .string ⟨#[]⟩, .int .i64 0, .string ⟨#[]⟩, .string ⟨#[]⟩]), 6, 72) := by kernel_rfl

theorem eqCall_any (r s : Int × Int × ByteArray × Int × ByteArray × ByteArray) (w : World) :
    Calls Try.prog 34 #[.agg (cCall r).toArray, .agg (cCall s).toArray] w fun e w' => e = .returned (.bool (decide (r = s))) ∧ Fr w w' := by
  obtain ⟨x0, x1, x2, x3, x4, x5⟩ := r
  obtain ⟨y0, y1, y2, y3, y4, y5⟩ := s
  show Calls _ _ #[.agg #[.int .i64 x0, .int .i64 x1, .string x2, .int .i64 x3, .string x4, .string x5], .agg #[.int .i64 y0, .int .i64 y1, .string y2, .int .i64 y3, .string y4, .string y5]] _ _
  by_cases h0 : x0 = y0
  · by_cases h1 : x1 = y1
    · by_cases h2 : x2 = y2
      · subst h2
        by_cases h3 : x3 = y3
        · by_cases h4 : x4 = y4
          · subst h4
            by_cases h5 : x5 = y5
            · subst h5
              go_enter Try.func34, Try.ntmps34
              go_wp2
              go_ret
              exact ⟨ret_bool (by simp [h0, h1, h3]), by repeat (first | exact Below.refl _ _ | refine Below.alloc ?_ (by first | (simp; done) | (simp; omega)) _ | refine Below.setCell ?_ (by first | (simp; done) | (simp; omega)) _)⟩
            · have hb5 : (x5.toList == y5.toList) = false := str_ne h5
              go_enter Try.func34, Try.ntmps34
              go_wp2
              go_ret
              exact ⟨ret_bool (by simp [h0, h1, h3, h5]), by repeat (first | exact Below.refl _ _ | refine Below.alloc ?_ (by first | (simp; done) | (simp; omega)) _ | refine Below.setCell ?_ (by first | (simp; done) | (simp; omega)) _)⟩
          · have hb4 : (x4.toList == y4.toList) = false := str_ne h4
            go_enter Try.func34, Try.ntmps34
            go_wp2
            go_ret
            exact ⟨ret_bool (by simp [h0, h1, h3, h4]), by repeat (first | exact Below.refl _ _ | refine Below.alloc ?_ (by first | (simp; done) | (simp; omega)) _ | refine Below.setCell ?_ (by first | (simp; done) | (simp; omega)) _)⟩
        · go_enter Try.func34, Try.ntmps34
          go_wp2
          go_ret
          exact ⟨ret_bool (by simp [h0, h1, h3]), by repeat (first | exact Below.refl _ _ | refine Below.alloc ?_ (by first | (simp; done) | (simp; omega)) _ | refine Below.setCell ?_ (by first | (simp; done) | (simp; omega)) _)⟩
      · have hb2 : (x2.toList == y2.toList) = false := str_ne h2
        go_enter Try.func34, Try.ntmps34
        go_wp2
        go_ret
        exact ⟨ret_bool (by simp [h0, h1, h2]), by repeat (first | exact Below.refl _ _ | refine Below.alloc ?_ (by first | (simp; done) | (simp; omega)) _ | refine Below.setCell ?_ (by first | (simp; done) | (simp; omega)) _)⟩
    · go_enter Try.func34, Try.ntmps34
      go_wp2
      go_ret
      exact ⟨ret_bool (by simp [h0, h1]), by repeat (first | exact Below.refl _ _ | refine Below.alloc ?_ (by first | (simp; done) | (simp; omega)) _ | refine Below.setCell ?_ (by first | (simp; done) | (simp; omega)) _)⟩
  · go_enter Try.func34, Try.ntmps34
    go_wp2
    go_ret
    exact ⟨ret_bool (by simp [h0]), by repeat (first | exact Below.refl _ _ | refine Below.alloc ?_ (by first | (simp; done) | (simp; omega)) _ | refine Below.setCell ?_ (by first | (simp; done) | (simp; omega)) _)⟩

set_option maxRecDepth 100000 in
set_option maxHeartbeats 1000000 in
theorem eqCallS_any (A B : Option Addr) (n m c d : Nat) (l l' : List (Int × Int × ByteArray × Int × ByteArray × ByteArray)) (w : World) (h : Rd w A n 6 (l.flatMap cCall)) (h' : Rd w B m 6 (l'.flatMap cCall)) (hn : n ≤ 1048576) (hm : m ≤ 1048576) :
    Calls Try.prog 19 #[.slice A n c, .slice B m d] w fun e w' => e = .returned (.bool (decide (l = l'))) ∧ Fr w w' := by
  have hl := h.lenk cCall_len (by omega)
  have hl' := h'.lenk cCall_len (by omega)
  have HL := Lib.hid hl
  have HL' := Lib.hid hl'
  clear hl hl'
  by_cases hnm : n = m
  · subst hnm
    go_enter Try.func19, Try.ntmps19
    go_wp2_with fail
    go_loopw [5] (fun i wr => ∃ k : Nat, k ≤ n ∧ i = .int .i64 k ∧ l.take k = l'.take k ∧ Fr w wr) (fun i _ => n - (intOf i).toNat)
    case atStart => exact ⟨0, Nat.zero_le _, rfl, by simp, Below.refl _ _⟩
    case round =>
      obtain ⟨k, hk, rfl, htake, hfr⟩ := hrel
      have HT := Lib.hid htake
      by_cases hlt : k < n
      · obtain ⟨⟨x0, x1, x2, x3, x4, x5⟩, hx⟩ := some_at HL.out hlt
        obtain ⟨⟨y0, y1, y2, y3, y4, y5⟩, hy⟩ := some_at HL'.out hlt
        obtain ⟨bk, of, rfl, hcell⟩ := (h.fr hfr).elem cCall_len hx (by omega)
        obtain ⟨bk', of', rfl, hcell'⟩ := (h'.fr hfr).elem cCall_len hy (by omega)
        have ca0 := hcell 0 _ rfl; simp only [Nat.add_zero] at ca0
        have ca1 := hcell 1 _ rfl
        have ca2 := hcell 2 _ rfl
        have ca3 := hcell 3 _ rfl
        have ca4 := hcell 4 _ rfl
        have ca5 := hcell 5 _ rfl
        have cb0 := hcell' 0 _ rfl; simp only [Nat.add_zero] at cb0
        have cb1 := hcell' 1 _ rfl
        have cb2 := hcell' 2 _ rfl
        have cb3 := hcell' 3 _ rfl
        have cb4 := hcell' 4 _ rfl
        have cb5 := hcell' 5 _ rfl
        have HX := Lib.hid hx
        have HY := Lib.hid hy
        have HF := Lib.hid hfr
        obtain ⟨bb, hbb, hcall⟩ : ∃ bb, decide ((x0, x1, x2, x3, x4, x5) = (y0, y1, y2, y3, y4, y5)) = bb ∧ ∀ w, Calls Try.prog 34 #[.agg #[.int .i64 x0, .int .i64 x1, .string x2, .int .i64 x3, .string x4, .string x5], .agg #[.int .i64 y0, .int .i64 y1, .string y2, .int .i64 y3, .string y4, .string y5]] w fun e w' => e = .returned (.bool bb) ∧ Fr w w' := ⟨_, rfl, eqCall_any (x0, x1, x2, x3, x4, x5) (y0, y1, y2, y3, y4, y5)⟩
        have HBB := Lib.hid hbb
        have HC := Lib.hid hcall
        clear h h' hx hy htake hfr hcell hcell' hbb hcall
        cases bb
        · go_wp2_with fail
          go_still_tail 8, (by kernel_rfl)
          go_wp2_with fail
          refine (HC.out _).mono ?_
          rintro e w2 ⟨rfl, f2⟩
          go_wp2
          go_ret
          have e : l ≠ l' := ne_of_at HX.out HY.out (of_decide_eq_false HBB.out)
          exact ⟨ret_bool (by simp [e]), HF.out.then (Fr.then (Fr.on (Below.refl _ _) 1) f2)⟩
        · go_wp2_with fail
          go_still_tail 8, (by kernel_rfl)
          go_wp2_with fail
          refine (HC.out _).mono ?_
          rintro e w2 ⟨rfl, f2⟩
          go_wp2
          go_roundw
          case rel => exact ⟨k + 1, by omega, by go_num, take_eq_step HT.out HX.out (of_decide_eq_true HBB.out ▸ HY.out), HF.out.then (Fr.then (Fr.on (Below.refl _ _) 1) f2)⟩
          case measure => simp [intOf]; omega
      · go_wp2
        go_ret
        have e : l = l' := take_eq_all (n := n) (by rw [show n = k from by omega]; exact HT.out) HL.out HL'.out
        exact ⟨by simp [e], hfr⟩
  · go_enter Try.func19, Try.ntmps19
    go_wp2
    go_ret
    have e : l ≠ l' := by rintro rfl; exact hnm (HL.out.symm.trans HL'.out)
    exact ⟨by simp [e], Below.refl _ _⟩

/-- The marks of an element, from the number k on. -/
def mkCall (k : Nat) : Int × Int × ByteArray × Int × ByteArray × ByteArray := (k, (k + 1), markS (k + 2), (k + 3), markS (k + 4), markS (k + 5))
def marksCall (n k : Nat) : List (Int × Int × ByteArray × Int × ByteArray × ByteArray) := (List.range n).map fun i => mkCall (k + i * 6)
theorem marksCall_at {n k i : Nat} (h : i < n) : (marksCall n k)[i]? = some (mkCall (k + i * 6)) := by simp [marksCall, h]
theorem marksCall_len (n k : Nat) : (marksCall n k).length = n := by simp [marksCall]
theorem marksCall_take (n k i : Nat) (h : i ≤ n) : (marksCall n k).take i = marksCall i k := by
  rw [marksCall, marksCall, ← List.map_take, List.take_range, Nat.min_eq_left h]

set_option maxRecDepth 100000 in
set_option maxHeartbeats 4000000 in
theorem markCallS_any (A : Option Addr) (n c k base : Nat) (xs : List Value) (w : World) (h : w.ownsRow base 57 6 (.slice A n c) n xs) (hn : n ≤ 16777216) (hk : k ≤ 1000000000000) :
    Calls Try.prog 23 #[.slice A n c, .int .i64 k] w fun e w' => e = .returned (.int .i64 ((k + n * 6 : Nat) : Int)) ∧ w'.ownsRow base 57 6 (.slice A n c) n ((marksCall n k).flatMap cCall) ∧ w.grownBy w' (Value.slice A n c).ownBlock := by
  have hxl := h.1
  have HX := Lib.hid hxl
  have H := Lib.hid h
  clear hxl h
  go_enter Try.func23, Try.ntmps23
  go_wp2_with fail
  go_loopw [1, 5] (fun v i wr => ∃ j : Nat, j ≤ n ∧ i = .int .i64 j ∧ v = .int .i64 ((k + j * 6 : Nat) : Int) ∧ wr.ownsRow base 57 6 (.slice A n c) n ((marksCall j k).flatMap cCall ++ xs.drop (j * 6)) ∧ w.grownBy wr (Value.slice A n c).ownBlock)
    (fun _ i _ => n - (intOf i).toNat)
  case atStart => exact ⟨0, Nat.zero_le _, rfl, by simp, by simpa [marksCall] using H.out, World.grownBy.refl _ _⟩
  case round =>
    obtain ⟨i, hi, rfl, rfl, hown, hgr⟩ := hrel
    by_cases hlt : i < n
    · obtain ⟨g, rfl, _, _⟩ := own_form hown (by omega)
      obtain ⟨p, hp⟩ : ∃ p, p = k + i * 6 := ⟨_, rfl⟩
      obtain ⟨p2, hp2⟩ : ∃ q, q = p + 2 := ⟨_, rfl⟩
      obtain ⟨p4, hp4⟩ : ∃ q, q = p + 4 := ⟨_, rfl⟩
      obtain ⟨p5, hp5⟩ : ∃ q, q = p + 5 := ⟨_, rfl⟩
      have hpb : p ≤ 1000200000000 := by omega
      have hpb2 : p2 ≤ 1000200000100 := by omega
      have hpb4 : p4 ≤ 1000200000100 := by omega
      have hpb5 : p5 ≤ 1000200000100 := by omega
      have hpr2 : (p : Int) + 1 + 1 = (p2 : Int) := by omega
      have hpr4 : (p2 : Int) + 1 + 1 = (p4 : Int) := by omega
      have hpr5 : (p4 : Int) + 1 = (p5 : Int) := by omega
      rw [← hp]
      have HP := Lib.hid hp
      have HP2 := Lib.hid hp2
      have HP4 := Lib.hid hp4
      have HP5 := Lib.hid hp5
      have HG := Lib.hid hgr
      have HO := Lib.hid hown
      have hse := sets_elem (f := cCall) (l := marksCall n k) (x := mkCall (k + i * 6)) cCall_len (marksCall_at hlt) HX.out hlt
      rw [marksCall_take _ _ _ (by omega), marksCall_take _ _ _ (by omega)] at hse
      have HSE := Lib.hid hse
      clear hse hown hgr hp hp2 hp4 hp5
      have hf0 := (HO.out).frozenAt (i * 6)
      have ⟨d0, hd0⟩ : ∃ d, wr.cell? ⟨g, i * 6, none⟩ = some d := by rw [(HO.out).cellAt _ (by omega)]; exact ⟨_, List.getElem?_eq_getElem (by have := (HO.out).1; omega)⟩
      have hf1 := (HO.out).frozenAt (i * 6 + 1)
      have ⟨d1, hd1⟩ : ∃ d, wr.cell? ⟨g, i * 6 + 1, none⟩ = some d := by rw [(HO.out).cellAt _ (by omega)]; exact ⟨_, List.getElem?_eq_getElem (by have := (HO.out).1; omega)⟩
      go_wp2_with fail
      refine (markText_any p2 _ (by omega)).mono ?_
      rintro e w2 ⟨rfl, f2⟩
      have HO1 := Lib.hid (own_fr ((HO.out.stored (i * 6) (.int .i64 ((p : Int)))).1.stored (i * 6 + 1) (.int .i64 ((p : Int) + 1))).1 f2)
      have HG1 := Lib.hid (World.grownBy.trans (grown_set (j := i * 6 + 1) (u := .int .i64 ((p : Int) + 1)) (grown_set (j := i * 6) (u := .int .i64 ((p : Int))) HG.out)) (f2.grown _))
      clear f2 hf0 hd0 hf1 hd1
      have hf2 := (HO1.out).frozenAt (i * 6 + 2)
      have ⟨d2, hd2⟩ : ∃ d, w2.cell? ⟨g, i * 6 + 2, none⟩ = some d := by rw [(HO1.out).cellAt _ (by omega)]; exact ⟨_, List.getElem?_eq_getElem (by have := (HO1.out).1; omega)⟩
      have hf3 := (HO1.out).frozenAt (i * 6 + 3)
      have ⟨d3, hd3⟩ : ∃ d, w2.cell? ⟨g, i * 6 + 3, none⟩ = some d := by rw [(HO1.out).cellAt _ (by omega)]; exact ⟨_, List.getElem?_eq_getElem (by have := (HO1.out).1; omega)⟩
      go_wp2_with fail
      refine (markText_any p4 _ (by omega)).mono ?_
      rintro e w3 ⟨rfl, f3⟩
      have HO2 := Lib.hid (own_fr ((HO1.out.stored (i * 6 + 2) (.string (markS p2))).1.stored (i * 6 + 3) (.int .i64 ((p2 : Int) + 1))).1 f3)
      have HG2 := Lib.hid (World.grownBy.trans (grown_set (j := i * 6 + 3) (u := .int .i64 ((p2 : Int) + 1)) (grown_set (j := i * 6 + 2) (u := .string (markS p2)) HG1.out)) (f3.grown _))
      clear f3 hf2 hd2 hf3 hd3
      have hf4 := (HO2.out).frozenAt (i * 6 + 4)
      have ⟨d4, hd4⟩ : ∃ d, w3.cell? ⟨g, i * 6 + 4, none⟩ = some d := by rw [(HO2.out).cellAt _ (by omega)]; exact ⟨_, List.getElem?_eq_getElem (by have := (HO2.out).1; omega)⟩
      go_wp2_with fail
      refine (markText_any p5 _ (by omega)).mono ?_
      rintro e w4 ⟨rfl, f4⟩
      have HO3 := Lib.hid (own_fr (HO2.out.stored (i * 6 + 4) (.string (markS p4))).1 f4)
      have HG3 := Lib.hid (World.grownBy.trans (grown_set (j := i * 6 + 4) (u := .string (markS p4)) HG2.out) (f4.grown _))
      clear f4 hf4 hd4
      have hf5 := (HO3.out).frozenAt (i * 6 + 5)
      have ⟨d5, hd5⟩ : ∃ d, w4.cell? ⟨g, i * 6 + 5, none⟩ = some d := by rw [(HO3.out).cellAt _ (by omega)]; exact ⟨_, List.getElem?_eq_getElem (by have := (HO3.out).1; omega)⟩
      have HST := Lib.hid (HO3.out.stored (i * 6 + 5) (.string (markS p5))).1
      have HGL := Lib.hid (grown_set (j := i * 6 + 5) (u := .string (markS p5)) HG3.out)
      go_wp2
      go_roundw
      case rel =>
        have hp := HP.out
        have hp2 := HP2.out
        have hp4 := HP4.out
        have hp5 := HP5.out
        subst hp2 hp4 hp5
        subst hp
        exact ⟨i + 1, by omega, by go_num, by rw [show k + (i + 1) * 6 = k + i * 6 + 6 from by omega]; go_num, by rw [← HSE.out]; exact HST.out, HGL.out⟩
      case measure => simp [intOf]; omega
    · obtain rfl : i = n := by omega
      rw [List.drop_of_length_le (by have := HX.out; omega), List.append_nil] at hown
      go_wp2
      go_ret
      exact ⟨rfl, hown, hgr⟩

set_option maxRecDepth 100000 in
set_option maxHeartbeats 4000000 in
theorem heldCallS_any (A : Option Addr) (n c k : Nat) (w : World) (h : Rd w A n 6 ((marksCall n k).flatMap cCall)) (hn : n ≤ 16777216) (hk : k ≤ 1000000000000) :
    Calls Try.prog 27 #[.slice A n c, .int .i64 k] w fun e w' => e = .returned (.int .i64 ((k + n * 6 : Nat) : Int)) ∧ Fr w w' := by
  go_enter Try.func27, Try.ntmps27
  go_wp2_with fail
  go_loopw [1, 5] (fun v i wr => ∃ j : Nat, j ≤ n ∧ i = .int .i64 j ∧ v = .int .i64 ((k + j * 6 : Nat) : Int) ∧ Fr w wr) (fun _ i _ => n - (intOf i).toNat)
  case atStart => exact ⟨0, Nat.zero_le _, rfl, by simp, Below.refl _ _⟩
  case round =>
    obtain ⟨i, hi, rfl, rfl, hfr⟩ := hrel
    by_cases hlt : i < n
    · obtain ⟨bk, of, rfl, hcell⟩ := (h.fr hfr).elem cCall_len (marksCall_at hlt) (by omega)
      have ca0 : wr.cell? ⟨bk, of + i * 6, none⟩ = some (.int .i64 ((k : Int) + (i : Int) * 6)) := by have hh := hcell 0 _ rfl; simpa [cCall, mkCall] using hh
      have ca1 : wr.cell? ⟨bk, of + i * 6 + 1, none⟩ = some (.int .i64 ((k : Int) + (i : Int) * 6 + 1)) := by have hh := hcell 1 _ rfl; simpa [cCall, mkCall] using hh
      have ca2 : wr.cell? ⟨bk, of + i * 6 + 2, none⟩ = some (.string (markS (k + i * 6 + 2))) := by have hh := hcell 2 _ rfl; simpa [cCall, mkCall] using hh
      have ca3 : wr.cell? ⟨bk, of + i * 6 + 3, none⟩ = some (.int .i64 ((k : Int) + (i : Int) * 6 + 3)) := by have hh := hcell 3 _ rfl; simpa [cCall, mkCall] using hh
      have ca4 : wr.cell? ⟨bk, of + i * 6 + 4, none⟩ = some (.string (markS (k + i * 6 + 4))) := by have hh := hcell 4 _ rfl; simpa [cCall, mkCall] using hh
      have ca5 : wr.cell? ⟨bk, of + i * 6 + 5, none⟩ = some (.string (markS (k + i * 6 + 5))) := by have hh := hcell 5 _ rfl; simpa [cCall, mkCall] using hh
      obtain ⟨p, hp⟩ : ∃ p, p = k + i * 6 := ⟨_, rfl⟩
      obtain ⟨p2, hp2⟩ : ∃ q, q = p + 2 := ⟨_, rfl⟩
      obtain ⟨p4, hp4⟩ : ∃ q, q = p + 4 := ⟨_, rfl⟩
      obtain ⟨p5, hp5⟩ : ∃ q, q = p + 5 := ⟨_, rfl⟩
      have hpb : p ≤ 1000200000000 := by omega
      have hpb2 : p2 ≤ 1000200000100 := by omega
      have hpb4 : p4 ≤ 1000200000100 := by omega
      have hpb5 : p5 ≤ 1000200000100 := by omega
      have hpr2 : (p : Int) + 1 + 1 = (p2 : Int) := by omega
      have hpr4 : (p2 : Int) + 1 + 1 = (p4 : Int) := by omega
      have hpr5 : (p4 : Int) + 1 = (p5 : Int) := by omega
      rw [← hp]
      replace ca0 : wr.cell? ⟨bk, of + i * 6, none⟩ = some (.int .i64 ((p : Int))) := by rw [ca0]; congr 2; omega
      replace ca1 : wr.cell? ⟨bk, of + i * 6 + 1, none⟩ = some (.int .i64 ((p : Int) + 1)) := by rw [ca1]; congr 2; omega
      replace ca2 : wr.cell? ⟨bk, of + i * 6 + 2, none⟩ = some (.string (markS p2)) := by rw [ca2, hp2, hp]
      replace ca3 : wr.cell? ⟨bk, of + i * 6 + 3, none⟩ = some (.int .i64 ((p2 : Int) + 1)) := by rw [ca3]; congr 2; omega
      replace ca4 : wr.cell? ⟨bk, of + i * 6 + 4, none⟩ = some (.string (markS p4)) := by rw [ca4, hp4, hp]
      replace ca5 : wr.cell? ⟨bk, of + i * 6 + 5, none⟩ = some (.string (markS p5)) := by rw [ca5, hp5, hp]
      have HP := Lib.hid hp
      have HP2 := Lib.hid hp2
      have HP4 := Lib.hid hp4
      have HP5 := Lib.hid hp5
      have HF := Lib.hid hfr
      clear h hcell hfr hp hp2 hp4 hp5
      have hcd2 : wr.drew.cell? ⟨bk, of + i * 6 + 2, none⟩ = some (.string (markS p2)) := by simpa using ca2
      go_wp2_with fail
      go_region_held3 (fun w' => w'.cell? ⟨bk, of + i * 6 + 2, none⟩ = some (.string (markS p2)))
        (first | exact hcd2 | exact hc2)
        ((first
          | (go_at_call 36
             refine (markText_any p2 _ (by omega)).mono ?_
             rintro e w2 ⟨rfl, f2⟩
             have hc2 := cell_later f2 hcd2
             have F2 := (Fr.drew_ _).then f2)))
      replace ca3 := fr_cellM F2 ca3
      replace ca4 := fr_cellM F2 ca4
      replace ca5 := fr_cellM F2 ca5
      have hcd4 : w2.drew.cell? ⟨bk, of + i * 6 + 4, none⟩ = some (.string (markS p4)) := by simpa using ca4
      go_wp2_with fail
      go_region_held3 (fun w' => w'.cell? ⟨bk, of + i * 6 + 4, none⟩ = some (.string (markS p4)))
        (first | exact hcd4 | exact hc4)
        ((first
          | (go_at_call 36
             refine (markText_any p4 _ (by omega)).mono ?_
             rintro e w3 ⟨rfl, f3⟩
             have hc4 := cell_later f3 hcd4
             have F3 := (Fr.drew_ _).then f3)))
      replace ca5 := fr_cellM F3 ca5
      have hcd5 : w3.drew.cell? ⟨bk, of + i * 6 + 5, none⟩ = some (.string (markS p5)) := by simpa using ca5
      go_wp2_with fail
      go_region_held3 (fun w' => w'.cell? ⟨bk, of + i * 6 + 5, none⟩ = some (.string (markS p5)))
        (first | exact hcd5 | exact hc5)
        ((first
          | (go_at_call 36
             refine (markText_any p5 _ (by omega)).mono ?_
             rintro e w4 ⟨rfl, f4⟩
             have hc5 := cell_later f4 hcd5
             have F4 := (Fr.drew_ _).then f4)))
      go_wp2_with fail
      go_roundw
      case rel =>
        have hp := HP.out
        have hp2 := HP2.out
        have hp4 := HP4.out
        have hp5 := HP5.out
        subst hp2 hp4 hp5
        subst hp
        exact ⟨i + 1, by omega, by go_num, by rw [show k + (i + 1) * 6 = k + i * 6 + 6 from by omega]; go_num, (((HF.out.then F2).then F3).then F4)⟩
      case measure => simp [intOf]; omega
    · obtain rfl : i = n := by omega
      go_wp2
      go_ret
      exact ⟨rfl, hfr⟩

end Go.Proofs.Ytlgclhnghpjgjaa

