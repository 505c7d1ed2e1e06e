/-
  Many texts in one: WriteS, MParse, Same.
-/
import Derived.Test.YtaogikhpglcmjaaGreatDoorGi
import Derived.StillTailTactics
import Derived.Test.YtaogikhpglcmjaaGreatDoorGr
import Derived.Test.YtaogikhpglcmjaaGreatDoorGc
import Derived.Test.YtaogikhpglcmjaaGreatDoorGb
import Derived.Test.YtaogikhpglcmjaaGreatDoorGm
namespace Go.Proofs.YtaogikhpglcmjaaGreatDoor
open Go.RowKit

def cWrite (r : Int × ByteArray) : List Value := [.int .i64 r.1, .string r.2]
theorem cWrite_len (r : Int × ByteArray) : (cWrite r).length = 2 := rfl
theorem infoWrite : (Tryz.prog.info? 61).map (fun i => (i.zero, i.size, i.bytes)) = some (some (.agg #[.int .i64 0, .string ⟨#[]⟩]), 2, 24) := by kernel_rfl

theorem eqWrite_any (r s : Int × ByteArray) (w : World) :
    Calls Tryz.prog 28 #[.agg (cWrite r).toArray, .agg (cWrite s).toArray] w fun e w' => e = .returned (.bool (decide (r = s))) ∧ Fr w w' := by
  obtain ⟨x0, x1⟩ := r
  obtain ⟨y0, y1⟩ := s
  show Calls _ _ #[.agg #[.int .i64 x0, .string x1], .agg #[.int .i64 y0, .string y1]] _ _
  by_cases h0 : x0 = y0
  · by_cases h1 : x1 = y1
    · subst h1
      go_enter Tryz.func28, Tryz.ntmps28
      go_wp2
      go_ret
      exact ⟨ret_bool (by simp [h0]), by repeat (first | exact Below.refl _ _ | refine Below.alloc ?_ (by first | (simp; done) | (simp; omega)) _ | refine Below.setCell ?_ (by first | (simp; done) | (simp; omega)) _)⟩
    · have hb1 : (x1.toList == y1.toList) = false := str_ne h1
      go_enter Tryz.func28, Tryz.ntmps28
      go_wp2
      go_ret
      exact ⟨ret_bool (by simp [h0, h1]), by repeat (first | exact Below.refl _ _ | refine Below.alloc ?_ (by first | (simp; done) | (simp; omega)) _ | refine Below.setCell ?_ (by first | (simp; done) | (simp; omega)) _)⟩
  · go_enter Tryz.func28, Tryz.ntmps28
    go_wp2
    go_ret
    exact ⟨ret_bool (by simp [h0]), by repeat (first | exact Below.refl _ _ | refine Below.alloc ?_ (by first | (simp; done) | (simp; omega)) _ | refine Below.setCell ?_ (by first | (simp; done) | (simp; omega)) _)⟩

set_option maxRecDepth 100000 in
set_option maxHeartbeats 1000000 in
theorem eqWriteS_any (A B : Option Addr) (n m c d : Nat) (l l' : List (Int × ByteArray)) (w : World) (h : Rd w A n 2 (l.flatMap cWrite)) (h' : Rd w B m 2 (l'.flatMap cWrite)) (hn : n ≤ 1048576) (hm : m ≤ 1048576) :
    Calls Tryz.prog 10 #[.slice A n c, .slice B m d] w fun e w' => e = .returned (.bool (decide (l = l'))) ∧ Fr w w' := by
  have hl := h.lenk cWrite_len (by omega)
  have hl' := h'.lenk cWrite_len (by omega)
  have HL := Lib.hid hl
  have HL' := Lib.hid hl'
  clear hl hl'
  by_cases hnm : n = m
  · subst hnm
    go_enter Tryz.func10, Tryz.ntmps10
    go_wp2_with fail
    go_loopw [5] (fun i wr => ∃ k : Nat, k ≤ n ∧ i = .int .i64 k ∧ l.take k = l'.take k ∧ Fr w wr) (fun i _ => n - (intOf i).toNat)
    case atStart => exact ⟨0, Nat.zero_le _, rfl, by simp, Below.refl _ _⟩
    case round =>
      obtain ⟨k, hk, rfl, htake, hfr⟩ := hrel
      have HT := Lib.hid htake
      by_cases hlt : k < n
      · obtain ⟨⟨x0, x1⟩, hx⟩ := some_at HL.out hlt
        obtain ⟨⟨y0, y1⟩, hy⟩ := some_at HL'.out hlt
        obtain ⟨bk, of, rfl, hcell⟩ := (h.fr hfr).elem cWrite_len hx (by omega)
        obtain ⟨bk', of', rfl, hcell'⟩ := (h'.fr hfr).elem cWrite_len hy (by omega)
        have ca0 := hcell 0 _ rfl; simp only [Nat.add_zero] at ca0
        have ca1 := hcell 1 _ rfl
        have cb0 := hcell' 0 _ rfl; simp only [Nat.add_zero] at cb0
        have cb1 := hcell' 1 _ rfl
        have HX := Lib.hid hx
        have HY := Lib.hid hy
        have HF := Lib.hid hfr
        obtain ⟨bb, hbb, hcall⟩ : ∃ bb, decide ((x0, x1) = (y0, y1)) = bb ∧ ∀ w, Calls Tryz.prog 28 #[.agg #[.int .i64 x0, .string x1], .agg #[.int .i64 y0, .string y1]] w fun e w' => e = .returned (.bool bb) ∧ Fr w w' := ⟨_, rfl, eqWrite_any (x0, x1) (y0, y1)⟩
        have HBB := Lib.hid hbb
        have HC := Lib.hid hcall
        clear h h' hx hy htake hfr hcell hcell' hbb hcall
        cases bb
        · go_wp2_with fail
          go_still_tail 8, (by kernel_rfl)
          go_wp2_with fail
          refine (HC.out _).mono ?_
          rintro e w2 ⟨rfl, f2⟩
          go_wp2
          go_ret
          have e : l ≠ l' := ne_of_at HX.out HY.out (of_decide_eq_false HBB.out)
          exact ⟨ret_bool (by simp [e]), HF.out.then (Fr.then (Fr.on (Below.refl _ _) 1) f2)⟩
        · go_wp2_with fail
          go_still_tail 8, (by kernel_rfl)
          go_wp2_with fail
          refine (HC.out _).mono ?_
          rintro e w2 ⟨rfl, f2⟩
          go_wp2
          go_roundw
          case rel => exact ⟨k + 1, by omega, by go_num, take_eq_step HT.out HX.out (of_decide_eq_true HBB.out ▸ HY.out), HF.out.then (Fr.then (Fr.on (Below.refl _ _) 1) f2)⟩
          case measure => simp [intOf]; omega
      · go_wp2
        go_ret
        have e : l = l' := take_eq_all (n := n) (by rw [show n = k from by omega]; exact HT.out) HL.out HL'.out
        exact ⟨by simp [e], hfr⟩
  · go_enter Tryz.func10, Tryz.ntmps10
    go_wp2
    go_ret
    have e : l ≠ l' := by rintro rfl; exact hnm (HL.out.symm.trans HL'.out)
    exact ⟨by simp [e], Below.refl _ _⟩

/-- The marks of an element, from the number k on. -/
def mkWrite (k : Nat) : Int × ByteArray := (k, markS (k + 1))
def marksWrite (n k : Nat) : List (Int × ByteArray) := (List.range n).map fun i => mkWrite (k + i * 2)
theorem marksWrite_at {n k i : Nat} (h : i < n) : (marksWrite n k)[i]? = some (mkWrite (k + i * 2)) := by simp [marksWrite, h]
theorem marksWrite_len (n k : Nat) : (marksWrite n k).length = n := by simp [marksWrite]
theorem marksWrite_take (n k i : Nat) (h : i ≤ n) : (marksWrite n k).take i = marksWrite i k := by
  rw [marksWrite, marksWrite, ← List.map_take, List.take_range, Nat.min_eq_left h]

set_option maxRecDepth 100000 in
set_option maxHeartbeats 4000000 in
theorem markWriteS_any (A : Option Addr) (n c k base : Nat) (xs : List Value) (w : World) (h : w.ownsRow base 61 2 (.slice A n c) n xs) (hn : n ≤ 16777216) (hk : k ≤ 1000000000000) :
    Calls Tryz.prog 14 #[.slice A n c, .int .i64 k] w fun e w' => e = .returned (.int .i64 ((k + n * 2 : Nat) : Int)) ∧ w'.ownsRow base 61 2 (.slice A n c) n ((marksWrite n k).flatMap cWrite) ∧ w.grownBy w' (Value.slice A n c).ownBlock := by
  have hxl := h.1
  have HX := Lib.hid hxl
  have H := Lib.hid h
  clear hxl h
  go_enter Tryz.func14, Tryz.ntmps14
  go_wp2_with fail
  go_loopw [1, 5] (fun v i wr => ∃ j : Nat, j ≤ n ∧ i = .int .i64 j ∧ v = .int .i64 ((k + j * 2 : Nat) : Int) ∧ wr.ownsRow base 61 2 (.slice A n c) n ((marksWrite j k).flatMap cWrite ++ xs.drop (j * 2)) ∧ w.grownBy wr (Value.slice A n c).ownBlock)
    (fun _ i _ => n - (intOf i).toNat)
  case atStart => exact ⟨0, Nat.zero_le _, rfl, by simp, by simpa [marksWrite] using H.out, World.grownBy.refl _ _⟩
  case round =>
    obtain ⟨i, hi, rfl, rfl, hown, hgr⟩ := hrel
    by_cases hlt : i < n
    · obtain ⟨g, rfl, _, _⟩ := own_form hown (by omega)
      obtain ⟨p, hp⟩ : ∃ p, p = k + i * 2 := ⟨_, rfl⟩
      obtain ⟨p1, hp1⟩ : ∃ q, q = p + 1 := ⟨_, rfl⟩
      have hpb : p ≤ 1000200000000 := by omega
      have hpb1 : p1 ≤ 1000200000100 := by omega
      have hpr1 : (p : Int) + 1 = (p1 : Int) := by omega
      rw [← hp]
      have HP := Lib.hid hp
      have HP1 := Lib.hid hp1
      have HG := Lib.hid hgr
      have HO := Lib.hid hown
      have hse := sets_elem (f := cWrite) (l := marksWrite n k) (x := mkWrite (k + i * 2)) cWrite_len (marksWrite_at hlt) HX.out hlt
      rw [marksWrite_take _ _ _ (by omega), marksWrite_take _ _ _ (by omega)] at hse
      have HSE := Lib.hid hse
      clear hse hown hgr hp hp1
      have hf0 := (HO.out).frozenAt (i * 2)
      have ⟨d0, hd0⟩ : ∃ d, wr.cell? ⟨g, i * 2, none⟩ = some d := by rw [(HO.out).cellAt _ (by omega)]; exact ⟨_, List.getElem?_eq_getElem (by have := (HO.out).1; omega)⟩
      go_wp2_with fail
      refine (markText_any p1 _ (by omega)).mono ?_
      rintro e w2 ⟨rfl, f2⟩
      have HO1 := Lib.hid (own_fr (HO.out.stored (i * 2) (.int .i64 ((p : Int)))).1 f2)
      have HG1 := Lib.hid (World.grownBy.trans (grown_set (j := i * 2) (u := .int .i64 ((p : Int))) HG.out) (f2.grown _))
      clear f2 hf0 hd0
      have hf1 := (HO1.out).frozenAt (i * 2 + 1)
      have ⟨d1, hd1⟩ : ∃ d, w2.cell? ⟨g, i * 2 + 1, none⟩ = some d := by rw [(HO1.out).cellAt _ (by omega)]; exact ⟨_, List.getElem?_eq_getElem (by have := (HO1.out).1; omega)⟩
      have HST := Lib.hid (HO1.out.stored (i * 2 + 1) (.string (markS p1))).1
      have HGL := Lib.hid (grown_set (j := i * 2 + 1) (u := .string (markS p1)) HG1.out)
      go_wp2
      go_roundw
      case rel =>
        have hp := HP.out
        have hp1 := HP1.out
        subst hp1
        subst hp
        exact ⟨i + 1, by omega, by go_num, by rw [show k + (i + 1) * 2 = k + i * 2 + 2 from by omega]; go_num, by rw [← HSE.out]; exact HST.out, HGL.out⟩
      case measure => simp [intOf]; omega
    · obtain rfl : i = n := by omega
      rw [List.drop_of_length_le (by have := HX.out; omega), List.append_nil] at hown
      go_wp2
      go_ret
      exact ⟨rfl, hown, hgr⟩

set_option maxRecDepth 100000 in
set_option maxHeartbeats 4000000 in
theorem heldWriteS_any (A : Option Addr) (n c k : Nat) (w : World) (h : Rd w A n 2 ((marksWrite n k).flatMap cWrite)) (hn : n ≤ 16777216) (hk : k ≤ 1000000000000) :
    Calls Tryz.prog 16 #[.slice A n c, .int .i64 k] w fun e w' => e = .returned (.int .i64 ((k + n * 2 : Nat) : Int)) ∧ Fr w w' := by
  go_enter Tryz.func16, Tryz.ntmps16
  go_wp2_with fail
  go_loopw [1, 5] (fun v i wr => ∃ j : Nat, j ≤ n ∧ i = .int .i64 j ∧ v = .int .i64 ((k + j * 2 : Nat) : Int) ∧ Fr w wr) (fun _ i _ => n - (intOf i).toNat)
  case atStart => exact ⟨0, Nat.zero_le _, rfl, by simp, Below.refl _ _⟩
  case round =>
    obtain ⟨i, hi, rfl, rfl, hfr⟩ := hrel
    by_cases hlt : i < n
    · obtain ⟨bk, of, rfl, hcell⟩ := (h.fr hfr).elem cWrite_len (marksWrite_at hlt) (by omega)
      have ca0 : wr.cell? ⟨bk, of + i * 2, none⟩ = some (.int .i64 ((k : Int) + (i : Int) * 2)) := by have hh := hcell 0 _ rfl; simpa [cWrite, mkWrite] using hh
      have ca1 : wr.cell? ⟨bk, of + i * 2 + 1, none⟩ = some (.string (markS (k + i * 2 + 1))) := by have hh := hcell 1 _ rfl; simpa [cWrite, mkWrite] using hh
      obtain ⟨p, hp⟩ : ∃ p, p = k + i * 2 := ⟨_, rfl⟩
      obtain ⟨p1, hp1⟩ : ∃ q, q = p + 1 := ⟨_, rfl⟩
      have hpb : p ≤ 1000200000000 := by omega
      have hpb1 : p1 ≤ 1000200000100 := by omega
      have hpr1 : (p : Int) + 1 = (p1 : Int) := by omega
      rw [← hp]
      replace ca0 : wr.cell? ⟨bk, of + i * 2, none⟩ = some (.int .i64 ((p : Int))) := by rw [ca0]; congr 2; omega
      replace ca1 : wr.cell? ⟨bk, of + i * 2 + 1, none⟩ = some (.string (markS p1)) := by rw [ca1, hp1, hp]
      have HP := Lib.hid hp
      have HP1 := Lib.hid hp1
      have HF := Lib.hid hfr
      clear h hcell hfr hp hp1
      have hcd1 : wr.drew.cell? ⟨bk, of + i * 2 + 1, none⟩ = some (.string (markS p1)) := by simpa using ca1
      go_wp2_with fail
      go_region_held3 (fun w' => w'.cell? ⟨bk, of + i * 2 + 1, none⟩ = some (.string (markS p1)))
        (first | exact hcd1 | exact hc1)
        ((first
          | (go_at_call 29
             refine (markText_any p1 _ (by omega)).mono ?_
             rintro e w2 ⟨rfl, f2⟩
             have hc1 := cell_later f2 hcd1
             have F2 := (Fr.drew_ _).then f2)))
      go_wp2_with fail
      go_roundw
      case rel =>
        have hp := HP.out
        have hp1 := HP1.out
        subst hp1
        subst hp
        exact ⟨i + 1, by omega, by go_num, by rw [show k + (i + 1) * 2 = k + i * 2 + 2 from by omega]; go_num, (HF.out.then F2)⟩
      case measure => simp [intOf]; omega
    · obtain rfl : i = n := by omega
      go_wp2
      go_ret
      exact ⟨rfl, hfr⟩

end Go.Proofs.YtaogikhpglcmjaaGreatDoor


namespace Go.Proofs.YtaogikhpglcmjaaGreatDoor
open Go.RowKit
set_option linter.unusedVariables false

/-- So many numbers from a place on; and where they end. -/
def varsP (s : List UInt8) (o : Option Nat) : Nat → List Nat × Option Nat
  | 0 => ([], o)
  | k + 1 => match (varsP s o k).2 with
    | none => ((varsP s o k).1, none)
    | some a => if s.length < a then ((varsP s o k).1, none) else if (readV (s.drop a)).2 = 0 then ((varsP s o k).1, none) else ((varsP s o k).1 ++ [(readV (s.drop a)).1], some (a + (readV (s.drop a)).2))
def num1 (p : List Nat × Option Nat) : Nat := p.1.headD 0
/-- A piece at a place; and where it ends. -/
def takeP (s : List UInt8) (o : Option Nat) : List UInt8 × Option Nat := match (varsP s o 1).2 with
  | none => ([], none)
  | some k => if s.length - k < num1 (varsP s o 1) then ([], none) else ((s.drop k).take (num1 (varsP s o 1)), some (k + num1 (varsP s o 1)))
theorem vars_none (s : List UInt8) : ∀ k, (varsP s none k).2 = none ∧ (varsP s none k).1 = []
  | 0 => ⟨rfl, rfl⟩
  | k + 1 => by
    obtain ⟨h1, h2⟩ := vars_none s k
    rw [varsP, h1]; exact ⟨rfl, h2⟩
theorem vars_in {s : List UInt8} {o : Option Nat} {k a : Nat} (h : (varsP s o (k + 1)).2 = some a) : a ≤ s.length ∧ (varsP s o (k + 1)).1.length = (varsP s o k).1.length + 1 ∧ ∃ b, (varsP s o k).2 = some b := by
  rw [varsP] at h ⊢
  cases hb : (varsP s o k).2 with
  | none => rw [hb] at h; cases h
  | some b =>
    rw [hb] at h
    simp only at h ⊢
    split at h
    · cases h
    · split at h
      · cases h
      · rename_i h1 h2
        rw [if_neg h1, if_neg h2]
        have := (readV_le (s.drop b)).1
        rw [List.length_drop] at this
        injection h with h
        exact ⟨by omega, by simp, b, rfl⟩
theorem vars_len {s : List UInt8} {o : Option Nat} : ∀ {k a : Nat}, (varsP s o k).2 = some a → (varsP s o k).1.length = k
  | 0, a, _ => rfl
  | k + 1, a, h => by
    obtain ⟨_, h2, b, hb⟩ := vars_in h
    rw [h2, vars_len hb]
/-- At a place these bytes are left. -/
def Lf (s : List UInt8) (a : Nat) (r : List UInt8) : Prop := a ≤ s.length ∧ s.drop a = r
theorem Lf.next {s : List UInt8} {a : Nat} {p r : List UInt8} (h : Lf s a (p ++ r)) : Lf s (a + p.length) r := by
  have hl : (s.drop a).length = p.length + r.length := by rw [h.2, List.length_append]
  rw [List.length_drop] at hl
  have := h.1
  refine ⟨by omega, ?_⟩
  rw [← List.drop_drop, h.2, List.drop_left' rfl]
theorem vars_app {s : List UInt8} {o : Option Nat} {k a n : Nat} {l : List Nat} {r : List UInt8} (h : varsP s o k = (l, some a)) (hn : n ≤ 562949953421311) (hl : Lf s a (varT n ++ r)) :
    varsP s o (k + 1) = (l ++ [n], some (a + (varT n).length)) ∧ Lf s (a + (varT n).length) r := by
  refine ⟨?_, hl.next⟩
  have hz := varT_pos n
  rw [varsP, h]
  simp only
  rw [if_neg (by have := hl.1; omega), hl.2, readV_app hn]
  simp only
  rw [if_neg (by omega)]
theorem vars_ex {s : List UInt8} {o : Option Nat} {k a n : Nat} {l : List Nat} {r : List UInt8} (h : varsP s o k = (l, some a)) (hn : n ≤ 562949953421311) (hl : Lf s a (varT n ++ r)) :
    ∃ b, varsP s o (k + 1) = (l ++ [n], some b) ∧ Lf s b r := ⟨_, vars_app h hn hl⟩
theorem takeP_some {s : List UInt8} {o : Option Nat} {k n : Nat} (h : (varsP s o 1).2 = some k) (hn : num1 (varsP s o 1) = n) : takeP s o = if s.length - k < n then ([], none) else ((s.drop k).take n, some (k + n)) := by
  subst hn; unfold takeP; rw [h]
theorem takeP_none {s : List UInt8} {o : Option Nat} (h : (varsP s o 1).2 = none) : takeP s o = ([], none) := by
  unfold takeP; rw [h]
theorem take_app {s : List UInt8} {a : Nat} {l r : List UInt8} (hn : l.length ≤ 562949953421311) (hl : Lf s a (varT l.length ++ (l ++ r))) : ∃ b, takeP s (some a) = (l, some b) ∧ Lf s b r := by
  obtain ⟨h1, h2⟩ := vars_app (k := 0) (o := some a) (l := []) rfl hn hl
  refine ⟨_, ?_, h2.next⟩
  have h3 : (s.drop (a + (varT l.length).length)).length = l.length + r.length := by rw [h2.2, List.length_append]
  rw [List.length_drop] at h3
  rw [takeP_some (n := l.length) (congrArg Prod.snd h1) (by rw [h1]; rfl), if_neg (by omega), h2.2, List.take_left' rfl]
def prsE (s : List UInt8) (o : Option Nat) : EntT × Option Nat :=
  ((hashN (takeP s (varsP s o 1).2).1, (num1 (varsP s o 1) : Int), ofB (takeP s (varsP s o 1).2).1, (num1 (varsP s (takeP s (varsP s o 1).2).2 1) : Int)), (varsP s (takeP s (varsP s o 1).2).2 1).2)
theorem prsE_app {s : List UInt8} {a : Nat} {e : EntT} {r : List UInt8} (hf : FineE e) (h : Lf s a (entB e ++ r)) : ∃ b, prsE s (some a) = (e, some b) ∧ Lf s b r := by
  obtain ⟨h1, h2, h3, h4, h5, h6⟩ := hf
  obtain ⟨e0, e1, e2, e3⟩ := e
  simp only at h1 h2 h3 h4 h5 h6
  have hl : (toB e2).length = e2.size := toB_len e2
  have hb : entB (e0, e1, e2, e3) ++ r = varT e1.toNat ++ (varT (toB e2).length ++ (toB e2 ++ (varT e3.toNat ++ r))) := by
    simp only [entB, pieceB, varB_int h2 (by omega), varB_int h4 (by omega), varB_nat (show e2.size ≤ 562949953421311 by omega), hl, List.append_assoc]
  rw [hb] at h
  obtain ⟨a1, k1, l1⟩ := vars_ex (k := 0) (o := some a) (l := []) rfl (by omega) h
  obtain ⟨b, k2, l2⟩ := take_app (by omega) l1
  obtain ⟨a3, k3, l3⟩ := vars_ex (k := 0) (o := some b) (l := []) rfl (by omega) l2
  refine ⟨a3, ?_, l3⟩
  rw [prsE, k1]
  simp only [List.nil_append]
  rw [k2]
  simp only
  rw [k3]
  simp only [num1, List.nil_append, List.headD_cons, ofB_toB]
  rw [h1, Int.toNat_of_nonneg h2, Int.toNat_of_nonneg h4]
def prsEs (s : List UInt8) (o : Option Nat) : Nat → List EntT × Option Nat
  | 0 => ([], o)
  | k + 1 => ((prsEs s o k).1 ++ [(prsE s (prsEs s o k).2).1], (prsE s (prsEs s o k).2).2)
theorem prsEs_app : ∀ (n : Nat) (es : List EntT) (s : List UInt8) (a : Nat) (r : List UInt8), es.length = n → (∀ e ∈ es, FineE e) → Lf s a (es.flatMap entB ++ r) → ∃ b, prsEs s (some a) n = (es, some b) ∧ Lf s b r ∧ ∀ k, k ≤ n → ∃ c, (prsEs s (some a) k).2 = some c
  | 0, es, s, a, r, hn, _, h => by
    rw [List.eq_nil_of_length_eq_zero hn] at h ⊢
    exact ⟨a, rfl, h, fun k hk => ⟨a, by rw [show k = 0 by omega]; rfl⟩⟩
  | n + 1, es, s, a, r, hn, hf, h => by
    rcases List.eq_nil_or_concat es with rfl | ⟨p, e, rfl⟩
    · simp at hn
    rw [List.concat_eq_append] at hn hf h ⊢
    rw [List.flatMap_append, List.flatMap_singleton, List.append_assoc] at h
    obtain ⟨b, k1, l1, k2⟩ := prsEs_app n p s a (entB e ++ r) (by simpa using hn) (fun x hx => hf x (List.mem_append_left _ hx)) h
    obtain ⟨c, k3, l3⟩ := prsE_app (hf e (by simp)) l1
    refine ⟨c, by rw [prsEs, k1]; simp only [k3], l3, fun k hk => ?_⟩
    rcases Nat.lt_or_eq_of_le hk with h9 | h9
    · exact k2 k (by omega)
    · rw [h9, prsEs, k1]
      exact ⟨c, by simp only [k3]⟩
/-- An inode of a text, as the reference reads it. -/
def prA (t : List UInt8) : List Nat × Option Nat := varsP t (some 1) 3
def prB (t : List UInt8) : List UInt8 × Option Nat := takeP t (prA t).2
def prC (t : List UInt8) : List Nat × Option Nat := varsP t (prB t).2 1
def prD (t : List UInt8) : List EntT × Option Nat := prsEs t (prC t).2 (num1 (prC t))
def prN (t : List UInt8) : Nod := (((prA t).1.getD 0 0 : Int), ((prA t).1.getD 1 0 : Int), ((prA t).1.getD 2 0 : Int), ofB (prB t).1, (prD t).1)
theorem prs_app {x : Nod} (h : FineN x) : (∃ a, (prC (nodeB x)).2 = some a) ∧ num1 (prC (nodeB x)) = x.2.2.2.2.length ∧ (∀ k, k ≤ x.2.2.2.2.length → ∃ c, (prsEs (nodeB x) (prC (nodeB x)).2 k).2 = some c) ∧ (prD (nodeB x)).2 = some (nodeB x).length ∧ prN (nodeB x) = x := by
  obtain ⟨h1, h2, h3, h4, h5, h6, h7, h8, h9⟩ := h
  obtain ⟨x0, x1, x2, x3, es⟩ := x
  simp only at h1 h2 h3 h4 h5 h6 h7 h8 h9
  have hl : (toB x3).length = x3.size := toB_len x3
  have hb : nodeB (x0, x1, x2, x3, es) = [105] ++ (varT x0.toNat ++ (varT x1.toNat ++ (varT x2.toNat ++ (varT (toB x3).length ++ (toB x3 ++ (varT es.length ++ (es.flatMap entB ++ []))))))) := by
    simp only [nodeB, pieceB, varB_int h1 (by omega), varB_int h3 (by omega), varB_int h5 (by omega), varB_nat (show x3.size ≤ 562949953421311 by omega), varB_nat (show es.length ≤ 562949953421311 by omega), hl, List.append_assoc, List.append_nil, List.cons_append, List.nil_append]
  obtain ⟨T, hT⟩ : ∃ T, T = nodeB (x0, x1, x2, x3, es) := ⟨_, rfl⟩
  rw [← hT] at hb ⊢
  have l0 : Lf T 1 (varT x0.toNat ++ (varT x1.toNat ++ (varT x2.toNat ++ (varT (toB x3).length ++ (toB x3 ++ (varT es.length ++ (es.flatMap entB ++ []))))))) := by
    have : Lf T 0 ([105] ++ (varT x0.toNat ++ (varT x1.toNat ++ (varT x2.toNat ++ (varT (toB x3).length ++ (toB x3 ++ (varT es.length ++ (es.flatMap entB ++ [])))))))) := ⟨by omega, by rw [List.drop_zero, hb]⟩
    exact this.next
  obtain ⟨a1, k1, l1⟩ := vars_ex (k := 0) (o := some 1) (l := []) rfl (by omega) l0
  obtain ⟨a2, k2, l2⟩ := vars_ex k1 (by omega) l1
  obtain ⟨a3, k3, l3⟩ := vars_ex k2 (by omega) l2
  obtain ⟨b, k4, l4⟩ := take_app (by omega) l3
  obtain ⟨a5, k5, l5⟩ := vars_ex (k := 0) (o := some b) (l := []) rfl (by omega) l4
  obtain ⟨c, k6, l6, k7⟩ := prsEs_app es.length es T a5 [] rfl h9 l5
  have e1 : prA T = ([x0.toNat, x1.toNat, x2.toNat], some a3) := k3
  have e2 : prB T = (toB x3, some b) := by rw [prB, e1]; exact k4
  have e3 : prC T = ([es.length], some a5) := by rw [prC, e2]; exact k5
  have e4 : prD T = (es, some c) := by rw [prD, e3]; exact k6
  have hc : c = T.length := by
    have := congrArg List.length l6.2
    rw [List.length_drop] at this
    have := l6.1
    simp at *
    omega
  refine ⟨⟨_, by rw [e3]⟩, by rw [e3]; rfl, fun k hk => by rw [e3]; exact k7 k hk, by rw [e4, hc], ?_⟩
  rw [prN, e1, e2, e4]
  simp only [List.getD_cons_zero, List.getD_cons_succ, ofB_toB, Int.toNat_of_nonneg h1, Int.toNat_of_nonneg h3, Int.toNat_of_nonneg h5]
def prH (t : List UInt8) : List Nat × Option Nat := varsP t (some 1) 2
def prNs (l : List ByteArray) : Nat → List Nod
  | 0 => []
  | k + 1 => prNs l k ++ [prN (txt l (k + 1))]
theorem prNs_len (l : List ByteArray) : ∀ k, (prNs l k).length = k
  | 0 => rfl
  | k + 1 => by rw [prNs, List.length_append, prNs_len l k]; rfl
theorem prH_app {next : Int} {n : Nat} (h0 : 0 ≤ next) (h1 : next ≤ 1000000) (hn : n ≤ 16) : ∃ a, prH (headB next n) = ([next.toNat, n], some a) := by
  have hb : headB next n = [117] ++ (varT next.toNat ++ (varT n ++ [])) := by
    simp only [headB, varB_int h0 (by omega), varB_nat (show n ≤ 562949953421311 by omega), List.append_nil, List.cons_append, List.nil_append]
  have l0 : Lf (headB next n) 1 (varT next.toNat ++ (varT n ++ [])) := by
    have : Lf (headB next n) 0 ([117] ++ (varT next.toNat ++ (varT n ++ []))) := ⟨by omega, by rw [List.drop_zero, hb]⟩
    exact this.next
  obtain ⟨a1, k1, l1⟩ := vars_ex (k := 0) (o := some 1) (l := []) rfl (by omega) l0
  obtain ⟨a2, k2, l2⟩ := vars_ex k1 (by omega) l1
  exact ⟨a2, k2⟩
theorem prNs_app {next : Int} {ns : List Nod} (hn : ns.length ≤ 16) (hf : ∀ x ∈ ns, FineN x) : ∀ k, k ≤ ns.length → prNs (blocksB next ns) k = ns.take k
  | 0, _ => by simp [prNs]
  | k + 1, hk => by
    obtain ⟨x, hx⟩ : ∃ x, ns[k]? = some x := ⟨_, List.getElem?_eq_getElem (by omega)⟩
    rw [prNs, prNs_app hn hf k (by omega), blocksB_at (by omega) hx, (prs_app (hf x (List.mem_of_getElem? hx))).2.2.2.2, List.take_add_one, hx]; rfl
/-- Of the blocks of a right volume all that the reference reads is right, and what is read is that volume. -/
theorem prs_back {next : Int} {ns : List Nod} (h : VolR next ns) : (∃ a, prH (txt (blocksB next ns) 0) = ([next.toNat, ns.length], some a)) ∧
    (∀ k, k < ns.length → ∃ x, txt (blocksB next ns) (k + 1) = nodeB x ∧ FineN x) ∧ prNs (blocksB next ns) ns.length = ns := by
  have hl := h.len
  have hf := nod_fine h
  rw [blocksB_0]
  refine ⟨prH_app (by have := h.lo; omega) (by have := h.hi; omega) hl.2, fun k hk => ?_, by rw [prNs_app hl.2 hf _ (Nat.le_refl _), List.take_length]⟩
  obtain ⟨x, hx⟩ : ∃ x, ns[k]? = some x := ⟨_, List.getElem?_eq_getElem hk⟩
  exact ⟨x, blocksB_at (by omega) hx, hf x (List.mem_of_getElem? hx)⟩
/-- The reference's ways to say no. -/
theorem readS_no1 {l : List ByteArray} (h : (prH (txt l 0)).2 = none) : readB l = none := readB_no fun next ns hv hb => by
  obtain ⟨⟨a, h1⟩, _, _⟩ := prs_back (volB_R hv)
  rw [hb] at h1
  rw [h1] at h; cases h
theorem readS_no2 {l : List ByteArray} (h : 16 < (prH (txt l 0)).1.getD 1 0) : readB l = none := readB_no fun next ns hv hb => by
  obtain ⟨⟨a, h1⟩, _, _⟩ := prs_back (volB_R hv)
  rw [hb] at h1
  rw [h1] at h
  have := (volB_R hv).len.2
  simp at h
  omega
theorem readS_no3 {l : List ByteArray} {k : Nat} (hk : k < (prH (txt l 0)).1.getD 1 0) (h : ∀ x, FineN x → txt l (k + 1) ≠ nodeB x) : readB l = none := readB_no fun next ns hv hb => by
  obtain ⟨⟨a, h1⟩, h2, _⟩ := prs_back (volB_R hv)
  rw [hb] at h1 h2
  rw [h1] at hk
  obtain ⟨x, hx, hf⟩ := h2 k (by simpa using hk)
  exact h x hf hx
theorem readS_no4 {l : List ByteArray} (h : volB ((prH (txt l 0)).1.getD 0 0 : Int) (prNs l ((prH (txt l 0)).1.getD 1 0)) = false) : readB l = none := readB_no fun next ns hv hb => by
  obtain ⟨⟨a, h1⟩, _, h3⟩ := prs_back (volB_R hv)
  rw [hb] at h1 h3
  rw [h1] at h
  simp only [List.getD_cons_zero, List.getD_cons_succ] at h
  rw [h3, Int.toNat_of_nonneg (by have := (volB_R hv).lo; omega), hv] at h
  cases h
theorem readS_no5 {l : List ByteArray} (h : blocksB ((prH (txt l 0)).1.getD 0 0 : Int) (prNs l ((prH (txt l 0)).1.getD 1 0)) ≠ l) : readB l = none := readB_no fun next ns hv hb => by
  obtain ⟨⟨a, h1⟩, _, h3⟩ := prs_back (volB_R hv)
  rw [hb] at h1 h3
  rw [h1] at h
  simp only [List.getD_cons_zero, List.getD_cons_succ] at h
  rw [h3, Int.toNat_of_nonneg (by have := (volB_R hv).lo; omega)] at h
  exact h hb
end Go.Proofs.YtaogikhpglcmjaaGreatDoor

namespace Go.Proofs.YtaogikhpglcmjaaGreatDoor
open Go.RowKit

set_option linter.unusedVariables false
set_option linter.unusedSimpArgs false
open Classical in
noncomputable def sameB (l l' : List ByteArray) : Bool := decide (l = l')
theorem sameB_iff {l l' : List ByteArray} : sameB l l' = true ↔ l = l' := by
  classical
  exact decide_eq_true_iff
theorem sameB_no {l l' : List ByteArray} (h : ¬ l = l') : sameB l l' = false := by
  cases hs : sameB l l' with
  | false => rfl
  | true => exact absurd (sameB_iff.1 hs) h
theorem take_same {l l' : List ByteArray} {i : Nat} {x : ByteArray} (h : l.take i = l'.take i) (h1 : l[i]? = some x) (h2 : l'[i]? = some x) : l.take (i + 1) = l'.take (i + 1) := by
  rw [List.take_add_one, List.take_add_one, h, h1, h2]
set_option maxRecDepth 100000 in
set_option maxHeartbeats 2000000 in
theorem implSame_any (A B : Option Addr) (n c m d : Nat) (l l' : List ByteArray) (w : World) (h : Rd w A n 1 (l.map Value.string)) (h' : Rd w B m 1 (l'.map Value.string)) (hn : n ≤ 1048576) (hm : m ≤ 1048576) :
    Calls Tryz.prog 62 #[.slice A n c, .slice B m d] w fun e w' => e = .returned (.bool (sameB l l')) ∧ Fr w w' := by
  obtain ⟨q, hq⟩ : ∃ q, q = sameB l l' := ⟨_, rfl⟩
  rw [← hq]
  have HQ := Lib.hid hq
  clear hq
  have HL := Lib.hid h.len1
  have HL' := Lib.hid h'.len1
  have G := Lib.hid h
  have G' := Lib.hid h'
  clear h h'
  by_cases hnm : n = m
  case neg =>
    have hnm1 : ¬ (n : Int) = (m : Int) := by omega
    have hnm2 : ((n : Int) != (m : Int)) = true := bne_iff_ne.2 hnm1
    have HE := Lib.hid (show ¬ l = l' from fun e => hnm (by rw [← HL.out, ← HL'.out, e]))
    go_enter Tryz.func62, Tryz.ntmps62
    go_wp2_with fail
    go_ret
    rw [HQ.out, sameB_no HE.out]
    exact ⟨rfl, Below.refl _ _⟩
  subst hnm
  go_enter Tryz.func62, Tryz.ntmps62
  go_wp2_with fail
  go_loopw [14] (fun iv wr => ∃ i : Nat, iv = .int .i64 i ∧ i ≤ n ∧ l.take i = l'.take i ∧ wr = w) (fun iv _ => n - (intOf iv).toNat)
  case atStart => exact ⟨0, rfl, by omega, by simp, rfl⟩
  case round =>
    obtain ⟨i, rfl, hi, ht, rfl⟩ := hrel
    have HTK := Lib.hid ht
    clear ht
    have hi0 : (0 : Int) ≤ (i : Int) := by omega
    by_cases hlt : i < n
    · have hi1 : (i : Int) < (n : Int) := by omega
      obtain ⟨x, hx⟩ := some_at HL.out hlt
      obtain ⟨y, hy⟩ := some_at HL'.out hlt
      obtain ⟨bk, of, rfl, hc⟩ := G.out.get1 hx
      obtain ⟨bk', of', rfl, hc'⟩ := G'.out.get1 hy
      by_cases hxy : x = y
      · subst hxy
        have HN := Lib.hid (take_same HTK.out hx hy)
        clear hx hy
        go_wp2_with fail
        go_roundw
        case rel => exact ⟨i + 1, by go_num, by omega, HN.out, by trivial⟩
        case measure => simp [intOf]; omega
      · have hne : (x.toList == y.toList) = false := str_ne hxy
        have hne2 : (x.toList != y.toList) = true := by simp only [bne, hne]; rfl
        have HE := Lib.hid (show ¬ l = l' from fun e => hxy (by rw [e, hy] at hx; injection hx with hx; exact hx.symm))
        clear hx hy hxy
        go_wp2_with fail
        go_ret
        rw [HQ.out, sameB_no HE.out]
        exact ⟨rfl, Below.refl _ _⟩
    · have hi1 : ¬ (i : Int) < (n : Int) := by omega
      have HE := Lib.hid (show l = l' by
        have := HTK.out
        rwa [List.take_of_length_le (by rw [HL.out]; omega), List.take_of_length_le (by rw [HL'.out]; omega)] at this)
      go_wp2_with fail
      go_ret
      rw [HQ.out, sameB_iff.2 HE.out]
      exact ⟨rfl, Below.refl _ _⟩
set_option maxRecDepth 100000 in
set_option maxHeartbeats 2000000 in
theorem specSame_any (A B : Option Addr) (n c m d : Nat) (l l' : List ByteArray) (w : World) (h : Rd w A n 1 (l.map Value.string)) (h' : Rd w B m 1 (l'.map Value.string)) (hn : n ≤ 1048576) (hm : m ≤ 1048576) :
    Calls Tryz.prog 54 #[.slice A n c, .slice B m d] w fun e w' => e = .returned (.bool (sameB l l')) ∧ Fr w w' := by
  obtain ⟨q, hq⟩ : ∃ q, q = sameB l l' := ⟨_, rfl⟩
  rw [← hq]
  have HQ := Lib.hid hq
  clear hq
  have HL := Lib.hid h.len1
  have HL' := Lib.hid h'.len1
  have G := Lib.hid h
  have G' := Lib.hid h'
  clear h h'
  by_cases hnm : n = m
  case neg =>
    have hnm1 : ¬ (n : Int) = (m : Int) := by omega
    have hnm2 : ((n : Int) != (m : Int)) = true := bne_iff_ne.2 hnm1
    have HE := Lib.hid (show ¬ l = l' from fun e => hnm (by rw [← HL.out, ← HL'.out, e]))
    go_enter Tryz.func54, Tryz.ntmps54
    go_wp2_with fail
    go_ret
    rw [HQ.out, sameB_no HE.out]
    exact ⟨rfl, Below.refl _ _⟩
  subst hnm
  go_enter Tryz.func54, Tryz.ntmps54
  go_wp2_with fail
  go_loopw [5] (fun iv wr => ∃ i : Nat, iv = .int .i64 i ∧ i ≤ n ∧ l.take i = l'.take i ∧ Fr w wr) (fun iv _ => n - (intOf iv).toNat)
  case atStart => exact ⟨0, rfl, by omega, by simp, Below.refl _ _⟩
  case round =>
    obtain ⟨i, rfl, hi, ht, hf⟩ := hrel
    have HTK := Lib.hid ht
    have HF := Lib.hid hf
    clear ht hf
    have hi0 : (0 : Int) ≤ (i : Int) := by omega
    by_cases hlt : i < n
    · have hi1 : (i : Int) < (n : Int) := by omega
      obtain ⟨x, hx⟩ := some_at HL.out hlt
      obtain ⟨y, hy⟩ := some_at HL'.out hlt
      obtain ⟨bk, of, rfl, hc⟩ := (G.out.fr HF.out).get1 hx
      obtain ⟨bk', of', rfl, hc'⟩ := (G'.out.fr HF.out).get1 hy
      have H := ((Hp.start w).go HF.out).drew
      have z0 : wr.drew.cell? ⟨bk, of + i, none⟩ = some (.string x) := hc
      have z1 : wr.drew.cell? ⟨bk', of' + i, none⟩ = some (.string y) := hc'
      by_cases hxy : x = y
      · subst hxy
        have HN := Lib.hid (take_same HTK.out hx hy)
        clear hx hy hc hc'
        go_wp2_with fail
        refine wp_region_held_drew (S := fun w' => w'.cell? ⟨bk, of + i, none⟩ = some (.string x) ∧ w'.cell? ⟨bk', of' + i, none⟩ = some (.string x)) (by kernel_rfl) ?_ (fun hHeld => ?_)
        · exact ⟨z0, z1⟩
        obtain ⟨u0, hu0⟩ : ∃ uu : World, uu = wr.drew := ⟨_, rfl⟩
        rw [← hu0] at H hHeld ⊢
        clear hu0
        refine wpT 0 ?_
        refine wpT 1 ?_
        refine wpT 2 ?_
        refine wpT 3 ?_
        refine wpT 4 ?_
        refine wpT 5 ?_
        refine wpT 6 ?_
        refine wpT 7 ?_
        refine wpT 8 ?_
        refine wpAnyH_done (by kernel_rfl) ?_ _
        go_wp2_with fail
        go_roundw
        case rel => exact ⟨i + 1, by go_num, by omega, HN.out, H.fr⟩
        case measure => simp [intOf]; omega
      · have hne : (x.toList == y.toList) = false := str_ne hxy
        have hne2 : (x.toList != y.toList) = true := by simp only [bne, hne]; rfl
        have HE := Lib.hid (show ¬ l = l' from fun e => hxy (by rw [e, hy] at hx; injection hx with hx; exact hx.symm))
        clear hx hy hxy hc hc'
        go_wp2_with fail
        refine wp_region_held_drew (S := fun w' => w'.cell? ⟨bk, of + i, none⟩ = some (.string x) ∧ w'.cell? ⟨bk', of' + i, none⟩ = some (.string y)) (by kernel_rfl) ?_ (fun hHeld => ?_)
        · exact ⟨z0, z1⟩
        obtain ⟨u0, hu0⟩ : ∃ uu : World, uu = wr.drew := ⟨_, rfl⟩
        rw [← hu0] at H hHeld ⊢
        clear hu0
        refine wpT 0 ?_
        refine wpT 1 ?_
        refine wpT 2 ?_
        refine wpT 3 ?_
        refine wpT 4 ?_
        refine wpT 5 ?_
        refine wpT 6 ?_
        refine wpT 7 ?_
        refine wpT 8 ?_
        refine wpAnyH_done (by kernel_rfl) ?_ _
        go_wp2_with fail
        go_ret
        rw [HQ.out, sameB_no HE.out]
        exact ⟨rfl, H.fr⟩
    · have hi1 : ¬ (i : Int) < (n : Int) := by omega
      have HE := Lib.hid (show l = l' by
        have := HTK.out
        rwa [List.take_of_length_le (by rw [HL.out]; omega), List.take_of_length_le (by rw [HL'.out]; omega)] at this)
      go_wp2_with fail
      go_ret
      rw [HQ.out, sameB_iff.2 HE.out]
      exact ⟨rfl, HF.out⟩
end Go.Proofs.YtaogikhpglcmjaaGreatDoor
