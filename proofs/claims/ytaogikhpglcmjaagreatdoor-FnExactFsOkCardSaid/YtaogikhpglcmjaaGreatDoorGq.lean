/-
  Many texts in one: NodeS, Has.
-/
import Derived.Test.YtaogikhpglcmjaaGreatDoorGj
import Derived.Deep.RegionHeld3
import Derived.Test.YtaogikhpglcmjaaGreatDoorGc
import Derived.Test.YtaogikhpglcmjaaGreatDoorGb
namespace Go.Proofs.YtaogikhpglcmjaaGreatDoor
open Go.RowKit

set_option linter.unusedVariables false
set_option linter.unusedSimpArgs false
def nodes (L : List (Value × Nod)) : List Nod := L.map (·.2)
theorem nodes_len (L : List (Value × Nod)) : (nodes L).length = L.length := by simp [nodes]
/-- How many marks the first inodes take. -/
def totN : List (Value × Nod) → Nat
  | [] => 0
  | p :: L => 4 + 4 * p.2.2.2.2.2.length + totN L
theorem totN_append : ∀ (A B : List (Value × Nod)), totN (A ++ B) = totN A + totN B
  | [], B => by simp [totN]
  | a :: A, B => by rw [List.cons_append, totN, totN, totN_append A B]; omega
theorem totN_at {L : List (Value × Nod)} {i : Nat} {p : Value × Nod} (h : L[i]? = some p) : totN (L.take (i + 1)) = totN (L.take i) + (4 + 4 * p.2.2.2.2.2.length) := by
  rw [List.take_add_one, h, totN_append]; rfl
theorem totN_le (L : List (Value × Nod)) (i : Nat) : totN (L.take i) ≤ totN L := by
  have e := totN_append (L.take i) (L.drop i)
  rw [List.take_append_drop] at e
  omega
def mkN (p : Value × Nod) (k : Nat) : Value × Nod := (p.1, (k : Int), ((k + 1 : Nat) : Int), ((k + 2 : Nat) : Int), markS (k + 3), marksEnt p.2.2.2.2.2.length (k + 4))
def marksN : List (Value × Nod) → Nat → List (Value × Nod)
  | [], _ => []
  | p :: L, k => mkN p k :: marksN L (k + (4 + 4 * p.2.2.2.2.2.length))
theorem marksN_len : ∀ (L : List (Value × Nod)) (k : Nat), (marksN L k).length = L.length
  | [], _ => rfl
  | p :: L, k => by rw [marksN, List.length_cons, marksN_len L, List.length_cons]
theorem marksN_append : ∀ (A B : List (Value × Nod)) (k : Nat), marksN (A ++ B) k = marksN A k ++ marksN B (k + totN A)
  | [], B, k => by simp [marksN, totN]
  | a :: A, B, k => by
    rw [List.cons_append, marksN, marksN_append A B, marksN, totN, List.cons_append]
    congr 2
    congr 1
    omega
theorem split_at {α : Type} {L : List α} {i : Nat} {p : α} (h : L[i]? = some p) : L = L.take i ++ p :: L.drop (i + 1) := by
  obtain ⟨hi, e⟩ := List.getElem?_eq_some_iff.1 h
  rw [← e, ← List.drop_eq_getElem_cons hi, List.take_append_drop]
theorem marksN_at {L : List (Value × Nod)} {i k : Nat} {p : Value × Nod} (h : L[i]? = some p) : (marksN L k)[i]? = some (mkN p (k + totN (L.take i))) := by
  have hi := (List.getElem?_eq_some_iff.1 h).1
  have hl : (marksN (L.take i) k).length = i := by rw [marksN_len, List.length_take]; omega
  rw [show (marksN L k)[i]? = (marksN (L.take i ++ p :: L.drop (i + 1)) k)[i]? from by rw [← split_at h], marksN_append, List.getElem?_append_right (by omega), hl, Nat.sub_self, marksN]
  rfl
/-- The inodes, the first i marked. -/
def midN (L : List (Value × Nod)) (k i : Nat) : List (Value × Nod) := marksN (L.take i) k ++ L.drop i
theorem midN_len {L : List (Value × Nod)} {k i : Nat} : (midN L k i).length = L.length := by
  rw [midN, List.length_append, marksN_len, List.length_take, List.length_drop]; omega
theorem midN_0 (L : List (Value × Nod)) (k : Nat) : midN L k 0 = L := by simp [midN, marksN]
theorem midN_all {L : List (Value × Nod)} {k n : Nat} (h : L.length = n) : midN L k n = marksN L k := by
  rw [midN, List.take_of_length_le (by omega), List.drop_of_length_le (by omega), List.append_nil]
theorem midN_at {L : List (Value × Nod)} {k i : Nat} {p : Value × Nod} (h : L[i]? = some p) : (midN L k i)[i]? = some p := by
  have hi := (List.getElem?_eq_some_iff.1 h).1
  have hl : (marksN (L.take i) k).length = i := by rw [marksN_len, List.length_take]; omega
  rw [midN, List.getElem?_append_right (by omega), hl, Nat.sub_self, List.getElem?_drop]; exact h
theorem midN_set {L : List (Value × Nod)} {k i : Nat} {p : Value × Nod} (h : L[i]? = some p) : (midN L k i).set i (mkN p (k + totN (L.take i))) = midN L k (i + 1) := by
  obtain ⟨hi, e⟩ := List.getElem?_eq_some_iff.1 h
  have hl : (marksN (L.take i) k).length = i := by rw [marksN_len, List.length_take]; omega
  have ht : L.take (i + 1) = L.take i ++ [p] := by rw [List.take_add_one, h]; rfl
  rw [midN, List.set_append_right _ _ (by omega), hl, Nat.sub_self, midN, ht, marksN_append, List.drop_eq_getElem_cons hi, List.set_cons_zero, List.append_assoc]; rfl

theorem eqInode_any (x0 x1 x2 : Int) (x3 : ByteArray) (es : List (Int × Int × ByteArray × Int)) (B : Option Addr) (m d : Nat) (y0 y1 y2 : Int) (y3 : ByteArray) (fs : List (Int × Int × ByteArray × Int)) (C : Option Addr) (q r : Nat) (w : World)
    (hB : Rd w B m 4 (es.flatMap cEnt)) (hC : Rd w C q 4 (fs.flatMap cEnt)) (hm : m ≤ 1048576) (hq : q ≤ 1048576) :
    Calls Tryz.prog 64 #[.agg #[.int .i64 x0, .int .i64 x1, .int .i64 x2, .string x3, .slice B m d], .agg #[.int .i64 y0, .int .i64 y1, .int .i64 y2, .string y3, .slice C q r]] w fun e w' =>
      e = .returned (.bool (decide ((x0, x1, x2, x3, es) = (y0, y1, y2, y3, fs)))) ∧ Fr w w' := by
  by_cases h0 : x0 = y0
  · by_cases h1 : x1 = y1
    · by_cases h2 : x2 = y2
      · by_cases h3 : x3 = y3
        · subst h3
          have hss : (x3.toList != x3.toList) = false := bne_self_eq_false _
          have hsb : (x3.toList == x3.toList) = true := beq_self_eq_true _
          by_cases hef : es = fs
          · have he : decide ((x0, x1, x2, x3, es) = (y0, y1, y2, x3, fs)) = true := decide_eq_true (by rw [h0, h1, h2, hef])
            rw [he]
            go_enter Tryz.func64, Tryz.ntmps64
            go_wp2_with fail
            refine (eqEntS_any B C m q d r es fs _ (hB.fr (by repeat (first | exact Below.refl _ _ | refine Below.alloc ?_ (by first | (simp; done) | (simp; omega)) _ | refine Below.setCell ?_ (by first | (simp; done) | (simp; omega)) _))) (hC.fr (by repeat (first | exact Below.refl _ _ | refine Below.alloc ?_ (by first | (simp; done) | (simp; omega)) _ | refine Below.setCell ?_ (by first | (simp; done) | (simp; omega)) _))) hm hq).mono ?_
            rintro e w2 ⟨rfl, f2⟩
            rw [decide_eq_true hef]
            have f3 : Fr w w2 := Fr.then (by repeat (first | exact Below.refl _ _ | refine Below.alloc ?_ (by first | (simp; done) | (simp; omega)) _ | refine Below.setCell ?_ (by first | (simp; done) | (simp; omega)) _)) f2
            go_wp2_with fail
            go_ret
            exact ⟨rfl, f3⟩
          · have he : decide ((x0, x1, x2, x3, es) = (y0, y1, y2, x3, fs)) = false := decide_eq_false (by simp [hef])
            rw [he]
            go_enter Tryz.func64, Tryz.ntmps64
            go_wp2_with fail
            refine (eqEntS_any B C m q d r es fs _ (hB.fr (by repeat (first | exact Below.refl _ _ | refine Below.alloc ?_ (by first | (simp; done) | (simp; omega)) _ | refine Below.setCell ?_ (by first | (simp; done) | (simp; omega)) _))) (hC.fr (by repeat (first | exact Below.refl _ _ | refine Below.alloc ?_ (by first | (simp; done) | (simp; omega)) _ | refine Below.setCell ?_ (by first | (simp; done) | (simp; omega)) _))) hm hq).mono ?_
            rintro e w2 ⟨rfl, f2⟩
            rw [decide_eq_false hef]
            have f3 : Fr w w2 := Fr.then (by repeat (first | exact Below.refl _ _ | refine Below.alloc ?_ (by first | (simp; done) | (simp; omega)) _ | refine Below.setCell ?_ (by first | (simp; done) | (simp; omega)) _)) f2
            go_wp2_with fail
            go_ret
            exact ⟨rfl, f3⟩
        · have hb3 : (x3.toList == y3.toList) = false := str_ne h3
          go_enter Tryz.func64, Tryz.ntmps64
          go_wp2
          go_ret
          exact ⟨ret_bool (by simp [h3]), (by repeat (first | exact Below.refl _ _ | refine Below.alloc ?_ (by first | (simp; done) | (simp; omega)) _ | refine Below.setCell ?_ (by first | (simp; done) | (simp; omega)) _))⟩
      · go_enter Tryz.func64, Tryz.ntmps64
        go_wp2
        go_ret
        exact ⟨ret_bool (by simp [h2]), (by repeat (first | exact Below.refl _ _ | refine Below.alloc ?_ (by first | (simp; done) | (simp; omega)) _ | refine Below.setCell ?_ (by first | (simp; done) | (simp; omega)) _))⟩
    · go_enter Tryz.func64, Tryz.ntmps64
      go_wp2
      go_ret
      exact ⟨ret_bool (by simp [h1]), (by repeat (first | exact Below.refl _ _ | refine Below.alloc ?_ (by first | (simp; done) | (simp; omega)) _ | refine Below.setCell ?_ (by first | (simp; done) | (simp; omega)) _))⟩
  · go_enter Tryz.func64, Tryz.ntmps64
    go_wp2
    go_ret
    exact ⟨ret_bool (by simp [h0]), (by repeat (first | exact Below.refl _ _ | refine Below.alloc ?_ (by first | (simp; done) | (simp; omega)) _ | refine Below.setCell ?_ (by first | (simp; done) | (simp; omega)) _))⟩
set_option maxRecDepth 100000 in
set_option maxHeartbeats 4000000 in
theorem eqInodeS_any (A B : Option Addr) (n m c d : Nat) (L M : List (Value × Nod)) (w : World) (h : RdN w A n L) (h' : RdN w B m M) (hn : n ≤ 1048576) (hm : m ≤ 1048576) (hL : ∀ p ∈ L, p.2.2.2.2.2.length ≤ 1048576) (hM : ∀ p ∈ M, p.2.2.2.2.2.length ≤ 1048576) :
    Calls Tryz.prog 27 #[.slice A n c, .slice B m d] w fun e w' => e = .returned (.bool (decide (nodes L = nodes M))) ∧ Fr w w' := by
  have HL := Lib.hid (show (nodes L).length = n by rw [nodes_len]; exact h.len)
  have HM := Lib.hid (show (nodes M).length = m by rw [nodes_len]; exact h'.len)
  have HL2 := Lib.hid h.len
  have HM2 := Lib.hid h'.len
  by_cases hnm : n = m
  · subst hnm
    go_enter Tryz.func27, Tryz.ntmps27
    go_wp2_with fail
    go_loopw [5] (fun i wr => ∃ k : Nat, k ≤ n ∧ i = .int .i64 k ∧ (nodes L).take k = (nodes M).take k ∧ Fr w wr) (fun i _ => n - (intOf i).toNat)
    case atStart => exact ⟨0, Nat.zero_le _, rfl, by simp, Below.refl _ _⟩
    case round =>
      obtain ⟨k, hk, rfl, htake, hfr⟩ := hrel
      have HT := Lib.hid htake
      by_cases hlt : k < n
      · obtain ⟨⟨v, x0, x1, x2, x3, es⟩, hx⟩ := some_at HL2.out hlt
        obtain ⟨⟨v', y0, y1, y2, y3, fs⟩, hy⟩ := some_at HM2.out hlt
        obtain ⟨bk, of, B1, d1, rfl, e1, r1, c1⟩ := (h.fr hfr).elem hx
        obtain ⟨bk', of', B2, d2, rfl, e2, r2, c2⟩ := (h'.fr hfr).elem hy
        simp only at e1 e2 r1 r2
        subst e1 e2
        have ca0 := c1 0 _ rfl; simp only [Nat.add_zero] at ca0
        have ca1 := c1 1 _ rfl
        have ca2 := c1 2 _ rfl
        have ca3 := c1 3 _ rfl
        have ca4 := c1 4 _ rfl
        have cb0 := c2 0 _ rfl; simp only [Nat.add_zero] at cb0
        have cb1 := c2 1 _ rfl
        have cb2 := c2 2 _ rfl
        have cb3 := c2 3 _ rfl
        have cb4 := c2 4 _ rfl
        have HX := Lib.hid (show (nodes L)[k]? = some (x0, x1, x2, x3, es) by simp [nodes, hx])
        have HY := Lib.hid (show (nodes M)[k]? = some (y0, y1, y2, y3, fs) by simp [nodes, hy])
        have HF := Lib.hid hfr
        have hle := hL _ (List.mem_of_getElem? hx)
        have hlf := hM _ (List.mem_of_getElem? hy)
        obtain ⟨bb, hbb, hcall⟩ : ∃ bb, decide ((x0, x1, x2, x3, es) = (y0, y1, y2, y3, fs)) = bb ∧ ∀ w2, Fr wr w2 → Calls Tryz.prog 64 #[.agg #[.int .i64 x0, .int .i64 x1, .int .i64 x2, .string x3, .slice B1 es.length d1], .agg #[.int .i64 y0, .int .i64 y1, .int .i64 y2, .string y3, .slice B2 fs.length d2]] w2 fun e w' => e = .returned (.bool bb) ∧ Fr w2 w' :=
          ⟨_, rfl, fun w2 f2 => eqInode_any x0 x1 x2 x3 es B1 _ d1 y0 y1 y2 y3 fs B2 _ d2 w2 (r1.fr f2) (r2.fr f2) hle hlf⟩
        have HBB := Lib.hid hbb
        have HC := Lib.hid hcall
        clear h h' hx hy htake hfr c1 c2 r1 r2 hbb hcall hL hM hle hlf
        cases bb
        · go_wp2_with fail
          go_still_tail 8, (by kernel_rfl)
          go_wp2_with fail
          refine (HC.out _ (Fr.on (Below.refl _ _) 1)).mono ?_
          rintro e w2 ⟨rfl, f2⟩
          go_wp2
          go_ret
          have e : nodes L ≠ nodes M := ne_of_at HX.out HY.out (of_decide_eq_false HBB.out)
          exact ⟨ret_bool (by simp [e]), HF.out.then (Fr.then (Fr.on (Below.refl _ _) 1) f2)⟩
        · go_wp2_with fail
          go_still_tail 8, (by kernel_rfl)
          go_wp2_with fail
          refine (HC.out _ (Fr.on (Below.refl _ _) 1)).mono ?_
          rintro e w2 ⟨rfl, f2⟩
          go_wp2
          go_roundw
          case rel => exact ⟨k + 1, by omega, by go_num, take_eq_step HT.out HX.out (of_decide_eq_true HBB.out ▸ HY.out), HF.out.then (Fr.then (Fr.on (Below.refl _ _) 1) f2)⟩
          case measure => simp [intOf]; omega
      · go_wp2
        go_ret
        have e : nodes L = nodes M := take_eq_all (n := n) (by rw [show n = k from by omega]; exact HT.out) HL.out HM.out
        exact ⟨by simp [e], hfr⟩
  · go_enter Tryz.func27, Tryz.ntmps27
    go_wp2
    go_ret
    have e : nodes L ≠ nodes M := fun e => hnm (by rw [← HL.out, ← HM.out, e])
    exact ⟨by simp [e], Below.refl _ _⟩
set_option maxRecDepth 100000 in
set_option maxHeartbeats 4000000 in
theorem heldInodeS_any (A : Option Addr) (n c k : Nat) (L : List (Value × Nod)) (w : World) (h : RdN w A n (marksN L k)) (hn : n ≤ 1048576) (ht : totN L ≤ 60000000) (hk : k ≤ 900000000000) :
    Calls Tryz.prog 31 #[.slice A n c, .int .i64 k] w fun e w' => e = .returned (.int .i64 ((k + totN L : Nat) : Int)) ∧ Fr w w' := by
  have HL := Lib.hid (show L.length = n by rw [← marksN_len L k]; exact h.len)
  have G := Lib.hid h
  clear h
  go_enter Tryz.func31, Tryz.ntmps31
  go_wp2_with fail
  go_loopw [1, 5] (fun tv iv wr => ∃ i : Nat, iv = .int .i64 i ∧ tv = .int .i64 ((k + totN (L.take i) : Nat) : Int) ∧ i ≤ n ∧ Fr w wr) (fun _ iv _ => n - (intOf iv).toNat)
  case atStart => exact ⟨0, rfl, by simp [totN], by omega, Below.refl _ _⟩
  case round =>
    obtain ⟨i, rfl, rfl, hile, hf⟩ := hrel
    have htl := totN_le L i
    by_cases hlt : i < n
    · obtain ⟨p, hx⟩ := some_at HL.out hlt
      have hst := totN_at hx
      have htl2 := totN_le L (i + 1)
      obtain ⟨b1, o1, B1, d1, rfl, e1, r1, c1⟩ := (G.out.fr hf).elem (marksN_at (k := k) hx)
      obtain ⟨v, x0, x1, x2, x3, es⟩ := p
      simp only [mkN, marksEnt_len] at e1 r1
      obtain ⟨t, ht⟩ : ∃ t, t = k + totN (L.take i) := ⟨_, rfl⟩
      obtain ⟨t3, ht3⟩ : ∃ x, x = t + 3 := ⟨_, rfl⟩
      obtain ⟨t4, ht4⟩ : ∃ x, x = t3 + 1 := ⟨_, rfl⟩
      have ht4b : t + 4 = t4 := by omega
      rw [← ht] at r1 c1 ⊢
      rw [ht4b] at r1
      have ca0 : wr.cell? ⟨b1, o1 + i * 5, none⟩ = some (.int .i64 (t : Int)) := c1 0 _ rfl
      have ca1 : wr.cell? ⟨b1, o1 + i * 5 + 1, none⟩ = some (.int .i64 ((t : Int) + 1)) := c1 1 _ rfl
      have ca2 : wr.cell? ⟨b1, o1 + i * 5 + 2, none⟩ = some (.int .i64 ((t : Int) + 1 + 1)) := by rw [show (t : Int) + 1 + 1 = ((t + 2 : Nat) : Int) by omega]; exact c1 2 _ rfl
      have ca3 : wr.cell? ⟨b1, o1 + i * 5 + 3, none⟩ = some (.string (markS t3)) := by rw [ht3]; exact c1 3 _ rfl
      have ca4 : wr.cell? ⟨b1, o1 + i * 5 + 4, none⟩ = some (.slice B1 es.length d1) := by rw [← e1]; exact c1 4 _ rfl
      have hi0 : (0 : Int) ≤ (i : Int) := by omega
      have hi1 : (i : Int) < (n : Int) := by omega
      have hp3 : (t : Int) + 1 + 1 + 1 = (t3 : Int) := by omega
      have hp4 : (t3 : Int) + 1 = (t4 : Int) := by omega
      have hb3 : t3 ≤ 1000000000000 := by omega
      have hb4 : t4 ≤ 1000000000000 := by omega
      have hle : es.length ≤ 16777216 := by simp only at hst; omega
      have HF := Lib.hid hf
      have HS := Lib.hid (show t4 + es.length * 4 = k + totN (L.take (i + 1)) by simp only at hst; omega)
      clear hx hf hst ht htl htl2 c1 e1 ht3 ht4 ht4b
      have hcd : wr.drew.cell? ⟨b1, o1 + i * 5 + 3, none⟩ = some (.string (markS t3)) := by simpa using ca3
      go_wp2_with fail
      go_region_held3 (fun w' => w'.cell? ⟨b1, o1 + i * 5 + 3, none⟩ = some (.string (markS t3)))
        (first | exact hcd | exact hc2)
        ((first
          | (go_at_call 29
             refine (markText_any t3 _ (by omega)).mono ?_
             rintro e w2 ⟨rfl, f2⟩
             have hc2 := cell_later f2 hcd
             have F2 := (Fr.drew_ _).then f2)))
      replace ca4 := fr_cellM F2 ca4
      have r2 := r1.fr F2
      go_wp2_with fail
      refine (heldEntS_any B1 es.length d1 t4 _ r2 hle (by omega)).mono ?_
      rintro e w5 ⟨rfl, f5⟩
      rw [HS.out]
      obtain ⟨t2, ht2⟩ : ∃ t, t = k + totN (L.take (i + 1)) := ⟨_, rfl⟩
      have HT2 := Lib.hid ht2
      rw [← ht2]
      have ht0 : ¬ ((t2 : Int) < 0) := by omega
      clear ht2
      go_wp2_with fail
      go_roundw
      case rel => exact ⟨i + 1, by go_num, by rw [HT2.out], by omega, (HF.out.then F2).then f5⟩
      case measure => simp [intOf]; omega
    · have hge : ¬ ((i : Int) < (n : Int)) := by omega
      have ht : L.take i = L := List.take_of_length_le (by rw [HL.out]; omega)
      rw [ht]
      go_wp2_with fail
      go_ret
      exact ⟨rfl, hf⟩
set_option maxRecDepth 100000 in
set_option maxHeartbeats 4000000 in
theorem markInodeS_any (A : Option Addr) (n c k : Nat) (L : List (Value × Nod)) (w : World) (h : Ob.ok w (obN (.slice A n c) n L)) (hn : n ≤ 1048576) (ht : totN L ≤ 60000000) (hk : k ≤ 900000000000) :
    Calls Tryz.prog 30 #[.slice A n c, .int .i64 k] w fun e w' => e = .returned (.int .i64 ((k + totN L : Nat) : Int)) ∧ Hp (Row.blocks (rowN (.slice A n c) n L :: L.map rowE)) w w' [obN (.slice A n c) n (marksN L k)] := by
  have HL := Lib.hid (show L.length = n from (obN_rd h rfl).len)
  have H0 := (Hp.start_many h).split2
  generalize Row.blocks (rowN (.slice A n c) n L :: L.map rowE) = W at H0 ⊢
  have H1 : Hp W w w [.row 90 5 (.slice A n c) n ((midN L k 0).flatMap cNV), .many ((midN L k 0).map rowE)] := by rw [midN_0]; exact H0
  clear H0 h
  go_enter Tryz.func30, Tryz.ntmps30
  go_wp2_with fail
  go_loopw [1, 5] (fun tv iv wr => ∃ i : Nat, iv = .int .i64 i ∧ tv = .int .i64 ((k + totN (L.take i) : Nat) : Int) ∧ i ≤ n ∧ Hp W w wr [.row 90 5 (.slice A n c) n ((midN L k i).flatMap cNV), .many ((midN L k i).map rowE)]) (fun _ iv _ => n - (intOf iv).toNat)
  case atStart => exact ⟨0, rfl, by simp [totN], by omega, H1⟩
  case round =>
    clear H1
    obtain ⟨i, rfl, rfl, hile, H⟩ := hrel
    have htl := totN_le L i
    by_cases hlt : i < n
    · obtain ⟨p, hx⟩ := some_at HL.out hlt
      have hst := totN_at hx
      have htl2 := totN_le L (i + 1)
      have hms := midN_set (k := k) hx
      have hm0 := midN_at (k := k) hx
      obtain ⟨v, x0, x1, x2, x3, es⟩ := p
      obtain ⟨g, c', e, _⟩ := H.form 0 rfl (by omega)
      injection e with e1 _ e2
      subst e1 e2
      obtain ⟨B1, d1, e1, _⟩ := rowE_shape ((H.ok _ (List.mem_of_getElem? (show _ = some _ from (rfl : [Ob.row 90 5 (.slice (some ⟨g, 0, none⟩) n c) n ((midN L k i).flatMap cNV), .many ((midN L k i).map rowE)][1]? = some (.many ((midN L k i).map rowE)))))).1 (rowE (v, x0, x1, x2, x3, es)) (List.mem_map_of_mem (List.mem_of_getElem? hm0)))
      simp only at e1
      subst e1
      obtain ⟨M, hM⟩ : ∃ M, M = midN L k i := ⟨_, rfl⟩
      rw [← hM] at H hms hm0
      obtain ⟨t, ht'⟩ : ∃ t, t = k + totN (L.take i) := ⟨_, rfl⟩
      obtain ⟨t3, ht3⟩ : ∃ x, x = t + 3 := ⟨_, rfl⟩
      obtain ⟨t4, ht4⟩ : ∃ x, x = t3 + 1 := ⟨_, rfl⟩
      rw [← ht'] at hms ⊢
      have hmk : mkN (.slice B1 es.length d1, x0, x1, x2, x3, es) t = (.slice B1 es.length d1, (t : Int), (t : Int) + 1, (t : Int) + 1 + 1, markS t3, marksEnt es.length t4) := by rw [ht4, ht3, show (t : Int) + 1 + 1 = ((t + 2 : Nat) : Int) by omega]; rfl
      have hms := (show M.set i (.slice B1 es.length d1, (t : Int), (t : Int) + 1, (t : Int) + 1 + 1, markS t3, marksEnt es.length t4) = midN L k (i + 1) by rw [← hmk]; exact hms)
      have HMS := Lib.hid hms
      have hi0 : (0 : Int) ≤ (i : Int) := by omega
      have hi1 : (i : Int) < (n : Int) := by omega
      have hp3 : (t : Int) + 1 + 1 + 1 = (t3 : Int) := by omega
      have hp4 : (t3 : Int) + 1 = (t4 : Int) := by omega
      have hb3 : t3 ≤ 1000000000000 := by omega
      have hb4 : t4 ≤ 1000000000000 := by omega
      have hle : es.length ≤ 16777216 := by simp only at hst; omega
      have HS := Lib.hid (show t4 + es.length * 4 = k + totN (L.take (i + 1)) by simp only at hst; omega)
      have hil : i < M.length := (List.getElem?_eq_some_iff.1 hm0).1
      have HM0 := Lib.hid hm0
      clear hx hst ht' htl htl2 ht3 ht4 hmk hms hm0 hM
      -- the three numbers
      have f0 := H.free 0 rfl (i * 5)
      have f1 := H.free 0 rfl (i * 5 + 1)
      have f2 := H.free 0 rfl (i * 5 + 2)
      have c0 := H.atL (f := cNV) 0 rfl cNV_len HM0.out (r := 0) rfl
      have c1 := H.atL (f := cNV) 0 rfl cNV_len HM0.out (r := 1) rfl
      have c2 := H.atL (f := cNV) 0 rfl cNV_len HM0.out (r := 2) rfl
      simp only [Nat.add_zero] at c0
      have H2 := H.putL (f := cNV) 0 rfl cNV_len i 0 (.slice B1 es.length d1, (t : Int), x1, x2, x3, es) (.int .i64 (t : Int)) HM0.out (by decide) rfl
      have H3 := H2.putL (f := cNV) 0 rfl cNV_len i 1 (.slice B1 es.length d1, (t : Int), (t : Int) + 1, x2, x3, es) (.int .i64 ((t : Int) + 1)) (List.getElem?_set_self hil) (by decide) rfl
      have H4 := H3.putL (f := cNV) 0 rfl cNV_len i 2 (.slice B1 es.length d1, (t : Int), (t : Int) + 1, (t : Int) + 1 + 1, x3, es) (.int .i64 ((t : Int) + 1 + 1)) (List.getElem?_set_self (by rw [List.length_set]; exact hil)) (by decide) rfl
      simp only [List.set_set, Nat.add_zero] at H4
      have H5 := Lib.hid (show Hp W w _ [.row 90 5 (.slice (some ⟨g, 0, none⟩) n c) n ((M.set i (.slice B1 es.length d1, (t : Int), (t : Int) + 1, (t : Int) + 1 + 1, x3, es)).flatMap cNV), .many (M.map rowE)] from H4)
      clear H H2 H3 H4
      go_wp2_with fail
      refine (markText_any t3 _ (by omega)).mono ?_
      rintro e w2 ⟨rfl, fm⟩
      have H6 := H5.out.go fm
      clear fm f0 f1 f2 c0 c1 c2 H5
      have hx6 : (M.set i (.slice B1 es.length d1, (t : Int), (t : Int) + 1, (t : Int) + 1 + 1, x3, es))[i]? = some (.slice B1 es.length d1, (t : Int), (t : Int) + 1, (t : Int) + 1 + 1, x3, es) := List.getElem?_set_self hil
      have f3 := H6.free 0 rfl (i * 5 + 3)
      have c3 := H6.atL (f := cNV) 0 rfl cNV_len hx6 (r := 3) rfl
      have c4 := H6.atL (f := cNV) 0 rfl cNV_len hx6 (r := 4) rfl
      have H7 := H6.putL (f := cNV) 0 rfl cNV_len i 3 (.slice B1 es.length d1, (t : Int), (t : Int) + 1, (t : Int) + 1 + 1, markS t3, es) (.string (markS t3)) hx6 (by decide) rfl
      simp only [List.set_set] at H7
      have H8 := Lib.hid (show Hp W w _ [.row 90 5 (.slice (some ⟨g, 0, none⟩) n c) n ((M.set i (.slice B1 es.length d1, (t : Int), (t : Int) + 1, (t : Int) + 1 + 1, markS t3, es)).flatMap cNV), .many (M.map rowE)] from H7)
      clear H6 H7 hx6
      go_wp2_with fail
      have H9 := H8.out
      have hrw : (M.map rowE)[i]? = some (rowE (.slice B1 es.length d1, x0, x1, x2, x3, es)) := by rw [List.getElem?_map, HM0.out]; rfl
      refine (markEntS_any B1 es.length d1 t4 0 _ _ ((H9.ok _ (List.mem_cons_of_mem _ List.mem_cons_self)).1 _ (List.mem_of_getElem? hrw)) hle (by omega)).mono ?_
      rintro e w5 ⟨rfl, o5, g5⟩
      have ha := H9.turnIn 1 rfl i hrw (r' := rowE (.slice B1 es.length d1, (t : Int), (t : Int) + 1, (t : Int) + 1 + 1, markS t3, marksEnt es.length t4)) (Gr.of_grown g5) (by
        show w5.ownsRow 0 _ 4 (.slice B1 es.length d1) (marksEnt es.length t4).length _
        rw [marksEnt_len]; exact o5) (.inl rfl)
      have H10 := Lib.hid (show Hp W w w5 [.row 90 5 (.slice (some ⟨g, 0, none⟩) n c) n ((midN L k (i + 1)).flatMap cNV), .many ((midN L k (i + 1)).map rowE)] by
        have q1 : (M.set i (.slice B1 es.length d1, (t : Int), (t : Int) + 1, (t : Int) + 1 + 1, markS t3, es)).flatMap cNV = (midN L k (i + 1)).flatMap cNV := by
          rw [← HMS.out]
          have : ∀ (M : List (Value × Nod)) (i : Nat) (a b : Value × Nod), cNV a = cNV b → (M.set i a).flatMap cNV = (M.set i b).flatMap cNV := by
            intro M
            induction M with
            | nil => intro i a b _; rfl
            | cons m M ih =>
              intro i a b e
              cases i with
              | zero => rw [List.set_cons_zero, List.set_cons_zero, List.flatMap_cons, List.flatMap_cons, e]
              | succ i => rw [List.set_cons_succ, List.set_cons_succ, List.flatMap_cons, List.flatMap_cons, ih i a b e]
          exact this M i _ _ rfl
        rw [← q1, ← HMS.out, List.map_set]
        exact ha)
      clear ha o5 g5 hrw H8 H9
      rw [HS.out]
      obtain ⟨t2, ht2⟩ : ∃ t, t = k + totN (L.take (i + 1)) := ⟨_, rfl⟩
      have HT2 := Lib.hid ht2
      rw [← ht2]
      clear ht2
      go_wp2_with fail
      go_roundw
      case rel => exact ⟨i + 1, by go_num, by rw [HT2.out], by omega, H10.out⟩
      case measure => simp [intOf]; omega
    · have hge : ¬ ((i : Int) < (n : Int)) := by omega
      have hin : i = n := by omega
      have ht : L.take i = L := List.take_of_length_le (by rw [HL.out]; omega)
      rw [ht]
      rw [hin, midN_all HL.out] at H
      have H9 := Lib.hid (Hp.join2 (r := rowN (.slice A n c) n (marksN L k)) H)
      clear H
      go_wp2_with fail
      go_ret
      exact ⟨rfl, H9.out⟩
end Go.Proofs.YtaogikhpglcmjaaGreatDoor

namespace Go.Proofs.YtaogikhpglcmjaaGreatDoor
open Go.RowKit
set_option linter.unusedVariables false
set_option linter.unusedSimpArgs false
set_option maxRecDepth 100000 in
set_option maxHeartbeats 2000000 in
theorem indexI_any (A : Option Addr) (n c : Nat) (l : List Int) (x : Int) (w : World) (h : Rd w A n 1 (l.map (Value.int .i64))) (hn : n ≤ 1048576) :
    Calls Tryz.prog 114 #[.slice A n c, .int .i64 x] w fun e w' => (∃ r : Int, e = .returned (.int .i64 r) ∧ ((r = -1 ∧ x ∉ l) ∨ ∃ k : Nat, r = k ∧ k < n ∧ l[k]? = some x)) ∧ w' = w := by
  have HL := Lib.hid h.len1
  have G := Lib.hid h
  clear h
  go_enter Tryz.func114, Tryz.ntmps114
  go_wp2_with fail
  go_loopw [5, 8] (fun jv iv wr => ∃ i : Nat, iv = .int .i64 i ∧ i ≤ n ∧ x ∉ l.take i ∧ wr = w) (fun _ iv _ => n - (intOf iv).toNat)
  case atStart => exact ⟨0, rfl, by omega, by simp, rfl⟩
  case round =>
    obtain ⟨i, rfl, hi, hno, rfl⟩ := hrel
    by_cases hlt : i < n
    · obtain ⟨y, hy⟩ := some_at HL.out hlt
      obtain ⟨bk, of, rfl, hc⟩ := G.out.get1 hy
      have hi0 : (0 : Int) ≤ (i : Int) := by omega
      have hi1 : (i : Int) < (n : Int) := by omega
      have HY := Lib.hid hy
      have HO := Lib.hid hno
      clear hy hno
      by_cases hxy : x = y
      · subst hxy
        go_wp2_with fail
        go_ret
        exact ⟨⟨_, rfl, Or.inr ⟨i, rfl, hlt, HY.out⟩⟩, rfl⟩
      · go_wp2_with fail
        go_roundw
        case rel => exact ⟨i + 1, by go_num, by omega, by rw [At.take HY.out, List.mem_append, not_or]; exact ⟨HO.out, by simpa using hxy⟩, trivial⟩
        case measure => simp [intOf]; omega
    · have HO := Lib.hid hno
      clear hno
      go_wp2_with fail
      go_ret
      refine ⟨⟨_, rfl, Or.inl ⟨rfl, ?_⟩⟩, rfl⟩
      have := HO.out
      rwa [List.take_of_length_le (by rw [HL.out]; omega)] at this
set_option maxRecDepth 100000 in
set_option maxHeartbeats 2000000 in
theorem containsI_any (A : Option Addr) (n c : Nat) (l : List Int) (x : Int) (w : World) (h : Rd w A n 1 (l.map (Value.int .i64))) (hn : n ≤ 1048576) :
    Calls Tryz.prog 82 #[.slice A n c, .int .i64 x] w fun e w' => e = .returned (.bool (decide (x ∈ l))) ∧ w' = w := by
  have G := Lib.hid h
  clear h
  obtain ⟨b, hb⟩ : ∃ b, b = decide (x ∈ l) := ⟨_, rfl⟩
  rw [← hb]
  have HB := Lib.hid hb
  clear hb
  go_enter Tryz.func82, Tryz.ntmps82
  go_wp2_with fail
  refine (indexI_any A n c l x _ G.out hn).mono ?_
  rintro e w2 ⟨⟨r, rfl, hr⟩, rfl⟩
  rcases hr with ⟨rfl, hno⟩ | ⟨k, rfl, hk, hx⟩
  · have HE := Lib.hid (show b = false by rw [HB.out]; exact decide_eq_false hno)
    clear hno
    go_wp2_with fail
    go_ret
    rw [HE.out]
    exact ⟨rfl, rfl⟩
  · have HE := Lib.hid (show b = true by rw [HB.out]; exact decide_eq_true (List.mem_of_getElem? hx))
    have hk0 : (0 : Int) ≤ (k : Int) := by omega
    clear hx
    go_wp2_with fail
    go_ret
    rw [HE.out]
    exact ⟨rfl, rfl⟩
set_option maxRecDepth 100000 in
set_option maxHeartbeats 2000000 in
theorem indexS_any (A : Option Addr) (n c : Nat) (l : List ByteArray) (x : ByteArray) (w : World) (h : Rd w A n 1 (l.map Value.string)) (hn : n ≤ 1048576) :
    Calls Tryz.prog 141 #[.slice A n c, .string x] w fun e w' => (∃ r : Int, e = .returned (.int .i64 r) ∧ ((r = -1 ∧ x ∉ l) ∨ ∃ k : Nat, r = k ∧ k < n ∧ l[k]? = some x)) ∧ w' = w := by
  have HL := Lib.hid h.len1
  have G := Lib.hid h
  clear h
  go_enter Tryz.func141, Tryz.ntmps141
  go_wp2_with fail
  go_loopw [5, 8] (fun jv iv wr => ∃ i : Nat, iv = .int .i64 i ∧ i ≤ n ∧ x ∉ l.take i ∧ wr = w) (fun _ iv _ => n - (intOf iv).toNat)
  case atStart => exact ⟨0, rfl, by omega, by simp, rfl⟩
  case round =>
    obtain ⟨i, rfl, hi, hno, rfl⟩ := hrel
    by_cases hlt : i < n
    · obtain ⟨y, hy⟩ := some_at HL.out hlt
      obtain ⟨bk, of, rfl, hc⟩ := G.out.get1 hy
      have hi0 : (0 : Int) ≤ (i : Int) := by omega
      have hi1 : (i : Int) < (n : Int) := by omega
      have HY := Lib.hid hy
      have HO := Lib.hid hno
      clear hy hno
      by_cases hxy : x = y
      · subst hxy
        go_wp2_with fail
        go_ret
        exact ⟨⟨_, rfl, Or.inr ⟨i, rfl, hlt, HY.out⟩⟩, rfl⟩
      · have hbb : (x.toList == y.toList) = false := str_ne hxy
        have HXY := Lib.hid hxy
        clear hxy
        go_wp2_with fail
        go_roundw
        case rel => exact ⟨i + 1, by go_num, by omega, by rw [At.take HY.out, List.mem_append, not_or]; exact ⟨HO.out, by simpa using HXY.out⟩, trivial⟩
        case measure => simp [intOf]; omega
    · have HO := Lib.hid hno
      clear hno
      go_wp2_with fail
      go_ret
      refine ⟨⟨_, rfl, Or.inl ⟨rfl, ?_⟩⟩, rfl⟩
      have := HO.out
      rwa [List.take_of_length_le (by rw [HL.out]; omega)] at this
set_option maxRecDepth 100000 in
set_option maxHeartbeats 2000000 in
theorem containsS_any (A : Option Addr) (n c : Nat) (l : List ByteArray) (x : ByteArray) (w : World) (h : Rd w A n 1 (l.map Value.string)) (hn : n ≤ 1048576) :
    Calls Tryz.prog 124 #[.slice A n c, .string x] w fun e w' => ∃ b, e = .returned (.bool b) ∧ (b = true ↔ x ∈ l) ∧ w' = w := by
  have G := Lib.hid h
  clear h
  go_enter Tryz.func124, Tryz.ntmps124
  go_wp2_with fail
  refine (indexS_any A n c l x _ G.out hn).mono ?_
  rintro e w2 ⟨⟨r, rfl, hr⟩, rfl⟩
  rcases hr with ⟨rfl, hno⟩ | ⟨k, rfl, hk, hx⟩
  · have HE := Lib.hid hno
    clear hno
    go_wp2_with fail
    go_ret
    exact ⟨_, rfl, ⟨fun h => by simp at h, fun h => absurd h HE.out⟩, rfl⟩
  · have HE := Lib.hid (List.mem_of_getElem? hx)
    have hk0 : (0 : Int) ≤ (k : Int) := by omega
    clear hx
    go_wp2_with fail
    go_ret
    exact ⟨_, rfl, ⟨fun _ => HE.out, fun _ => by simp⟩, rfl⟩
end Go.Proofs.YtaogikhpglcmjaaGreatDoor
