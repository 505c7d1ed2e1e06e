/-
  Many texts in one: MTxn, Fixed, CallS.
-/
import Derived.Test.YtaogikhpglcmjaaGreatDoorGs
import Derived.Test.YtaogikhpglcmjaaGreatDoorGe
import Derived.Test.YtaogikhpglcmjaaGreatDoorGc
import Derived.Test.YtaogikhpglcmjaaGreatDoorGi
import Derived.StillTailTactics
namespace Go.Proofs.YtaogikhpglcmjaaGreatDoor
open Go.RowKit
set_option linter.unusedVariables false
set_option linter.unusedSimpArgs false

/-- A write: a block and its text. -/
abbrev WrT := Int × ByteArray
/-- A number in so many bytes, the highest first. -/
def fixB : Nat → Nat → List UInt8
  | 0, _ => []
  | k + 1, n => fixB k (n / 256) ++ [UInt8.ofNat (n % 256)]
theorem fixB_len : ∀ k n, (fixB k n).length = k
  | 0, _ => rfl
  | k + 1, n => by rw [fixB, List.length_append, fixB_len k]; rfl
def outOk (l : List WrT) (k : Nat) (x : WrT) : Bool := inB x.1 0 16 && decide (x.2.size ≤ 400) && (match k with
  | 0 => true
  | j + 1 => match l[j]? with
    | some p => decide (p.1 < x.1)
    | none => true)
def outsTo (l : List WrT) : Nat → Bool
  | 0 => true
  | k + 1 => outsTo l k && (match l[k]? with
    | none => true
    | some x => outOk l k x)
def txnB (seq : Int) (l : List WrT) : Bool := inB seq 1 1000000 && inB (l.length : Int) 1 17 && outsTo l l.length
theorem outsTo_le {l : List WrT} {i k : Nat} (h : outsTo l k = true) (hi : i ≤ k) : outsTo l i = true := by
  induction k with
  | zero => obtain rfl : i = 0 := by omega
            exact h
  | succ k ih =>
    rcases Nat.lt_or_eq_of_le hi with h1 | h1
    · rw [outsTo, Bool.and_eq_true] at h
      exact ih h.1 (by omega)
    · rw [h1]; exact h
theorem outsTo_at {l : List WrT} {i : Nat} {x : WrT} (h : outsTo l l.length = true) (he : l[i]? = some x) : outOk l i x = true := by
  have hi := (List.getElem?_eq_some_iff.1 he).1
  have h1 := outsTo_le h (show i + 1 ≤ l.length by omega)
  rw [outsTo, he, Bool.and_eq_true] at h1
  exact h1.2
theorem outsTo_no {l : List WrT} {i : Nat} {x : WrT} (he : l[i]? = some x) (h : outOk l i x = false) : outsTo l l.length = false := by
  cases hh : outsTo l l.length with
  | false => rfl
  | true => rw [outsTo_at hh he] at h; cases h
theorem outsTo_succ {l : List WrT} {k : Nat} {x : WrT} (hx : l[k]? = some x) (h0 : outsTo l k = true) (h : outOk l k x = true) : outsTo l (k + 1) = true := by
  rw [outsTo, hx, h0, Bool.true_and]; exact h
theorem outOk_no1 {l : List WrT} {k : Nat} {x : WrT} (h : inB x.1 0 16 = false) : outOk l k x = false := by simp only [outOk, h, Bool.false_and]
theorem outOk_no2 {l : List WrT} {k : Nat} {x : WrT} (h : ¬ x.2.size ≤ 400) : outOk l k x = false := by simp only [outOk, decide_eq_false h, Bool.and_false, Bool.false_and]
theorem outOk_no3 {l : List WrT} {k : Nat} {x p : WrT} (hp : l[k]? = some p) (h : x.1 ≤ p.1) : outOk l (k + 1) x = false := by
  have : decide (p.1 < x.1) = false := decide_eq_false (by omega)
  simp only [outOk, hp, this, Bool.and_false]
theorem outOk_0 {l : List WrT} {x : WrT} (h : inB x.1 0 16 = true) (h1 : x.2.size ≤ 400) : outOk l 0 x = true := by simp only [outOk, h, decide_eq_true h1, Bool.true_and]
theorem outOk_s {l : List WrT} {k : Nat} {x p : WrT} (h : inB x.1 0 16 = true) (h1 : x.2.size ≤ 400) (hp : l[k]? = some p) (h2 : p.1 < x.1) : outOk l (k + 1) x = true := by
  simp only [outOk, h, hp, decide_eq_true h1, decide_eq_true h2, Bool.true_and]
theorem txnB_no1 {seq : Int} {l : List WrT} (h : inB seq 1 1000000 = false) : txnB seq l = false := by rw [txnB, h]; rfl
theorem txnB_no2 {seq : Int} {l : List WrT} (h : inB (l.length : Int) 1 17 = false) : txnB seq l = false := by rw [txnB, h]; simp
theorem txnB_no3 {seq : Int} {l : List WrT} (h : outsTo l l.length = false) : txnB seq l = false := by rw [txnB, h]; simp
theorem txnB_yes {seq : Int} {l : List WrT} (h1 : inB seq 1 1000000 = true) (h2 : inB (l.length : Int) 1 17 = true) (h3 : outsTo l l.length = true) : txnB seq l = true := by rw [txnB, h1, h2, h3]; rfl
def outB (x : WrT) : List UInt8 := varB x.1 ++ pieceB x.2
def bodyT (seq : Int) (l : List WrT) : List UInt8 := (116 :: (varB seq ++ varB (l.length : Int))) ++ l.flatMap outB
/-- The text of a transaction; none where it is not right, or too long. -/
def showT (seq : Int) (l : List WrT) : List UInt8 := if (txnB seq l && decide ((bodyT seq l).length + 4 ≤ 4000)) = true then fixB 4 (crcZ (bodyT seq l)).toNat ++ bodyT seq l else []
/-! ### Reading it -/
open Classical in
noncomputable def readT (s : List UInt8) : Option (Int × List WrT) :=
  if h : ∃ p : Int × List WrT, showT p.1 p.2 = s ∧ s ≠ [] then some (Classical.choose h) else none
theorem showT_ok {seq : Int} {l : List WrT} (h : showT seq l ≠ []) : txnB seq l = true ∧ showT seq l = fixB 4 (crcZ (bodyT seq l)).toNat ++ bodyT seq l ∧ (showT seq l).length ≤ 4000 := by
  rw [showT] at h ⊢
  split at h
  · rename_i hc
    rw [if_pos hc]
    simp only [Bool.and_eq_true, decide_eq_true_eq] at hc
    exact ⟨hc.1, rfl, by rw [List.length_append, fixB_len]; omega⟩
  · exact absurd rfl h
structure TxnR (seq : Int) (l : List WrT) : Prop where
  lo : 1 ≤ seq
  hi : seq ≤ 1000000
  len : 1 ≤ l.length ∧ l.length ≤ 17
  outs : ∀ x ∈ l, 0 ≤ x.1 ∧ x.1 ≤ 16 ∧ x.2.size ≤ 400
theorem txnB_R {seq : Int} {l : List WrT} (h : txnB seq l = true) : TxnR seq l := by
  simp only [txnB, Bool.and_eq_true] at h
  have h1 := inB_iff.1 h.1.1
  have h2 := inB_iff.1 h.1.2
  refine ⟨h1.1, h1.2, ⟨by omega, by omega⟩, fun x hx => ?_⟩
  obtain ⟨k, hk⟩ := List.getElem?_of_mem hx
  have h3 := outsTo_at h.2 hk
  unfold outOk at h3
  simp only [Bool.and_eq_true, decide_eq_true_eq] at h3
  have h4 := inB_iff.1 h3.1.1
  exact ⟨h4.1, h4.2, h3.1.2⟩
theorem bodyT_form {seq : Int} {l : List WrT} (h : TxnR seq l) : bodyT seq l = [116] ++ (varT seq.toNat ++ (varT l.length ++ (l.flatMap outB ++ []))) := by
  have := h.len.2
  have := h.lo
  have := h.hi
  simp only [bodyT, varB_int (show 0 ≤ seq by omega) (by omega), varB_nat (show l.length ≤ 562949953421311 by omega), List.append_assoc, List.append_nil, List.cons_append, List.nil_append]
theorem outB_form {x : WrT} (h : 0 ≤ x.1 ∧ x.1 ≤ 16 ∧ x.2.size ≤ 400) (r : List UInt8) : outB x ++ r = varT x.1.toNat ++ (varT (toB x.2).length ++ (toB x.2 ++ r)) := by
  obtain ⟨h1, h2, h3⟩ := h
  simp only [outB, pieceB, varB_int h1 (by omega), varB_nat (show x.2.size ≤ 562949953421311 by omega), toB_len, List.append_assoc]
/-- As the program reads. -/
def txP1 (t : List UInt8) : Sc := (cutP (t, false) 5).2
def txP2 (t : List UInt8) : Nat × Sc := numP (txP1 t)
def txP3 (t : List UInt8) : Nat × Sc := manyP (txP2 t).2 17
def outP (st : Sc) : WrT × Sc := ((((numP st).1 : Int), ofB (pieceP (numP st).2).1), (pieceP (numP st).2).2)
def outsP (st : Sc) : Nat → List WrT × Sc
  | 0 => ([], st)
  | k + 1 => ((outsP st k).1 ++ [(outP (outsP st k).2).1], (outP (outsP st k).2).2)
theorem outsP_len (st : Sc) : ∀ k, (outsP st k).1.length = k
  | 0 => rfl
  | k + 1 => by rw [outsP, List.length_append, outsP_len st k]; rfl
def txP4 (t : List UInt8) : List WrT × Sc := outsP (txP3 t).2 (txP3 t).1
theorem outP_app {x : WrT} (h : 0 ≤ x.1 ∧ x.1 ≤ 16 ∧ x.2.size ≤ 400) (r : List UInt8) : outP (outB x ++ r, false) = (x, (r, false)) := by
  have k1 : numP (varT x.1.toNat ++ (varT (toB x.2).length ++ (toB x.2 ++ r)), false) = (x.1.toNat, (varT (toB x.2).length ++ (toB x.2 ++ r), false)) := numP_app (by omega) _
  have k2 : pieceP (varT (toB x.2).length ++ (toB x.2 ++ r), false) = (toB x.2, (r, false)) := pieceP_app (by rw [toB_len]; omega) _
  rw [outB_form h, outP, k1]
  simp only [k2, ofB_toB]
  rw [Int.toNat_of_nonneg h.1]
theorem outsP_app : ∀ (n : Nat) (l : List WrT) (r : List UInt8), l.length = n → (∀ x ∈ l, 0 ≤ x.1 ∧ x.1 ≤ 16 ∧ x.2.size ≤ 400) → outsP (l.flatMap outB ++ r, false) n = (l, (r, false))
  | 0, l, r, hn, _ => by rw [List.eq_nil_of_length_eq_zero hn]; rfl
  | n + 1, l, r, hn, h => by
    rcases List.eq_nil_or_concat l with rfl | ⟨p, e, rfl⟩
    · simp at hn
    rw [List.concat_eq_append] at hn h ⊢
    have hp := outsP_app n p (outB e ++ r) (by simpa using hn) fun x hx => h x (List.mem_append_left _ hx)
    rw [outsP, List.flatMap_append, List.flatMap_singleton, List.append_assoc, hp]
    simp only [outP_app (h e (by simp))]
theorem tx_back {seq : Int} {l : List WrT} (h : TxnR seq l) (c : List UInt8) (hc : c.length = 4) : (txP2 (c ++ bodyT seq l)).1 = seq.toNat ∧ (txP3 (c ++ bodyT seq l)).1 = l.length ∧ txP4 (c ++ bodyT seq l) = (l, ([], false)) := by
  have hb : c ++ bodyT seq l = (c ++ [116]) ++ (varT seq.toNat ++ (varT l.length ++ (l.flatMap outB ++ []))) := by rw [bodyT_form h, ← List.append_assoc]
  have h5 : (c ++ [116]).length = 5 := by simp [hc]
  have key : ∀ (d R0 R1 R2 : List UInt8), d.length = 5 → R0 = varT seq.toNat ++ R1 → R1 = varT l.length ++ R2 → R2 = l.flatMap outB ++ [] → (txP2 (d ++ R0)).1 = seq.toNat ∧ (txP3 (d ++ R0)).1 = l.length ∧ txP4 (d ++ R0) = (l, ([], false)) := by
    intro d R0 R1 R2 hd q0 q1 q2
    have := h.lo
    have := h.hi
    have k0 : txP1 (d ++ R0) = (R0, false) := by rw [txP1, ← hd]; exact congrArg Prod.snd (cutP_app d _)
    have k1 : txP2 (d ++ R0) = (seq.toNat, (R1, false)) := by rw [txP2, k0, q0]; exact numP_app (by omega) _
    have k2 : txP3 (d ++ R0) = (l.length, (R2, false)) := by rw [txP3, k1, q1]; exact manyP_app (by have := h.len.2; omega) h.len.2 _
    have k3 : txP4 (d ++ R0) = (l, ([], false)) := by rw [txP4, k2, q2]; exact outsP_app l.length l [] rfl h.outs
    exact ⟨by rw [k1], by rw [k2], k3⟩
  rw [hb]
  exact key _ _ _ _ h5 rfl rfl rfl
theorem tx_back2 {seq : Int} {l : List WrT} {s : List UInt8} (h : showT seq l = s) (hs : s ≠ []) : 1 ≤ seq ∧ (txP2 s).1 = seq.toNat ∧ (txP3 s).1 = l.length ∧ txP4 s = (l, ([], false)) := by
  subst h
  obtain ⟨h1, h2, _⟩ := showT_ok hs
  have hR := txnB_R h1
  rw [h2]
  exact ⟨hR.lo, tx_back hR _ (fixB_len 4 _)⟩
theorem readT_yes {seq : Int} {l : List WrT} {s : List UInt8} (h : showT seq l = s) (hs : s ≠ []) : readT s = some (seq, l) := by
  classical
  have hex : ∃ p : Int × List WrT, showT p.1 p.2 = s ∧ s ≠ [] := ⟨(seq, l), h, hs⟩
  rw [readT, dif_pos hex]
  congr 1
  obtain ⟨c1, _⟩ := Classical.choose_spec hex
  obtain ⟨a0, a1, _, a3⟩ := tx_back2 h hs
  obtain ⟨b0, b1, _, b3⟩ := tx_back2 c1 hs
  have e1 : (Classical.choose hex).1 = seq := by
    have := b1.symm.trans a1
    omega
  exact Prod.ext e1 (congrArg Prod.fst (b3.symm.trans a3))
theorem readT_no {s : List UInt8} (h : ∀ seq l, showT seq l = s → s ≠ [] → False) : readT s = none := by
  classical
  rw [readT, dif_neg]
  rintro ⟨p, h1, h2⟩
  exact h _ _ h1 h2
theorem readTI_no1 {s : List UInt8} (h : (txP4 s).2.2 = true) : readT s = none := readT_no fun seq l hv hs => by
  obtain ⟨_, _, _, h4⟩ := tx_back2 hv hs
  rw [h4] at h; cases h
theorem readTI_no2 {s : List UInt8} (h : showT ((txP2 s).1 : Int) (txP4 s).1 ≠ s) : readT s = none := readT_no fun seq l hv hs => by
  obtain ⟨h0, h1, _, h4⟩ := tx_back2 hv hs
  rw [h1, h4, Int.toNat_of_nonneg (by omega)] at h
  exact h hv
theorem readT_long {s : List UInt8} (h : 4000 < s.length) : readT s = none := readT_no fun seq l hv hs => by
  subst hv
  have := (showT_ok hs).2.2
  omega
theorem readT_nil : readT [] = none := readT_no fun seq l _ hs => hs rfl
/-- As the reference reads. -/
def tsA (t : List UInt8) : List Nat × Option Nat := varsP t (some 5) 2
def prsO (s : List UInt8) (o : Option Nat) : WrT × Option Nat := (((num1 (varsP s o 1) : Int), ofB (takeP s (varsP s o 1).2).1), (takeP s (varsP s o 1).2).2)
def prsOs (s : List UInt8) (o : Option Nat) : Nat → List WrT × Option Nat
  | 0 => ([], o)
  | k + 1 => ((prsOs s o k).1 ++ [(prsO s (prsOs s o k).2).1], (prsO s (prsOs s o k).2).2)
theorem prsOs_len (s : List UInt8) (o : Option Nat) : ∀ k, (prsOs s o k).1.length = k
  | 0 => rfl
  | k + 1 => by rw [prsOs, List.length_append, prsOs_len s o k]; rfl
theorem prsO_app {s : List UInt8} {a : Nat} {x : WrT} {r : List UInt8} (hf : 0 ≤ x.1 ∧ x.1 ≤ 16 ∧ x.2.size ≤ 400) (h : Lf s a (outB x ++ r)) : ∃ b, prsO s (some a) = (x, some b) ∧ Lf s b r := by
  rw [outB_form hf] at h
  obtain ⟨a1, k1, l1⟩ := vars_ex (k := 0) (o := some a) (l := []) rfl (by omega) h
  obtain ⟨b, k2, l2⟩ := take_app (by rw [toB_len]; omega) l1
  refine ⟨b, ?_, l2⟩
  rw [prsO, k1]
  simp only [List.nil_append]
  rw [k2]
  simp only [num1, List.nil_append, List.headD_cons, ofB_toB]
  rw [Int.toNat_of_nonneg hf.1]
theorem prsOs_app : ∀ (n : Nat) (l : List WrT) (s : List UInt8) (a : Nat) (r : List UInt8), l.length = n → (∀ x ∈ l, 0 ≤ x.1 ∧ x.1 ≤ 16 ∧ x.2.size ≤ 400) → Lf s a (l.flatMap outB ++ r) → ∃ b, prsOs s (some a) n = (l, some b) ∧ Lf s b r ∧ ∀ k, k ≤ n → ∃ c, (prsOs s (some a) k).2 = some c
  | 0, l, s, a, r, hn, _, h => by
    rw [List.eq_nil_of_length_eq_zero hn] at h ⊢
    exact ⟨a, rfl, h, fun k hk => ⟨a, by rw [show k = 0 by omega]; rfl⟩⟩
  | n + 1, l, s, a, r, hn, hf, h => by
    rcases List.eq_nil_or_concat l with rfl | ⟨p, e, rfl⟩
    · simp at hn
    rw [List.concat_eq_append] at hn hf h ⊢
    rw [List.flatMap_append, List.flatMap_singleton, List.append_assoc] at h
    obtain ⟨b, k1, l1, k2⟩ := prsOs_app n p s a (outB e ++ r) (by simpa using hn) (fun x hx => hf x (List.mem_append_left _ hx)) h
    obtain ⟨c, k3, l3⟩ := prsO_app (hf e (by simp)) l1
    refine ⟨c, by rw [prsOs, k1]; simp only [k3], l3, fun k hk => ?_⟩
    rcases Nat.lt_or_eq_of_le hk with h9 | h9
    · exact k2 k (by omega)
    · rw [h9, prsOs, k1]
      exact ⟨c, by simp only [k3]⟩
def tsB (t : List UInt8) : List WrT × Option Nat := prsOs t (tsA t).2 ((tsA t).1.getD 1 0)
theorem ts_back {seq : Int} {l : List WrT} {s : List UInt8} (h : showT seq l = s) (hs : s ≠ []) : 1 ≤ seq ∧ l.length ≤ 17 ∧ (∃ a, tsA s = ([seq.toNat, l.length], some a)) ∧ (∀ k, k ≤ l.length → ∃ c, (prsOs s (tsA s).2 k).2 = some c) ∧ (tsB s).1 = l := by
  subst h
  obtain ⟨h1, h2, _⟩ := showT_ok hs
  have hR := txnB_R h1
  obtain ⟨T, hT⟩ : ∃ T, T = showT seq l := ⟨_, rfl⟩
  rw [← hT] at h2 ⊢
  have hlo := hR.lo
  have hhi := hR.hi
  have hln := hR.len.2
  have l0 : Lf T 5 (varT seq.toNat ++ (varT l.length ++ (l.flatMap outB ++ []))) := by
    have h3 : Lf T 0 ((fixB 4 (crcZ (bodyT seq l)).toNat ++ [116]) ++ (varT seq.toNat ++ (varT l.length ++ (l.flatMap outB ++ [])))) := ⟨by omega, by rw [List.drop_zero, h2, bodyT_form hR, List.append_assoc]⟩
    have h4 := h3.next
    rw [List.length_append, fixB_len] at h4
    exact h4
  obtain ⟨a1, k1, l1⟩ := vars_ex (k := 0) (o := some 5) (l := []) rfl (by omega) l0
  obtain ⟨a2, k2, l2⟩ := vars_ex k1 (by omega) l1
  obtain ⟨b, k3, l3, k4⟩ := prsOs_app l.length l T a2 [] rfl hR.outs l2
  have e1 : tsA T = ([seq.toNat, l.length], some a2) := k2
  exact ⟨hlo, hln, ⟨a2, e1⟩, fun k hk => by rw [e1]; exact k4 k hk, by rw [tsB, e1]; exact congrArg Prod.fst k3⟩
theorem readTS_no1 {s : List UInt8} (h : (tsA s).2 = none) : readT s = none := readT_no fun seq l hv hs => by
  obtain ⟨_, _, ⟨a, h1⟩, _, _⟩ := ts_back hv hs
  rw [h1] at h; cases h
theorem readTS_no2 {s : List UInt8} (h : 17 < (tsA s).1.getD 1 0) : readT s = none := readT_no fun seq l hv hs => by
  obtain ⟨_, h0, ⟨a, h1⟩, _, _⟩ := ts_back hv hs
  rw [h1] at h
  simp at h; omega
theorem readTS_no3 {s : List UInt8} {k : Nat} (hk : k ≤ (tsA s).1.getD 1 0) (h : (prsOs s (tsA s).2 k).2 = none) : readT s = none := readT_no fun seq l hv hs => by
  obtain ⟨_, _, ⟨a, h1⟩, h2, _⟩ := ts_back hv hs
  have hk2 : k ≤ l.length := by rw [h1] at hk; simpa using hk
  obtain ⟨c, h3⟩ := h2 k hk2
  rw [h3] at h; cases h
theorem readTS_no4 {s : List UInt8} (h : showT ((tsA s).1.getD 0 0 : Int) (tsB s).1 ≠ s) : readT s = none := readT_no fun seq l hv hs => by
  obtain ⟨h0, _, ⟨a, h1⟩, _, h3⟩ := ts_back hv hs
  rw [h3, h1] at h
  simp only [List.getD_cons_zero, Int.toNat_of_nonneg (show 0 ≤ seq by omega)] at h
  exact h hv
/-! ### What mounts -/
def putAll (l : List ByteArray) (outs : List WrT) : List ByteArray := outs.foldl (fun l x => l.set x.1.toNat x.2) l
/-- The transaction that stands on the journal's block. -/
noncomputable def logT (l : List ByteArray) : Option (Int × List WrT) := if txt l 17 = [] then some (0, []) else readT (txt l 17)
noncomputable def mountB (l : List ByteArray) : Option ((Int × List Nod) × List WrT × Int) :=
  if l.length ≠ 18 then none else match logT l with
    | none => none
    | some t => match readB (putAll (l.take 17) t.2) with
      | none => none
      | some v => some (v, t.2, t.1)
end Go.Proofs.YtaogikhpglcmjaaGreatDoor

namespace Go.Proofs.YtaogikhpglcmjaaGreatDoor
open Go.RowKit

set_option linter.unusedVariables false
set_option linter.unusedSimpArgs false
theorem and_255 {c : Int} (h0 : 0 ≤ c) (h1 : c < 9223372036854775808) : bits .and .i64 c 255 = c % 256 := bits_mask .i64 63 (by decide) (fun n h₀ h₁ => IntWalk.i64_in _ (by omega)) 8 (by decide) c h0 (by omega)
theorem fix_set {u : Nat} {tl : List UInt8} {b : UInt8} : (List.replicate (u + 1) (0 : UInt8) ++ tl).set u b = List.replicate u 0 ++ b :: tl := by
  rw [List.replicate_succ', List.append_assoc, List.set_append_right _ _ (by simp)]
  simp
set_option maxRecDepth 100000 in
set_option maxHeartbeats 4000000 in
theorem implFixed_any (n0 : Nat) (w : World) (hn : n0 < 4294967296) :
    Calls Tryz.prog 96 #[.int .i64 (n0 : Int), .int .i64 4] w fun e w' => e = .returned (.string (ofB (fixB 4 n0))) ∧ Fr w w' := by
  have hn1 : ¬ (n0 : Int) < 0 := by omega
  obtain ⟨R, hR⟩ : ∃ R, R = fixB 4 n0 := ⟨_, rfl⟩
  rw [← hR]
  have HRE := Lib.hid hR
  clear hR
  obtain ⟨k4, hk4⟩ : ∃ k : Int, k = 4 := ⟨_, rfl⟩
  rw [← hk4]
  have HK4 := Lib.hid (show k4 = ((4 : Nat) : Int) from hk4)
  obtain ⟨e, he⟩ : ∃ e : Nat, e = 32 := ⟨_, rfl⟩
  have h8 : (8 : Int) * k4 = (e : Int) := by rw [hk4, he]; rfl
  have h8w : IntKind.i64.wrap ((8 : Int) * k4) = (e : Int) := by rw [h8]; exact IntWalk.i64_in _ (by omega)
  have h8v : IntKind.i64.wrap (e : Int) = (e : Int) := IntWalk.i64_in _ (by omega)
  have he0 : (0 : Int) ≤ (e : Int) := by omega
  have he64 : (e : Int) ≤ 64 := by omega
  obtain ⟨K, hK⟩ : ∃ K : Int, (2 : Int) ^ e = K := ⟨_, rfl⟩
  have hK2 : K = 4294967296 := by rw [← hK, he]; decide
  have hKw : IntKind.i64.wrap K = K := IntWalk.i64_in _ (by omega)
  have hKw2 : IntKind.i64.wrap ((2 : Int) ^ e) = K := by rw [hK]; exact hKw
  have hnK : ¬ K ≤ (n0 : Int) := by omega
  have hnK2 : decide (K ≤ (n0 : Int)) = false := decide_eq_false hnK
  have hk0 : inB k4 1 7 = true := inB_iff.2 (by omega)
  have hk3 : k4 - 1 = 3 := by omega
  have hk3w : IntKind.i64.wrap (k4 - 1) = 3 := by rw [hk3]; rfl
  clear hk4 he hK2
  go_enter Tryz.func96, Tryz.ntmps96
  go_wp2_with fail
  refine (within_any k4 1 7 _).mono ?_
  rintro e wq ⟨rfl, hwq⟩
  subst hwq
  rw [hk0]
  go_wp2_with (at_make; refine wp_mk (Hp.start wq) rfl _ _ _ rfl Tryz.underlying101 infoU8 rfl rfl (4) _ _ _ _ rfl rfl HK4.out HK4.out (by omega) (by simp only [maxLen]; omega) ?_)
  intro w1 H_
  have H : Hp [] wq w1 [.row 5 1 (.slice (some ⟨wq.heap.size, 0, none⟩) 4 4) 4 ((List.replicate 4 (0 : UInt8)).map cU8)] := H_
  clear H_
  obtain ⟨g, hg⟩ : ∃ x, x = wq.heap.size := ⟨_, rfl⟩
  rw [← hg] at H ⊢
  have HG := Lib.hid hg
  clear hg
  go_wp2_with fail
  go_loopw [0, 6] (fun nv iv wr => ∃ (t m : Nat) (z : Int) (tl : List UInt8), iv = .int .i64 z ∧ nv = .int .i64 m ∧ z + 1 = (t : Int) ∧ m < 4294967296 ∧ t + tl.length = 4 ∧ fixB 4 n0 = fixB t m ++ tl ∧ Hp [] wq wr [.row 5 1 (.slice (some ⟨g, 0, none⟩) 4 4) 4 ((List.replicate t (0 : UInt8) ++ tl).map cU8)]) (fun _ iv _ => (intOf iv + 1).toNat)
  case atStart => exact ⟨4, n0, 3, [], rfl, rfl, by omega, hn, rfl, by simp, by simpa using H⟩
  case round =>
    clear H
    obtain ⟨t, m, z, tl, rfl, rfl, hz, hm, ht, hf, H⟩ := hrel
    have HF := Lib.hid hf
    clear hf
    cases t with
    | zero =>
      have hz0 : ¬ (0 : Int) ≤ z := by omega
      have hz1 : z = -1 := by omega
      have HE := Lib.hid (show R = tl by rw [HRE.out, HF.out]; rfl)
      have H2 : Hp [] wq wr [.row 5 1 (.slice (some ⟨g, 0, none⟩) 4 4) 4 (tl.map cU8)] := by simpa using H
      have hks := run_str (c := 4) 101 9 5 Tryz.underlying101 Tryz.underlying5 Tryz.underlying9 (H2.rd 0 rfl)
      have H3 := Lib.hid H2
      clear H H2
      go_wp2_with fail
      go_ret
      rw [HE.out]
      exact ⟨rfl, H3.out.fr⟩
    | succ u =>
      have hzu : z = (u : Int) := by omega
      subst hzu
      have hu0 : (0 : Int) ≤ (u : Int) := by omega
      have hu3 : u < 4 := by omega
      have hu4 : (u : Int) < 4 := by omega
      obtain ⟨q, hq⟩ : ∃ q, q = m / 256 := ⟨_, rfl⟩
      obtain ⟨b, hb⟩ : ∃ b : UInt8, b = UInt8.ofNat (m % 256) := ⟨_, rfl⟩
      have hbn : b.toNat = m % 256 := by rw [hb, UInt8.toNat_ofNat_of_lt' (by simp [UInt8.size]; omega)]
      have HS := Lib.hid (show fixB 4 n0 = fixB u q ++ b :: tl by rw [HF.out, fixB, ← hq, ← hb]; simp)
      have a1 : bits .and .i64 (m : Int) 255 = (b.toNat : Int) := by rw [and_255 (by omega) (by omega)]; omega
      have hb256 := b.toNat_lt
      have a4 : IntKind.u8.wrap (b.toNat : Int) = (b.toNat : Int) := wraps_u8 _ (by omega) (by omega)
      have a5 : (m : Int) / 256 = (q : Int) := by omega
      have e0 := H.free 0 rfl u
      have e1 := H.atM (f1 := cU8) 0 rfl (j := u) (x := 0) (by rw [List.getElem?_append_left (by simp), List.getElem?_replicate, if_pos (by omega)])
      have H2 := Lib.hid (show Hp [] wq (wr.setCell ⟨g, u, none⟩ (cU8 b)) [.row 5 1 (.slice (some ⟨g, 0, none⟩) 4 4) 4 ((List.replicate u (0 : UInt8) ++ b :: tl).map cU8)] by
        have := H.putM (f1 := cU8) 0 rfl u b
        rw [fix_set] at this
        exact this)
      have hqm : q < 4294967296 := by omega
      have htl : u + (b :: tl).length = 4 := by rw [List.length_cons]; omega
      clear H hq hb hbn
      go_wp2_with fail
      go_roundw
      case rel => exact ⟨u, q, (u : Int) - 1, b :: tl, by go_num, rfl, by omega, hqm, htl, HS.out, H2.out⟩
      case measure => simp [intOf] <;> omega
set_option maxRecDepth 100000 in
set_option maxHeartbeats 4000000 in
theorem specFixed_any (n0 : Nat) (w : World) (hn : n0 < 4294967296) :
    Calls Tryz.prog 88 #[.int .i64 (n0 : Int), .int .i64 4] w fun e w' => e = .returned (.string (ofB (fixB 4 n0))) ∧ Fr w w' := by
  have hn1 : ¬ (n0 : Int) < 0 := by omega
  obtain ⟨R, hR⟩ : ∃ R, R = fixB 4 n0 := ⟨_, rfl⟩
  rw [← hR]
  have HRE := Lib.hid hR
  clear hR
  go_enter Tryz.func88, Tryz.ntmps88
  go_wp2_with fail
  refine (l1In_any 4 1 7 _).mono ?_
  rintro e wq ⟨rfl, hwq⟩
  subst hwq
  rw [show inB 4 1 7 = true from rfl]
  go_wp2_with fail
  go_loopw [0, 5, 6] (fun nv ov iv wr => ∃ (i t m : Nat) (tl : List UInt8), iv = .int .i64 i ∧ nv = .int .i64 m ∧ ov = .string (ofB tl) ∧ i + t = 4 ∧ m < 256 ^ t ∧ tl.length = i ∧ fixB 4 n0 = fixB t m ++ tl ∧ Fr wq wr) (fun _ _ iv _ => 4 - (intOf iv).toNat)
  case atStart => exact ⟨0, 4, n0, [], rfl, rfl, rfl, rfl, hn, rfl, by simp, Below.refl _ _⟩
  case round =>
    obtain ⟨i, t, m, tl, rfl, rfl, rfl, hit, hm, htl, hf, hfr⟩ := hrel
    have HF := Lib.hid hf
    have HFR := Lib.hid hfr
    clear hf hfr
    have hi0 : (0 : Int) ≤ (i : Int) := by omega
    obtain ⟨T, hT⟩ : ∃ T, T = ofB tl := ⟨_, rfl⟩
    have hTs : T.size ≤ 4 := by rw [hT, ofB_size]; omega
    have HT := Lib.hid hT
    rw [← hT]
    clear hT
    cases t with
    | zero =>
      have hi4 : ¬ (i : Int) < 4 := by omega
      have hm0 : ¬ (0 : Int) < (m : Int) := by simp at hm; omega
      have HE := Lib.hid (show R = tl by rw [HRE.out, HF.out]; rfl)
      clear hm
      go_wp2_with fail
      go_ret
      rw [HE.out, ← HT.out]
      exact ⟨rfl, HFR.out⟩
    | succ u =>
      have hi4 : (i : Int) < 4 := by omega
      have hmb : m < 4294967296 := by
        have h1 : 256 ^ (u + 1) ≤ 256 ^ 4 := Nat.pow_le_pow_right (by decide) (by omega)
        have h2 : (256 : Nat) ^ 4 = 4294967296 := by decide
        omega
      obtain ⟨q, hq⟩ : ∃ q, q = m / 256 := ⟨_, rfl⟩
      have hqb : q < 256 ^ u := by
        rw [hq, Nat.div_lt_iff_lt_mul (by decide), ← Nat.pow_succ]; exact hm
      obtain ⟨b, hb⟩ : ∃ b : UInt8, b = UInt8.ofNat (m % 256) := ⟨_, rfl⟩
      have hbn : b.toNat = m % 256 := by rw [hb, UInt8.toNat_ofNat_of_lt' (by simp [UInt8.size]; omega)]
      have HS := Lib.hid (show fixB 4 n0 = fixB u q ++ b :: tl by rw [HF.out, fixB, ← hq, ← hb]; simp)
      have a1 : (m : Int).tmod 256 = (b.toNat : Int) := by rw [Int.tmod_eq_emod_of_nonneg (by omega)]; omega
      have hb256 := b.toNat_lt
      have a4 : IntKind.u8.wrap (b.toNat : Int) = (b.toNat : Int) := wraps_u8 _ (by omega) (by omega)
      have a5 : (m : Int).tdiv 256 = (q : Int) := by rw [Int.tdiv_eq_ediv_of_nonneg (by omega)]; omega
      have H2 := ((Hp.start wq).go HFR.out).lit 5 1 1 ([b].map cU8) rfl (by simp [maxLen])
      have hks := run_str (c := 1) 101 9 5 Tryz.underlying101 Tryz.underlying5 Tryz.underlying9 (H2.rd 0 rfl)
      have HF2 := Lib.hid H2.fr
      obtain ⟨B1, hB1⟩ : ∃ x, ofB [b] = x := ⟨_, rfl⟩
      have hBs : B1.size ≤ 1 := by rw [← hB1, ofB_size]; simp
      have HBT := Lib.hid (show B1 ++ T = ofB (b :: tl) by rw [← hB1, HT.out, ofB_append]; rfl)
      rw [hB1] at hks
      simp only [List.map_cons, List.map_nil, cU8] at hks
      have a6 : IntKind.i64.wrap (q : Int) = (q : Int) := IntWalk.i64_in _ (by omega)
      have cc : (9223372036854775807 < B1.size + T.size) = False := eq_false (by omega)
      clear H2 hq hb hbn hm hB1
      go_wp2_with fail
      go_roundw
      case rel => exact ⟨i + 1, u, q, b :: tl, by go_num, by first | rfl | (congr 1; exact a6), by rw [← HBT.out], by omega, hqb, by rw [List.length_cons]; omega, HS.out, HF2.out⟩
      case measure => simp [intOf]; omega
end Go.Proofs.YtaogikhpglcmjaaGreatDoor

namespace Go.Proofs.YtaogikhpglcmjaaGreatDoor
open Go.RowKit

def cCall (r : Int × Int × ByteArray × Int × ByteArray × ByteArray) : List Value := [.int .i64 r.1, .int .i64 r.2.1, .string r.2.2.1, .int .i64 r.2.2.2.1, .string r.2.2.2.2.1, .string r.2.2.2.2.2]
theorem cCall_len (r : Int × Int × ByteArray × Int × ByteArray × ByteArray) : (cCall r).length = 6 := rfl
theorem infoCall : (Tryz.prog.info? 75).map (fun i => (i.zero, i.size, i.bytes)) = some (some (.agg #[.int .i64 0, .int .i64 0, .string ⟨#[]⟩, .int .i64 0, .string ⟨#[]⟩, .string ⟨#[]⟩]), 6, 72) := by kernel_rfl

theorem eqCall_any (r s : Int × Int × ByteArray × Int × ByteArray × ByteArray) (w : World) :
    Calls Tryz.prog 83 #[.agg (cCall r).toArray, .agg (cCall s).toArray] w fun e w' => e = .returned (.bool (decide (r = s))) ∧ Fr w w' := by
  obtain ⟨x0, x1, x2, x3, x4, x5⟩ := r
  obtain ⟨y0, y1, y2, y3, y4, y5⟩ := s
  show Calls _ _ #[.agg #[.int .i64 x0, .int .i64 x1, .string x2, .int .i64 x3, .string x4, .string x5], .agg #[.int .i64 y0, .int .i64 y1, .string y2, .int .i64 y3, .string y4, .string y5]] _ _
  by_cases h0 : x0 = y0
  · by_cases h1 : x1 = y1
    · by_cases h2 : x2 = y2
      · subst h2
        by_cases h3 : x3 = y3
        · by_cases h4 : x4 = y4
          · subst h4
            by_cases h5 : x5 = y5
            · subst h5
              go_enter Tryz.func83, Tryz.ntmps83
              go_wp2
              go_ret
              exact ⟨ret_bool (by simp [h0, h1, h3]), by repeat (first | exact Below.refl _ _ | refine Below.alloc ?_ (by first | (simp; done) | (simp; omega)) _ | refine Below.setCell ?_ (by first | (simp; done) | (simp; omega)) _)⟩
            · have hb5 : (x5.toList == y5.toList) = false := str_ne h5
              go_enter Tryz.func83, Tryz.ntmps83
              go_wp2
              go_ret
              exact ⟨ret_bool (by simp [h0, h1, h3, h5]), by repeat (first | exact Below.refl _ _ | refine Below.alloc ?_ (by first | (simp; done) | (simp; omega)) _ | refine Below.setCell ?_ (by first | (simp; done) | (simp; omega)) _)⟩
          · have hb4 : (x4.toList == y4.toList) = false := str_ne h4
            go_enter Tryz.func83, Tryz.ntmps83
            go_wp2
            go_ret
            exact ⟨ret_bool (by simp [h0, h1, h3, h4]), by repeat (first | exact Below.refl _ _ | refine Below.alloc ?_ (by first | (simp; done) | (simp; omega)) _ | refine Below.setCell ?_ (by first | (simp; done) | (simp; omega)) _)⟩
        · go_enter Tryz.func83, Tryz.ntmps83
          go_wp2
          go_ret
          exact ⟨ret_bool (by simp [h0, h1, h3]), by repeat (first | exact Below.refl _ _ | refine Below.alloc ?_ (by first | (simp; done) | (simp; omega)) _ | refine Below.setCell ?_ (by first | (simp; done) | (simp; omega)) _)⟩
      · have hb2 : (x2.toList == y2.toList) = false := str_ne h2
        go_enter Tryz.func83, Tryz.ntmps83
        go_wp2
        go_ret
        exact ⟨ret_bool (by simp [h0, h1, h2]), by repeat (first | exact Below.refl _ _ | refine Below.alloc ?_ (by first | (simp; done) | (simp; omega)) _ | refine Below.setCell ?_ (by first | (simp; done) | (simp; omega)) _)⟩
    · go_enter Tryz.func83, Tryz.ntmps83
      go_wp2
      go_ret
      exact ⟨ret_bool (by simp [h0, h1]), by repeat (first | exact Below.refl _ _ | refine Below.alloc ?_ (by first | (simp; done) | (simp; omega)) _ | refine Below.setCell ?_ (by first | (simp; done) | (simp; omega)) _)⟩
  · go_enter Tryz.func83, Tryz.ntmps83
    go_wp2
    go_ret
    exact ⟨ret_bool (by simp [h0]), by repeat (first | exact Below.refl _ _ | refine Below.alloc ?_ (by first | (simp; done) | (simp; omega)) _ | refine Below.setCell ?_ (by first | (simp; done) | (simp; omega)) _)⟩

set_option maxRecDepth 100000 in
set_option maxHeartbeats 1000000 in
theorem eqCallS_any (A B : Option Addr) (n m c d : Nat) (l l' : List (Int × Int × ByteArray × Int × ByteArray × ByteArray)) (w : World) (h : Rd w A n 6 (l.flatMap cCall)) (h' : Rd w B m 6 (l'.flatMap cCall)) (hn : n ≤ 1048576) (hm : m ≤ 1048576) :
    Calls Tryz.prog 49 #[.slice A n c, .slice B m d] w fun e w' => e = .returned (.bool (decide (l = l'))) ∧ Fr w w' := by
  have hl := h.lenk cCall_len (by omega)
  have hl' := h'.lenk cCall_len (by omega)
  have HL := Lib.hid hl
  have HL' := Lib.hid hl'
  clear hl hl'
  by_cases hnm : n = m
  · subst hnm
    go_enter Tryz.func49, Tryz.ntmps49
    go_wp2_with fail
    go_loopw [5] (fun i wr => ∃ k : Nat, k ≤ n ∧ i = .int .i64 k ∧ l.take k = l'.take k ∧ Fr w wr) (fun i _ => n - (intOf i).toNat)
    case atStart => exact ⟨0, Nat.zero_le _, rfl, by simp, Below.refl _ _⟩
    case round =>
      obtain ⟨k, hk, rfl, htake, hfr⟩ := hrel
      have HT := Lib.hid htake
      by_cases hlt : k < n
      · obtain ⟨⟨x0, x1, x2, x3, x4, x5⟩, hx⟩ := some_at HL.out hlt
        obtain ⟨⟨y0, y1, y2, y3, y4, y5⟩, hy⟩ := some_at HL'.out hlt
        obtain ⟨bk, of, rfl, hcell⟩ := (h.fr hfr).elem cCall_len hx (by omega)
        obtain ⟨bk', of', rfl, hcell'⟩ := (h'.fr hfr).elem cCall_len hy (by omega)
        have ca0 := hcell 0 _ rfl; simp only [Nat.add_zero] at ca0
        have ca1 := hcell 1 _ rfl
        have ca2 := hcell 2 _ rfl
        have ca3 := hcell 3 _ rfl
        have ca4 := hcell 4 _ rfl
        have ca5 := hcell 5 _ rfl
        have cb0 := hcell' 0 _ rfl; simp only [Nat.add_zero] at cb0
        have cb1 := hcell' 1 _ rfl
        have cb2 := hcell' 2 _ rfl
        have cb3 := hcell' 3 _ rfl
        have cb4 := hcell' 4 _ rfl
        have cb5 := hcell' 5 _ rfl
        have HX := Lib.hid hx
        have HY := Lib.hid hy
        have HF := Lib.hid hfr
        obtain ⟨bb, hbb, hcall⟩ : ∃ bb, decide ((x0, x1, x2, x3, x4, x5) = (y0, y1, y2, y3, y4, y5)) = bb ∧ ∀ w, Calls Tryz.prog 83 #[.agg #[.int .i64 x0, .int .i64 x1, .string x2, .int .i64 x3, .string x4, .string x5], .agg #[.int .i64 y0, .int .i64 y1, .string y2, .int .i64 y3, .string y4, .string y5]] w fun e w' => e = .returned (.bool bb) ∧ Fr w w' := ⟨_, rfl, eqCall_any (x0, x1, x2, x3, x4, x5) (y0, y1, y2, y3, y4, y5)⟩
        have HBB := Lib.hid hbb
        have HC := Lib.hid hcall
        clear h h' hx hy htake hfr hcell hcell' hbb hcall
        cases bb
        · go_wp2_with fail
          go_still_tail 8, (by kernel_rfl)
          go_wp2_with fail
          refine (HC.out _).mono ?_
          rintro e w2 ⟨rfl, f2⟩
          go_wp2
          go_ret
          have e : l ≠ l' := ne_of_at HX.out HY.out (of_decide_eq_false HBB.out)
          exact ⟨ret_bool (by simp [e]), HF.out.then (Fr.then (Fr.on (Below.refl _ _) 1) f2)⟩
        · go_wp2_with fail
          go_still_tail 8, (by kernel_rfl)
          go_wp2_with fail
          refine (HC.out _).mono ?_
          rintro e w2 ⟨rfl, f2⟩
          go_wp2
          go_roundw
          case rel => exact ⟨k + 1, by omega, by go_num, take_eq_step HT.out HX.out (of_decide_eq_true HBB.out ▸ HY.out), HF.out.then (Fr.then (Fr.on (Below.refl _ _) 1) f2)⟩
          case measure => simp [intOf]; omega
      · go_wp2
        go_ret
        have e : l = l' := take_eq_all (n := n) (by rw [show n = k from by omega]; exact HT.out) HL.out HL'.out
        exact ⟨by simp [e], hfr⟩
  · go_enter Tryz.func49, Tryz.ntmps49
    go_wp2
    go_ret
    have e : l ≠ l' := by rintro rfl; exact hnm (HL.out.symm.trans HL'.out)
    exact ⟨by simp [e], Below.refl _ _⟩

/-- The marks of an element, from the number k on. -/
def mkCall (k : Nat) : Int × Int × ByteArray × Int × ByteArray × ByteArray := (k, (k + 1), markS (k + 2), (k + 3), markS (k + 4), markS (k + 5))
def marksCall (n k : Nat) : List (Int × Int × ByteArray × Int × ByteArray × ByteArray) := (List.range n).map fun i => mkCall (k + i * 6)
theorem marksCall_at {n k i : Nat} (h : i < n) : (marksCall n k)[i]? = some (mkCall (k + i * 6)) := by simp [marksCall, h]
theorem marksCall_len (n k : Nat) : (marksCall n k).length = n := by simp [marksCall]
theorem marksCall_take (n k i : Nat) (h : i ≤ n) : (marksCall n k).take i = marksCall i k := by
  rw [marksCall, marksCall, ← List.map_take, List.take_range, Nat.min_eq_left h]

end Go.Proofs.YtaogikhpglcmjaaGreatDoor

