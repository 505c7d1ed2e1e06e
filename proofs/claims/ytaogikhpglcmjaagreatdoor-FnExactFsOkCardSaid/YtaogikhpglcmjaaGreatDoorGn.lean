/-
  Many texts in one: MScan, ReadVar.
-/
import Derived.Test.YtaogikhpglcmjaaGreatDoorGc
import Derived.Test.YtaogikhpglcmjaaGreatDoorGm
import Derived.Test.YtaogikhpglcmjaaGreatDoorTextN2
import Derived.Test.YtaogikhpglcmjaaGreatDoorGe
namespace Go.Proofs.YtaogikhpglcmjaaGreatDoor
open Go.RowKit
set_option linter.unusedVariables false

/-- The number that groups of seven bits spell. -/
def decT : List UInt8 → Nat
  | [] => 0
  | b :: r => b.toNat % 128 + 128 * decT r
theorem dec_varT (n : Nat) : decT (varT n) = n := by
  induction n using Nat.strongRecOn with
  | ind n ih =>
    by_cases h : n < 128
    · rw [varT_lo h]
      simp only [decT]
      rw [UInt8.toNat_ofNat_of_lt' (by simp [UInt8.size]; omega)]
      omega
    · rw [varT_hi h, decT, ih (n / 128) (by omega), UInt8.toNat_ofNat_of_lt' (by simp [UInt8.size]; omega)]
      omega
theorem varT_form (n : Nat) : ∃ p b, varT n = p ++ [b] ∧ b.toNat < 128 ∧ ∀ x ∈ p, ¬ x.toNat < 128 := by
  induction n using Nat.strongRecOn with
  | ind n ih =>
    by_cases h : n < 128
    · refine ⟨[], UInt8.ofNat n, by rw [varT_lo h]; rfl, ?_, by simp⟩
      rw [UInt8.toNat_ofNat_of_lt' (by simp [UInt8.size]; omega)]; exact h
    · obtain ⟨p, b, h1, h2, h3⟩ := ih (n / 128) (by omega)
      refine ⟨UInt8.ofNat (n % 128 + 128) :: p, b, by rw [varT_hi h, h1]; rfl, h2, fun x hx => ?_⟩
      rcases List.mem_cons.1 hx with rfl | hx
      · rw [UInt8.toNat_ofNat_of_lt' (by simp [UInt8.size]; omega)]; omega
      · exact h3 x hx
theorem varT_pos (n : Nat) : 0 < (varT n).length := by
  obtain ⟨p, b, h, _⟩ := varT_form n
  rw [h]; simp
theorem decT_lt : ∀ (l : List UInt8), decT l < 128 ^ l.length
  | [] => by simp [decT]
  | b :: r => by
    have h1 := decT_lt r
    have h2 : b.toNat % 128 < 128 := Nat.mod_lt _ (by decide)
    rw [decT, List.length_cons, Nat.pow_succ]
    omega
theorem decT_max {l : List UInt8} (h : l.length ≤ 7) : decT l ≤ 562949953421311 := by
  have h1 := decT_lt l
  have h2 : 128 ^ l.length ≤ 128 ^ 7 := Nat.pow_le_pow_right (by decide) h
  have h3 : 128 ^ 7 = 562949953421312 := by decide
  omega
theorem decT_snoc : ∀ (l : List UInt8) (b : UInt8), decT (l ++ [b]) = decT l + b.toNat % 128 * 128 ^ l.length
  | [], b => by simp [decT]
  | a :: r, b => by
    rw [List.cons_append, decT, decT_snoc r b, decT, List.length_cons, Nat.pow_succ, Nat.mul_add, Nat.add_assoc]
    congr 2
    rw [← Nat.mul_assoc, Nat.mul_comm 128, Nat.mul_assoc, Nat.mul_comm 128]
/-- The first byte of seven that ends a number. -/
def firstLow (s : List UInt8) : Option Nat := (s.take 7).findIdx? fun b => decide (b.toNat < 128)
/-- What a number at the beginning of a text is, and how long; (0, 0) where none stands there. -/
def readV (s : List UInt8) : Nat × Nat := match firstLow s with
  | none => (0, 0)
  | some i => if varT (decT (s.take (i + 1))) = s.take (i + 1) then (decT (s.take (i + 1)), i + 1) else (0, 0)
theorem firstLow_some {s : List UInt8} {i : Nat} : firstLow s = some i ↔ i < 7 ∧ (∃ b, s[i]? = some b ∧ b.toNat < 128) ∧ ∀ j, j < i → ∀ b, s[j]? = some b → ¬ b.toNat < 128 := by
  unfold firstLow
  rw [List.findIdx?_eq_some_iff_getElem]
  constructor
  · rintro ⟨hi, h1, h2⟩
    rw [List.length_take] at hi
    refine ⟨by omega, ⟨s[i]'(by omega), List.getElem?_eq_getElem (by omega), by simpa using h1⟩, fun j hj b hb => ?_⟩
    have := h2 j hj
    have hb2 := (List.getElem?_eq_some_iff.1 hb).2
    simp only [List.getElem_take, decide_eq_true_eq] at this
    rw [hb2] at this
    exact this
  · rintro ⟨h7, ⟨b, hb, hl⟩, h2⟩
    obtain ⟨hi, he⟩ := List.getElem?_eq_some_iff.1 hb
    refine ⟨by rw [List.length_take]; omega, by simp [List.getElem_take, he, hl], fun j hj => ?_⟩
    simp only [List.getElem_take, decide_eq_true_eq]
    exact h2 j hj _ (List.getElem?_eq_getElem (by omega))
theorem firstLow_none {s : List UInt8} : firstLow s = none ↔ ∀ j, j < 7 → ∀ b, s[j]? = some b → ¬ b.toNat < 128 := by
  unfold firstLow
  rw [List.findIdx?_eq_none_iff]
  constructor
  · intro h j hj b hb
    have hm : b ∈ s.take 7 := List.mem_of_getElem? (i := j) (by rw [List.getElem?_take_of_lt hj]; exact hb)
    simpa using h b hm
  · intro h b hb
    obtain ⟨j, hj⟩ := List.getElem?_of_mem hb
    have hj7 : j < 7 := by
      have := (List.getElem?_eq_some_iff.1 hj).1
      rw [List.length_take] at this; omega
    rw [List.getElem?_take_of_lt hj7] at hj
    simpa using h j hj7 b hj
theorem readV_le (s : List UInt8) : (readV s).2 ≤ s.length ∧ (readV s).2 ≤ 7 ∧ (readV s).1 ≤ 562949953421311 := by
  unfold readV
  split
  · simp
  · rename_i i hi
    obtain ⟨h7, ⟨b, hb, _⟩, _⟩ := firstLow_some.1 hi
    have := (List.getElem?_eq_some_iff.1 hb).1
    split
    · exact ⟨by simp only; omega, by simp only; omega, decT_max (by rw [List.length_take]; omega)⟩
    · simp
/-- A number's own text is read, and no more. -/
theorem readV_hit {s : List UInt8} {n k : Nat} (hk : k ≤ 7) (hs : k ≤ s.length) (h : varT n = s.take k) : readV s = (n, k) := by
  obtain ⟨p, b, hp, hb, hh⟩ := varT_form n
  have hlen : (s.take k).length = k := by rw [List.length_take]; omega
  have hpl : p.length + 1 = k := by rw [← hlen, ← h, hp]; simp
  have hfl : firstLow s = some p.length := by
    rw [firstLow_some]
    refine ⟨by omega, ⟨b, ?_, hb⟩, fun j hj c hc => ?_⟩
    · have : (s.take k)[p.length]? = some b := by rw [← h, hp]; simp
      rwa [List.getElem?_take_of_lt (by omega)] at this
    · have h1 : (s.take k)[j]? = some c := by rw [List.getElem?_take_of_lt (by omega)]; exact hc
      rw [← h, hp, List.getElem?_append_left hj] at h1
      exact hh c (List.mem_of_getElem? h1)
  have hd : decT (s.take k) = n := by rw [← h, dec_varT]
  rw [readV, hfl]
  simp only
  rw [hpl, hd, if_pos h]
/-- .. and where no beginning is a number's text nothing is read. -/
theorem readV_miss {s : List UInt8} (h : ∀ k, 1 ≤ k → k ≤ 7 → k ≤ s.length → varT (decT (s.take k)) ≠ s.take k) : readV s = (0, 0) := by
  unfold readV
  split
  · rfl
  · rename_i i hi
    obtain ⟨h7, ⟨b, hb, _⟩, _⟩ := firstLow_some.1 hi
    have := (List.getElem?_eq_some_iff.1 hb).1
    rw [if_neg (h (i + 1) (by omega) (by omega) (by omega))]
theorem readV_app {n : Nat} (hn : n ≤ 562949953421311) (r : List UInt8) : readV (varT n ++ r) = (n, (varT n).length) := by
  have hl : (varT n).length ≤ 7 := varT_len 6 n (by show n < 562949953421312; omega)
  exact readV_hit hl (by simp) (by rw [List.take_left' rfl])

/-! ### A reader: what is left, and is it bad? -/
abbrev Sc := List UInt8 × Bool
def numP (st : Sc) : Nat × Sc := if (st.2 || decide ((readV st.1).2 = 0)) = true then (0, (st.1, true)) else ((readV st.1).1, (st.1.drop (readV st.1).2, false))
def cutP (st : Sc) (n : Nat) : List UInt8 × Sc := if (st.2 || decide (st.1.length < n)) = true then ([], (st.1, true)) else (st.1.take n, (st.1.drop n, false))
def pieceP (st : Sc) : List UInt8 × Sc := cutP (numP st).2 (numP st).1
def manyP (st : Sc) (most : Nat) : Nat × Sc := if most < (numP st).1 then (0, ((numP st).2.1, true)) else if (numP st).2.2 = true then (0, (numP st).2) else ((numP st).1, (numP st).2)
theorem numP_app {n : Nat} (hn : n ≤ 562949953421311) (r : List UInt8) : numP (varT n ++ r, false) = (n, (r, false)) := by
  have hz : decide ((varT n).length = 0) = false := decide_eq_false (by have := varT_pos n; omega)
  rw [numP]
  simp only [readV_app hn r, hz]
  rw [if_neg (by simp), List.drop_left' rfl]
theorem cutP_app (l r : List UInt8) : cutP (l ++ r, false) l.length = (l, (r, false)) := by
  rw [cutP]
  rw [if_neg (by simp), List.take_left' rfl, List.drop_left' rfl]
theorem pieceP_app {l : List UInt8} (hl : l.length ≤ 562949953421311) (r : List UInt8) : pieceP (varT l.length ++ (l ++ r), false) = (l, (r, false)) := by
  rw [pieceP, numP_app hl]
  exact cutP_app l r
theorem manyP_app {n most : Nat} (hn : n ≤ 562949953421311) (hm : n ≤ most) (r : List UInt8) : manyP (varT n ++ r, false) most = (n, (r, false)) := by
  rw [manyP, numP_app hn]
  rw [if_neg (by simp only; omega), if_neg (by simp)]
def entP (st : Sc) : EntT × Sc :=
  ((hashN (pieceP (numP st).2).1, ((numP st).1 : Int), ofB (pieceP (numP st).2).1, ((numP (pieceP (numP st).2).2).1 : Int)), (numP (pieceP (numP st).2).2).2)
def entsP (st : Sc) : Nat → List EntT × Sc
  | 0 => ([], st)
  | k + 1 => ((entsP st k).1 ++ [(entP (entsP st k).2).1], (entP (entsP st k).2).2)
/-- An inode of a text; and is there one? -/
def nodP1 (t : List UInt8) : Sc := (cutP (t, false) 1).2
def nodP2 (t : List UInt8) : Nat × Sc := numP (nodP1 t)
def nodP3 (t : List UInt8) : Nat × Sc := numP (nodP2 t).2
def nodP4 (t : List UInt8) : Nat × Sc := numP (nodP3 t).2
def nodP5 (t : List UInt8) : List UInt8 × Sc := pieceP (nodP4 t).2
def nodP6 (t : List UInt8) : Nat × Sc := manyP (nodP5 t).2 12
def nodP7 (t : List UInt8) : List EntT × Sc := entsP (nodP6 t).2 (nodP6 t).1
def nodR (t : List UInt8) : Nod × Bool := ((((nodP2 t).1 : Int), ((nodP3 t).1 : Int), ((nodP4 t).1 : Int), ofB (nodP5 t).1, (nodP7 t).1), !(nodP7 t).2.2)
theorem varB_nat {n : Nat} (hn : n ≤ 562949953421311) : varB (n : Int) = varT n := by rw [varB, if_pos (by omega), Int.toNat_natCast]
theorem varB_int {n : Int} (h0 : 0 ≤ n) (hn : n ≤ 562949953421311) : varB n = varT n.toNat := by rw [varB, if_pos ⟨h0, hn⟩]
/-- Entries that are read as they are written. -/
def FineE (e : EntT) : Prop := e.1 = hashN (toB e.2.2.1) ∧ 0 ≤ e.2.1 ∧ e.2.1 ≤ 1000000 ∧ 0 ≤ e.2.2.2 ∧ e.2.2.2 ≤ 1000000 ∧ e.2.2.1.size ≤ 1000000
theorem entP_app {e : EntT} (h : FineE e) (r : List UInt8) : entP (entB e ++ r, false) = (e, (r, false)) := by
  obtain ⟨h1, h2, h3, h4, h5, h6⟩ := h
  obtain ⟨e0, e1, e2, e3⟩ := e
  simp only at h1 h2 h3 h4 h5 h6
  have hl : (toB e2).length = e2.size := toB_len e2
  have hb : entB (e0, e1, e2, e3) ++ r = varT e1.toNat ++ (varT (toB e2).length ++ (toB e2 ++ (varT e3.toNat ++ r))) := by
    simp only [entB, pieceB, varB_int h2 (by omega), varB_int h4 (by omega), varB_nat (show e2.size ≤ 562949953421311 by omega), hl, List.append_assoc]
  have k1 : numP (varT e1.toNat ++ (varT (toB e2).length ++ (toB e2 ++ (varT e3.toNat ++ r))), false) = (e1.toNat, (varT (toB e2).length ++ (toB e2 ++ (varT e3.toNat ++ r)), false)) := numP_app (by omega) _
  have k2 : pieceP (varT (toB e2).length ++ (toB e2 ++ (varT e3.toNat ++ r)), false) = (toB e2, (varT e3.toNat ++ r, false)) := pieceP_app (by omega) _
  have k3 : numP (varT e3.toNat ++ r, false) = (e3.toNat, (r, false)) := numP_app (by omega) _
  rw [hb, entP, k1]
  simp only [k2, k3, ofB_toB]
  rw [h1, Int.toNat_of_nonneg h2, Int.toNat_of_nonneg h4]
theorem entsP_app : ∀ (n : Nat) (es : List EntT) (r : List UInt8), es.length = n → (∀ e ∈ es, FineE e) → entsP (es.flatMap entB ++ r, false) n = (es, (r, false))
  | 0, es, r, hn, _ => by rw [List.eq_nil_of_length_eq_zero hn]; rfl
  | n + 1, es, r, hn, h => by
    rcases List.eq_nil_or_concat es with rfl | ⟨p, e, rfl⟩
    · simp at hn
    rw [List.concat_eq_append] at hn h ⊢
    have hp := entsP_app n p (entB e ++ r) (by simpa using hn) fun x hx => h x (List.mem_append_left _ hx)
    rw [entsP, List.flatMap_append, List.flatMap_singleton, List.append_assoc, hp]
    simp only [entP_app (h e (by simp))]
def FineN (x : Nod) : Prop := 0 ≤ x.1 ∧ x.1 ≤ 1000000 ∧ 0 ≤ x.2.1 ∧ x.2.1 ≤ 1000000 ∧ 0 ≤ x.2.2.1 ∧ x.2.2.1 ≤ 1000000 ∧ x.2.2.2.1.size ≤ 1000000 ∧ x.2.2.2.2.length ≤ 12 ∧ ∀ e ∈ x.2.2.2.2, FineE e
theorem nodR_app {x : Nod} (h : FineN x) : nodR (nodeB x) = (x, true) := by
  obtain ⟨h1, h2, h3, h4, h5, h6, h7, h8, h9⟩ := h
  obtain ⟨x0, x1, x2, x3, es⟩ := x
  simp only at h1 h2 h3 h4 h5 h6 h7 h8 h9
  have hl : (toB x3).length = x3.size := toB_len x3
  have hb : nodeB (x0, x1, x2, x3, es) = [105] ++ (varT x0.toNat ++ (varT x1.toNat ++ (varT x2.toNat ++ (varT (toB x3).length ++ (toB x3 ++ (varT es.length ++ (es.flatMap entB ++ []))))))) := by
    simp only [nodeB, pieceB, varB_int h1 (by omega), varB_int h3 (by omega), varB_int h5 (by omega), varB_nat (show x3.size ≤ 562949953421311 by omega), varB_nat (show es.length ≤ 562949953421311 by omega), hl, List.append_assoc, List.append_nil, List.cons_append, List.nil_append]
  have key : ∀ R0 R1 R2 R3 R5 R6 : List UInt8, R0 = varT x0.toNat ++ R1 → R1 = varT x1.toNat ++ R2 → R2 = varT x2.toNat ++ R3 → R3 = varT (toB x3).length ++ (toB x3 ++ R5) → R5 = varT es.length ++ R6 → R6 = es.flatMap entB ++ [] → nodR ([105] ++ R0) = ((x0, x1, x2, x3, es), true) := by
    intro R0 R1 R2 R3 R5 R6 q0 q1 q2 q3 q5 q6
    have k0 : nodP1 ([105] ++ R0) = (R0, false) := congrArg Prod.snd (cutP_app [105] _)
    have k1 : nodP2 ([105] ++ R0) = (x0.toNat, (R1, false)) := by rw [nodP2, k0, q0]; exact numP_app (by omega) _
    have k2 : nodP3 ([105] ++ R0) = (x1.toNat, (R2, false)) := by rw [nodP3, k1, q1]; exact numP_app (by omega) _
    have k3 : nodP4 ([105] ++ R0) = (x2.toNat, (R3, false)) := by rw [nodP4, k2, q2]; exact numP_app (by omega) _
    have k4 : nodP5 ([105] ++ R0) = (toB x3, (R5, false)) := by rw [nodP5, k3, q3]; exact pieceP_app (by omega) _
    have k5 : nodP6 ([105] ++ R0) = (es.length, (R6, false)) := by rw [nodP6, k4, q5]; exact manyP_app (by omega) h8 _
    have k6 : nodP7 ([105] ++ R0) = (es, ([], false)) := by rw [nodP7, k5, q6]; exact entsP_app es.length es [] rfl h9
    rw [nodR, k1, k2, k3, k4, k6]
    simp only [ofB_toB, Int.toNat_of_nonneg h1, Int.toNat_of_nonneg h3, Int.toNat_of_nonneg h5, Bool.not_false]
  rw [hb]
  exact key _ _ _ _ _ _ rfl rfl rfl rfl rfl rfl
end Go.Proofs.YtaogikhpglcmjaaGreatDoor

namespace Go.Proofs.YtaogikhpglcmjaaGreatDoor
open Go.RowKit

set_option linter.unusedVariables false
set_option linter.unusedSimpArgs false
theorem bits_or_add {n m q : Nat} (hn : n < 2 ^ q) (h : n + m * 2 ^ q < 9223372036854775808) : bits .or .i64 (n : Int) ((m * 2 ^ q : Nat) : Int) = ((n + m * 2 ^ q : Nat) : Int) := by
  have key : (BitVec.ofInt 64 (n : Int) ||| BitVec.ofInt 64 ((m * 2 ^ q : Nat) : Int)).toNat = n + m * 2 ^ q := by
    rw [BitVec.toNat_or, BitVec.toNat_ofInt, BitVec.toNat_ofInt]
    have e1 : ((n : Int) % ((2 ^ 64 : Nat) : Int)).toNat = n := by omega
    have e2 : (((m * 2 ^ q : Nat) : Int) % ((2 ^ 64 : Nat) : Int)).toNat = m * 2 ^ q := by omega
    rw [e1, e2, Nat.or_comm, Nat.mul_comm m, ← Nat.two_pow_add_eq_or_of_lt hn, Nat.add_comm]
  show IntKind.i64.wrap ((BitVec.ofInt 64 (n : Int) ||| BitVec.ofInt 64 ((m * 2 ^ q : Nat) : Int)).toNat : Nat) = _
  rw [key]
  exact IntWalk.i64_in _ (by omega)
theorem and_127u (b : UInt8) : bits .and .u8 (b.toNat : Int) 127 = ((b.toNat % 128 : Nat) : Int) := by
  have h : ((List.range 256).all fun (n : Nat) => bits .and .u8 (n : Int) 127 == ((n % 128 : Nat) : Int)) = true := by decide +kernel
  have := List.all_eq_true.1 h b.toNat (List.mem_range.2 b.toNat_lt)
  simpa using this
theorem pow7 (i : Nat) : 128 ^ i = 2 ^ (7 * i) := by rw [Nat.pow_mul]
theorem toB_take (s : ByteArray) (k : Nat) : s.extract 0 k = ofB ((toB s).take k) := by
  have := toB_extract s 0 k
  rw [List.drop_zero, Nat.sub_zero] at this
  rw [← this, ofB_toB]
theorem varS_nat {n : Nat} (h : n ≤ 562949953421311) : varS (n : Int) = ofB (varT n) := by rw [varS, varB_nat h]
set_option maxRecDepth 100000 in
set_option maxHeartbeats 4000000 in
theorem implReadVar_any (s : ByteArray) (w : World) (hs : s.size ≤ 1099511627776) :
    Calls Tryz.prog 92 #[.string s] w fun e w' => e = .returned (.tuple #[.int .i64 ((readV (toB s)).1 : Int), .int .i64 ((readV (toB s)).2 : Int)]) ∧ Fr w w' := by
  have HT := Lib.hid (show (toB s).length = s.size from toB_len s)
  obtain ⟨R, hR⟩ : ∃ R, R = readV (toB s) := ⟨_, rfl⟩
  rw [← hR]
  have HR := Lib.hid hR
  clear hR
  obtain ⟨R1, R2⟩ := R
  go_enter Tryz.func92, Tryz.ntmps92
  go_wp2_with fail
  go_loopw [4, 5] (fun nv iv wr => ∃ i n : Nat, iv = .int .i64 i ∧ nv = .int .i64 n ∧ i ≤ 7 ∧ i ≤ s.size ∧ n = decT ((toB s).take i) ∧ (∀ j, j < i → ∀ b, (toB s)[j]? = some b → ¬ b.toNat < 128) ∧ wr = w) (fun _ iv _ => 7 - (intOf iv).toNat)
  case atStart => exact ⟨0, 0, rfl, rfl, by omega, by omega, rfl, by simp, rfl⟩
  case round =>
    obtain ⟨i, n, rfl, rfl, hi7, his, hn, hhi, rfl⟩ := hrel
    have HN := Lib.hid hn
    have HH := Lib.hid hhi
    have hnb : n < 128 ^ i := by
      rw [hn]
      have h1 := decT_lt ((toB s).take i)
      rw [List.length_take, HT.out, Nat.min_eq_left his] at h1
      exact h1
    clear hn hhi
    have hi0 : (0 : Int) ≤ (i : Int) := by omega
    by_cases hgo : i < s.size ∧ i < 7
    · have hks : i < s.size := hgo.1
      have hlt1 : (i : Int) < (s.size : Int) := by omega
      have hlt7 : (i : Int) < 7 := by omega
      obtain ⟨b, hb⟩ := at_some (HT.out) hks
      have hbb := b.toNat_lt
      have hg := toB_getC hb hks
      have HBB := Lib.hid hb
      obtain ⟨d, hd⟩ : ∃ d, d = b.toNat % 128 := ⟨_, rfl⟩
      have hd128 : d < 128 := by rw [hd]; exact Nat.mod_lt _ (by decide)
      have a1 : bits .and .u8 (b.toNat : Int) 127 = (d : Int) := by rw [hd]; exact and_127u b
      have a1w : IntKind.i64.wrap (d : Int) = (d : Int) := IntWalk.i64_in _ (by omega)
      obtain ⟨q, hq⟩ : ∃ q, q = 7 * i := ⟨_, rfl⟩
      have hq42 : q ≤ 42 := by omega
      have a2 : (7 : Int) * (i : Int) = (q : Int) := by omega
      have a2w : IntKind.i64.wrap ((7 : Int) * (i : Int)) = (q : Int) := by rw [a2]; exact IntWalk.i64_in _ (by omega)
      have a2v : IntKind.i64.wrap (q : Int) = (q : Int) := IntWalk.i64_in _ (by omega)
      have hq0 : (0 : Int) ≤ (q : Int) := by omega
      have hq64 : (q : Int) ≤ 64 := by omega
      have hp : 2 ^ q ≤ 4398046511104 := Nat.le_trans (Nat.pow_le_pow_right (by decide) hq42) (by decide)
      have hpn : n < 2 ^ q := by rw [hq, ← pow7]; exact hnb
      have hdm : d * 2 ^ q ≤ 127 * 4398046511104 := Nat.mul_le_mul (by omega) hp
      obtain ⟨m, hm⟩ : ∃ m, m = d * 2 ^ q := ⟨_, rfl⟩
      have a3 : (d : Int) * 2 ^ q = (m : Int) := by rw [hm]; simp
      have a3w : IntKind.i64.wrap ((d : Int) * 2 ^ q) = (m : Int) := by rw [a3]; exact IntWalk.i64_in _ (by omega)
      have a3v : IntKind.i64.wrap (m : Int) = (m : Int) := IntWalk.i64_in _ (by omega)
      obtain ⟨r, hr⟩ : ∃ r, r = n + m := ⟨_, rfl⟩
      have a4 : bits .or .i64 (n : Int) (m : Int) = (r : Int) := by rw [hr, hm]; exact bits_or_add hpn (by omega)
      have htk : (toB s).take (i + 1) = (toB s).take i ++ [b] := hb.take
      have HRN := Lib.hid (show r = decT ((toB s).take (i + 1)) by
        rw [htk, decT_snoc, ← HN.out, List.length_take, HT.out, Nat.min_eq_left his, pow7, ← hq, ← hd, ← hm, hr])
      have hrb : r ≤ 562949953421311 := by rw [HRN.out]; exact decT_max (by rw [List.length_take]; omega)
      have HQ := Lib.hid hq
      clear hq hm hr hd htk
      by_cases hlo : b.toNat < 128
      · have hlo1 : (b.toNat : Int) < 128 := by omega
        obtain ⟨p, hp1, hp2⟩ : ∃ p : Nat, i + 1 ≤ p ∧ p ≤ i + 1 := ⟨i + 1, Nat.le_refl _, Nat.le_refl _⟩
        have hp3 : (i : Int) + 1 = (p : Int) := by omega
        have hp4 : IntKind.i64.wrap ((i : Int) + 1) = (p : Int) := by rw [hp3]; exact IntWalk.i64_in _ (by omega)
        have hp5 : IntKind.i64.wrap (p : Int) = (p : Int) := IntWalk.i64_in _ (by omega)
        have hp6 : (0 : Int) ≤ (p : Int) := by omega
        have hp7 : (p : Int) ≤ (s.size : Int) := by omega
        have hp8 : p ≤ s.size := by omega
        obtain ⟨t1, ht1⟩ : ∃ t, t = s.extract 0 p := ⟨_, rfl⟩
        have hex : s.extract 0 p = t1 := ht1.symm
        obtain ⟨T1, hT1⟩ : ∃ t, varS (r : Int) = t := ⟨_, rfl⟩
        have HT1 := Lib.hid hT1
        have HPI := Lib.hid (show p = i + 1 by omega)
        have HFL := Lib.hid (show firstLow (toB s) = some i from firstLow_some.2 ⟨by omega, ⟨b, hb, hlo⟩, HH.out⟩)
        have HEQ := Lib.hid (show T1 = t1 ↔ varT (decT ((toB s).take (i + 1))) = (toB s).take (i + 1) by
          rw [← hT1, ht1, toB_take, varS_nat hrb, ← HRN.out, ← HPI.out]
          exact ⟨fun h => ofB_inj h, fun h => by rw [h]⟩)
        clear ht1 hT1 hb
        have H := (Hp.start wr).drew
        by_cases heq : T1 = t1
        · have HE := Lib.hid (show (R1, R2) = (r, p) by
            rw [HR.out, readV, HFL.out]
            simp only
            rw [if_pos (HEQ.out.1 heq), HRN.out, HPI.out])
          have HE1 := Lib.hid (show R1 = r from congrArg Prod.fst HE.out)
          have HE2 := Lib.hid (show R2 = p from congrArg Prod.snd HE.out)
          subst heq
          go_wp2_with fail
          refine wp_region_held_drew (S := fun _ => True) (by kernel_rfl) ?_ (fun hHeld => ?_)
          · exact trivial
          obtain ⟨u0, hu0⟩ : ∃ uu : World, uu = wr.drew := ⟨_, rfl⟩
          rw [← hu0] at H ⊢
          clear hu0
          refine wpT 0 ?_
          refine wpT 2 ?_
          refine wpT 3 ?_
          refine wpT 4 ?_
          refine wpT 5 ?_
          refine wpC 1 fun K hK => ?_
          go_simp
          refine (implVar_any (r : Int) _).mono ?_
          rintro e u1 ⟨rfl, f9⟩
          replace H := H.go f9
          clear f9
          rw [HT1.out]
          go_wp2_with fail
          refine hK.out _ _ ?_ (fun hHeld => ?_)
          · exact trivial
          clear hK K
          try simp only [sA, sB, sC, Act.put, sD, sE, sF]
          refine wpT 6 ?_
          refine wpAnyH_done (by kernel_rfl) ?_ _
          go_wp2_with fail
          go_ret2
          rw [HE1.out, HE2.out]
          exact ⟨rfl, H.fr⟩
        · have HE := Lib.hid (show (R1, R2) = (0, 0) by
            rw [HR.out, readV, HFL.out]
            simp only
            rw [if_neg (fun h => heq (HEQ.out.2 h))])
          have HE1 := Lib.hid (show R1 = 0 from congrArg Prod.fst HE.out)
          have HE2 := Lib.hid (show R2 = 0 from congrArg Prod.snd HE.out)
          have hne : (T1.toList == t1.toList) = false := str_ne heq
          have hne2 : (T1.toList != t1.toList) = true := by simp only [bne, hne]; rfl
          clear heq
          go_wp2_with fail
          refine wp_region_held_drew (S := fun _ => True) (by kernel_rfl) ?_ (fun hHeld => ?_)
          · exact trivial
          obtain ⟨u0, hu0⟩ : ∃ uu : World, uu = wr.drew := ⟨_, rfl⟩
          rw [← hu0] at H ⊢
          clear hu0
          refine wpT 0 ?_
          refine wpT 2 ?_
          refine wpT 3 ?_
          refine wpT 4 ?_
          refine wpT 5 ?_
          refine wpC 1 fun K hK => ?_
          go_simp
          refine (implVar_any (r : Int) _).mono ?_
          rintro e u1 ⟨rfl, f9⟩
          replace H := H.go f9
          clear f9
          rw [HT1.out]
          go_wp2_with fail
          refine hK.out _ _ ?_ (fun hHeld => ?_)
          · exact trivial
          clear hK K
          try simp only [sA, sB, sC, Act.put, sD, sE, sF]
          refine wpT 6 ?_
          refine wpAnyH_done (by kernel_rfl) ?_ _
          go_wp2_with fail
          go_ret2
          rw [HE1.out, HE2.out]
          exact ⟨rfl, H.fr⟩
      · have hlo1 : ¬ (b.toNat : Int) < 128 := by omega
        have HH2 := Lib.hid (show ∀ j, j < i + 1 → ∀ b, (toB s)[j]? = some b → ¬ b.toNat < 128 from fun j hj c hc => by
          rcases Nat.lt_or_eq_of_le (Nat.le_of_lt_succ hj) with h | h
          · exact HH.out j h c hc
          · rw [h, HBB.out] at hc
            injection hc with hc
            rw [← hc]; exact hlo)
        clear hb
        go_wp2_with fail
        go_roundw
        case rel => exact ⟨i + 1, r, by go_num, rfl, by omega, by omega, HRN.out, HH2.out, by trivial⟩
        case measure => simp [intOf]; omega
    · have HE := Lib.hid (show (R1, R2) = (0, 0) by
        rw [HR.out, readV, show firstLow (toB s) = none from firstLow_none.2 fun j hj b hb => HH.out j (by
          have := (List.getElem?_eq_some_iff.1 hb).1
          rw [HT.out] at this
          omega) b hb])
      have HE1 := Lib.hid (show R1 = 0 from congrArg Prod.fst HE.out)
      have HE2 := Lib.hid (show R2 = 0 from congrArg Prod.snd HE.out)
      by_cases h1 : i < s.size
      · have hlt1 : (i : Int) < (s.size : Int) := by omega
        have hlt7 : ¬ (i : Int) < 7 := by omega
        go_wp2_with fail
        go_ret2
        rw [HE1.out, HE2.out]
        exact ⟨rfl, Below.refl _ _⟩
      · have hlt1 : ¬ (i : Int) < (s.size : Int) := by omega
        go_wp2_with fail
        go_ret2
        rw [HE1.out, HE2.out]
        exact ⟨rfl, Below.refl _ _⟩
set_option maxRecDepth 100000 in
set_option maxHeartbeats 4000000 in
theorem specReadVar_any (s : ByteArray) (w : World) (hs : s.size ≤ 1099511627776) :
    Calls Tryz.prog 84 #[.string s] w fun e w' => e = .returned (.tuple #[.int .i64 ((readV (toB s)).1 : Int), .int .i64 ((readV (toB s)).2 : Int)]) ∧ Fr w w' := by
  have HT := Lib.hid (show (toB s).length = s.size from toB_len s)
  obtain ⟨R, hR⟩ : ∃ R, R = readV (toB s) := ⟨_, rfl⟩
  rw [← hR]
  have HR := Lib.hid hR
  clear hR
  obtain ⟨R1, R2⟩ := R
  go_enter Tryz.func84, Tryz.ntmps84
  go_wp2_with fail
  go_loopw [4] (fun kv wr => ∃ k : Nat, kv = .int .i64 k ∧ 1 ≤ k ∧ k ≤ 8 ∧ (∀ j, 1 ≤ j → j < k → j ≤ s.size → varT (decT ((toB s).take j)) ≠ (toB s).take j) ∧ Fr w wr) (fun kv _ => 9 - (intOf kv).toNat)
  case atStart => exact ⟨1, rfl, by omega, by omega, fun j h1 h2 => by omega, Below.refl _ _⟩
  case round =>
    obtain ⟨k, rfl, hk1, hk8, hno, hf⟩ := hrel
    have HNO := Lib.hid hno
    have HF := Lib.hid hf
    clear hno hf
    have hk0 : (0 : Int) ≤ (k : Int) := by omega
    by_cases hk7 : k ≤ 7
    · have hk71 : (k : Int) ≤ 7 := by omega
      by_cases hks : k ≤ s.size
      · have hks1 : (k : Int) ≤ (s.size : Int) := by omega
        obtain ⟨g, hg1, hg2⟩ : ∃ g : Nat, g + 1 ≤ k ∧ k ≤ g + 1 := ⟨k - 1, by omega, by omega⟩
        have hg3 : (k : Int) - 1 = (g : Int) := by omega
        have hg4 : IntKind.i64.wrap ((k : Int) - 1) = (g : Int) := by rw [hg3]; exact IntWalk.i64_in _ (by omega)
        have hg5 : IntKind.i64.wrap (g : Int) = (g : Int) := IntWalk.i64_in _ (by omega)
        go_wp2_with fail
        go_loopw [5, 6] (fun nv iv wq => ∃ (t m : Nat) (z : Int), iv = .int .i64 z ∧ nv = .int .i64 m ∧ z + 1 = (t : Int) ∧ t ≤ k ∧ m = decT (((toB s).take k).drop t) ∧ Fr w wq) (fun _ iv _ => (intOf iv + 1).toNat)
        case atStart => exact ⟨k, 0, (g : Int), rfl, rfl, by omega, Nat.le_refl _, by rw [List.drop_eq_nil_of_le (by rw [List.length_take]; omega)]; rfl, HF.out⟩
        case round =>
          obtain ⟨t, m, z, rfl, rfl, hz, htk, hm, hw⟩ := hrel
          have HM := Lib.hid hm
          have HW := Lib.hid hw
          have hmb : m ≤ 562949953421311 := by rw [hm]; exact decT_max (by rw [List.length_drop, List.length_take]; omega)
          clear hm hw
          cases t with
          | zero =>
            have hz0 : ¬ (0 : Int) ≤ z := by omega
            have hz1 : z = -1 := by omega
            obtain ⟨t1, ht1⟩ : ∃ t, t = s.extract 0 k := ⟨_, rfl⟩
            have hex : s.extract 0 k = t1 := ht1.symm
            obtain ⟨T1, hT1⟩ : ∃ t, varS (m : Int) = t := ⟨_, rfl⟩
            have HT1 := Lib.hid hT1
            have HMD := Lib.hid (show m = decT ((toB s).take k) by rw [HM.out, List.drop_zero])
            have HEQ := Lib.hid (show T1 = t1 ↔ varT m = (toB s).take k by
              rw [← hT1, ht1, toB_take, varS_nat hmb]
              exact ⟨fun h => ofB_inj h, fun h => by rw [h]⟩)
            clear ht1 hT1
            have H := ((Hp.start w).go HW.out).drew
            by_cases heq : T1 = t1
            · have HE := Lib.hid (show (R1, R2) = (m, k) by
                rw [HR.out]; exact readV_hit hk7 (by rw [HT.out]; exact hks) (HEQ.out.1 heq))
              have HE1 := Lib.hid (show R1 = m from congrArg Prod.fst HE.out)
              have HE2 := Lib.hid (show R2 = k from congrArg Prod.snd HE.out)
              subst heq
              go_wp2_with fail
              refine wp_region_held_drew (S := fun _ => True) (by kernel_rfl) ?_ (fun hHeld => ?_)
              · exact trivial
              obtain ⟨u0, hu0⟩ : ∃ uu : World, uu = wr.drew := ⟨_, rfl⟩
              rw [← hu0] at H ⊢
              clear hu0
              refine wpT 0 ?_
              refine wpT 2 ?_
              refine wpT 3 ?_
              refine wpT 4 ?_
              refine wpC 1 fun K hK => ?_
              go_simp
              refine (specVar_any (m : Int) _).mono ?_
              rintro e u1 ⟨rfl, f9⟩
              replace H := H.go f9
              clear f9
              rw [HT1.out]
              go_wp2_with fail
              refine hK.out _ _ ?_ (fun hHeld => ?_)
              · exact trivial
              clear hK K
              try simp only [sA, sB, sC, Act.put, sD, sE, sF]
              refine wpT 5 ?_
              refine wpAnyH_done (by kernel_rfl) ?_ _
              go_wp2_with fail
              go_ret2
              rw [HE1.out, HE2.out]
              exact ⟨rfl, H.fr⟩
            · have hne : (T1.toList == t1.toList) = false := str_ne heq
              have HNO2 := Lib.hid (show ∀ j, 1 ≤ j → j < k + 1 → j ≤ s.size → varT (decT ((toB s).take j)) ≠ (toB s).take j from fun j h1 h2 h3 => by
                rcases Nat.lt_or_eq_of_le (Nat.le_of_lt_succ h2) with h | h
                · exact HNO.out j h1 h h3
                · rw [h, ← HMD.out]
                  exact fun h9 => heq (HEQ.out.2 h9))
              clear heq
              go_wp2_with fail
              refine wp_region_held_drew (S := fun _ => True) (by kernel_rfl) ?_ (fun hHeld => ?_)
              · exact trivial
              obtain ⟨u0, hu0⟩ : ∃ uu : World, uu = wr.drew := ⟨_, rfl⟩
              rw [← hu0] at H ⊢
              clear hu0
              refine wpT 0 ?_
              refine wpT 2 ?_
              refine wpT 3 ?_
              refine wpT 4 ?_
              refine wpC 1 fun K hK => ?_
              go_simp
              refine (specVar_any (m : Int) _).mono ?_
              rintro e u1 ⟨rfl, f9⟩
              replace H := H.go f9
              clear f9
              rw [HT1.out]
              go_wp2_with fail
              refine hK.out _ _ ?_ (fun hHeld => ?_)
              · exact trivial
              clear hK K
              try simp only [sA, sB, sC, Act.put, sD, sE, sF]
              refine wpT 5 ?_
              refine wpAnyH_done (by kernel_rfl) ?_ _
              go_wp2_with fail
              go_roundw
              case rel => exact ⟨k + 1, by go_num, by omega, by omega, HNO2.out, H.fr⟩
              case measure => simp [intOf]; omega
          | succ u =>
            have hzu : z = (u : Int) := by omega
            subst hzu
            have hu0 : (0 : Int) ≤ (u : Int) := by omega
            have hus : u < s.size := by omega
            have hu1 : (u : Int) < (s.size : Int) := by omega
            obtain ⟨b, hb⟩ := at_some (HT.out) hus
            have hbb := b.toNat_lt
            have hg := toB_getC hb hus
            obtain ⟨d, hd⟩ : ∃ d, d = b.toNat % 128 := ⟨_, rfl⟩
            have a1 : (b.toNat : Int).tmod 128 = (d : Int) := by rw [Int.tmod_eq_emod_of_nonneg (by omega), hd]; omega
            have hd1 : d < 128 := by omega
            have HD := Lib.hid (show d + 128 * m = decT (((toB s).take k).drop u) by
              have h1 : ((toB s).take k)[u]? = some b := by rw [List.getElem?_take_of_lt (by omega)]; exact hb
              obtain ⟨hul, hue⟩ := List.getElem?_eq_some_iff.1 h1
              rw [List.drop_eq_getElem_cons hul, hue, decT, ← HM.out, hd])
            have hdb : d + 128 * m ≤ 562949953421311 := by rw [HD.out]; exact decT_max (by rw [List.length_drop, List.length_take]; omega)
            obtain ⟨x, hx⟩ : ∃ x, x = d + 128 * m := ⟨_, rfl⟩
            have a2 : (m : Int) * 128 + (d : Int) = (x : Int) := by omega
            have a2w : IntKind.i64.wrap ((m : Int) * 128 + (d : Int)) = (x : Int) := by rw [a2]; exact IntWalk.i64_in _ (by omega)
            have a3w : IntKind.i64.wrap ((m : Int) * 128) = (m : Int) * 128 := IntWalk.i64_in _ (by omega)
            have HX := Lib.hid (show x = decT (((toB s).take k).drop u) by rw [hx]; exact HD.out)
            have HUW : (u : Int) - 1 + 1 = (u : Int) := by omega
            clear hd hb
            go_wp2_with fail
            go_roundw
            case rel => exact ⟨u, x, (u : Int) - 1, by go_num, by first | rfl | (simp only [a2]; done) | simp_all, by omega, by omega, HX.out, HW.out⟩
            case measure => simp [intOf] <;> omega
      · have hks1 : ¬ (k : Int) ≤ (s.size : Int) := by omega
        have HE := Lib.hid (show (R1, R2) = (0, 0) by
          rw [HR.out]; exact readV_miss fun j h1 h2 h3 => by
            rw [HT.out] at h3
            exact HNO.out j h1 (by omega) h3)
        have HE1 := Lib.hid (show R1 = 0 from congrArg Prod.fst HE.out)
        have HE2 := Lib.hid (show R2 = 0 from congrArg Prod.snd HE.out)
        go_wp2_with fail
        go_ret2
        rw [HE1.out, HE2.out]
        exact ⟨rfl, HF.out⟩
    · have hk71 : ¬ (k : Int) ≤ 7 := by omega
      have HE := Lib.hid (show (R1, R2) = (0, 0) by
        rw [HR.out]; exact readV_miss fun j h1 h2 h3 => by
          rw [HT.out] at h3
          exact HNO.out j h1 (by omega) h3)
      have HE1 := Lib.hid (show R1 = 0 from congrArg Prod.fst HE.out)
      have HE2 := Lib.hid (show R2 = 0 from congrArg Prod.snd HE.out)
      go_wp2_with fail
      go_ret2
      rw [HE1.out, HE2.out]
      exact ⟨rfl, HF.out⟩
end Go.Proofs.YtaogikhpglcmjaaGreatDoor
