/-
  The signs' parts: tables of the program and of the reference, and what Parts and Pair come to. No program in sight.
-/
import Derived.Test.YtfmifaneggenoaaDoorBytes
import Derived.Test.YtfmifaneggenoaaDoorMRangesOk
namespace Go.Proofs.YtfmifaneggenoaaDoor

/-- The program's rows: signs, letters, mark. -/
def rowTbl : List (List Int × List Int × Int) :=
  [([192, 200, 204, 210, 217, 224, 232, 236, 242, 249], [65, 69, 73, 79, 85, 97, 101, 105, 111, 117], 768),
   ([193, 201, 205, 211, 218, 221, 225, 233, 237, 243, 250, 253], [65, 69, 73, 79, 85, 89, 97, 101, 105, 111, 117, 121], 769),
   ([194, 202, 206, 212, 219, 226, 234, 238, 244, 251], [65, 69, 73, 79, 85, 97, 101, 105, 111, 117], 770),
   ([195, 209, 213, 227, 241, 245], [65, 78, 79, 97, 110, 111], 771),
   ([196, 203, 207, 214, 220, 228, 235, 239, 246, 252, 255], [65, 69, 73, 79, 85, 97, 101, 105, 111, 117, 121], 776),
   ([197, 229], [65, 97], 778),
   ([199, 231], [67, 99], 807),
   ([902, 904, 905, 906, 908, 910, 911], [913, 917, 919, 921, 927, 933, 937], 769),
   ([940, 941, 942, 943, 972, 973, 974], [945, 949, 951, 953, 959, 965, 969], 769),
   ([469, 470], [220, 252], 772),
   ([7840, 7841], [65, 97], 803),
   ([7852, 7853], [7840, 7841], 770),
   ([8486, 8491], [937, 197], 0)]
/-- The reference's eight rows: signs, letters (bytes), mark. -/
def rows8 : List (List Int × List UInt8 × Int) :=
  [([192, 200, 204, 210, 217, 224, 232, 236, 242, 249], [65, 69, 73, 79, 85, 97, 101, 105, 111, 117], 768),
   ([193, 201, 205, 211, 218, 221, 225, 233, 237, 243, 250, 253], [65, 69, 73, 79, 85, 89, 97, 101, 105, 111, 117, 121], 769),
   ([194, 202, 206, 212, 219, 226, 234, 238, 244, 251], [65, 69, 73, 79, 85, 97, 101, 105, 111, 117], 770),
   ([195, 209, 213, 227, 241, 245], [65, 78, 79, 97, 110, 111], 771),
   ([196, 203, 207, 214, 220, 228, 235, 239, 246, 252, 255], [65, 69, 73, 79, 85, 97, 101, 105, 111, 117, 121], 776),
   ([197, 229], [65, 97], 778),
   ([199, 231], [67, 99], 807),
   ([7840, 7841], [65, 97], 803)]
def greekP : List (Int × Int) := [(902, 913), (904, 917), (905, 919), (906, 921), (908, 927), (910, 933), (911, 937), (940, 945), (941, 949), (942, 951), (943, 953), (972, 959), (973, 965), (974, 969)]
def casesP : List (Int × List Int) := [(469, [220, 772]), (470, [252, 772]), (7852, [7840, 770]), (7853, [7841, 770]), (8486, [937]), (8491, [197])]
def hangulP (c : Int) : List Int := [4352 + (c - 44032) / 588, 4449 + (c - 44032) % 588 / 28] ++ if 0 < (c - 44032) % 28 then [4519 + (c - 44032) % 28] else []
/-- What is at c's place of a row. -/
def rowHit (c : Int) : List Int → List UInt8 → Int → List Int
  | x :: xs, y :: ys, m => if x = c then [(y.toNat : Int), m] else rowHit c xs ys m
  | _, _, _ => []
def pickP (c : Int) : List Int :=
  match (rows8.map fun r => rowHit c r.1 r.2.1 r.2.2).find? (fun l => decide (0 < l.length)) with
  | some l => l
  | none => match greekP.find? (fun p => decide (p.1 = c)) with
    | some p => [p.2, 769]
    | none => match casesP.find? (fun p => decide (p.1 = c)) with
      | some p => p.2
      | none => []
/-- The parts of a sign. -/
def partsS (c : Int) : List Int := if 0 < (pickP c).length then pickP c else if inB c 44032 55203 then hangulP c else []

theorem rowHit_at {c : Int} {m : Int} : ∀ {xs : List Int} {ys : List UInt8} {k : Nat} {y : UInt8}, xs[k]? = some c → ys[k]? = some y → (∀ (j : Nat) (x : Int), j < k → xs[j]? = some x → x ≠ c) → rowHit c xs ys m = [(y.toNat : Int), m]
  | [], _, k, _, h, _, _ => by simp at h
  | _ :: _, [], k, _, _, h, _ => by simp at h
  | x :: xs, y' :: ys, 0, y, h, h', _ => by
    simp only [List.getElem?_cons_zero, Option.some.injEq] at h h'
    subst h h'
    simp [rowHit]
  | x :: xs, y' :: ys, k + 1, y, h, h', hn => by
    simp only [List.getElem?_cons_succ] at h h'
    have h0 := hn 0 x (by omega) rfl
    rw [rowHit, if_neg h0]
    exact rowHit_at h h' fun j z hj hz => hn (j + 1) z (by omega) (by simpa using hz)
theorem rowHit_no {c : Int} {m : Int} : ∀ {xs : List Int} {ys : List UInt8}, (∀ x ∈ xs, x ≠ c) → rowHit c xs ys m = []
  | [], _, _ => by simp [rowHit]
  | _ :: _, [], _ => by simp [rowHit]
  | x :: xs, y' :: ys, hn => by
    rw [rowHit, if_neg (hn x (by simp))]
    exact rowHit_no fun z hz => hn z (by simp [hz])
theorem find_first {α : Type} {p : α → Bool} : ∀ {l : List α} {k : Nat} {x : α}, l[k]? = some x → p x = true → (∀ (j : Nat) (y : α), j < k → l[j]? = some y → p y = false) → l.find? p = some x
  | [], _, _, h, _, _ => by simp at h
  | y :: l, 0, x, h, hp, _ => by
    simp only [List.getElem?_cons_zero, Option.some.injEq] at h
    subst h
    simp [hp]
  | y :: l, k + 1, x, h, hp, hn => by
    rw [List.find?_cons, hn 0 y (by omega) rfl]
    exact find_first (by simpa using h) hp fun j z hj hz => hn (j + 1) z (by omega) (by simpa using hz)
theorem find_none {α : Type} {p : α → Bool} {l : List α} (h : ∀ (j : Nat) (y : α), l[j]? = some y → p y = false) : l.find? p = none := by
  rw [List.find?_eq_none]
  intro x hx
  obtain ⟨j, hj⟩ := List.mem_iff_getElem?.1 hx
  simp [h j x hj]
/-- A sign of the reference's rows. -/
theorem parts_row {c : Int} {i : Nat} {r : List Int × List UInt8 × Int} {l : List Int} (hr : rows8[i]? = some r) (hl : l = rowHit c r.1 r.2.1 r.2.2) (h0 : 0 < l.length) (hn : ∀ (j : Nat) (r' : List Int × List UInt8 × Int), j < i → rows8[j]? = some r' → rowHit c r'.1 r'.2.1 r'.2.2 = []) : partsS c = l := by
  have hf : (rows8.map fun r => rowHit c r.1 r.2.1 r.2.2).find? (fun l => decide (0 < l.length)) = some l := by
    refine find_first (k := i) (by rw [List.getElem?_map, hr, hl]; rfl) (by simpa using h0) fun j y hj hy => ?_
    rw [List.getElem?_map] at hy
    cases hr' : rows8[j]? with
    | none => rw [hr'] at hy; cases hy
    | some r' =>
      rw [hr'] at hy
      simp only [Option.map_some, Option.some.injEq] at hy
      rw [← hy, hn j r' hj hr']
      rfl
  have hp : pickP c = l := by rw [pickP, hf]
  rw [partsS, hp, if_pos h0]
def NoRow (c : Int) : Prop := ∀ (j : Nat) (r' : List Int × List UInt8 × Int), rows8[j]? = some r' → rowHit c r'.1 r'.2.1 r'.2.2 = []
theorem noRow_pick {c : Int} (h : NoRow c) : (rows8.map fun r => rowHit c r.1 r.2.1 r.2.2).find? (fun l => decide (0 < l.length)) = none := by
  refine find_none fun j y hy => ?_
  rw [List.getElem?_map] at hy
  cases hr' : rows8[j]? with
  | none => rw [hr'] at hy; cases hy
  | some r' =>
    rw [hr'] at hy
    simp only [Option.map_some, Option.some.injEq] at hy
    rw [← hy, h j r' hr']
    rfl
theorem parts_greek {c : Int} {k : Nat} {b : Int} (h : NoRow c) (hk : greekP[k]? = some (c, b)) (hn : ∀ (j : Nat) (p : Int × Int), j < k → greekP[j]? = some p → p.1 ≠ c) : partsS c = [b, 769] := by
  have hf : greekP.find? (fun p => decide (p.1 = c)) = some (c, b) := find_first hk (by simp) fun j y hj hy => by simpa using hn j y hj hy
  have hp : pickP c = [b, 769] := by rw [pickP, noRow_pick h, hf]
  rw [partsS, hp]
  rfl
def NoGreek (c : Int) : Prop := ∀ (j : Nat) (p : Int × Int), greekP[j]? = some p → p.1 ≠ c
theorem noGreek_find {c : Int} (h : NoGreek c) : greekP.find? (fun p => decide (p.1 = c)) = none := find_none fun j y hy => by simpa using h j y hy
theorem parts_case {c : Int} {l : List Int} (h : NoRow c) (hg : NoGreek c) (hl : casesP.find? (fun p => decide (p.1 = c)) = some (c, l)) (h0 : 0 < l.length) : partsS c = l := by
  have hp : pickP c = l := by rw [pickP, noRow_pick h, noGreek_find hg, hl]
  rw [partsS, hp, if_pos h0]
theorem parts_rest {c : Int} (h : NoRow c) (hg : NoGreek c) (hl : casesP.find? (fun p => decide (p.1 = c)) = none) : partsS c = if inB c 44032 55203 then hangulP c else [] := by
  have hp : pickP c = [] := by rw [pickP, noRow_pick h, noGreek_find hg, hl]
  rw [partsS, hp]
  rfl

/-- The pairs that make a sign (beside the Hangul ones). -/
def pairT : List ((Int × Int) × Int) := rowTbl.flatMap fun r => if 0 < r.2.2 then (r.2.1.zip r.1).map fun x => ((x.1, r.2.2), x.2) else []
def candS : List (Int × Int) := [(192, 255), (469, 470), (902, 974), (7840, 7853)]
def lookT (a b : Int) : Option Int := (pairT.find? fun e => decide (e.1 = (a, b))).map (·.2)
/-- What Pair comes to. -/
def pairF (a b : Int) : Int × Bool :=
  if inB a 4352 4370 && inB b 4449 4469 then (44032 + 588 * (a - 4352) + 28 * (b - 4449), true)
  else if (inB a 44032 55203 && decide ((a - 44032) % 28 = 0)) && inB b 4520 4546 then (a + b - 4519, true)
  else match lookT a b with
    | some c => (c, true)
    | none => (0, false)
theorem look_none {a b : Int} (h : ∀ e ∈ pairT, e.1 ≠ (a, b)) : lookT a b = none := by
  rw [lookT, List.find?_eq_none.2 (by intro e he; simpa using h e he)]
  rfl
theorem look_mem {a b : Int} {e : (Int × Int) × Int} (h : e ∈ pairT) (hk : e.1 = (a, b)) : ∃ c, lookT a b = some c := by
  cases hl : pairT.find? fun e => decide (e.1 = (a, b)) with
  | none => exact absurd hk (by simpa using List.find?_eq_none.1 hl e h)
  | some y => exact ⟨y.2, by rw [lookT, hl]; rfl⟩
/-- The program's rows: a letter of a row that has a mark. -/
def rowsGood : Bool := rowTbl.all fun r => decide (r.1.length = r.2.1.length) && (decide (¬ 0 < r.2.2) || (r.2.1.zip r.1).all fun x => lookT x.1 r.2.2 == some x.2)
theorem rows_good : rowsGood = true := by decide +kernel
theorem pair_row {a b : Int} {i k : Nat} {r : List Int × List Int × Int} {c : Int} (hr : rowTbl[i]? = some r) (hk : r.2.1[k]? = some a) (hc : r.1[k]? = some c) (hm : r.2.2 = b) (hb : 0 < b) : lookT a b = some c := by
  have h1 := List.all_eq_true.1 rows_good r (List.mem_of_getElem? hr)
  simp only [Bool.and_eq_true, Bool.or_eq_true, decide_eq_true_eq] at h1
  rcases h1.2 with h2 | h2
  · omega
  · have h3 := List.all_eq_true.1 h2 (a, c) (List.mem_of_getElem? (i := k) (by rw [List.getElem?_zip_eq_some]; exact ⟨hk, hc⟩))
    rw [← hm]
    simpa using h3
theorem rows_len {i : Nat} {r : List Int × List Int × Int} (hr : rowTbl[i]? = some r) : r.1.length = r.2.1.length := by
  have h1 := List.all_eq_true.1 rows_good r (List.mem_of_getElem? hr)
  simp only [Bool.and_eq_true, decide_eq_true_eq] at h1
  exact h1.1
theorem pair_norow {a b : Int} (h : ∀ (i : Nat) (r : List Int × List Int × Int), rowTbl[i]? = some r → 0 < r.2.2 → r.2.2 = b → a ∉ r.2.1) : lookT a b = none := by
  refine look_none fun e he hk => ?_
  obtain ⟨r, hr, he⟩ := List.mem_flatMap.1 he
  split at he
  · rename_i hm
    obtain ⟨x, hx, rfl⟩ := List.mem_map.1 he
    simp only [Prod.mk.injEq] at hk
    obtain ⟨i, hi⟩ := List.mem_iff_getElem?.1 hr
    exact h i r hi hm hk.2 (hk.1 ▸ (List.of_mem_zip hx).1)
  · simp at he
/-- The reference's search: a sign of the four stretches that has just these parts. -/
def candGood : Bool := (candS.all fun p => (List.range (p.2 - p.1 + 1).toNat).all fun (j : Nat) => match partsS (p.1 + (j : Int)) with
  | [x, y] => lookT x y == some (p.1 + (j : Int))
  | _ => true) && pairT.all fun e => decide (partsS e.2 = [e.1.1, e.1.2]) && candS.any fun p => inB e.2 p.1 p.2
theorem cand_good : candGood = true := by decide +kernel
theorem pair_cand {a b c : Int} {p : Int × Int} (hp : p ∈ candS) (hc : p.1 ≤ c ∧ c ≤ p.2) (h : partsS c = [a, b]) : lookT a b = some c := by
  have h1 := cand_good
  rw [candGood, Bool.and_eq_true] at h1
  have h2 := List.all_eq_true.1 (List.all_eq_true.1 h1.1 p hp) (c - p.1).toNat (by rw [List.mem_range]; omega)
  rw [show p.1 + ((c - p.1).toNat : Int) = c by omega, h] at h2
  simpa using h2
theorem pair_nocand {a b : Int} (h : ∀ p ∈ candS, ∀ c, p.1 ≤ c → c ≤ p.2 → partsS c ≠ [a, b]) : lookT a b = none := by
  have h1 := cand_good
  rw [candGood, Bool.and_eq_true] at h1
  refine look_none fun e he hk => ?_
  have h2 := List.all_eq_true.1 h1.2 e he
  simp only [Bool.and_eq_true, decide_eq_true_eq, List.any_eq_true, inB_iff] at h2
  obtain ⟨h3, p, hp, h4, h5⟩ := h2
  refine h p hp e.2 h4 h5 ?_
  rw [h3, hk]
end Go.Proofs.YtfmifaneggenoaaDoor
