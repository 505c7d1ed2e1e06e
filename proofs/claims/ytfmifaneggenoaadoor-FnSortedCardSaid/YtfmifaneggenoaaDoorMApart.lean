/-
  Signs taken apart, with their marks in order. No program in sight.
-/
import Derived.Test.YtfmifaneggenoaaDoorParts
namespace Go.Proofs.YtfmifaneggenoaaDoor

/-- The signs that the tables take apart. -/
def keysP : List Int := (rows8.flatMap fun r => r.1) ++ greekP.map Prod.fst ++ casesP.map Prod.fst
theorem pick_out {c : Int} (h : c ∉ keysP) : pickP c = [] := by
  simp only [keysP, List.mem_append, not_or, List.mem_flatMap, List.mem_map, not_exists, not_and] at h
  have h1 : NoRow c := fun j r hr => rowHit_no fun x hx e => h.1.1 r (List.mem_of_getElem? hr) (e ▸ hx)
  have h2 : NoGreek c := fun j p hp e => h.1.2 p (List.mem_of_getElem? hp) e
  have h3 : casesP.find? (fun p => decide (p.1 = c)) = none := List.find?_eq_none.2 fun p hp => by simpa using h.2 p hp
  rw [pickP, noRow_pick h1, noGreek_find h2, h3]
def keysGood : Bool := keysP.all fun c => inB c 192 8491 && decide (0 < (pickP c).length ∧ (pickP c).length ≤ 2) && rowTbl.any fun r => r.1.contains c
theorem keys_good : keysGood = true := by decide +kernel
theorem keys_at {c : Int} (h : c ∈ keysP) : (192 ≤ c ∧ c ≤ 8491) ∧ (0 < (pickP c).length ∧ (pickP c).length ≤ 2) ∧ ∃ r ∈ rowTbl, c ∈ r.1 := by
  have h1 := List.all_eq_true.1 keys_good c h
  simp only [Bool.and_eq_true, decide_eq_true_eq, List.any_eq_true, inB_iff, List.contains_iff_mem] at h1
  exact ⟨h1.1.1, h1.1.2, h1.2⟩
theorem parts_key {c : Int} (h : c ∈ keysP) : partsS c = pickP c := by rw [partsS, if_pos (keys_at h).2.1.1]
theorem parts_hangul {c : Int} (h : inB c 44032 55203 = true) : partsS c = hangulP c := by
  have h1 := inB_iff.1 h
  have h2 : c ∉ keysP := fun hk => by have := (keys_at hk).1; omega
  rw [partsS, pick_out h2, if_neg (by simp), if_pos h]
theorem parts_none {c : Int} (h : c ∉ keysP) (h2 : inB c 44032 55203 = false) : partsS c = [] := by
  rw [partsS, pick_out h, if_neg (by simp), h2]; rfl
theorem parts_far {c : Int} (h : inB c 192 8491 = false) (h2 : inB c 44032 55203 = false) : partsS c = [] :=
  parts_none (fun hk => by have := (keys_at hk).1; rw [← inB_iff, h] at this; cases this) h2
theorem parts_norow {c : Int} (h : ∀ (i : Nat) (r : List Int × List Int × Int), rowTbl[i]? = some r → c ∉ r.1) (h2 : inB c 44032 55203 = false) : partsS c = [] :=
  parts_none (fun hk => by
    obtain ⟨r, hr, hc⟩ := (keys_at hk).2.2
    obtain ⟨i, hi⟩ := List.mem_iff_getElem?.1 hr
    exact h i r hi hc) h2
def rowParts : Bool := rowTbl.all fun r => (r.1.zip r.2.1).all fun x => decide (partsS x.1 = if 0 < r.2.2 then [x.2, r.2.2] else [x.2])
theorem row_parts : rowParts = true := by decide +kernel
theorem parts_at_row {c y : Int} {i k : Nat} {r : List Int × List Int × Int} (hr : rowTbl[i]? = some r) (hc : r.1[k]? = some c) (hy : r.2.1[k]? = some y) : partsS c = if 0 < r.2.2 then [y, r.2.2] else [y] := by
  have h1 := List.all_eq_true.1 (List.all_eq_true.1 row_parts r (List.mem_of_getElem? hr)) (c, y) (List.mem_of_getElem? (i := k) (by rw [List.getElem?_zip_eq_some]; exact ⟨hc, hy⟩))
  simpa using h1

/-- How deep a sign goes. -/
def lvl : Nat → Int → Bool
  | 0, c => decide ((partsS c).length = 0)
  | n + 1, c => (partsS c).all (lvl n)
def takeF : Nat → Int → List Int
  | 0, c => [c]
  | n + 1, c => if (partsS c).length = 0 then [c] else (partsS c).flatMap (takeF n)
def takeS (c : Int) : List Int := takeF 3 c
theorem jamo_good : ((List.range 200).all fun (j : Nat) => decide (partsS (4352 + (j : Int)) = [])) = true := by decide +kernel
theorem jamo {x : Int} (h : 4352 ≤ x ∧ x ≤ 4546) : partsS x = [] := by
  have h1 := List.all_eq_true.1 jamo_good (x - 4352).toNat (by rw [List.mem_range]; omega)
  rw [show (4352 : Int) + ((x - 4352).toNat : Int) = x by omega] at h1
  simpa using h1
theorem hangul_in {c x : Int} (h : inB c 44032 55203 = true) (hx : x ∈ hangulP c) : 4352 ≤ x ∧ x ≤ 4546 := by
  have h1 := inB_iff.1 h
  rw [hangulP, List.mem_append] at hx
  rcases hx with hx | hx
  · simp only [List.mem_cons, List.not_mem_nil, or_false] at hx
    rcases hx with rfl | rfl <;> omega
  · split at hx
    · simp only [List.mem_cons, List.not_mem_nil, or_false] at hx
      subst hx; omega
    · simp at hx
theorem keys_lvl : (keysP.all (lvl 3)) = true := by decide +kernel
theorem lvl_all (c : Int) : lvl 3 c = true := by
  by_cases hk : c ∈ keysP
  · exact List.all_eq_true.1 keys_lvl c hk
  · rcases (show inB c 44032 55203 = true ∨ inB c 44032 55203 = false by cases inB c 44032 55203 <;> simp) with h | h
    · rw [lvl, parts_hangul h, List.all_eq_true]
      intro x hx
      rw [lvl, jamo (hangul_in h hx)]
      rfl
    · rw [lvl, parts_none hk h]
      rfl
theorem hangul_len (c : Int) : (hangulP c).length ≤ 3 := by
  rw [hangulP]; split <;> simp
theorem parts_len (c : Int) : (partsS c).length ≤ 3 := by
  by_cases hk : c ∈ keysP
  · rw [parts_key hk]; have := (keys_at hk).2.1; omega
  · rcases (show inB c 44032 55203 = true ∨ inB c 44032 55203 = false by cases inB c 44032 55203 <;> simp) with h | h
    · rw [parts_hangul h]; exact hangul_len c
    · rw [parts_none hk h]; simp
theorem flat_le {f : Int → List Int} {m : Nat} (hf : ∀ x, (f x).length ≤ m) : ∀ l : List Int, (l.flatMap f).length ≤ l.length * m
  | [] => by simp
  | x :: l => by
    have := flat_le hf l
    have := hf x
    rw [List.flatMap_cons, List.length_append, List.length_cons, Nat.add_mul]
    omega
theorem takeF_len : ∀ (n : Nat) (c : Int), (takeF n c).length ≤ 3 ^ n
  | 0, c => by simp [takeF]
  | n + 1, c => by
    rw [takeF]
    split
    · have : 0 < 3 ^ (n + 1) := Nat.pow_pos (by omega)
      simp only [List.length_cons, List.length_nil]; omega
    · have h1 := flat_le (takeF_len n) (partsS c)
      have h2 := Nat.mul_le_mul_right (3 ^ n) (parts_len c)
      rw [Nat.pow_succ]
      omega
theorem take_len (c : Int) : (takeS c).length ≤ 27 := takeF_len 3 c

def cls (c : Int) : Int := if (inB c 768 772 || c == 776) || c == 778 then 230 else if c = 803 then 220 else if c = 807 then 202 else 0
theorem cls_bound (c : Int) : 0 ≤ cls c ∧ cls c ≤ 230 := by
  unfold cls
  split
  · omega
  · split
    · omega
    · split <;> omega
def insF (x : Int) : List Int → List Int
  | [] => [x]
  | y :: r => if cls x < cls y then y :: insF x r else x :: y :: r
/-- One sign more, behind all that it must not stand ahead of. -/
def ins (o : List Int) (x : Int) : List Int := if 0 < cls x then (insF x o.reverse).reverse else o ++ [x]
theorem insF_pass {x : Int} {r : List Int} : ∀ {b : List Int}, (∀ y ∈ b, cls x < cls y) → insF x (b ++ r) = b ++ insF x r
  | [], _ => rfl
  | y :: b, h => by
    rw [List.cons_append, insF, if_pos (h y (by simp)), insF_pass fun z hz => h z (by simp [hz])]
    rfl
theorem ins_stop {o : List Int} {x : Int} {k : Nat} (hk : k ≤ o.length) (hd : ∀ y ∈ o.drop k, cls x < cls y) (h0 : k < o.length → 0 < cls x) (hs : k = 0 ∨ ¬ 0 < cls x ∨ ∃ y, o[k - 1]? = some y ∧ ¬ cls x < cls y ∧ 0 < k) :
    ins o x = o.take k ++ x :: o.drop k := by
  rw [ins]
  split
  · rename_i hx
    have e : o.reverse = (o.drop k).reverse ++ (o.take k).reverse := by rw [← List.reverse_append, List.take_append_drop]
    rw [e, insF_pass (by intro y hy; exact hd y (by simpa using hy))]
    have h1 : insF x (o.take k).reverse = x :: (o.take k).reverse := by
      rcases hs with rfl | h | ⟨y, hy, hxy, hk0⟩
      · simp [insF]
      · exact absurd hx h
      · obtain ⟨j, rfl⟩ : ∃ j, k = j + 1 := ⟨k - 1, by omega⟩
        simp only [Nat.add_sub_cancel] at hy
        rw [List.take_add_one, hy, Option.toList_some, List.reverse_append, List.reverse_singleton, List.singleton_append, insF, if_neg hxy]
    rw [h1, List.reverse_append, List.reverse_reverse, List.reverse_cons, List.reverse_reverse, List.append_assoc, List.singleton_append]
  · rename_i hx
    have hk2 : k = o.length := by
      rcases Nat.lt_or_ge k o.length with h | h
      · exact absurd (h0 h) hx
      · omega
    rw [List.take_of_length_le (by omega), List.drop_of_length_le (by omega)]
theorem insF_len (x : Int) : ∀ l : List Int, (insF x l).length = l.length + 1
  | [] => rfl
  | y :: l => by
    rw [insF]
    split
    · rw [List.length_cons, insF_len x l, List.length_cons]
    · rfl
theorem ins_len (o : List Int) (x : Int) : (ins o x).length = o.length + 1 := by
  rw [ins]
  split
  · rw [List.length_reverse, insF_len, List.length_reverse]
  · simp
theorem ins_nil (x : Int) : ins [] x = [x] := by rw [ins]; split <;> rfl
theorem ins_swap {o rest : List Int} {k : Nat} {x y : Int} (hy : o[k]? = some y) : ((o.take (k + 1) ++ x :: (o.drop (k + 1) ++ rest)).set (k + 1) y).set k x = o.take k ++ x :: (o.drop k ++ rest) := by
  obtain ⟨hk, rfl⟩ := List.getElem?_eq_some_iff.1 hy
  have h1 : o.take (k + 1) = o.take k ++ [o[k]] := by rw [List.take_add_one, hy]; rfl
  have h2 : o.drop k = o[k] :: o.drop (k + 1) := List.drop_eq_getElem_cons hk
  have hl : (o.take k).length = k := by rw [List.length_take]; omega
  rw [h1, h2, List.append_assoc, List.singleton_append, List.set_append, if_neg (by omega), hl, show k + 1 - k = 1 from by omega, List.set_cons_succ, List.set_cons_zero, List.set_append, if_neg (by omega), hl, Nat.sub_self, List.set_cons_zero]
  rfl
theorem foldl_len : ∀ (l o : List Int), (l.foldl ins o).length = o.length + l.length
  | [], o => rfl
  | x :: l, o => by rw [List.foldl_cons, foldl_len l, ins_len, List.length_cons]; omega
/-- Signs taken apart. -/
def apartL (l : List Int) : List Int := (l.flatMap takeS).foldl ins []
theorem apart_len (l : List Int) : (apartL l).length ≤ l.length * 27 := by
  rw [apartL, foldl_len]
  have := flat_le take_len l
  simpa using this
end Go.Proofs.YtfmifaneggenoaaDoor
