/-
  When units fit those of a pattern. No program in sight.
-/
import Derived.Test.YtfmifaneggenoaaDoorKit
namespace Go.Proofs.YtfmifaneggenoaaDoor

def isU (u : List Int) (c : Int) : Bool := decide (u = [c])
/-- Do the parts so far fit the first k units? -/
def fitTo (u : List Int) (n : List (List Int)) (fr : List Bool) : Nat → Bool
  | 0 => isU u 42 && fr.getD 0 false
  | k + 1 => if isU u 42 = true then (fr.getD (k + 1) false || fitTo u n fr k) else (fr.getD k false && (isU u 63 || decide (u = n.getD k [])))
def fitRow (u : List Int) (n : List (List Int)) (fr : List Bool) : List Bool := (List.range (n.length + 1)).map (fitTo u n fr)
def fitFrom (p n : List (List Int)) : List Bool := p.foldl (fun fr u => fitRow u n fr) (true :: List.replicate n.length false)
def fitsL (p n : List (List Int)) : Bool := (fitFrom p n).getD n.length false
section
variable {u : List Int} {n : List (List Int)} {fr : List Bool} {k : Nat}
theorem fitRow_len : (fitRow u n fr).length = n.length + 1 := by simp [fitRow]
theorem fitRow_at (h : k < n.length + 1) : (fitRow u n fr)[k]? = some (fitTo u n fr k) := by simp [fitRow, h]
def mixT (u : List Int) (n : List (List Int)) (fr : List Bool) (k : Nat) : List Bool := (fitRow u n fr).take k ++ List.replicate (n.length + 1 - k) false
theorem mixT_len (h : k ≤ n.length + 1) : (mixT u n fr k).length = n.length + 1 := by
  rw [mixT, List.length_append, List.length_take, fitRow_len, List.length_replicate]; omega
theorem mixT_zero : mixT u n fr 0 = List.replicate (n.length + 1) false := by simp [mixT]
theorem mixT_all (h : n.length + 1 ≤ k) : mixT u n fr k = fitRow u n fr := by
  rw [mixT, List.take_of_length_le (by rw [fitRow_len]; exact h), show n.length + 1 - k = 0 by omega]; simp
theorem mixT_prev (h : k + 1 ≤ n.length + 1) : (mixT u n fr (k + 1))[k]? = some (fitTo u n fr k) := by
  rw [mixT, List.getElem?_append_left (by rw [List.length_take, fitRow_len]; omega), List.getElem?_take_of_lt (by omega), fitRow_at (by omega)]
theorem mixT_at (h : k < n.length + 1) : (mixT u n fr k)[k]? = some false := by
  have hl : ((fitRow u n fr).take k).length = k := by rw [List.length_take, fitRow_len]; omega
  rw [mixT, List.getElem?_append_right (by omega), hl, Nat.sub_self, List.getElem?_replicate, if_pos (by omega)]
theorem mixT_set (h : k < n.length + 1) : (mixT u n fr k).set k (fitTo u n fr k) = mixT u n fr (k + 1) := by
  have hl : ((fitRow u n fr).take k).length = k := by rw [List.length_take, fitRow_len]; omega
  rw [mixT, List.set_append_right _ _ (by omega), hl, Nat.sub_self, show n.length + 1 - k = (n.length + 1 - (k + 1)) + 1 by omega, List.replicate_succ, List.set_cons_zero, mixT, List.take_add_one, fitRow_at h]
  simp
theorem mixT_skip (h : k < n.length + 1) (h0 : fitTo u n fr k = false) : mixT u n fr k = mixT u n fr (k + 1) := by
  have h1 := mixT_set (u := u) (fr := fr) h
  rw [h0] at h1
  rw [← h1]
  apply List.ext_getElem?
  intro j
  by_cases hj : k = j
  · subst hj
    rw [List.getElem?_set_self (by rw [mixT_len (by omega)]; exact h), mixT_at h]
  · rw [List.getElem?_set_ne hj]
theorem fit_star0 (h : isU u 42 = true) {v : Bool} (hv : fr[0]? = some v) : fitTo u n fr 0 = v := by
  rw [fitTo, h, List.getD_eq_getElem?_getD, hv]; rfl
theorem fit_plain0 (h : isU u 42 = false) : fitTo u n fr 0 = false := by rw [fitTo, h]; rfl
theorem fit_star (h : isU u 42 = true) {v : Bool} (hv : fr[k + 1]? = some v) : fitTo u n fr (k + 1) = (v || fitTo u n fr k) := by
  rw [fitTo, if_pos h, List.getD_eq_getElem?_getD, hv]; rfl
theorem fit_plain (h : isU u 42 = false) {v : Bool} (hv : fr[k]? = some v) {x : List Int} (hx : n[k]? = some x) : fitTo u n fr (k + 1) = (v && (isU u 63 || decide (u = x))) := by
  rw [fitTo, if_neg (by rw [h]; simp), List.getD_eq_getElem?_getD, hv, List.getD_eq_getElem?_getD, hx]; rfl
end
theorem fitFrom_next {p n : List (List Int)} {i : Nat} {u : List Int} (h : p[i]? = some u) : fitFrom (p.take (i + 1)) n = fitRow u n (fitFrom (p.take i) n) := by
  rw [fitFrom, List.take_add_one, h, Option.toList_some, List.foldl_append]; rfl
theorem fitFrom_len (p n : List (List Int)) : (fitFrom p n).length = n.length + 1 := by
  have key : ∀ (p : List (List Int)) (fr : List Bool), fr.length = n.length + 1 → (p.foldl (fun fr u => fitRow u n fr) fr).length = n.length + 1 := by
    intro p
    induction p with
    | nil => intro fr h; exact h
    | cons u p ih => intro fr _; exact ih _ fitRow_len
  exact key p _ (by simp)
end Go.Proofs.YtfmifaneggenoaaDoor
