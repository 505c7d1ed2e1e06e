/-
  Ranges put one behind the other, and joined where they touch; no program in sight.
-/
import Derived.Test.YtejanpkkhkimcaaDoorMRangesOk
namespace Go.Proofs.YtejanpkkhkimcaaDoor
open Go.RowKit

/-- One range more, that begins at or behind the beginning of the last one. -/
def putR (o : List (Int × Int)) (r : Int × Int) : List (Int × Int) :=
  match o.getLast? with
  | none => [r]
  | some q => if q.2 + 1 < r.1 then o ++ [r] else o.dropLast ++ [(q.1, max q.2 r.2)]
theorem putR_nil (r : Int × Int) : putR [] r = [r] := rfl
theorem putR_app {o : List (Int × Int)} {q r : Int × Int} (h : q.2 + 1 < r.1) : putR (o ++ [q]) r = o ++ [q] ++ [r] := by simp [putR, h]
theorem putR_join {o : List (Int × Int)} {q r : Int × Int} (h : ¬ q.2 + 1 < r.1) : putR (o ++ [q]) r = o ++ [(q.1, max q.2 r.2)] := by simp [putR, h]
def mergeR (l : List (Int × Int)) : List (Int × Int) := l.foldl putR []
theorem mergeR_snoc (l : List (Int × Int)) (r : Int × Int) : mergeR (l ++ [r]) = putR (mergeR l) r := by simp [mergeR]
def SgR (l : List (Int × Int)) : Prop := ∀ r ∈ l, 0 ≤ r.1 ∧ r.1 ≤ 1114111 ∧ 0 ≤ r.2 ∧ r.2 ≤ 1114111
theorem SgR_put {o : List (Int × Int)} {r : Int × Int} (h : SgR o) (hr : 0 ≤ r.1 ∧ r.1 ≤ 1114111 ∧ 0 ≤ r.2 ∧ r.2 ≤ 1114111) : SgR (putR o r) := by
  rcases List.eq_nil_or_concat o with rfl | ⟨o', q, rfl⟩
  · intro x hx; simp [putR] at hx; subst hx; exact hr
  · rw [List.concat_eq_append] at h ⊢
    have hq := h q (by simp)
    by_cases hlt : q.2 + 1 < r.1
    · rw [putR_app hlt]
      intro x hx
      simp only [List.mem_append, List.mem_singleton] at hx
      rcases hx with (hx | rfl) | rfl
      · exact h x (by simp [hx])
      · exact hq
      · exact hr
    · rw [putR_join hlt]
      intro x hx
      simp only [List.mem_append, List.mem_singleton] at hx
      rcases hx with hx | rfl
      · exact h x (by simp [hx])
      · simp only; omega
theorem putR_len {o : List (Int × Int)} {r : Int × Int} : (putR o r).length ≤ o.length + 1 := by
  rcases List.eq_nil_or_concat o with rfl | ⟨o', q, rfl⟩
  · simp [putR]
  · rw [List.concat_eq_append]
    by_cases hlt : q.2 + 1 < r.1
    · rw [putR_app hlt]; simp
    · rw [putR_join hlt]; simp
theorem SgR_merge : ∀ {l : List (Int × Int)} {o : List (Int × Int)}, SgR o → SgR l → SgR (l.foldl putR o)
  | [], o, ho, _ => ho
  | r :: l, o, ho, hl => by
    rw [List.foldl_cons]
    exact SgR_merge (SgR_put ho (hl r (by simp))) fun x hx => hl x (by simp [hx])
theorem merge_len : ∀ {l : List (Int × Int)} {o : List (Int × Int)}, (l.foldl putR o).length ≤ o.length + l.length
  | [], o => by simp
  | r :: l, o => by
    rw [List.foldl_cons, List.length_cons]
    have := merge_len (l := l) (o := putR o r)
    have := putR_len (o := o) (r := r)
    omega
theorem SgR_take {l : List (Int × Int)} (h : SgR l) (k : Nat) : SgR (l.take k) := fun r hr => h r (List.mem_of_mem_take hr)
theorem SgR_ok {l : List (Int × Int)} (h : rOk l = true) : SgR l := by
  intro r hr
  obtain ⟨k, hk⟩ := List.getElem?_of_mem hr
  have hkl := (List.getElem?_eq_some_iff.1 hk).1
  simp only [rOk, List.all_eq_true, List.mem_range] at h
  have h1 := h k hkl
  simp only [rAt, List.getD, hk, Option.getD_some, Bool.and_eq_true, inB_iff] at h1
  omega
end Go.Proofs.YtejanpkkhkimcaaDoor
