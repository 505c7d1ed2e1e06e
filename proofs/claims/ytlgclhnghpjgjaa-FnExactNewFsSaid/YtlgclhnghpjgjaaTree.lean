/-
  Drawn regions with several acting operations: words.
-/
import Derived.Test.YtlgclhnghpjgjaaHeap
import Derived.Test.YtlgclhnghpjgjaaInfo
import Derived.Deep.RegionLaw
import Derived.Deep.RegionHeld
import Derived.Maps.AppendAt
namespace Go.Proofs.Ytlgclhnghpjgjaa
open Go.RowKit

theorem snocRec {α : Type} {p : List α → Prop} (nil : p []) (snoc : ∀ l a, p l → p (l ++ [a])) (l : List α) : p l := by
  have h : ∀ n, ∀ l : List α, l.length = n → p l := by
    intro n
    induction n with
    | zero => intro l hl; rw [List.eq_nil_of_length_eq_zero hl]; exact nil
    | succ n ih =>
      intro l hl
      rcases List.eq_nil_or_concat l with h | ⟨l', a, h⟩
      · subst h; cases hl
      · rw [List.concat_eq_append] at h
        subst h
        exact snoc l' a (ih l' (by simpa using hl))
  exact h _ l rfl
theorem fm_congr {α β : Type} {f g : α → Option β} : ∀ {l : List α}, (∀ x ∈ l, f x = g x) → l.filterMap f = l.filterMap g
  | [], _ => rfl
  | x :: l, h => by
    rw [List.filterMap_cons, List.filterMap_cons, h x (by simp), fm_congr (l := l) fun y hy => h y (by simp [hy])]
/-- The list in another order. -/
theorem Hp.reord {W : List Nat} {w0 w : World} {l : List Ob} (h : Hp W w0 w l) (is : List Nat) {n : Nat} (hn : l.length = n) (hp : is.Perm (List.range n)) : Hp W w0 w (is.filterMap fun i => l[i]?) := by
  subst hn
  refine h.perm (List.Perm.symm ?_)
  have h1 := hp.filterMap (fun i => l[i]?)
  have h2 : (List.range l.length).filterMap (fun i => l[i]?) = l := by
    clear h1 hp h
    induction l using snocRec with
    | nil => rfl
    | snoc l a ih =>
      rw [List.length_append, List.length_singleton, List.range_succ, List.filterMap_append]
      have h3 : (List.range l.length).filterMap (fun i => (l ++ [a])[i]?) = (List.range l.length).filterMap (fun i => l[i]?) := by
        apply fm_congr
        intro i hi
        rw [List.getElem?_append_left (List.mem_range.1 hi)]
      rw [h3, ih]
      simp
  rwa [h2] at h1

section
variable {P : Program} {ops : Array Oper} {o : Oper} {a : Act} {Q : Exit → Act → World → Prop} {E : TypeId} {z : Value} {k bytes : Nat} {W : List Nat} {w0 w : World} {l : List Ob}
/-- 'append(s, t...)' as a step of a region that draws its order. -/
theorem step_appRd {K : Act → World → Prop} {E0 : Prop} (H : Hp W w0 w l) (hgd : o.guard = none) (s x : Operand) (t : TypeId) (ho : o.op = .call { callee := .builtin .append, args := #[s, x], argTypes := #[t, t] })
    (ht : P.underlying t = some (.slice E)) (hI : (P.info? E).map (fun i => (i.zero, i.size, i.bytes)) = some (some z, k, bytes)) (hzs : z.cells.size = k) (hsz : 0 < k)
    (i : Nat) (v : Value) (n : Nat) (xs : List Value) (hrow : l[i]? = some (.row E k v n xs)) (hs : a.eval s = v) (A : Option Addr) (m c : Nat) (ys : List Value) (hx : a.eval x = .slice A m c) (hc : A = none → c = 0)
    (hrd : Rd w A m k ys) (h1 : ∀ u ∈ ys, u.oneCell' = true) (h63 : n + m ≤ maxLen) (hbytes : (n + m) * bytes ≤ 140737488355328)
    (h : ∀ v' w', Hp W w0 w' (l.set i (.row E k v' (n + m) (xs ++ ys))) → K (a.put o.dst v') w') :
    if Region.wanted o (yielded ops a.tmps) = true then Oper.wp P o a w K Q else E0 := by
  rw [if_pos (by simp [Region.wanted, hgd])]
  obtain ⟨inf, hi, hz, hsize, hby⟩ := info_parts hI
  cases A with
  | none =>
    have hm : m = 0 := by
      rcases Nat.eq_zero_or_pos m with h0 | h0
      · exact h0
      · obtain ⟨b, o, e, _⟩ := hrd.2 h0; cases e
    subst hm
    obtain rfl := hc rfl
    have hys : ys = [] := List.eq_nil_of_length_eq_zero (by simpa using hrd.1)
    subst hys
    have hr := run_append_owned_none (P := P) (w := w) 0 t o.type E inf k ht hi v n xs (H.row i hrow)
    have hres := h v w (by
      have h2 := H.turnRow i hrow (Gr.refl _ w) (H.row i hrow) (.inl rfl)
      simpa using h2)
    unfold Oper.wp execOp
    simp only [ho, resolve, invoke, builtin, Sem.run_bind, Sem.run_pure, Result.andThen_ok, List.map_toArray, List.map_cons, List.map_nil, hs, hx, hr]
    exact hres
  | some ad =>
    obtain ⟨v', w', hr, h2, h3, _, h5⟩ := run_append_own_at (P := P) w 0 t o.type E inf z k bytes ht hi hz hsize hby hzs hsz v n xs (H.row i hrow) ad m c ys hrd.1 (fun j u hu => by
      obtain ⟨b, o, e, hcell⟩ := hrd.get hu
      injection e with e
      subst e
      rw [Addr.add_lit]
      exact hcell) h1 h63 hbytes (Nat.zero_le _)
    have hres := h v' w' (H.grow i hrow h3 h2 (h5.imp id fun e g hg => by rw [e] at hg; injection hg with hg; omega))
    unfold Oper.wp execOp
    simp only [ho, resolve, invoke, builtin, Sem.run_bind, Sem.run_pure, Result.andThen_ok, List.map_toArray, List.map_cons, List.map_nil, hs, hx, hr]
    exact hres
/-- One word of what all orders of a region leave. -/
theorem wp_joint {c : Code} (R : Act → Act → World → Prop) (h1 : c.wp P (fun e a' w' => e = .normal ∧ R a a' w') a w) (h2 : ∀ a' w', R a a' w' → Q .normal a' w') : c.wp P Q a w :=
  Code.wp_mono (fun e a' w' ⟨he, hr⟩ => by subst he; exact h2 a' w' hr) h1
/-- The same; the word is hidden while the orders are walked. -/
theorem wp_jointH {c : Code} (R : Act → Act → World → Prop) (h1 : ∀ R' : Act → World → Prop, Hid (∀ a' w', R a a' w' → R' a' w') → c.wp P (fun e a' w' => e = .normal ∧ R' a' w') a w) (h2 : ∀ a' w', R a a' w' → Q .normal a' w') : c.wp P Q a w :=
  Code.wp_mono (fun e a' w' ⟨he, hr⟩ => by subst he; exact h2 a' w' hr) (h1 (R a) (Lib.hid fun _ _ h => h))
/-- The orders of a region meet: what holds there is said once ('J'), and gone on from once. -/
theorem wpAnyH_join {ops : Array Oper} {md : Region.Mode} {S : World → Prop} {fuel : Nat} {listed : Array Bool} (J : (Act → World → Prop) → Prop) (fuel' : Nat) (listed' : Array Bool)
    (h1 : Hid (J fun a' u => S u → wpAnyH P md ops Q S fuel' listed' a' u) → wpAnyH P md ops Q S fuel listed a w) (h2 : J fun a' u => S u → wpAnyH P md ops Q S fuel' listed' a' u) : wpAnyH P md ops Q S fuel listed a w := h1 (Lib.hid h2)
end
theorem sA {α : Type} {xs : List α} {i : Nat} (h : i < xs.toArray.size) : xs.toArray[i] = xs[i]'(by simpa using h) := List.getElem_toArray h
theorem sB {α : Type} (a : α) (l : List α) (i : Nat) (h : i + 1 < (a :: l).length) : (a :: l)[i + 1] = l[i]'(Nat.lt_of_succ_lt_succ h) := rfl
theorem sC {α : Type} (a : α) (l : List α) (h : 0 < (a :: l).length) : (a :: l)[0] = a := rfl
theorem sD {α : Type} (l : List α) (i : Nat) (a : α) : l.toArray.setIfInBounds i a = (l.set i a).toArray := List.setIfInBounds_toArray ..
theorem sE {α : Type} (x : α) (xs : List α) (a : α) : (x :: xs).set 0 a = a :: xs := rfl
theorem sF {α : Type} (x : α) (xs : List α) (n : Nat) (a : α) : (x :: xs).set (n + 1) a = x :: xs.set n a := rfl
end Go.Proofs.Ytlgclhnghpjgjaa
