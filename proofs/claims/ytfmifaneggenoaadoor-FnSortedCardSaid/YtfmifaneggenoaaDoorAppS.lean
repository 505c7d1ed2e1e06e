/-
  'append(s, t...)' in words of lists.
-/
import Derived.Test.YtfmifaneggenoaaDoorHeap
namespace Go.Proofs.YtfmifaneggenoaaDoor
open Go.RowKit

section
variable {W : List Nat} {w0 w w' : World} {l : List Ob} {P : Program} {ops : Array Oper} {rest : List Oper} {o : Oper} {a : Act} {Q : Exit → Act → World → Prop} {E : TypeId} {z : Value} {bytes : Nat}
/-- 'append(s, t...)' in words of lists, elements of one cell. -/
theorem wp_appS {α : Type} {f : α → Value} (H : Hp W w0 w l) (hgd : o.guard = none) (s x : Operand) (t : TypeId) (ho : o.op = .call { callee := .builtin .append, args := #[s, x], argTypes := #[t, t] })
    (ht : P.underlying t = some (.slice E)) (hI : (P.info? E).map (fun i => (i.zero, i.size, i.bytes)) = some (some z, 1, bytes)) (hzs : z.cells.size = 1)
    (i : Nat) (v : Value) (L : List α) (hrow : l[i]? = some (.row E 1 v L.length (L.map f))) (hs : a.eval s = v) (A : Option Addr) (c : Nat) (M : List α) (hx : a.eval x = .slice A M.length c) (hc : A = none → c = 0)
    (hrd : Rd w A M.length 1 (M.map f)) (h1 : ∀ u ∈ M, (f u).oneCell' = true) (h63 : L.length + M.length ≤ maxLen) (hbytes : (L.length + M.length) * bytes ≤ 140737488355328)
    (h : ∀ v' w', Hp W w0 w' (l.set i (.row E 1 v' (L ++ M).length ((L ++ M).map f))) → wpList P ops Q rest (a.put o.dst v') w') : wpList P ops Q (o :: rest) a w := by
  refine wp_appRd H hgd s x t ho ht hI hzs Nat.one_pos i v L.length (L.map f) hrow hs A M.length c (M.map f) hx hc hrd (by intro u hu; obtain ⟨y, hy, rfl⟩ := List.mem_map.1 hu; exact h1 y hy) h63 hbytes fun v' w' h' => h v' w' ?_
  rwa [List.length_append, List.map_append]
end
theorem own_cap' {w : World} {b : Nat} {E : TypeId} {k n : Nat} {A : Option Addr} {m c : Nat} {xs : List Value} (h : w.ownsRow b E k (.slice A m c) n xs) : A = none → c = 0 := by
  intro hA
  rcases h.2 with ⟨hv, _⟩ | ⟨g, cap, cur, hv, _⟩
  · injection hv
  · injection hv with h1 _ _; rw [hA] at h1; cases h1
theorem own_cap_le {w : World} {b : Nat} {E : TypeId} {k n : Nat} {A : Option Addr} {m c : Nat} {xs : List Value} (h : w.ownsRow b E k (.slice A m c) n xs) : m ≤ c := by
  rcases h.2 with ⟨hv, _⟩ | ⟨g, cap, cur, hv, _, _, hc, _⟩
  · injection hv with _ h2 h3; omega
  · injection hv with _ h2 h3; omega
end Go.Proofs.YtfmifaneggenoaaDoor
