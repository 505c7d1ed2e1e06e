/-
  Known, l12Over and KnownRanges: what they compute.
-/
import Derived.Test.YtejanpkkhkimcaaDoorMKnown
import Derived.Test.YtejanpkkhkimcaaDoorPut
import Derived.Test.YtejanpkkhkimcaaDoorHeap
import Derived.Test.YtejanpkkhkimcaaDoorInfo
import Derived.Deep.RegionLaw
import Derived.Maps.AppendAt
namespace Go.Proofs.YtejanpkkhkimcaaDoor
open Go.RowKit

section
variable {P : Program} {ops : Array Oper} {o : Oper} {a : Act} {Q : Exit → Act → World → Prop} {E : TypeId} {z : Value} {k bytes : Nat} {W : List Nat} {w0 w : World} {l : List Ob}
/-- 'append(s, x)', elements of k cells, as a step of a region that draws its order. -/
theorem step_appL {α : Type} {f : α → List Value} {K : Act → World → Prop} {E0 : Prop} (H : Hp W w0 w l) (hgd : o.guard = none) (s x : Operand) (t : TypeId) (ho : o.op = .call { callee := .builtin .append, args := #[s, x], argTypes := #[t, t] })
    (ht : P.underlying t = some (.slice E)) (hI : (P.info? E).map (fun i => (i.zero, i.size, i.bytes)) = some (some z, k, bytes)) (hzs : z.cells.size = k) (hsz : 0 < k)
    (i : Nat) (v : Value) (L : List α) (hrow : l[i]? = some (.row E k v L.length (L.flatMap f))) (hs : a.eval s = v) (g : Nat) (T : TypeId) (y : α) (hx : a.eval x = .slice (some ⟨g, 0, none⟩) 1 1) (hg : g = w.heap.size)
    (hl : (f y).length = k) (h1 : ∀ u ∈ f y, u.oneCell' = true) (h63 : L.length + 1 ≤ maxLen) (hbytes : (L.length + 1) * bytes ≤ 140737488355328)
    (h : ∀ v' w', Hp W w0 w' (l.set i (.row E k v' (L ++ [y]).length ((L ++ [y]).flatMap f))) → K (a.put o.dst v') w') :
    if Region.wanted o (yielded ops a.tmps) = true then Oper.wp P o a (w.alloc (.cells (f y).toArray T)) K Q else E0 := by
  subst hg
  rw [if_pos (by simp [Region.wanted, hgd])]
  obtain ⟨inf, hi, hz, hsize, hby⟩ := info_parts hI
  have HA := H.al (.cells (f y).toArray T)
  obtain ⟨v', w', hr, h2, h3, _, h5⟩ := run_append_own_at (P := P) (w.alloc (.cells (f y).toArray T)) 0 t o.type E inf z k bytes ht hi hz hsize hby hzs hsz v L.length (L.flatMap f) (HA.row i hrow) ⟨w.heap.size, 0, none⟩ 1 1 (f y) (by omega) (by simpa using news_at w (f y).toArray T) h1 h63 hbytes (Nat.zero_le _)
  have hres := h v' w' (by
    have h6 := HA.grow i hrow h3 h2 (h5.imp id fun e g hg => by rw [e] at hg; injection hg with hg; omega)
    rwa [show L.flatMap f ++ f y = (L ++ [y]).flatMap f from by simp, show L.length + 1 = (L ++ [y]).length from by simp] at h6)
  unfold Oper.wp execOp
  simp only [ho, resolve, invoke, builtin, Sem.run_bind, Sem.run_pure, Result.andThen_ok, List.map_toArray, List.map_cons, List.map_nil, hs, hx, hr]
  exact hres
end

theorem l1In_quiet (x lo hi : Int) (w : World) :
    Calls Tryd.prog 21 #[.int .i64 x, .int .i64 lo, .int .i64 hi] w fun e w' => e = .returned (.bool (inB x lo hi)) ∧ w' = w := by
  go_enter Tryd.func21, Tryd.ntmps21
  go_wp2
  all_goals go_ret
  · exact ⟨by simp [inB, *], rfl⟩
  · exact ⟨by simp [inB]; omega, rfl⟩

set_option linter.unusedVariables false
set_option maxRecDepth 100000 in
set_option maxHeartbeats 4000000 in
theorem specKnown_any (c : Int) (w : World) (ic : -9223372036854775808 ≤ c ∧ c ≤ 9223372036854775807) :
    Calls Tryd.prog 14 #[.int .i64 c] w fun e w' => e = .returned (.bool (knownS c)) ∧ Fr w w' := by
  have H1 := (Hp.start w).lit 3 1 26 (knFrom.map (Value.int .i64)) rfl (by simp [maxLen])
  have H2 := H1.lit 3 1 26 (knTo.map (Value.int .i64)) rfl (by simp [maxLen])
  have e1 : (w.alloc (.cells (knFrom.map (Value.int .i64)).toArray 3)).heap.size = w.heap.size + 1 := Array.size_push _
  rw [e1] at H2
  clear H1 e1
  go_enter Tryd.func14, Tryd.ntmps14
  go_wp2_with fail
  go_loopw [5] (fun kv wr => ∃ i : Nat, kv = .int .i64 i ∧ i ≤ 26 ∧ (knTbl.take i).any (fun p => inB c p.1 p.2) = false ∧ Hp [] w wr [.row 3 1 (.slice (some ⟨w.heap.size + 1, 0, none⟩) 26 26) 26 (knTo.map (Value.int .i64)), .row 3 1 (.slice (some ⟨w.heap.size, 0, none⟩) 26 26) 26 (knFrom.map (Value.int .i64))]) (fun kv _ => 26 - (intOf kv).toNat)
  case atStart => exact ⟨0, rfl, by omega, rfl, H2⟩
  case round =>
    clear H2
    obtain ⟨i, rfl, hi, hany, H⟩ := hrel
    by_cases hlt : i < 26
    · obtain ⟨⟨p, q⟩, hx⟩ := at_some knTbl_len hlt
      have cp := H.atM 1 rfl (show knFrom[i]? = some p by rw [knFrom_eq, List.getElem?_map, hx]; rfl)
      have cq := H.atM 0 rfl (show knTo[i]? = some q by rw [knTo_eq, List.getElem?_map, hx]; rfl)
      have hi0 : (0 : Int) ≤ (i : Int) := by omega
      have hi1 : (i : Int) < 26 := by omega
      have HX := Lib.hid hx
      have HA := Lib.hid hany
      clear hx hany
      go_wp2_with fail
      refine wp_region_quiet_lit (by kernel_rfl) (by kernel_rfl) ?_
      repeat (any_goals (first | go_big_quiet_step ((go_at_call 21; exact Calls.quiet_of_same (l1In_quiet _ _ _ _))) | quiet_step ((go_at_call 21; exact Calls.quiet_of_same (l1In_quiet _ _ _ _))) | (refine wpQuiet_step (fun K hK => ?_); go_simp; split <;> (refine hK _ ?_; clear hK K))))
      all_goals (refine wpQuiet_nil ?_; intro _ hw_; obtain ⟨nq, hw__⟩ := hw_; subst hw__)
      replace H := H.on nq
      have hbb : inB c p q = true ∨ inB c p q = false := by cases inB c p q <;> simp
      rcases hbb with hb | hb
      · rw [hb]
        go_wp2_with fail
        go_ret
        refine ⟨ret_bool ?_, H.fr⟩
        have : knTbl.any (fun p => inB c p.1 p.2) = true := List.any_eq_true.2 ⟨(p, q), HX.out.mem, hb⟩
        rw [knownS, this, Bool.true_and]
        by_cases h47 : c = 47 <;> simp [h47]
      · rw [hb]
        go_wp2_with fail
        go_roundw
        case rel => exact ⟨i + 1, by go_num, by omega, by rw [At.take HX.out, List.any_append, HA.out]; simpa using hb, H⟩
        case measure => simp [intOf]; omega
    · have hi26 : i = 26 := by omega
      have HA := Lib.hid hany
      clear hany
      go_wp2_with fail
      go_ret
      refine ⟨?_, H.fr⟩
      have h := HA.out
      rw [hi26, List.take_of_length_le (by rw [knTbl_len]; omega)] at h
      rw [knownS, h]
      rfl
end Go.Proofs.YtejanpkkhkimcaaDoor
