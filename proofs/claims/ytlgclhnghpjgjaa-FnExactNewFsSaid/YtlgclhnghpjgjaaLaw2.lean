/-
  What came in, opened to lists: more kinds.
-/
import Derived.Test.YtlgclhnghpjgjaaLaw
import Derived.Test.YtlgclhnghpjgjaaInfo
namespace Go.Proofs.Ytlgclhnghpjgjaa
open Go.ChangeShapes Go.WideShapes Go.ChangeAt Go.RowKit Go.Deep
section
variable {H : Type} {enc : TypeId × Value → H} {P : Program}
theorem rd_triples_of {W : World} {t e ti : TypeId} {f0 f1 f2 : Field} (ht : P.underlying t = some (.slice e)) (he : P.underlying e = some (.struct #[f0, f1, f2])) (hc : P.cellsOf e = 3)
    (hf0 : f0.type = ti ∧ f0.offset = 0) (hf1 : f1.type = ti ∧ f1.offset = 1) (hf2 : f2.type = ti ∧ f2.offset = 2) (hti : P.underlying ti = some (.int .i64)) (hci : P.cellsOf ti = 1)
    {fuel : Nat} {v : Value} {x : DataW H × List MemPlace} (hf : DataW.trod enc P W 0 (fun _ => true) true fuel t [v] = some x) :
    ∃ (A : Option Addr) (n c : Nat) (l : List (Int × Int × Int)), v = .slice A n c ∧ Rd W A n 3 (l.flatMap fun r => [.int .i64 r.1, .int .i64 r.2.1, .int .i64 r.2.2]) ∧ (∀ r ∈ l, I64 r.1 ∧ I64 r.2.1 ∧ I64 r.2.2) ∧ n ≤ c ∧ c ≤ maxLen := by
  obtain ⟨A, n, c, l, hv, h1, _, hok, h2, h3⟩ := rd_of_cells (fun r : Int × Int × Int => [.int .i64 r.1, .int .i64 r.2.1, .int .i64 r.2.2]) (fun r => I64 r.1 ∧ I64 r.2.1 ∧ I64 r.2.2) (by omega) (fun _ => rfl) ht hc (fun n cs y hl h => by
    obtain ⟨y0, y1, y2, m, _, _, t0, t1, t2⟩ := trod_struct3 he h
    rw [hf0.1, hf0.2, hci] at t0
    rw [hf1.1, hf1.2, hci] at t1
    rw [hf2.1, hf2.2, hci] at t2
    match cs, hl with
    | [u0, u1, u2], _ =>
      obtain ⟨a, ha, _, wa⟩ := DataW.trod_int hti t0
      obtain ⟨b, hb, _, wb⟩ := DataW.trod_int hti t1
      obtain ⟨c, hc, _, wc⟩ := DataW.trod_int hti t2
      simp at ha hb hc
      subst ha hb hc
      exact ⟨(a, b, c), rfl, i64_of_wf wa, i64_of_wf wb, i64_of_wf wc⟩) hf
  exact ⟨A, n, c, l, by simpa using hv, h1, hok, h2, h3⟩
theorem rd_bytes {W : World} {t e : TypeId} (ht : P.underlying t = some (.slice e)) (he : P.underlying e = some (.int .u8)) (hc : P.cellsOf e = 1)
    {v : Value} {d : DataW H} {p : List MemPlace} (hv : Value.okWide P W .any 0 t v) (h : DataW.Trod enc P W 0 (fun _ => true) true t v d p) :
    ∃ (A : Option Addr) (n c : Nat) (l : List UInt8), v = .slice A n c ∧ Rd W A n 1 (l.map cU8) ∧ n ≤ c ∧ c ≤ maxLen := by
  obtain ⟨A, n, c, l, rfl, h1, _, _, h2, h3⟩ := rd_of_trod (fun b : UInt8 => [cU8 b]) (fun _ => True) Nat.one_pos (fun _ => rfl) ht hc (fun n cs y _ h => by
    obtain ⟨a, ha, _, hw⟩ := DataW.trod_int he h
    have hb : 0 ≤ a ∧ a ≤ 255 := by simpa [Lit.wf, IntKind.min, IntKind.max, IntKind.signed, IntKind.bits] using hw
    refine ⟨UInt8.ofNat a.toNat, ?_, trivial⟩
    rw [ha, cU8, UInt8.toNat_ofNat_of_lt' (by simp [UInt8.size]; omega)]
    congr 2
    omega) hv h
  exact ⟨A, n, c, l, rfl, by rwa [← List.map_eq_flatMap] at h1, h2, h3⟩
end
end Go.Proofs.Ytlgclhnghpjgjaa
