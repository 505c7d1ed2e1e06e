/-
A law's code is read as bytes.
-/
import Derived.Test.YtllonpbhgbhogaaGreatDoorGk
import Derived.Test.YtllonpbhgbhogaaGreatDoorGa
namespace Go.Proofs.YtllonpbhgbhogaaGreatDoor
open Go.ChangeShapes Go.WideShapes Go.ChangeAt Go.RowKit
section
variable {H : Type} {enc : TypeId × Value → H} {P : Program}
theorem rd_code {W : World} {t e : TypeId} (ht : P.underlying t = some (.slice e)) (he : P.underlying e = some (.int .u8)) (hc : P.cellsOf e = 1)
 {v : Value} {d : DataW H} {p : List MemPlace} (hv : Value.okWide P W .any 0 t v) (h : DataW.Trod enc P W 0 (fun _ => true) true t v d p) :
 ∃ (A : Option Addr) (n c : Nat) (l : List UInt8), v = .slice A n c ∧ Rd W A n 1 (l.map cU8) ∧ n ≤ c ∧ c ≤ maxLen := by
 obtain ⟨A, n, c, rfl⟩ := okWide_slice ht hv;obtain ⟨fuel, hf⟩ := h;obtain ⟨A', n', c', l, hcs, h1, _, _, h2, h3⟩ := rd_of_cells (fun b : UInt8 => [cU8 b]) (fun _ => True) Nat.one_pos (fun _ => rfl) ht hc (fun n cs y _ h => by
  obtain ⟨a, ha, _, hw⟩ := DataW.trod_int he h;have hb : 0 ≤ a ∧ a ≤ 255 := by simpa [Lit.wf, IntKind.min, IntKind.max, IntKind.signed, IntKind.bits] using hw
  refine ⟨UInt8.ofNat a.toNat, ?_, trivial⟩;rw [ha, cU8, UInt8.toNat_ofNat_of_lt' (by simp [UInt8.size]; omega)]
  congr 2
  omega) hf
 simp [Value.cells] at hcs;obtain ⟨rfl, rfl, rfl⟩ := hcs;exact ⟨A, n, c, l, rfl, by rwa [← List.map_eq_flatMap] at h1, h2, h3⟩
end
end Go.Proofs.YtllonpbhgbhogaaGreatDoor
