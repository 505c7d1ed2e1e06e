/-
  Many texts in one: VolDoS, RdCode, Law2, Door.
-/
import Derived.Test.YtmpldngnkacnmaaGreatDoorL6Do
import Derived.Test.YtmpldngnkacnmaaGreatDoorVolOkS
import Derived.Test.YtmpldngnkacnmaaGreatDoorGf
import Derived.Test.YtmpldngnkacnmaaGreatDoorGr
import Derived.Test.YtmpldngnkacnmaaGreatDoorGs
import Derived.Test.YtmpldngnkacnmaaGreatDoorGa
import Derived.Test.YtmpldngnkacnmaaGreatDoorGb
import Derived.Test.YtmpldngnkacnmaaGreatDoorRows
import Derived.Lib.LaidTab
import Derived.LaidMore
import Derived.MakeChecks
import Derived.OpenShut
import Derived.Stop.Joined
set_option linter.unusedVariables false
set_option linter.unusedSimpArgs false
namespace Go.Proofs.YtmpldngnkacnmaaGreatDoor
open Go.RowKit
theorem Hp.instead {W : List Nat} {w0 w w' : World} {l : List Ob} {o o' : Ob} (h : Hp W w0 w l) (i : Nat) (hi : l[i]? = some o) (K : Hp [] w w' [o']) : Hp W w0 w' (l.set i o') :=
 Hp.back i (Hp.vlt i hi) ((h.join K).sub (List.Sublist.cons_cons _ (List.eraseIdx_sublist _ _)))
theorem GotV.held {w0 w1 w2 : World} {W : List Nat} {l : List Ob} {A0 : Option Addr} {n0 c0 : Nat} {L0 : List (Value × Nod)} {out : OutT} {e : Ending} (h : GotV w1 A0 n0 c0 L0 out e w2) (H : Hp W w0 w1 l) (i : Nat) (hi : l[i]? = some (obN (.slice A0 n0 c0) n0 L0)) :
 ∃ A n c L, e = .returned (.tuple #[.agg #[.int .i64 out.1.1, .slice A n c], .agg (resL out.2).toArray]) ∧ nodes L = out.1.2 ∧ Hp W w0 w2 (l.set i (obN (.slice A n c) n L)) := by
 obtain ⟨A, n, c, L, h1, h2, h3⟩ := h;refine ⟨A, n, c, L, h1, h2, ?_⟩
 rcases h3 with ⟨rfl, rfl, rfl, rfl, f⟩ | K
 ·rw [set_self' _ _ _ hi]; exact H.go f
 ·exact H.instead i hi K
end Go.Proofs.YtmpldngnkacnmaaGreatDoor
namespace Go.Proofs.YtmpldngnkacnmaaGreatDoor
open Go.ChangeShapes Go.WideShapes Go.ChangeAt Go.RowKit
section
variable {H : Type} {enc : TypeId × Value → H} {P : Program}
theorem rd_code {W : World} {t e : TypeId} (ht : P.underlying t = some (.slice e)) (he : P.underlying e = some (.int .u8)) (hc : P.cellsOf e = 1)
 {v : Value} {d : DataW H} {p : List MemPlace} (hv : Value.okWide P W .any 0 t v) (h : DataW.Trod enc P W 0 (fun _ => true) true t v d p) :
 ∃ (A : Option Addr) (n c : Nat) (l : List UInt8), v = .slice A n c ∧ Rd W A n 1 (l.map cU8) ∧ n ≤ c ∧ c ≤ maxLen := by
 obtain ⟨A, n, c, rfl⟩ := okWide_slice ht hv;obtain ⟨fuel, hf⟩ := h;obtain ⟨A', n', c', l, hcs, h1, _, _, h2, h3⟩ := rd_of_cells (fun b : UInt8 => [cU8 b]) (fun _ => True) Nat.one_pos (fun _ => rfl) ht hc (fun n cs y _ h => by
  obtain ⟨a, ha, _, hw⟩ := DataW.trod_int he h;have hb : 0 ≤ a ∧ a ≤ 255 := by simpa [Lit.wf, IntKind.min, IntKind.max, IntKind.signed, IntKind.bits] using hw
  refine ⟨UInt8.ofNat a.toNat, ?_, trivial⟩;rw [ha, cU8, UInt8.toNat_ofNat_of_lt' (by simp [UInt8.size]; omega)]
  congr 2
  omega) hf
 simp [Value.cells] at hcs;obtain ⟨rfl, rfl, rfl⟩ := hcs;exact ⟨A, n, c, l, rfl, by rwa [← List.map_eq_flatMap] at h1, h2, h3⟩
end
end Go.Proofs.YtmpldngnkacnmaaGreatDoor
namespace Go.Proofs.YtmpldngnkacnmaaGreatDoor
open Go.ChangeShapes Go.WideShapes Go.ChangeAt Go.RowKit Go.Deep
section
variable {H : Type} {enc : TypeId × Value → H} {P : Program}
end
end Go.Proofs.YtmpldngnkacnmaaGreatDoor
namespace Go.Proofs.YtmpldngnkacnmaaGreatDoor
open Go.ChangeShapes Go.WideShapes Go.ChangeAt Go.RowKit
theorem gKn : Tryz.prog.globalNamed "loop.example/g00773/impl.knownParts" = some 0 := by kernel_rfl
theorem tKn : (Tryz.prog.globals[0]?).map (·.type) = some 142 := by kernel_rfl
theorem cKnT : Tryz.prog.cellsOf 142 = 54 := by kernel_rfl
theorem cKnE : Tryz.prog.cellsOf 3 = 1 := by kernel_rfl
theorem kpTab_cells : (kpTab.map fun z => Value.int .i64 z) = kpPairs.flatMap cPair := by rfl
theorem kpTab_data : (Rows.laid_loop_example_g00773_impl_knownParts : DataW Unit) = Lib.tabData .i64 kpTab := by rfl
theorem KT_of_laid {W : World} {rest : List (String × DataW Unit)} (h : laidMet Tryz.prog (("loop.example/g00773/impl.knownParts", Rows.laid_loop_example_g00773_impl_knownParts) :: rest) W) : KT W := by
 rw [kpTab_data] at h;have hT := Lib.tabIs_of_head gKn tKn Tryz.underlying142 Tryz.underlying3 cKnE cKnT h;refine ⟨by decide, fun _ => ⟨0, 0, rfl, fun j u hu => ?_⟩⟩;have := World.var?_cell gKn hT j;rw [kpTab_cells] at this;rw [Nat.zero_add];simpa [hu] using this
end Go.Proofs.YtmpldngnkacnmaaGreatDoor