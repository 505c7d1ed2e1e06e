/-
  What the listed table of known signs gives the walks.
-/
import Derived.Test.YtfmifaneggenoaaDoorKnownW
import Derived.Test.YtfmifaneggenoaaDoorRows
import Derived.Test.YtfmifaneggenoaaDoorLaw2
import Derived.Lib.LaidTab
import Derived.LaidMore
import Derived.MakeChecks
import Derived.OpenShut
import Derived.Stop.Joined
namespace Go.Proofs.YtfmifaneggenoaaDoor
open Go.ChangeShapes Go.WideShapes Go.ChangeAt Go.RowKit

theorem gKn : Tryd.prog.globalNamed "loop.example/g00773/impl.knownParts" = some 0 := by kernel_rfl
theorem tKn : (Tryd.prog.globals[0]?).map (·.type) = some 83 := by kernel_rfl
theorem cKnT : Tryd.prog.cellsOf 83 = 54 := by kernel_rfl
theorem cKnE : Tryd.prog.cellsOf 3 = 1 := by kernel_rfl
theorem kpTab_cells : (kpTab.map fun z => Value.int .i64 z) = kpPairs.flatMap cPair := by rfl
theorem kpTab_data : (Rows.laid_loop_example_g00773_impl_knownParts : DataW Unit) = Lib.tabData .i64 kpTab := by rfl

theorem KT_of_laid {W : World} {rest : List (String × DataW Unit)} (h : laidMet Tryd.prog (("loop.example/g00773/impl.knownParts", Rows.laid_loop_example_g00773_impl_knownParts) :: rest) W) : KT W := by
  rw [kpTab_data] at h
  have hT := Lib.tabIs_of_head gKn tKn Tryd.underlying83 Tryd.underlying3 cKnE cKnT h
  refine ⟨by decide, fun _ => ⟨0, 0, rfl, fun j u hu => ?_⟩⟩
  have := World.var?_cell gKn hT j
  rw [kpTab_cells] at this
  rw [Nat.zero_add]
  simpa [hu] using this
end Go.Proofs.YtfmifaneggenoaaDoor
