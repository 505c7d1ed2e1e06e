/-
  The rows of the program's table of types that the walks name.
-/
import Derived.Test.YtlgclhnghpjgjaaHeap
namespace Go.Proofs.Ytlgclhnghpjgjaa
def cU8 (b : UInt8) : Value := .int .u8 b.toNat
def cSl (v : Value) : Value := v
theorem infoInt : (Try.prog.info? 3).map (fun i => (i.zero, i.size, i.bytes)) = some (some (.int .i64 0), 1, 8) := by kernel_rfl
theorem infoBool : (Try.prog.info? 4).map (fun i => (i.zero, i.size, i.bytes)) = some (some (.bool false), 1, 1) := by kernel_rfl
theorem infoString : (Try.prog.info? 9).map (fun i => (i.zero, i.size, i.bytes)) = some (some (.string ⟨#[]⟩), 1, 16) := by kernel_rfl
theorem infoU8 : (Try.prog.info? 5).map (fun i => (i.zero, i.size, i.bytes)) = some (some (.int .u8 0), 1, 1) := by kernel_rfl
end Go.Proofs.Ytlgclhnghpjgjaa
