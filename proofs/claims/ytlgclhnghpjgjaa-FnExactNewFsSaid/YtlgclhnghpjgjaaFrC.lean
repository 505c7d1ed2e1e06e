/-
  A cell that is as it was.
-/
import Derived.Test.YtlgclhnghpjgjaaMark
namespace Go.Proofs.Ytlgclhnghpjgjaa
open Go.RowKit
theorem fr_cellM {w w' : World} {p : Addr} {u : Value} (f : Fr w w') (h : w.cell? p = some u) : w'.cell? p = some u := (f.cell (World.block_lt_of_cell? w _ h)).trans h
end Go.Proofs.Ytlgclhnghpjgjaa
