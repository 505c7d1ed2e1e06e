/-
  Run in the laws: made anew, compared, marked.
-/
import Derived.Test.YtcpijfioipgoeaaKit
import Derived.StillTailTactics
namespace Go.Proofs.Ytcpijfioipgoeaa
open Go.RowKit

def cRun (r : Int × Int) : List Value := [.int .i64 r.1, .int .i64 r.2]
theorem cRun_len (r : Int × Int) : (cRun r).length = 2 := rfl
theorem infoRun : (Try.prog.info? 34).map (fun i => (i.zero, i.size, i.bytes)) = some (some (.agg #[.int .i64 0, .int .i64 0]), 2, 16) := by kernel_rfl

end Go.Proofs.Ytcpijfioipgoeaa

