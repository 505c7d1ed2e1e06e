/-
  The classes of marks. No program in sight.
-/
import Derived.Test.YtlhjglkghdfbnaaMRangesOk
namespace Go.Proofs.Ytlhjglkghdfbnaa
def cls (c : Int) : Int := if (inB c 768 772 || c == 776) || c == 778 then 230 else if c = 803 then 220 else if c = 807 then 202 else 0
end Go.Proofs.Ytlhjglkghdfbnaa
