/-
  What the classes of marks lean on.
-/
import Derived.Test.YtlhjglkghdfbnaaMApart
import Derived.Test.YtlhjglkghdfbnaaInfo
import Derived.Test.YtlhjglkghdfbnaaL1In
import Derived.Test.YtlhjglkghdfbnaaWithin
