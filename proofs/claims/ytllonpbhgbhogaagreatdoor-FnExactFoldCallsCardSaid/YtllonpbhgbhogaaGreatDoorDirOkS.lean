/-
DirOk of the reference.
-/
import Derived.Test.YtllonpbhgbhogaaGreatDoorGh
import Derived.Test.YtllonpbhgbhogaaGreatDoorGe
import Derived.Test.YtllonpbhgbhogaaGreatDoorGb
namespace Go.Proofs.YtllonpbhgbhogaaGreatDoor
open Go.RowKit
set_option linter.unusedVariables false
set_option linter.unusedSimpArgs false
set_option maxRecDepth 100000 in
theorem specLess_any (x0 x1 : Int) (x2 : ByteArray) (x3 h i : Int) (w : World) :
 Calls Tryz.prog 130 #[.agg #[.int .i64 x0, .int .i64 x1, .string x2, .int .i64 x3], .int .i64 h, .int .i64 i] w fun e w' => e = .returned (.bool (lesB (x0, x1, x2, x3) h i)) ∧ Fr w w' := by
 have H := (Hp.start w).lay_ 109 [.int .i64 x0, .int .i64 x1, .string x2, .int .i64 x3] rfl;have F := Lib.hid H.fr
 by_cases h1 : x0 < h
 ·have HE := Lib.hid (show lesB (x0, x1, x2, x3) h i = true by simp [lesB, h1])
  go_enter Tryz.func130, Tryz.ntmps130
  go_wp2
  go_ret;rw [HE.out];exact ⟨rfl, F.out⟩
 ·by_cases h2 : x0 = h
  ·subst h2
   by_cases h3 : x1 < i
   ·have HE := Lib.hid (show lesB (x0, x1, x2, x3) x0 i = true by simp [lesB, h3])
    go_enter Tryz.func130, Tryz.ntmps130
    go_wp2
    go_ret;rw [HE.out];exact ⟨rfl, F.out⟩
   ·have HE := Lib.hid (show lesB (x0, x1, x2, x3) x0 i = false by simp [lesB, h3])
    go_enter Tryz.func130, Tryz.ntmps130
    go_wp2
    go_ret;rw [HE.out];exact ⟨rfl, F.out⟩
  ·have h2' : (x0 == h) = false := by simpa using h2
   have HE := Lib.hid (show lesB (x0, x1, x2, x3) h i = false by simp [lesB, h1, h2]);go_enter Tryz.func130, Tryz.ntmps130
   go_wp2
   go_ret;rw [HE.out];exact ⟨rfl, F.out⟩
end Go.Proofs.YtllonpbhgbhogaaGreatDoor
