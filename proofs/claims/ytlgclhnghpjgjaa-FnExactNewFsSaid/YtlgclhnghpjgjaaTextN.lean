/-
  Inodes and volumes as texts, of the program and of the reference.
-/
import Derived.Test.YtlgclhnghpjgjaaVar
import Derived.Test.YtlgclhnghpjgjaaNode
namespace Go.Proofs.Ytlgclhnghpjgjaa
open Go.RowKit

set_option linter.unusedVariables false
set_option linter.unusedSimpArgs false
def pieceB (s : ByteArray) : List UInt8 := varB (s.size : Int) ++ toB s
def entB (e : Int × Int × ByteArray × Int) : List UInt8 := varB e.2.1 ++ (pieceB e.2.2.1 ++ varB e.2.2.2)
def nodeB (x : Nod) : List UInt8 := (105 :: (varB x.1 ++ (varB x.2.1 ++ (varB x.2.2.1 ++ (pieceB x.2.2.2.1 ++ varB (x.2.2.2.2.length : Int)))))) ++ x.2.2.2.2.flatMap entB
def headB (next : Int) (n : Nat) : List UInt8 := 117 :: (varB next ++ varB (n : Int))
/-- The seventeen blocks. -/
def blocksB (next : Int) (l : List Nod) : List ByteArray := ofB (headB next l.length) :: (List.range 16).map fun i => match l[i]? with
  | some x => ofB (nodeB x)
  | none => ⟨#[]⟩
theorem pieceB_ofB (s : ByteArray) : varS (s.size : Int) ++ s = ofB (pieceB s) := by
  rw [varS, pieceB, ← ofB_append, ofB_toB]
theorem implPiece_any (s : ByteArray) (w : World) (hs : s.size ≤ 4398046511104) :
    Calls Try.prog 43 #[.string s] w fun e w' => e = .returned (.string (ofB (pieceB s))) ∧ Fr w w' := by
  have HE := Lib.hid (pieceB_ofB s)
  have hv := varS_size (s.size : Int)
  go_enter Try.func43, Try.ntmps43
  go_wp2_with fail
  refine (implVar_any _ _).mono ?_
  rintro e w1 ⟨rfl, f1⟩
  go_wp2_with fail
  go_ret
  rw [HE.out]
  exact ⟨rfl, f1⟩
theorem specPiece_any (s : ByteArray) (w : World) (hs : s.size ≤ 4398046511104) :
    Calls Try.prog 41 #[.string s] w fun e w' => e = .returned (.string (ofB (pieceB s))) ∧ Fr w w' := by
  have HE := Lib.hid (pieceB_ofB s)
  have hv := varS_size (s.size : Int)
  go_enter Try.func41, Try.ntmps41
  go_wp2_with fail
  refine (specVar_any _ _).mono ?_
  rintro e w1 ⟨rfl, f1⟩
  go_wp2_with fail
  go_ret
  rw [HE.out]
  exact ⟨rfl, f1⟩
end Go.Proofs.Ytlgclhnghpjgjaa
