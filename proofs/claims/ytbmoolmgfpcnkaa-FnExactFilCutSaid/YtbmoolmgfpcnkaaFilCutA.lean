/-
  Cut files: the contracts as the law's walk takes them; marks of files.
-/
import Derived.Test.YtbmoolmgfpcnkaaFilCutI
import Derived.Test.YtbmoolmgfpcnkaaFilCutS
import Derived.Test.YtbmoolmgfpcnkaaFil
namespace Go.Proofs.Ytbmoolmgfpcnkaa
open Go.RowKit

set_option maxRecDepth 100000 in
set_option maxHeartbeats 2000000 in
theorem markFil_any {w0 w : World} (z : Int) (E : Option Addr) (q r k : Nat) (xs : List Value) {l : List Ob} (i : Nat) (H : Hp [] w0 w l) (hi : l[i]? = some (.row 92 3 (.slice E q r) q xs))
    (hq : q ≤ 16777216) (hk : k ≤ 536870912) :
    Calls Try.prog 16 #[.agg #[.int .i64 z, .slice E q r], .int .i64 k] w fun e w' => e = .returned (.int .i64 ((k + q * 3 : Nat) : Int)) ∧
      Hp [] w0 w' (l.set i (.row 92 3 (.slice E q r) q ((marksExt q k).flatMap cExt))) := by
  have H1 := H.lay_ 34 [.int .i64 z, .slice E q r] rfl
  have hi1 : (Ob.blk w.heap.size 34 [.int .i64 z, .slice E q r] :: l)[i + 1]? = _ := hi
  clear hi H
  go_enter Try.func16, Try.ntmps16
  go_wp2_with fail
  refine (markExtS_any _ _ _ k _ _ _ (H1.row (i + 1) hi1) hq (by omega)).mono ?_
  rintro e w1 ⟨rfl, o1, g1⟩
  have H2 := H1.grow (i + 1) hi1 g1 o1 (.inl rfl)
  rw [List.set_cons_succ] at H2
  clear H1 hi1 g1 o1
  go_wp2
  go_ret
  exact ⟨rfl, H2.tail⟩

set_option maxRecDepth 100000 in
set_option maxHeartbeats 2000000 in
theorem heldFil_any {z : Int} (E : Option Addr) (q r k : Nat) (w : World) (h1 : Rd w E q 3 ((marksExt q k).flatMap cExt)) (hq : q ≤ 16777216) (hk : k ≤ 536870912) :
    Calls Try.prog 18 #[.agg #[.int .i64 z, .slice E q r], .int .i64 k] w fun e w' => e = .returned (.int .i64 ((k + q * 3 : Nat) : Int)) ∧ Fr w w' := by
  have H1 := (Hp.start w).lay_ 34 [.int .i64 z, .slice E q r] rfl
  have hr1 := H1.old h1
  clear h1
  go_enter Try.func18, Try.ntmps18
  go_wp2_with fail
  refine (heldExtS_any _ _ _ k _ hr1 hq (by omega)).mono ?_
  rintro e w1 ⟨rfl, f1⟩
  have H2 := H1.go f1
  obtain ⟨p, hp⟩ : ∃ p, p = k + q * 3 := ⟨_, rfl⟩
  have HP := Lib.hid hp
  rw [← hp]
  clear hp H1 hr1
  go_wp2
  go_ret
  exact ⟨ret_int (by rw [HP.out]), H2.fr⟩

theorem cutL_len (bits : List Bool) (data : List ByteArray) (z : Int) (l : List (Int × Int × Int)) (size : Int) : (cutL bits data z l size).length ≤ 12 ∨ (cutL bits data z l size).length = l.length := by
  unfold cutL
  split
  · exact .inl (cutExts_len l (endsI size))
  · exact .inr rfl
/-- As GaveSF, with the length named. -/
def GaveC (w : World) (n m : Nat) (bits : List Bool) (data : List ByteArray) (z : Int) (l : List (Int × Int × Int)) (ok : Bool) (e : Ending) (w' : World) : Prop := ∃ (A : Option Addr) (c : Nat) (B : Option Addr) (d : Nat) (E : Option Addr) (r : Nat),
  e = .returned (.tuple #[.agg #[.slice A n c, .slice B m d], .agg #[.int .i64 z, .slice E l.length r], .bool ok]) ∧
  Hp [] w w' [.row 4 1 (.slice A n c) n (bits.map Value.bool), .row 9 1 (.slice B m d) m (data.map Value.string), .row 92 3 (.slice E l.length r) l.length (l.flatMap cExt)]
theorem GaveSF.c {w w' : World} {n m : Nat} {bits : List Bool} {data : List ByteArray} {z : Int} {l : List (Int × Int × Int)} {ok : Bool} {e : Ending} (h : GaveSF w n m bits data z l ok e w') : GaveC w n m bits data z l ok e w' := by
  obtain ⟨A, c, B, d, E, q, r, he, rfl, H⟩ := h
  exact ⟨A, c, B, d, E, r, he, H⟩
theorem implFilCut_c (A : Option Addr) (n c : Nat) (bits : List Bool) (B : Option Addr) (m d : Nat) (data : List ByteArray) (z : Int) (E : Option Addr) (q r : Nat) (l : List (Int × Int × Int)) (size : Int) (w : World)
    (h0 : Rd w A n 1 (bits.map Value.bool)) (h1 : Rd w B m 1 (data.map Value.string)) (h2 : Rd w E q 3 (l.flatMap cExt)) (hcA : A = none → c = 0) (hcB : B = none → d = 0) (hcE : E = none → r = 0) (hn : n ≤ 1048576) (hm : m ≤ 1048576) (hz : ∀ s ∈ data, s.size ≤ 1048576) (hq : q ≤ 1048576) :
    Calls Try.prog 12 #[.agg #[.slice A n c, .slice B m d], .agg #[.int .i64 z, .slice E q r], .int .i64 size] w
      fun e w' => GaveC w n m (cutBits bits data z l size) (cutData bits data z l size) (cutZ bits data z l size) (cutL bits data z l size) (cutOk bits data z l size) e w' :=
  (implFilCut_any A n c bits B m d data z E q r l size w h0 h1 h2 hcA hcB hcE hn hm hz hq).mono fun _ _ h => h.c
theorem specFilCut_c (A : Option Addr) (n c : Nat) (bits : List Bool) (B : Option Addr) (m d : Nat) (data : List ByteArray) (z : Int) (E : Option Addr) (q r : Nat) (l : List (Int × Int × Int)) (size : Int) (w : World)
    (h0 : Rd w A n 1 (bits.map Value.bool)) (h1 : Rd w B m 1 (data.map Value.string)) (h2 : Rd w E q 3 (l.flatMap cExt)) (hcA : A = none → c = 0) (hcB : B = none → d = 0) (hcE : E = none → r = 0) (hn : n ≤ 1048576) (hm : m ≤ 1048576) (hz : ∀ s ∈ data, s.size ≤ 1048576) (hq : q ≤ 1048576) :
    Calls Try.prog 9 #[.agg #[.slice A n c, .slice B m d], .agg #[.int .i64 z, .slice E q r], .int .i64 size] w
      fun e w' => GaveC w n m (cutBits bits data z l size) (cutData bits data z l size) (cutZ bits data z l size) (cutL bits data z l size) (cutOk bits data z l size) e w' :=
  (specFilCut_any A n c bits B m d data z E q r l size w h0 h1 h2 hcA hcB hcE hn hm hz hq).mono fun _ _ h => h.c
end Go.Proofs.Ytbmoolmgfpcnkaa
