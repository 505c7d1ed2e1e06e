/-
  Many texts in one: FilStore, MCut, MWrite, MBytes2, FreeOf, MFile.
-/
import Derived.Test.YtbmoolmgfpcnkaaFilCopy
import Derived.Test.YtbmoolmgfpcnkaaGa
import Derived.Test.YtbmoolmgfpcnkaaGb
import Derived.Test.YtbmoolmgfpcnkaaFilRead
import Derived.Test.YtbmoolmgfpcnkaaRuns
namespace Go.Proofs.Ytbmoolmgfpcnkaa
open Go.RowKit

set_option linter.unusedSimpArgs false
/-- A text with bytes from a place on. -/
def intoS (s : ByteArray) (k : Nat) (t : ByteArray) : ByteArray := s.extract 0 k ++ t ++ s.extract (k + t.size) s.size

set_option maxRecDepth 100000 in
set_option maxHeartbeats 4000000 in
theorem into_any (s : ByteArray) (k : Nat) (t : ByteArray) (w : World) (hk : k + t.size ≤ s.size) (hs : s.size ≤ 1000) :
    Calls Try.prog 48 #[.string s, .int .i64 k, .string t] w fun e w' => e = .returned (.string (intoS s k t)) ∧ Fr w w' := by
  obtain ⟨q, hq⟩ : ∃ q, q = t.size := ⟨_, rfl⟩
  have hts : t.size ≤ 1000 := by omega
  have hw : IntKind.i64.wrap ((k : Int) + (t.size : Int)) = ((k + t.size : Nat) : Int) := by rw [IntWalk.i64_in _ (by omega)]; omega
  obtain ⟨p, hp⟩ : ∃ p, p = k + t.size := ⟨_, rfl⟩
  rw [← hp] at hw hk
  have hks : (k : Int) ≤ (s.size : Int) := by omega
  have hps : (p : Int) ≤ (s.size : Int) := by omega
  have hk0 : (0 : Int) ≤ (k : Int) := by omega
  have hp0 : (0 : Int) ≤ (p : Int) := by omega
  have HP := Lib.hid (show s.extract 0 k ++ t ++ s.extract p s.size = intoS s k t by rw [hp]; rfl)
  clear hp hq
  go_enter Try.func48, Try.ntmps48
  go_wp2_with fail
  refine wp_region_quiet_lit (by kernel_rfl) (by kernel_rfl) ?_
  repeat (any_goals (first | go_big_quiet_step ((fail)) | quiet_step ((fail)) | (refine wpQuiet_step (fun K hK => ?_); go_simp; split <;> (refine hK _ ?_; clear hK K))))
  all_goals (refine wpQuiet_nil ?_; intro _ hw_; obtain ⟨nq, hw__⟩ := hw_; subst hw__)
  go_wp2_with fail
  go_ret
  exact ⟨congrArg (fun s => Ending.returned (.string s)) HP.out, Fr.on (Below.refl _ _) nq⟩

set_option maxRecDepth 100000 in
set_option maxHeartbeats 4000000 in
theorem store_any {W : List Nat} {w0 w : World} {l : List Ob} (H : Hp W w0 w l) (i j : Nat) (g gB n c m d : Nat) (A : Option Addr) (data : List ByteArray) (hi : l[i]? = some (.blk g 31 [.slice A n c, .slice (some ⟨gB, 0, none⟩) m d]))
    (hj : l[j]? = some (.row 9 1 (.slice (some ⟨gB, 0, none⟩) m d) m (data.map Value.string))) (b k : Nat) (s t : ByteArray) (hij : j ≠ i) (hb : At data b s) (hm : b < m) (hk : k + t.size ≤ s.size) (hs : s.size ≤ 1000) :
    Calls Try.prog 58 #[.pointer (some ⟨g, 0, none⟩), .int .i64 b, .int .i64 k, .string t] w fun e w' => e = .returned (.tuple #[]) ∧
      Hp W w0 w' (l.set j (.row 9 1 (.slice (some ⟨gB, 0, none⟩) m d) m ((data.set b (intoS s k t)).map Value.string))) := by
  have hts : t.size ≤ 1000 := by omega
  have hw : IntKind.i64.wrap ((k : Int) + (t.size : Int)) = ((k + t.size : Nat) : Int) := by rw [IntWalk.i64_in _ (by omega)]; omega
  obtain ⟨p, hp⟩ : ∃ p, p = k + t.size := ⟨_, rfl⟩
  rw [← hp] at hw hk
  have hks : (k : Int) ≤ (s.size : Int) := by omega
  have hps : (p : Int) ≤ (s.size : Int) := by omega
  have hk0 : (0 : Int) ≤ (k : Int) := by omega
  have hp0 : (0 : Int) ≤ (p : Int) := by omega
  have hb0 : (0 : Int) ≤ (b : Int) := by omega
  have hb1 : (b : Int) < (m : Int) := by omega
  have hz2 : (9223372036854775807 < min k s.size + t.size + (s.size - p)) = False := eq_false (by omega)
  have hz1 : (9223372036854775807 < min k s.size + t.size) = False := eq_false (by omega)
  have HP := Lib.hid (show s.extract 0 k ++ t ++ s.extract p s.size = intoS s k t by rw [hp]; rfl)
  clear hp
  have HBB := Lib.hid hb
  have s1 := H.bat i hi (j := 1) rfl
  have c1 := H.atM (f1 := Value.string) j hj hb
  have HD := H.drew
  have t1 := HD.bat i hi (j := 1) rfl
  have x1 := HD.atM (f1 := Value.string) j hj hb
  have x2 := HD.free j hj b
  clear hb
  go_enter Try.func58, Try.ntmps58
  go_wp2_with fail
  refine wp_region_held_drew (S := fun w' => w'.cell? ⟨g, 1, none⟩ = some (.slice (some ⟨gB, 0, none⟩) m d)) (by kernel_rfl) ?_ (fun hHeld => ?_)
  · exact t1
  refine wpAnyH_take (i := 0) (v := ?_) rfl (by kernel_rfl) (by kernel_rfl) (by kernel_rfl) (fun _ _ _ h => h) (Or.inl ⟨by kernel_rfl, ?_⟩) (by assumption) ?_
  rotate_left
  · (intro w hSw; (try dsimp only at hSw); go_simp; try (with_reducible rfl))
  try simp only [sA, sB, sC, Act.put, sD, sE, sF]
  refine wpAnyH_take (i := 1) (v := ?_) rfl (by kernel_rfl) (by kernel_rfl) (by kernel_rfl) (fun _ _ _ h => h) (Or.inl ⟨by kernel_rfl, ?_⟩) (by assumption) ?_
  rotate_left
  · (intro w hSw; (try dsimp only at hSw); go_simp; try (with_reducible rfl))
  try simp only [sA, sB, sC, Act.put, sD, sE, sF]
  refine wpAnyH_take (i := 2) (v := ?_) rfl (by kernel_rfl) (by kernel_rfl) (by kernel_rfl) (fun _ _ _ h => h) (Or.inl ⟨by kernel_rfl, ?_⟩) (by assumption) ?_
  rotate_left
  · (intro w hSw; (try dsimp only at hSw); go_simp; try (with_reducible rfl))
  try simp only [sA, sB, sC, Act.put, sD, sE, sF]
  refine wpAnyH_take (i := 3) (v := ?_) rfl (by kernel_rfl) (by kernel_rfl) (by kernel_rfl) (fun _ _ _ h => h) (Or.inl ⟨by kernel_rfl, ?_⟩) (by assumption) ?_
  rotate_left
  · (intro w hSw; (try dsimp only at hSw); go_simp; try (with_reducible rfl))
  try simp only [sA, sB, sC, Act.put, sD, sE, sF]
  refine wpAnyH_take (i := 4) (v := ?_) rfl (by kernel_rfl) (by kernel_rfl) (by kernel_rfl) (fun _ _ _ h => h) (Or.inl ⟨by kernel_rfl, ?_⟩) (by assumption) ?_
  rotate_left
  · (intro w hSw; (try dsimp only at hSw); go_simp; try (with_reducible rfl))
  try simp only [sA, sB, sC, Act.put, sD, sE, sF]
  refine wpAnyH_take (i := 5) (v := ?_) rfl (by kernel_rfl) (by kernel_rfl) (by kernel_rfl) (fun _ _ _ h => h) (Or.inl ⟨by kernel_rfl, ?_⟩) (by assumption) ?_
  rotate_left
  · (intro w hSw; (try dsimp only at hSw); go_simp; try (with_reducible rfl))
  try simp only [sA, sB, sC, Act.put, sD, sE, sF]
  refine wpAnyH_take (i := 6) (v := ?_) rfl (by kernel_rfl) (by kernel_rfl) (by kernel_rfl) (fun _ _ _ h => h) (Or.inl ⟨by kernel_rfl, ?_⟩) (by assumption) ?_
  rotate_left
  · (intro w hSw; (try dsimp only at hSw); go_simp; try (with_reducible rfl))
  try simp only [sA, sB, sC, Act.put, sD, sE, sF]
  refine wpAnyH_take (i := 7) (v := ?_) rfl (by kernel_rfl) (by kernel_rfl) (by kernel_rfl) (fun _ _ _ h => h) (Or.inl ⟨by kernel_rfl, ?_⟩) (by assumption) ?_
  rotate_left
  · (intro w hSw; (try dsimp only at hSw); go_simp; try (with_reducible rfl))
  try simp only [sA, sB, sC, Act.put, sD, sE, sF]
  refine wpAnyH_take (i := 8) (v := ?_) rfl (by kernel_rfl) (by kernel_rfl) (by kernel_rfl) (fun _ _ _ h => h) (Or.inl ⟨by kernel_rfl, ?_⟩) (by assumption) ?_
  rotate_left
  · (intro w hSw; (try dsimp only at hSw); go_simp; try (with_reducible rfl))
  try simp only [sA, sB, sC, Act.put, sD, sE, sF]
  refine wpAnyH_take (i := 9) (v := ?_) rfl (by kernel_rfl) (by kernel_rfl) (by kernel_rfl) (fun _ _ _ h => h) (Or.inl ⟨by kernel_rfl, ?_⟩) (by assumption) ?_
  rotate_left
  · (intro w hSw; (try dsimp only at hSw); go_simp; try (with_reducible rfl))
  try simp only [sA, sB, sC, Act.put, sD, sE, sF]
  refine wpAnyH_take (i := 10) (v := ?_) rfl (by kernel_rfl) (by kernel_rfl) (by kernel_rfl) (fun _ _ _ h => h) (Or.inl ⟨by kernel_rfl, ?_⟩) (by assumption) ?_
  rotate_left
  · (intro w hSw; (try dsimp only at hSw); go_simp; try (with_reducible rfl))
  try simp only [sA, sB, sC, Act.put, sD, sE, sF]
  refine wpAnyH_take (i := 11) (v := ?_) rfl (by kernel_rfl) (by kernel_rfl) (by kernel_rfl) (fun _ _ _ h => h) (Or.inl ⟨by kernel_rfl, ?_⟩) (by assumption) ?_
  rotate_left
  · (intro w hSw; (try dsimp only at hSw); go_simp; try (with_reducible rfl))
  try simp only [sA, sB, sC, Act.put, sD, sE, sF]
  refine wpAnyH_take (i := 12) (v := ?_) rfl (by kernel_rfl) (by kernel_rfl) (by kernel_rfl) (fun _ _ _ h => h) (Or.inl ⟨by kernel_rfl, ?_⟩) (by assumption) ?_
  rotate_left
  · (intro w hSw; (try dsimp only at hSw); go_simp; try (with_reducible rfl))
  try simp only [sA, sB, sC, Act.put, sD, sE, sF]
  refine wpAnyH_take (i := 13) (v := ?_) rfl (by kernel_rfl) (by kernel_rfl) (by kernel_rfl) (fun _ _ _ h => h) (Or.inl ⟨by kernel_rfl, ?_⟩) (by assumption) ?_
  rotate_left
  · (intro w hSw; (try dsimp only at hSw); go_simp; try (with_reducible rfl))
  try simp only [sA, sB, sC, Act.put, sD, sE, sF]
  refine wpAnyH_take (i := 14) (v := ?_) rfl (by kernel_rfl) (by kernel_rfl) (by kernel_rfl) (fun _ _ _ h => h) (Or.inl ⟨by kernel_rfl, ?_⟩) (by assumption) ?_
  rotate_left
  · (intro w hSw; (try dsimp only at hSw); go_simp; try (with_reducible rfl))
  try simp only [sA, sB, sC, Act.put, sD, sE, sF]
  refine wpAnyH_take (i := 15) (v := ?_) rfl (by kernel_rfl) (by kernel_rfl) (by kernel_rfl) (fun _ _ _ h => h) (Or.inl ⟨by kernel_rfl, ?_⟩) (by assumption) ?_
  rotate_left
  · (intro w hSw; (try dsimp only at hSw); go_simp; try (with_reducible rfl))
  try simp only [sA, sB, sC, Act.put, sD, sE, sF]
  refine wpAnyH_take (i := 16) (v := ?_) rfl (by kernel_rfl) (by kernel_rfl) (by kernel_rfl) (fun _ _ _ h => h) (Or.inl ⟨by kernel_rfl, ?_⟩) (by assumption) ?_
  rotate_left
  · (intro w hSw; (try dsimp only at hSw); go_simp; try (with_reducible rfl))
  try simp only [sA, sB, sC, Act.put, sD, sE, sF]
  refine wpAnyH_take (i := 17) (v := ?_) rfl (by kernel_rfl) (by kernel_rfl) (by kernel_rfl) (fun _ _ _ h => h) (Or.inl ⟨by kernel_rfl, ?_⟩) (by assumption) ?_
  rotate_left
  · (intro w hSw; (try dsimp only at hSw); go_simp; try (with_reducible rfl))
  try simp only [sA, sB, sC, Act.put, sD, sE, sF]
  refine wpAnyH_ready (rs := [18]) (by kernel_rfl) (by simp) ?_
  refine (AllReadyH.cons rfl (fun K hK => ?_) AllReadyH.nil)
  have HZ := Lib.hid (HD.putM (f1 := Value.string) j hj b (intoS s k t))
  have x3 := HD.atM (f1 := Value.string) j hj HBB.out
  rw [← HP.out] at HZ
  go_simp
  refine hK.out _ _ ?_ (fun hHeld => ?_)
  · exact HZ.out.bat i (by rw [List.getElem?_set_ne hij]; exact hi) (j := 1) rfl
  clear hK K
  try simp only [sA, sB, sC, Act.put, sD, sE, sF]
  refine wpAnyH_done (by kernel_rfl) ?_ _
  go_wp2_with fail
  go_end0
  rw [← HP.out]
  exact ⟨rfl, HZ.out⟩
end Go.Proofs.Ytbmoolmgfpcnkaa

namespace Go.Proofs.Ytbmoolmgfpcnkaa
open Go.RowKit

/-- Blocks given back. -/
def goneB (bits : List Bool) (gone : List Int) : List Bool := gone.foldl (fun bs b => bs.set b.toNat false) bits
theorem goneB_len (bits : List Bool) (gone : List Int) : (goneB bits gone).length = bits.length := by
  unfold goneB
  induction gone generalizing bits with
  | nil => rfl
  | cons b gone ih => rw [List.foldl_cons, ih, List.length_set]
theorem goneB_snoc (bits : List Bool) (gone : List Int) (b : Int) : goneB bits (gone ++ [b]) = (goneB bits gone).set b.toNat false := by simp [goneB, List.foldl_append]
theorem cutTo_gone {m : List Int} (hm : BlkOk m) (n : Int) : ∀ i, ∀ x ∈ (cutTo m n i).2, x ∈ m ∧ 0 ≤ x ∧ x ≤ 23
  | 0 => by simp [cutTo]
  | i + 1 => by
    have ih := cutTo_gone hm n i
    simp only [cutTo]
    split
    · rename_i h
      intro x hx
      rcases List.mem_append.1 hx with h1 | h1
      · exact ih x h1
      · rw [List.mem_singleton] at h1
        subst h1
        have h2 := List.mem_of_getElem? (getD_some (m := m) (i := i) rfl h.2)
        exact ⟨h2, h.2, (hm _ h2).2⟩
    · exact ih
theorem cutGone_in {l : List (Int × Int × Int)} (n : Int) : ∀ x ∈ cutGone l n, 0 ≤ x ∧ x ≤ 23 := by
  intro x hx
  unfold cutGone at hx
  split at hx
  · rename_i h
    exact (cutTo_gone (flatL_ok (eOk_ranges h)) n 12 x hx).2
  · cases hx
theorem blockAt_le {l : List (Int × Int × Int)} (i : Int) : blockAtL l i ≤ 23 := by
  unfold blockAtL
  split
  · rename_i h
    rw [Bool.and_eq_true] at h
    have h1 := flatL_ok (eOk_ranges h.1)
    have h2 := inB_iff.1 h.2
    obtain ⟨x, hx⟩ := some_at (flatL_len l) (show i.toNat < 12 by omega)
    have := h1 x (List.mem_of_getElem? hx)
    simp only [List.getD_eq_getElem?_getD, hx, Option.getD_some]
    omega
  · omega

def cutOk (bits : List Bool) (data : List ByteArray) (z : Int) (l : List (Int × Int × Int)) (size : Int) : Bool := filOk bits data z l && inB size 0 48
def cutLast (l : List (Int × Int × Int)) (size : Int) : Int := blockAtL (cutExts l (endsI size)) (size / 4)
def cutBits (bits : List Bool) (data : List ByteArray) (z : Int) (l : List (Int × Int × Int)) (size : Int) : List Bool := if cutOk bits data z l size then goneB bits (cutGone l (endsI size)) else bits
/-- The last block, filled up with noughts. -/
def cutBlk (data : List ByteArray) (b : Nat) (k : Nat) : List ByteArray := data.set b (intoS (data.getD b ⟨#[]⟩) k (ofB (zB (4 - k))))
def cutData (bits : List Bool) (data : List ByteArray) (z : Int) (l : List (Int × Int × Int)) (size : Int) : List ByteArray :=
  if cutOk bits data z l size && decide (0 < size % 4) && decide (0 ≤ cutLast l size) then cutBlk data (cutLast l size).toNat (size % 4).toNat else data
def cutZ (bits : List Bool) (data : List ByteArray) (z : Int) (l : List (Int × Int × Int)) (size : Int) : Int := if cutOk bits data z l size then size else z
def cutL (bits : List Bool) (data : List ByteArray) (z : Int) (l : List (Int × Int × Int)) (size : Int) : List (Int × Int × Int) := if cutOk bits data z l size then cutExts l (endsI size) else l
theorem cut_no {bits : List Bool} {data : List ByteArray} {z : Int} {l : List (Int × Int × Int)} {size : Int} (h : cutOk bits data z l size = false) :
    cutBits bits data z l size = bits ∧ cutData bits data z l size = data ∧ cutZ bits data z l size = z ∧ cutL bits data z l size = l ∧ cutOk bits data z l size = false := by
  simp [cutBits, cutData, cutZ, cutL, h]
theorem cut_yes {bits : List Bool} {data : List ByteArray} {z : Int} {l : List (Int × Int × Int)} {size : Int} {D : List ByteArray} (h : cutOk bits data z l size = true)
    (hD : (if decide (0 < size % 4) && decide (0 ≤ cutLast l size) then cutBlk data (cutLast l size).toNat (size % 4).toNat else data) = D) :
    cutBits bits data z l size = goneB bits (cutGone l (endsI size)) ∧ cutData bits data z l size = D ∧ cutZ bits data z l size = size ∧ cutL bits data z l size = cutExts l (endsI size) ∧ cutOk bits data z l size = true := by
  subst hD
  simp [cutBits, cutData, cutZ, cutL, h]
/-- A store, a file and a word come back. -/
def GaveSF (w : World) (n m : Nat) (bits : List Bool) (data : List ByteArray) (z : Int) (l : List (Int × Int × Int)) (ok : Bool) (e : Ending) (w' : World) : Prop := ∃ (A : Option Addr) (c : Nat) (B : Option Addr) (d : Nat) (E : Option Addr) (q r : Nat),
  e = .returned (.tuple #[.agg #[.slice A n c, .slice B m d], .agg #[.int .i64 z, .slice E q r], .bool ok]) ∧ l.length = q ∧
  Hp [] w w' [.row 4 1 (.slice A n c) n (bits.map Value.bool), .row 9 1 (.slice B m d) m (data.map Value.string), .row 92 3 (.slice E q r) q (l.flatMap cExt)]
theorem GaveSF.of {w w' : World} {n m : Nat} {bits bits' : List Bool} {data data' : List ByteArray} {z z' : Int} {l l' : List (Int × Int × Int)} {ok ok' : Bool} {e : Ending} (he : bits' = bits ∧ data' = data ∧ z' = z ∧ l' = l ∧ ok' = ok) (h : GaveSF w n m bits data z l ok e w') : GaveSF w n m bits' data' z' l' ok' e w' := by
  obtain ⟨rfl, rfl, rfl, rfl, rfl⟩ := he
  exact h
end Go.Proofs.Ytbmoolmgfpcnkaa

namespace Go.Proofs.Ytbmoolmgfpcnkaa
open Go.RowKit

theorem findR_one (bs : List Bool) : findR (runs bs) 1 = -1 ∨ ∃ b : Nat, findR (runs bs) 1 = (b : Int) ∧ b < 24 ∧ bs[b]? = some false := by
  unfold findR
  rw [if_pos (by decide)]
  cases h : (runs bs).find? fun r => decide (1 ≤ r.2) with
  | none => left; simp
  | some r =>
    right
    have hm := List.mem_of_find?_eq_some h
    have h1 := runs_in bs r hm
    refine ⟨r.1.toNat, by simp; omega, by omega, runs_free hm (by omega) (by omega)⟩

abbrev WSt := List Bool × List ByteArray × List (Int × Int × Int)
def wPut (data : List ByteArray) (b o en i : Nat) (txt : ByteArray) : List ByteArray :=
  data.set b (intoS (data.getD b ⟨#[]⟩) (max o (i * 4) - i * 4) (txt.extract (max o (i * 4) - o) (min en ((i + 1) * 4) - o)))
def wStep (o en : Nat) (txt : ByteArray) (i : Nat) (s : WSt) : Option WSt :=
  if 0 ≤ blockAtL s.2.2 i then some (s.1, wPut s.2.1 (blockAtL s.2.2 i).toNat o en i txt, s.2.2)
  else if 0 ≤ findR (runs s.1) 1 then
    some (s.1.set (findR (runs s.1) 1).toNat true, wPut (s.2.1.set (findR (runs s.1) 1).toNat (ofB (zB 4))) (findR (runs s.1) 1).toNat o en i txt, putExts s.2.2 i (findR (runs s.1) 1))
  else none
def wTo (o en : Nat) (txt : ByteArray) (s : WSt) : Nat → Option WSt
  | 0 => some s
  | k + 1 => (wTo o en txt s k).bind (wStep o en txt (o / 4 + k))
theorem wTo_none {o en : Nat} {txt : ByteArray} {s : WSt} {k : Nat} (h : wTo o en txt s k = none) : ∀ n, k ≤ n → wTo o en txt s n = none := by
  intro n
  induction n with
  | zero => intro hn; obtain rfl : k = 0 := by omega
            exact h
  | succ n ih =>
    intro hn
    by_cases hk : k = n + 1
    · rw [← hk]; exact h
    · rw [wTo, ih (by omega)]; rfl
theorem wTo_succ {o en : Nat} {txt : ByteArray} {s s' : WSt} {k : Nat} (h : wTo o en txt s k = some s') : wTo o en txt s (k + 1) = wStep o en txt (o / 4 + k) s' := by rw [wTo, h]; rfl
theorem wStep_old {o en : Nat} {txt : ByteArray} {i b : Nat} {bits : List Bool} {data : List ByteArray} {l : List (Int × Int × Int)} (h : blockAtL l i = (b : Int)) : wStep o en txt i (bits, data, l) = some (bits, wPut data b o en i txt, l) := by
  simp [wStep, h]
theorem wStep_new {o en : Nat} {txt : ByteArray} {i b : Nat} {bits : List Bool} {data : List ByteArray} {l : List (Int × Int × Int)} (h : ¬ 0 ≤ blockAtL l i) (hf : findR (runs bits) 1 = (b : Int)) :
    wStep o en txt i (bits, data, l) = some (bits.set b true, wPut (data.set b (ofB (zB 4))) b o en i txt, putExts l i b) := by
  simp [wStep, h, hf]
theorem wStep_full {o en : Nat} {txt : ByteArray} {i : Nat} {bits : List Bool} {data : List ByteArray} {l : List (Int × Int × Int)} (h : ¬ 0 ≤ blockAtL l i) (hf : findR (runs bits) 1 = -1) : wStep o en txt i (bits, data, l) = none := by
  simp [wStep, h, hf]
/-- How many blocks a write goes through. -/
def wN (o en : Nat) : Nat := (en + 3) / 4 - o / 4
abbrev WRes := List Bool × List ByteArray × Int × List (Int × Int × Int) × Bool
def wFin (bits : List Bool) (data : List ByteArray) (z : Int) (l : List (Int × Int × Int)) (en : Nat) : Option WSt → WRes
  | none => (bits, data, z, l, false)
  | some s => (s.1, s.2.1, max z (en : Int), s.2.2, true)
def wrRes (bits : List Bool) (data : List ByteArray) (z : Int) (l : List (Int × Int × Int)) (off : Int) (txt : ByteArray) : WRes :=
  if filOk bits data z l && decide (0 ≤ off) && decide (off ≤ 48 - (txt.size : Int)) then
    if txt.size = 0 then (bits, data, z, l, true) else
      wFin bits data z l (off.toNat + txt.size) (wTo off.toNat (off.toNat + txt.size) txt (bits, data, l) (wN off.toNat (off.toNat + txt.size)))
  else (bits, data, z, l, false)
def GaveR (w : World) (n m : Nat) (r : WRes) (e : Ending) (w' : World) : Prop := GaveSF w n m r.1 r.2.1 r.2.2.1 r.2.2.2.1 r.2.2.2.2 e w'
theorem GaveR.of {w w' : World} {n m : Nat} {r r' : WRes} {e : Ending} (h : r' = r) (k : GaveSF w n m r.1 r.2.1 r.2.2.1 r.2.2.2.1 r.2.2.2.2 e w') : GaveR w n m r' e w' := by rw [h]; exact k
theorem intoS_size {s t : ByteArray} {k : Nat} (h : k + t.size ≤ s.size) : (intoS s k t).size = s.size := by
  unfold intoS
  simp only [ByteArray.size_append, ByteArray.size_extract]
  omega
theorem wPut_ok {data : List ByteArray} {b o en i : Nat} {txt : ByteArray} (hl : data.length = 24) (hd : ∀ s ∈ data, s.size = 4) (ho : o / 4 ≤ i) (he : o < en) (hi : i < (en + 3) / 4) : (wPut data b o en i txt).length = 24 ∧ ∀ s ∈ wPut data b o en i txt, s.size = 4 := by
  unfold wPut
  refine ⟨by rw [List.length_set, hl], fun s hs => ?_⟩
  by_cases hb : b < data.length
  · rcases List.mem_or_eq_of_mem_set hs with h1 | rfl
    · exact hd s h1
    · have h4 : (data.getD b ⟨#[]⟩).size = 4 := by
        rw [List.getD_eq_getElem?_getD, List.getElem?_eq_getElem hb, Option.getD_some]
        exact hd _ (List.getElem_mem _)
      rw [intoS_size, h4]
      rw [h4, ByteArray.size_extract]
      omega
  · rw [List.set_eq_of_length_le (by omega)] at hs
    exact hd s hs
theorem putExts_le {l : List (Int × Int × Int)} {i b : Int} {N : Nat} (h : l.length ≤ N) (h12 : 12 ≤ N) : (putExts l i b).length ≤ N := by
  unfold putExts
  split
  · have := extsL_len ((flatL l).set i.toNat b)
    rw [List.length_set, flatL_len] at this
    omega
  · split
    · exact h
    · simp
theorem set4_ok {data : List ByteArray} {b : Nat} (hl : data.length = 24) (hd : ∀ s ∈ data, s.size = 4) : (data.set b (ofB (zB 4))).length = 24 ∧ ∀ s ∈ data.set b (ofB (zB 4)), s.size = 4 := by
  refine ⟨by rw [List.length_set, hl], fun s hs => ?_⟩
  rcases List.mem_or_eq_of_mem_set hs with h1 | rfl
  · exact hd s h1
  · rw [ofB_size, zB, List.length_replicate]
end Go.Proofs.Ytbmoolmgfpcnkaa

namespace Go.Proofs.Ytbmoolmgfpcnkaa
open Go.RowKit

/-- Byte p of a file's blocks. -/
def byteAt (data : List ByteArray) (m : List Int) (p : Nat) : UInt8 :=
  if m.getD (p / 4) (-1) < 0 then 0 else (toB (data.getD (m.getD (p / 4) (-1)).toNat ⟨#[]⟩)).getD (p % 4) 0
theorem getD_at {α : Type} {l : List α} {i : Nat} {x d : α} (h : l[i]? = some x) : l.getD i d = x := by rw [List.getD_eq_getElem?_getD, h]; rfl
theorem getD_out {α : Type} {l : List α} {i : Nat} {d : α} (h : l.length ≤ i) : l.getD i d = d := by rw [List.getD_eq_getElem?_getD, List.getElem?_eq_none h]; rfl
theorem getD_set_ne {α : Type} {l : List α} {b c : Nat} {x d : α} (h : b ≠ c) : (l.set b x).getD c d = l.getD c d := by rw [List.getD_eq_getElem?_getD, List.getElem?_set_ne h, List.getD_eq_getElem?_getD]
theorem byte_neg {data : List ByteArray} {m : List Int} {p : Nat} (h : m.getD (p / 4) (-1) < 0) : byteAt data m p = 0 := by rw [byteAt, if_pos h]
theorem byte_out {data : List ByteArray} {m : List Int} {p : Nat} (h : m.length ≤ p / 4) : byteAt data m p = 0 := byte_neg (by rw [getD_out h]; decide)
theorem byte_some {data : List ByteArray} {m : List Int} {p b : Nat} {s : ByteArray} (h : m[p / 4]? = some (b : Int)) (hs : data[b]? = some s) : byteAt data m p = (toB s).getD (p % 4) 0 := by
  rw [byteAt, getD_at h, if_neg (by omega), Int.toNat_natCast, getD_at hs]
/-- A right file, part by part. -/
structure FI (bits : List Bool) (data : List ByteArray) (z : Int) (l : List (Int × Int × Int)) : Prop where
  lb : bits.length = 24
  ld : data.length = 24
  sz : ∀ s ∈ data, s.size = 4
  z0 : 0 ≤ z
  z1 : z ≤ 48
  ok : eOk l = true
  blk : ∀ (i b : Nat), (flatL l)[i]? = some (b : Int) → bits[b]? = some true ∧ 4 * (i : Int) < z
  tail : ∀ p : Nat, z ≤ (p : Int) → byteAt data (flatL l) p = 0
theorem FI.flat {bits : List Bool} {data : List ByteArray} {z : Int} {l : List (Int × Int × Int)} (h : FI bits data z l) : BlkOk (flatL l) ∧ OnceB (flatL l) ∧ (flatL l).length = 12 := ⟨flatL_ok (eOk_ranges h.ok), flat_onceB h.ok, flatL_len l⟩
theorem blk_lt {m : List Int} (hm : BlkOk m) {i b : Nat} (h : m[i]? = some (b : Int)) : b < 24 := by have := hm _ (List.mem_of_getElem? h); omega
theorem getD_drop {l : List UInt8} {k j n : Nat} (h : l.drop k = zB n) (hj : j < n) : l.getD (k + j) 0 = 0 := by
  have h1 : (l.drop k)[j]? = some 0 := by rw [h, zB, List.getElem?_replicate, if_pos hj]
  rw [List.getElem?_drop] at h1
  exact getD_at h1
theorem filOk_iff {bits : List Bool} {data : List ByteArray} {z : Int} {l : List (Int × Int × Int)} : filOk bits data z l = true ↔ FI bits data z l := by
  constructor
  · intro h
    obtain ⟨h1, h2, h3, h4⟩ := filOk_parts h
    obtain ⟨a1, a2, a3⟩ := stOk_iff.1 h1
    have hz := inB_iff.1 h2
    have hm := flatL_ok (eOk_ranges h3)
    have hl := flatL_len l
    have hr : ∀ i, i < 12 → blkOkAt bits data z i ((flatL l).getD i (-1)) = true := fun i hi => List.all_eq_true.1 h4 i (List.mem_range.2 hi)
    refine ⟨a1, a2, a3, hz.1, hz.2, h3, ?_, ?_⟩
    · intro i b hib
      have hi : i < 12 := by have := (List.getElem?_eq_some_iff.1 hib).1; omega
      have h5 := hr i hi
      rw [getD_at hib, blkOkAt, Bool.or_eq_true, Bool.and_eq_true, Bool.and_eq_true, decide_eq_true_eq, decide_eq_true_eq] at h5
      rcases h5 with h5 | ⟨⟨h5, h6⟩, h7⟩
      · omega
      · refine ⟨?_, by unfold endsI at h5; omega⟩
        rw [Int.toNat_natCast, List.getD_eq_getElem?_getD] at h6
        cases hc : bits[b]? with
        | none => rw [hc] at h6; cases h6
        | some v => rw [hc] at h6; exact congrArg some h6
    · intro p hp
      by_cases hp12 : 12 ≤ p / 4
      · exact byte_out (by omega)
      · obtain ⟨x, hx⟩ := some_at hl (show p / 4 < 12 by omega)
        by_cases hx0 : x < 0
        · exact byte_neg (by rw [getD_at hx]; exact hx0)
        · obtain ⟨b, rfl⟩ : ∃ b : Nat, x = b := ⟨x.toNat, by omega⟩
          have hb := blk_lt hm hx
          obtain ⟨s, hs⟩ := some_at a2 hb
          rw [byte_some hx hs]
          have h5 := hr (p / 4) (by omega)
          rw [getD_at hx, blkOkAt, Bool.or_eq_true, Bool.and_eq_true, Bool.and_eq_true, decide_eq_true_eq, decide_eq_true_eq] at h5
          rcases h5 with h5 | ⟨⟨h5, h6⟩, h7⟩
          · omega
          · rw [Int.toNat_natCast, getD_at hs, zeroFrom, decide_eq_true_eq] at h7
            have h8 := getD_drop (j := p % 4 - (min 4 (z - 4 * ((p / 4 : Nat) : Int))).toNat) h7 (by omega)
            rwa [show (min 4 (z - 4 * ((p / 4 : Nat) : Int))).toNat + (p % 4 - (min 4 (z - 4 * ((p / 4 : Nat) : Int))).toNat) = p % 4 by omega] at h8
  · intro h
    obtain ⟨hm, ho, hl⟩ := h.flat
    have h1 : stOk bits data = true := stOk_iff.2 ⟨h.lb, h.ld, h.sz⟩
    have h2 : inB z 0 48 = true := inB_iff.2 ⟨h.z0, h.z1⟩
    have h4 : filRest bits data z (flatL l) = true := by
      refine filRest_yes (Nat.le_refl 12) fun i hi => ?_
      obtain ⟨x, hx⟩ := some_at hl hi
      rw [getD_at hx]
      by_cases hx0 : x < 0
      · rw [blkOkAt, decide_eq_true hx0]; rfl
      · obtain ⟨b, rfl⟩ : ∃ b : Nat, x = b := ⟨x.toNat, by omega⟩
        have hb := blk_lt hm hx
        obtain ⟨s, hs⟩ := some_at h.ld hb
        obtain ⟨k1, k2⟩ := h.blk i b hx
        have hs4 := h.sz s (List.mem_of_getElem? hs)
        rw [blkOkAt, Int.toNat_natCast, getD_at k1, getD_at hs, decide_eq_true (show (i : Int) < endsI z by unfold endsI; omega)]
        simp only [Bool.and_self, Bool.true_and, Bool.or_eq_true]
        right
        rw [zeroFrom, decide_eq_true_eq]
        apply List.ext_getElem?
        intro j
        rw [List.getElem?_drop, zB, List.getElem?_replicate]
        split
        · rename_i hj
          have h6 := h.tail (4 * i + ((min 4 (z - 4 * (i : Int))).toNat + j)) (by omega)
          have hj4 : (min 4 (z - 4 * (i : Int))).toNat + j < 4 := by omega
          rw [byte_some (p := 4 * i + ((min 4 (z - 4 * (i : Int))).toNat + j)) (by rw [show (4 * i + ((min 4 (z - 4 * (i : Int))).toNat + j)) / 4 = i by omega]; exact hx) hs, show (4 * i + ((min 4 (z - 4 * (i : Int))).toNat + j)) % 4 = (min 4 (z - 4 * (i : Int))).toNat + j by omega] at h6
          obtain ⟨v, hv⟩ := some_at (show (toB s).length = 4 by rw [toB_len, hs4]) hj4
          rw [getD_at hv] at h6
          rw [hv, h6]
        · exact List.getElem?_eq_none (by rw [toB_len, hs4]; omega)
    rw [filOk, h1, h2, h.ok, h4]
    rfl
theorem FI.mono {bits : List Bool} {data : List ByteArray} {z z' : Int} {l : List (Int × Int × Int)} (h : FI bits data z l) (h1 : z ≤ z') (h2 : z' ≤ 48) : FI bits data z' l :=
  ⟨h.lb, h.ld, h.sz, by have := h.z0; omega, h2, h.ok, fun i b hi => ⟨(h.blk i b hi).1, by have := (h.blk i b hi).2; omega⟩, fun p hp => h.tail p (by omega)⟩

theorem into_get {s t : ByteArray} {k j : Nat} (h : k + t.size ≤ s.size) : (toB (intoS s k t))[j]? = if k ≤ j ∧ j < k + t.size then (toB t)[j - k]? else (toB s)[j]? := by
  have e : toB (intoS s k t) = (toB s).take k ++ (toB t ++ (toB s).drop (k + t.size)) := by
    unfold intoS
    rw [toB_append, toB_append, toB_extract, toB_extract, List.drop_zero, Nat.sub_zero, List.append_assoc, List.take_of_length_le (l := (toB s).drop (k + t.size)) (by rw [List.length_drop, toB_len]; omega)]
  have hl : ((toB s).take k).length = k := by rw [List.length_take, toB_len]; omega
  rw [e, List.getElem?_append, hl]
  by_cases h1 : j < k
  · rw [if_pos h1, if_neg (by omega), List.getElem?_take_of_lt h1]
  · rw [if_neg h1, List.getElem?_append, toB_len]
    by_cases h2 : j - k < t.size
    · rw [if_pos h2, if_pos (by omega)]
    · rw [if_neg h2, if_neg (by omega), List.getElem?_drop]
      congr 1
      omega
/-- A block is written into: the bytes then. -/
theorem byte_put {D : List ByteArray} {m : List Int} {b i k : Nat} {t : ByteArray} (hm : BlkOk m) (ho : OnceB m) (hi : m[i]? = some (b : Int)) (hD : D.length = 24) (hs : ∀ s ∈ D, s.size = 4) (hk : k + t.size ≤ 4) (p : Nat) :
    byteAt (D.set b (intoS (D.getD b ⟨#[]⟩) k t)) m p = if p / 4 = i ∧ k ≤ p % 4 ∧ p % 4 < k + t.size then (toB t).getD (p % 4 - k) 0 else byteAt D m p := by
  have hb := blk_lt hm hi
  obtain ⟨s, hsb⟩ := some_at hD hb
  have hs4 := hs s (List.mem_of_getElem? hsb)
  rw [getD_at hsb]
  by_cases hp : p / 4 = i
  · subst hp
    have h1 : (D.set b (intoS s k t))[b]? = some (intoS s k t) := List.getElem?_set_self (by omega)
    rw [byte_some hi h1, byte_some hi hsb, List.getD_eq_getElem?_getD, into_get (by omega)]
    by_cases hc : k ≤ p % 4 ∧ p % 4 < k + t.size
    · rw [if_pos hc, if_pos ⟨rfl, hc⟩, List.getD_eq_getElem?_getD]
    · rw [if_neg hc, if_neg (by rintro ⟨_, h⟩; exact hc h), List.getD_eq_getElem?_getD]
  · rw [if_neg (by rintro ⟨h, _⟩; exact hp h)]
    unfold byteAt
    split
    · rfl
    · rename_i h0
      have hne : (m.getD (p / 4) (-1)).toNat ≠ b := by
        intro e
        have h2 := getD_some (m := m) (i := p / 4) rfl (by omega)
        rw [show m.getD (p / 4) (-1) = (b : Int) by omega] at h2
        exact hp (ho _ _ _ h2 hi (by omega))
      rw [getD_set_ne (by omega)]
theorem byte_wPut {D : List ByteArray} {m : List Int} {b i o en : Nat} {txt : ByteArray} (hm : BlkOk m) (ho : OnceB m) (hi : m[i]? = some (b : Int)) (hD : D.length = 24) (hs : ∀ s ∈ D, s.size = 4)
    (h1 : o / 4 ≤ i) (h2 : i < (en + 3) / 4) (h3 : o < en) (ht : txt.size = en - o) (p : Nat) :
    byteAt (wPut D b o en i txt) m p = if p / 4 = i ∧ o ≤ p ∧ p < en then (toB txt).getD (p - o) 0 else byteAt D m p := by
  have hsz : (txt.extract (max o (i * 4) - o) (min en ((i + 1) * 4) - o)).size = min en ((i + 1) * 4) - max o (i * 4) := by rw [ByteArray.size_extract]; omega
  rw [wPut, byte_put hm ho hi hD hs (by rw [hsz]; omega), hsz]
  by_cases hc : p / 4 = i ∧ o ≤ p ∧ p < en
  · rw [if_pos hc, if_pos (by omega), List.getD_eq_getElem?_getD, List.getD_eq_getElem?_getD, toB_extract, List.getElem?_take_of_lt (by omega), List.getElem?_drop]
    congr 2
    omega
  · rw [if_neg hc, if_neg (by omega)]
theorem byte_new {D : List ByteArray} {m : List Int} {b i : Nat} (hm : BlkOk m) (hml : m.length = 12) (hi : m.getD i (-1) < 0) (hi12 : i < 12) (hb : (b : Int) ∉ m) (hb24 : b < 24) (hD : D.length = 24) (p : Nat) :
    byteAt (D.set b (ofB (zB 4))) (m.set i (b : Int)) p = byteAt D m p := by
  have hz : (D.set b (ofB (zB 4)))[b]? = some (ofB (zB 4)) := List.getElem?_set_self (by omega)
  by_cases hp : p / 4 = i
  · subst hp
    have h1 : (m.set (p / 4) (b : Int))[p / 4]? = some (b : Int) := List.getElem?_set_self (by omega)
    rw [byte_some h1 hz, byte_neg hi, toB_ofB, zB, List.getD_eq_getElem?_getD, List.getElem?_replicate]
    split <;> rfl
  · have e : (m.set i (b : Int)).getD (p / 4) (-1) = m.getD (p / 4) (-1) := by
      rw [List.getD_eq_getElem?_getD, List.getElem?_set_ne (by omega), List.getD_eq_getElem?_getD]
    unfold byteAt
    rw [e]
    split
    · rfl
    · rename_i h0
      have hne : (m.getD (p / 4) (-1)).toNat ≠ b := by
        intro e2
        have h2 := getD_some (m := m) (i := p / 4) rfl (by omega)
        rw [show m.getD (p / 4) (-1) = (b : Int) by omega] at h2
        exact hb (List.mem_of_getElem? h2)
      rw [getD_set_ne (by omega)]

/-- What is of other files stays; and no block is lost. -/
structure Kept (bs : List Bool) (ds : List ByteArray) (m : List Int) (bs' : List Bool) (ds' : List ByteArray) (m' : List Int) : Prop where
  keep : ∀ b : Nat, bs[b]? = some true → (b : Int) ∉ m → bs'[b]? = some true ∧ ds'[b]? = ds[b]? ∧ (b : Int) ∉ m'
  own : (∀ b : Nat, bs[b]? = some true → (b : Int) ∈ m) → ∀ b : Nat, bs'[b]? = some true → (b : Int) ∈ m'
theorem Kept.refl (bs : List Bool) (ds : List ByteArray) (m : List Int) : Kept bs ds m bs ds m := ⟨fun b h1 h2 => ⟨h1, rfl, h2⟩, fun h => h⟩
theorem Kept.then {bs bs' bs'' : List Bool} {ds ds' ds'' : List ByteArray} {m m' m'' : List Int} (h : Kept bs ds m bs' ds' m') (k : Kept bs' ds' m' bs'' ds'' m'') : Kept bs ds m bs'' ds'' m'' := by
  refine ⟨fun b h1 h2 => ?_, fun h3 => k.own (h.own h3)⟩
  obtain ⟨a1, a2, a3⟩ := h.keep b h1 h2
  obtain ⟨b1, b2, b3⟩ := k.keep b a1 a3
  exact ⟨b1, b2.trans a2, b3⟩
theorem kept_wPut {bs : List Bool} {D : List ByteArray} {m : List Int} {b o en i : Nat} {txt : ByteArray} (hi : m[i]? = some (b : Int)) : Kept bs D m bs (wPut D b o en i txt) m := by
  refine ⟨fun c h1 h2 => ⟨h1, ?_, h2⟩, fun h => h⟩
  have hne : b ≠ c := by rintro rfl; exact h2 (List.mem_of_getElem? hi)
  rw [wPut, List.getElem?_set_ne hne]
theorem kept_new {bs : List Bool} {D : List ByteArray} {m : List Int} {b i : Nat} {s : ByteArray} (hf : bs[b]? = some false) (hi : m.getD i (-1) < 0) (hil : i < m.length) : Kept bs D m (bs.set b true) (D.set b s) (m.set i (b : Int)) := by
  refine ⟨fun c h1 h2 => ?_, fun h c h1 => ?_⟩
  · have hne : b ≠ c := by rintro rfl; rw [hf] at h1; cases h1
    refine ⟨by rw [List.getElem?_set_ne hne]; exact h1, List.getElem?_set_ne hne, fun hc => ?_⟩
    rcases List.mem_or_eq_of_mem_set hc with h3 | h3
    · exact h2 h3
    · exact hne (by omega)
  · by_cases hne : b = c
    · subst hne
      exact List.mem_iff_getElem?.2 ⟨i, List.getElem?_set_self hil⟩
    · rw [List.getElem?_set_ne hne] at h1
      obtain ⟨j, hj⟩ := List.mem_iff_getElem?.1 (h c h1)
      by_cases hji : i = j
      · subst hji
        rw [getD_at hj] at hi
        omega
      · exact List.mem_iff_getElem?.2 ⟨j, by rw [List.getElem?_set_ne hji]; exact hj⟩

/-! ### One block of a write -/
theorem step_ok {o en i : Nat} {txt : ByteArray} {bs : List Bool} {ds : List ByteArray} {ls : List (Int × Int × Int)} {z : Int} {s' : WSt} (h : FI bs ds z ls) (h1 : o / 4 ≤ i) (h3 : o < en) (h2 : i < (en + 3) / 4) (hen : (en : Int) ≤ z) (ht : txt.size = en - o)
    (hs : wStep o en txt i (bs, ds, ls) = some s') :
    FI s'.1 s'.2.1 z s'.2.2 ∧ (∀ p, byteAt s'.2.1 (flatL s'.2.2) p = if p / 4 = i ∧ o ≤ p ∧ p < en then (toB txt).getD (p - o) 0 else byteAt ds (flatL ls) p) ∧ Kept bs ds (flatL ls) s'.1 s'.2.1 (flatL s'.2.2) := by
  obtain ⟨hm, ho, hml⟩ := h.flat
  have hi12 : i < 12 := by have := h.z1; omega
  have hin : inB (i : Int) 0 11 = true := inB_iff.2 ⟨by omega, by omega⟩
  have hbl : blockAtL ls i = (flatL ls).getD i (-1) := by rw [blockAtL, h.ok, hin]; simp
  by_cases hb0 : 0 ≤ blockAtL ls i
  · obtain ⟨b, hb⟩ : ∃ b : Nat, blockAtL ls i = b := ⟨(blockAtL ls i).toNat, by omega⟩
    rw [wStep_old hb, Option.some.injEq] at hs
    subst hs
    simp only
    have hmi : (flatL ls)[i]? = some (b : Int) := getD_some (by rw [← hbl, hb]) (by omega)
    have hbytes := byte_wPut (o := o) (en := en) (txt := txt) hm ho hmi h.ld h.sz h1 h2 h3 ht
    obtain ⟨n1, n2⟩ := wPut_ok (b := b) (o := o) (en := en) (i := i) (txt := txt) h.ld h.sz h1 h3 h2
    refine ⟨⟨h.lb, n1, n2, h.z0, h.z1, h.ok, h.blk, fun p hp => ?_⟩, hbytes, kept_wPut hmi⟩
    rw [hbytes, if_neg (by omega)]
    exact h.tail p hp
  · rcases findR_one bs with hf | ⟨b, hf, hb24, hfree⟩
    · rw [wStep_full hb0 hf] at hs; cases hs
    · rw [wStep_new hb0 hf, Option.some.injEq] at hs
      subst hs
      simp only
      have hneg : (flatL ls).getD i (-1) < 0 := by rw [← hbl]; omega
      have hnot : (b : Int) ∉ flatL ls := by
        intro hc
        obtain ⟨j, hj⟩ := List.mem_iff_getElem?.1 hc
        have := (h.blk j b hj).1
        rw [hfree] at this
        cases this
      have hpo : putOk ls i b = true := putOk_iff.2 ⟨h.ok, ⟨by omega, by omega⟩, by rw [Int.toNat_natCast]; exact hneg, ⟨by omega, by omega⟩, hnot⟩
      obtain ⟨e1, e2⟩ := put_flat hpo
      rw [Int.toNat_natCast] at e2
      have hm' := flatL_ok (eOk_ranges e1)
      have ho' := flat_onceB e1
      have hmi : (flatL (putExts ls i b))[i]? = some (b : Int) := by rw [e2]; exact List.getElem?_set_self (by omega)
      obtain ⟨d1, d2⟩ := set4_ok (b := b) h.ld h.sz
      have hbytes := byte_wPut (o := o) (en := en) (txt := txt) hm' ho' hmi d1 d2 h1 h2 h3 ht
      have hnew := byte_new (D := ds) (b := b) hm hml hneg hi12 hnot hb24 h.ld
      rw [← e2] at hnew
      obtain ⟨n1, n2⟩ := wPut_ok (b := b) (o := o) (en := en) (i := i) (txt := txt) d1 d2 h1 h3 h2
      have hall : ∀ p, byteAt (wPut (ds.set b (ofB (zB 4))) b o en i txt) (flatL (putExts ls i b)) p = if p / 4 = i ∧ o ≤ p ∧ p < en then (toB txt).getD (p - o) 0 else byteAt ds (flatL ls) p := fun p => by rw [hbytes, hnew]
      have hk1 := kept_new (bs := bs) (D := ds) (m := flatL ls) (i := i) (s := ofB (zB 4)) hfree hneg (by omega)
      rw [← e2] at hk1
      refine ⟨⟨by rw [List.length_set]; exact h.lb, n1, n2, h.z0, h.z1, e1, fun j c hj => ?_, fun p hp => ?_⟩, hall, hk1.then (kept_wPut hmi)⟩
      · by_cases hji : i = j
        · subst hji
          rw [hmi] at hj
          have hcb : b = c := by injection hj with hj; omega
          subst hcb
          exact ⟨List.getElem?_set_self (by rw [h.lb]; exact hb24), by omega⟩
        · rw [e2, List.getElem?_set_ne hji] at hj
          obtain ⟨k1, k2⟩ := h.blk j c hj
          refine ⟨?_, k2⟩
          have hne : b ≠ c := by rintro rfl; rw [hfree] at k1; cases k1
          rw [List.getElem?_set_ne hne]
          exact k1
      · rw [hall, if_neg (by omega)]
        exact h.tail p hp
theorem to_ok {o en : Nat} {txt : ByteArray} {bs : List Bool} {ds : List ByteArray} {ls : List (Int × Int × Int)} {z : Int} (h : FI bs ds z ls) (h3 : o < en) (hen : (en : Int) ≤ z) (ht : txt.size = en - o) :
    ∀ (k : Nat) (s' : WSt), o / 4 + k ≤ (en + 3) / 4 → wTo o en txt (bs, ds, ls) k = some s' →
    FI s'.1 s'.2.1 z s'.2.2 ∧ (∀ p, byteAt s'.2.1 (flatL s'.2.2) p = if p / 4 < o / 4 + k ∧ o ≤ p ∧ p < en then (toB txt).getD (p - o) 0 else byteAt ds (flatL ls) p) ∧ Kept bs ds (flatL ls) s'.1 s'.2.1 (flatL s'.2.2)
  | 0, s', hk, hs => by
    rw [wTo, Option.some.injEq] at hs
    subst hs
    exact ⟨h, fun p => by rw [if_neg (by omega)], Kept.refl _ _ _⟩
  | k + 1, s', hk, hs => by
    cases hs0 : wTo o en txt (bs, ds, ls) k with
    | none => rw [wTo, hs0] at hs; cases hs
    | some s0 =>
      rw [wTo_succ hs0] at hs
      obtain ⟨a1, a2, a3⟩ := to_ok h h3 hen ht k s0 (by omega) hs0
      obtain ⟨b1, b2, b3⟩ := step_ok a1 (by omega) h3 (by omega) hen ht hs
      refine ⟨b1, fun p => ?_, a3.then b3⟩
      rw [b2, a2]
      by_cases hc : p / 4 = o / 4 + k ∧ o ≤ p ∧ p < en
      · rw [if_pos hc, if_pos (by omega)]
      · rw [if_neg hc]
        by_cases hd : p / 4 < o / 4 + k ∧ o ≤ p ∧ p < en
        · rw [if_pos hd, if_pos (by omega)]
        · rw [if_neg hd, if_neg (by omega)]
/-- A write that is done. -/
theorem wr_ok {bits : List Bool} {data : List ByteArray} {z : Int} {l : List (Int × Int × Int)} {off : Int} {txt : ByteArray} {r : WRes} (hr : wrRes bits data z l off txt = r) (hk : r.2.2.2.2 = true) :
    FI bits data z l ∧ 0 ≤ off ∧ off + txt.size ≤ 48 ∧ FI r.1 r.2.1 r.2.2.1 r.2.2.2.1 ∧ r.2.2.1 = (if txt.size = 0 then z else max z (off + txt.size)) ∧
    (∀ p : Nat, byteAt r.2.1 (flatL r.2.2.2.1) p = if off ≤ (p : Int) ∧ (p : Int) < off + txt.size then (toB txt).getD (p - off.toNat) 0 else byteAt data (flatL l) p) ∧ Kept bits data (flatL l) r.1 r.2.1 (flatL r.2.2.2.1) := by
  subst hr
  unfold wrRes at hk ⊢
  by_cases hc : (filOk bits data z l && decide (0 ≤ off) && decide (off ≤ 48 - (txt.size : Int))) = true
  · rw [if_pos hc] at hk ⊢
    rw [Bool.and_eq_true, Bool.and_eq_true, decide_eq_true_eq, decide_eq_true_eq] at hc
    obtain ⟨⟨h1, h2⟩, h3⟩ := hc
    have hf := filOk_iff.1 h1
    refine ⟨hf, h2, by omega, ?_⟩
    by_cases ht : txt.size = 0
    · rw [if_pos ht] at hk ⊢
      simp only
      refine ⟨hf, by rw [if_pos ht], fun p => by rw [if_neg (by omega)], Kept.refl _ _ _⟩
    · rw [if_neg ht] at hk ⊢
      have hz := hf.z0
      have hz1 := hf.z1
      have h0 := hf.mono (z' := max z ((off.toNat + txt.size : Nat) : Int)) (by omega) (by omega)
      cases hw : wTo off.toNat (off.toNat + txt.size) txt (bits, data, l) (wN off.toNat (off.toNat + txt.size)) with
      | none => rw [hw] at hk; cases hk
      | some s' =>
        obtain ⟨a1, a2, a3⟩ := to_ok h0 (o := off.toNat) (en := off.toNat + txt.size) (txt := txt) (by omega) (by omega) (by omega) _ s' (by rw [wN]; omega) hw
        simp only [wFin]
        refine ⟨a1, by rw [if_neg ht]; omega, fun p => ?_, a3⟩
        rw [a2, wN]
        by_cases hc : off ≤ (p : Int) ∧ (p : Int) < off + txt.size
        · rw [if_pos hc, if_pos (by omega)]
        · rw [if_neg hc, if_neg (by omega)]
  · rw [if_neg hc] at hk
    cases hk
theorem wr_no {bits : List Bool} {data : List ByteArray} {z : Int} {l : List (Int × Int × Int)} {off : Int} {txt : ByteArray} {r : WRes} (hr : wrRes bits data z l off txt = r) (hk : r.2.2.2.2 = false) : r = (bits, data, z, l, false) := by
  subst hr
  unfold wrRes at hk ⊢
  split at hk
  · rename_i hc
    rw [if_pos hc]
    split at hk
    · cases hk
    · rename_i ht
      rw [if_neg ht]
      cases hw : wTo off.toNat (off.toNat + txt.size) txt (bits, data, l) (wN off.toNat (off.toNat + txt.size)) with
      | none => rfl
      | some s' => rw [hw] at hk; cases hk
  · rename_i hc
    rw [if_neg hc]

/-! ### A cut -/
theorem gone_mem {m : List Int} {n : Int} {x : Int} : ∀ {i : Nat}, x ∈ (cutTo m n i).2 ↔ ∃ k : Nat, k < i ∧ n ≤ (k : Int) ∧ m.getD k (-1) = x ∧ 0 ≤ x
  | 0 => by simp [cutTo]
  | i + 1 => by
    have ih := gone_mem (m := m) (n := n) (x := x) (i := i)
    simp only [cutTo]
    split
    · rename_i h
      rw [List.mem_append, ih, List.mem_singleton]
      constructor
      · rintro (⟨k, h1, h2⟩ | h1)
        · exact ⟨k, by omega, h2⟩
        · exact ⟨i, by omega, h.1, h1.symm, by rw [h1]; exact h.2⟩
      · rintro ⟨k, h1, h2, h3, h4⟩
        by_cases hk : k = i
        · subst hk; exact .inr h3.symm
        · exact .inl ⟨k, by omega, h2, h3, h4⟩
    · rename_i h
      rw [ih]
      constructor
      · rintro ⟨k, h1, h2⟩
        exact ⟨k, by omega, h2⟩
      · rintro ⟨k, h1, h2, h3, h4⟩
        by_cases hk : k = i
        · subst hk; exact absurd ⟨h2, by rw [h3]; exact h4⟩ h
        · exact ⟨k, by omega, h2, h3, h4⟩
theorem goneB_get {b : Nat} : ∀ (gone : List Int) (bits : List Bool), (∀ x ∈ gone, 0 ≤ x) → b < bits.length → (goneB bits gone)[b]? = if (b : Int) ∈ gone then some false else bits[b]?
  | [], bits, _, _ => by simp [goneB]
  | x :: gone, bits, h, hb => by
    have hx := h x (by simp)
    have ih := goneB_get (b := b) gone (bits.set x.toNat false) (fun y hy => h y (by simp [hy])) (by rw [List.length_set]; exact hb)
    rw [show goneB bits (x :: gone) = goneB (bits.set x.toNat false) gone from rfl, ih]
    by_cases h1 : (b : Int) ∈ gone
    · rw [if_pos h1, if_pos (List.mem_cons_of_mem _ h1)]
    · rw [if_neg h1]
      by_cases h2 : (b : Int) = x
      · rw [if_pos (by rw [h2]; simp), show x.toNat = b by omega, List.getElem?_set_self hb]
      · rw [if_neg (by simp [h1, h2]), List.getElem?_set_ne (by omega)]
theorem cut_fi {bits : List Bool} {data : List ByteArray} {z : Int} {l : List (Int × Int × Int)} {size : Int} (h : cutOk bits data z l size = true) :
    FI bits data z l ∧ (0 ≤ size ∧ size ≤ 48) ∧ FI (cutBits bits data z l size) (cutData bits data z l size) size (cutL bits data z l size) ∧
    (∀ p : Nat, byteAt (cutData bits data z l size) (flatL (cutL bits data z l size)) p = if (p : Int) < size then byteAt data (flatL l) p else 0) ∧
    Kept bits data (flatL l) (cutBits bits data z l size) (cutData bits data z l size) (flatL (cutL bits data z l size)) := by
  have h' := h
  rw [cutOk, Bool.and_eq_true, inB_iff] at h'
  obtain ⟨hok, hs⟩ := h'
  have hf := filOk_iff.1 hok
  obtain ⟨hm, ho, hml⟩ := hf.flat
  obtain ⟨e1, e2⟩ := cut_flat hf.ok (endsI size)
  have hm' := flatL_ok (eOk_ranges e1)
  have ho' := flat_onceB e1
  have hl' := flatL_len (cutExts l (endsI size))
  have hget : ∀ k, k < 12 → (flatL (cutExts l (endsI size))).getD k (-1) = if endsI size ≤ k then -1 else (flatL l).getD k (-1) := by
    intro k hk
    rw [e2, cutTo_get hm hml _ 12 k (Nat.le_refl _) hk]
    by_cases hc : endsI size ≤ (k : Int)
    · rw [if_pos ⟨hc, hk⟩, if_pos hc]
    · rw [if_neg (by omega), if_neg hc]
  have hat : ∀ (i b : Nat), (flatL (cutExts l (endsI size)))[i]? = some (b : Int) → (i : Int) < endsI size ∧ (flatL l)[i]? = some (b : Int) := by
    intro i b hi
    have hi12 : i < 12 := by have := (List.getElem?_eq_some_iff.1 hi).1; omega
    have h1 := hget i hi12
    rw [getD_at hi] at h1
    split at h1
    · omega
    · exact ⟨by omega, getD_some h1.symm (by omega)⟩
  have hgone : cutGone l (endsI size) = (cutTo (flatL l) (endsI size) 12).2 := by rw [cutGone, if_pos hf.ok]
  have hg0 : ∀ x ∈ cutGone l (endsI size), 0 ≤ x := fun x hx => (cutGone_in _ x hx).1
  have hgm : ∀ b : Nat, (b : Int) ∈ cutGone l (endsI size) ↔ ∃ k : Nat, k < 12 ∧ endsI size ≤ (k : Int) ∧ (flatL l)[k]? = some (b : Int) := by
    intro b
    rw [hgone, gone_mem]
    constructor
    · rintro ⟨k, k1, k2, k3, k4⟩
      exact ⟨k, k1, k2, getD_some k3 k4⟩
    · rintro ⟨k, k1, k2, k3⟩
      exact ⟨k, k1, k2, getD_at k3, by omega⟩
  have hbits : ∀ b : Nat, b < 24 → (goneB bits (cutGone l (endsI size)))[b]? = if (b : Int) ∈ cutGone l (endsI size) then some false else bits[b]? := fun b hb => goneB_get _ _ hg0 (by rw [hf.lb]; exact hb)
  -- bytes ahead of the last block's noughts
  have hb0 : ∀ p : Nat, byteAt data (flatL (cutExts l (endsI size))) p = if ((p / 4 : Nat) : Int) < endsI size then byteAt data (flatL l) p else 0 := by
    intro p
    by_cases hp : p / 4 < 12
    · unfold byteAt
      rw [hget _ hp]
      by_cases hc : endsI size ≤ ((p / 4 : Nat) : Int)
      · rw [if_pos hc, if_pos (by decide), if_neg (by omega)]
      · rw [if_neg hc, if_pos (show ((p / 4 : Nat) : Int) < endsI size by omega)]
    · rw [byte_out (by omega), byte_out (by omega)]
      split <;> rfl
  obtain ⟨D, hD⟩ : ∃ D, D = (if decide (0 < size % 4) && decide (0 ≤ cutLast l size) then cutBlk data (cutLast l size).toNat (size % 4).toNat else data) := ⟨_, rfl⟩
  obtain ⟨c1, c2, c3, c4, c5⟩ := cut_yes h hD.symm
  rw [c1, c2, c4]
  have hlast : cutLast l size = (flatL (cutExts l (endsI size))).getD (size / 4).toNat (-1) ∨ (12 ≤ (size / 4).toNat ∧ cutLast l size = -1) := by
    rw [cutLast, blockAtL]
    by_cases hi : size / 4 ≤ 11
    · left
      rw [e1, inB_iff.2 ⟨by omega, hi⟩]
      simp
    · right
      refine ⟨by omega, ?_⟩
      have : inB (size / 4) 0 11 = false := by rw [← Bool.not_eq_true, inB_iff]; omega
      rw [this]; simp
  have key : D.length = 24 ∧ (∀ s ∈ D, s.size = 4) ∧ (∀ p : Nat, byteAt D (flatL (cutExts l (endsI size))) p = if (p : Int) < size then byteAt data (flatL l) p else 0) ∧ (∀ b : Nat, (b : Int) ∉ flatL (cutExts l (endsI size)) → D[b]? = data[b]?) := by
    by_cases hc : (decide (0 < size % 4) && decide (0 ≤ cutLast l size)) = true
    · rw [if_pos hc] at hD
      rw [Bool.and_eq_true, decide_eq_true_eq, decide_eq_true_eq] at hc
      obtain ⟨b, hb⟩ : ∃ b : Nat, cutLast l size = b := ⟨(cutLast l size).toNat, by omega⟩
      have hmi : (flatL (cutExts l (endsI size)))[(size / 4).toNat]? = some (b : Int) := by
        rcases hlast with h1 | h1
        · exact getD_some (by rw [← h1, hb]) (by omega)
        · omega
      have hb24 := blk_lt hm' hmi
      obtain ⟨s, hsb⟩ := some_at hf.ld hb24
      have hs4 := hf.sz s (List.mem_of_getElem? hsb)
      have hzs : (ofB (zB (4 - (size % 4).toNat))).size = 4 - (size % 4).toNat := by rw [ofB_size, zB, List.length_replicate]
      have hbp := byte_put (D := data) (t := ofB (zB (4 - (size % 4).toNat))) (k := (size % 4).toNat) hm' ho' hmi hf.ld hf.sz (by rw [hzs]; omega)
      rw [hb, Int.toNat_natCast, cutBlk] at hD
      rw [← hD, hzs] at hbp
      refine ⟨by rw [hD, List.length_set]; exact hf.ld, fun t ht => ?_, fun p => ?_, fun c hcn => ?_⟩
      · rw [hD] at ht
        rcases List.mem_or_eq_of_mem_set ht with h1 | rfl
        · exact hf.sz t h1
        · rw [getD_at hsb, intoS_size (by rw [hzs]; omega), hs4]
      · rw [hbp, hb0]
        by_cases hp : p / 4 = (size / 4).toNat ∧ (size % 4).toNat ≤ p % 4 ∧ p % 4 < (size % 4).toNat + (4 - (size % 4).toNat)
        · rw [if_pos hp, if_neg (by omega), toB_ofB, zB, List.getD_eq_getElem?_getD, List.getElem?_replicate]
          split <;> rfl
        · rw [if_neg hp]
          unfold endsI
          by_cases hps : (p : Int) < size
          · rw [if_pos hps, if_pos (by omega)]
          · rw [if_neg hps, if_neg (by omega)]
      · rw [hD, List.getElem?_set_ne]
        rintro rfl
        exact hcn (List.mem_of_getElem? hmi)
    · rw [if_neg hc] at hD
      subst hD
      refine ⟨hf.ld, hf.sz, fun p => ?_, fun c _ => rfl⟩
      rw [hb0]
      by_cases hps : (p : Int) < size
      · rw [if_pos hps, if_pos (by unfold endsI; omega)]
      · rw [if_neg hps]
        split
        · rename_i hpe
          simp only [Bool.and_eq_true, decide_eq_true_eq, not_and] at hc
          unfold endsI at hpe
          have h4 : 0 < size % 4 := by omega
          have h5 := hc h4
          have hpq : p / 4 = (size / 4).toNat := by omega
          rcases hlast with h6 | h6
          · have h7 := hget (p / 4) (by omega)
            rw [hpq, ← h6, if_neg (by unfold endsI; omega)] at h7
            exact byte_neg (by rw [hpq, ← h7]; omega)
          · omega
        · rfl
  obtain ⟨k1, k2, k3, k4⟩ := key
  refine ⟨hf, hs, ⟨by rw [goneB_len]; exact hf.lb, k1, k2, hs.1, hs.2, e1, fun i b hi => ?_, fun p hp => by rw [k3, if_neg (by omega)]⟩, k3, ⟨fun b h1 h2 => ?_, fun hown b h1 => ?_⟩⟩
  · obtain ⟨a1, a2⟩ := hat i b hi
    have hb24 := blk_lt hm a2
    refine ⟨?_, by unfold endsI at a1; omega⟩
    rw [hbits b hb24, if_neg]
    · exact (hf.blk i b a2).1
    · rw [hgm]
      rintro ⟨k, q1, q2, q3⟩
      have := ho _ _ _ a2 q3 (by omega)
      omega
  · have hb24 : b < 24 := by rw [← hf.lb]; exact (List.getElem?_eq_some_iff.1 h1).1
    have hn : (b : Int) ∉ flatL (cutExts l (endsI size)) := by
      intro hc
      obtain ⟨i, hi⟩ := List.mem_iff_getElem?.1 hc
      exact h2 (List.mem_of_getElem? (hat i b hi).2)
    refine ⟨?_, k4 b hn, hn⟩
    rw [hbits b hb24, if_neg]
    · exact h1
    · rw [hgm]
      rintro ⟨k, q1, q2, q3⟩
      exact h2 (List.mem_of_getElem? q3)
  · have hb24 : b < 24 := by
      have := (List.getElem?_eq_some_iff.1 h1).1
      rwa [goneB_len, hf.lb] at this
    rw [hbits b hb24] at h1
    split at h1
    · cases h1
    · rename_i hg
      obtain ⟨k, hk⟩ := List.mem_iff_getElem?.1 (hown b h1)
      have hk12 : k < 12 := by have := (List.getElem?_eq_some_iff.1 hk).1; omega
      rw [hgm] at hg
      have hke : ¬ endsI size ≤ (k : Int) := fun hc => hg ⟨k, hk12, hc, hk⟩
      have h3 := hget k hk12
      rw [if_neg hke, getD_at hk] at h3
      exact List.mem_of_getElem? (getD_some h3 (by omega))
theorem putExts_12 {l : List (Int × Int × Int)} (h : l.length ≤ 12) (i b : Int) : (putExts l i b).length ≤ 12 := by
  unfold putExts
  split
  · have := extsL_len ((flatL l).set i.toNat b)
    rw [List.length_set, flatL_len] at this
    exact this
  · split
    · exact h
    · simp
/-- The shape of a store that is right. -/
def Sh (bits : List Bool) (data : List ByteArray) : Prop := bits.length = 24 ∧ data.length = 24 ∧ ∀ s ∈ data, s.size = 4
theorem FI.sh {bits : List Bool} {data : List ByteArray} {z : Int} {l : List (Int × Int × Int)} (h : FI bits data z l) : Sh bits data := ⟨h.lb, h.ld, h.sz⟩
theorem cut_sh {bits : List Bool} {data : List ByteArray} {z : Int} {l : List (Int × Int × Int)} {size : Int} (h : Sh bits data) : Sh (cutBits bits data z l size) (cutData bits data z l size) := by
  cases hc : cutOk bits data z l size with
  | false => obtain ⟨h1, h2, _⟩ := cut_no hc; rw [h1, h2]; exact h
  | true => exact (cut_fi hc).2.2.1.sh
theorem cut_len {bits : List Bool} {data : List ByteArray} {z : Int} {l : List (Int × Int × Int)} {size : Int} (h : l.length ≤ 12) : (cutL bits data z l size).length ≤ 12 := by
  rw [cutL]; split
  · exact cutExts_len _ _
  · exact h
theorem wTo_len {o en : Nat} {txt : ByteArray} {s : WSt} (h : s.2.2.length ≤ 12) : ∀ (k : Nat) (s' : WSt), wTo o en txt s k = some s' → s'.2.2.length ≤ 12
  | 0, s', hs => by rw [wTo, Option.some.injEq] at hs; subst hs; exact h
  | k + 1, s', hs => by
    cases h0 : wTo o en txt s k with
    | none => rw [wTo, h0] at hs; cases hs
    | some s0 =>
      have ih := wTo_len h k s0 h0
      rw [wTo_succ h0, wStep] at hs
      split at hs
      · injection hs with hs; subst hs; exact ih
      · split at hs
        · injection hs with hs; subst hs; exact putExts_12 ih _ _
        · cases hs
theorem wr_len {bits : List Bool} {data : List ByteArray} {z : Int} {l : List (Int × Int × Int)} {off : Int} {txt : ByteArray} (h : l.length ≤ 12) : (wrRes bits data z l off txt).2.2.2.1.length ≤ 12 := by
  unfold wrRes
  split
  · split
    · exact h
    · cases hw : wTo off.toNat (off.toNat + txt.size) txt (bits, data, l) (wN off.toNat (off.toNat + txt.size)) with
      | none => exact h
      | some s' => exact wTo_len (s := (bits, data, l)) h _ s' hw
  · exact h
theorem wr_sh {bits : List Bool} {data : List ByteArray} {z : Int} {l : List (Int × Int × Int)} {off : Int} {txt : ByteArray} (h : Sh bits data) : Sh (wrRes bits data z l off txt).1 (wrRes bits data z l off txt).2.1 := by
  cases hc : (wrRes bits data z l off txt).2.2.2.2 with
  | false => rw [wr_no rfl hc]; exact h
  | true => exact (wr_ok rfl hc).2.2.2.1.sh
end Go.Proofs.Ytbmoolmgfpcnkaa

namespace Go.Proofs.Ytbmoolmgfpcnkaa
open Go.RowKit

theorem take_snoc {α : Type} {l : List α} {k : Nat} {x : α} (h : l[k]? = some x) : l.take (k + 1) = l.take k ++ [x] := by rw [List.take_add_one, h]; rfl
theorem runs_at {bs : List Bool} {k : Nat} {r : Int × Int} (h : (runs bs)[k]? = some r) : 0 ≤ r.1 ∧ r.1 ≤ 24 ∧ 1 ≤ r.2 ∧ r.2 ≤ 24 := (runs_bounds bs).2 r (List.mem_of_getElem? h)
theorem sum_take_bound (bs : List Bool) (k : Nat) : 0 ≤ sumLen ((runs bs).take k) ∧ sumLen ((runs bs).take k) ≤ 24 * 24 := by
  have h := sumLen_bound ((runs bs).take k) (fun r hr => by have := (runs_bounds bs).2 r (List.mem_of_mem_take hr); omega)
  have h2 := (runs_bounds bs).1
  have h3 : ((runs bs).take k).length ≤ (runs bs).length := by rw [List.length_take]; omega
  omega

set_option maxRecDepth 100000 in
set_option maxHeartbeats 1000000 in
theorem specFreeOf_any (A : Option Addr) (n c : Nat) (bs : List Bool) (w : World) (h : Rd w A n 1 (bs.map .bool)) :
    Calls Try.prog 36 #[.slice A n c] w fun e w' => e = .returned (.int .i64 (sumLen (runs bs))) ∧ Fr w w' := by
  have hlen := (runs_bounds bs).1
  go_enter Try.func36, Try.ntmps36
  go_wp2_with fail
  refine (specRuns_any A n c bs _ h).mono ?_
  rintro e w1 ⟨A', c', rfl, o1, f1⟩
  generalize hm : (runs bs).length = m at o1 hlen
  have HM := Lib.hid hm
  have r1 := Rd.of_own o1
  clear hm h o1
  go_wp2_with fail
  go_loopw [3, 5] (fun s i wr => ∃ k : Nat, k ≤ m ∧ i = .int .i64 k ∧ s = .int .i64 (sumLen ((runs bs).take k)) ∧ Fr w1 wr) (fun _ i _ => m - (intOf i).toNat)
  case atStart => exact ⟨0, Nat.zero_le _, rfl, rfl, Below.refl _ _⟩
  case round =>
    obtain ⟨k, hk, rfl, rfl, hfr⟩ := hrel
    have hb := sum_take_bound bs k
    by_cases hlt : k < m
    · obtain ⟨⟨a, b⟩, hx⟩ := some_at HM.out hlt
      obtain ⟨bk, of, rfl, hcell⟩ := (r1.fr hfr).elem cRun_len hx (by omega)
      have ca := hcell 0 _ rfl; simp only [Nat.add_zero] at ca
      have cb := hcell 1 _ rfl
      have hr := runs_at hx
      have hs := sumLen_snoc ((runs bs).take k) (a, b)
      rw [← take_snoc hx] at hs
      have HS := Lib.hid hs
      have HF := Lib.hid hfr
      simp only at hr
      clear r1 hcell hx hfr hs
      go_wp2
      go_roundw
      case rel => exact ⟨k + 1, by omega, by go_num, by rw [HS.out], HF.out⟩
      case measure => simp [intOf]; omega
    · go_wp2
      go_ret
      exact ⟨ret_int (by rw [List.take_of_length_le (by have := HM.out; omega)]), f1.then hfr⟩

theorem findRun_none {l : List (Int × Int)} {m : Int} (h : ∀ r ∈ l, r.2 < m) : findR l m = -1 := by
  unfold findR
  split
  · rw [List.find?_eq_none.2 (fun r hr => by simpa using h r hr)]; rfl
  · rfl
theorem find_some {l : List (Int × Int)} {m : Int} {k : Nat} {r : Int × Int} (hm : 1 ≤ m) (hx : l[k]? = some r) (hr : m ≤ r.2) (h : ∀ x ∈ l.take k, x.2 < m) : findR l m = r.1 := by
  unfold findR
  rw [if_pos hm]
  have e : l = l.take k ++ r :: l.drop (k + 1) := by
    have hk := (List.getElem?_eq_some_iff.1 hx).1
    have hg := (List.getElem?_eq_some_iff.1 hx).2
    conv => lhs; rw [← List.take_append_drop k l]
    rw [List.drop_eq_getElem_cons hk, hg]
  rw [e, List.find?_append, List.find?_eq_none.2 (fun x hx => by simpa using h x hx)]
  simp [hr]
theorem find_low {l : List (Int × Int)} {m : Int} (h : m < 1) : findR l m = -1 := by rw [findR, if_neg (by omega)]
theorem none_snoc {l : List (Int × Int)} {m : Int} {k : Nat} {r : Int × Int} (hx : l[k]? = some r) (hr : r.2 < m) (h : ∀ x ∈ l.take k, x.2 < m) : ∀ x ∈ l.take (k + 1), x.2 < m := by
  rw [take_snoc hx]
  intro x hx'
  simp only [List.mem_append, List.mem_singleton] at hx'
  rcases hx' with h1 | h1
  · exact h x h1
  · subst h1; exact hr

set_option maxRecDepth 100000 in
set_option maxHeartbeats 1000000 in
theorem specFindRun_any (A : Option Addr) (n c : Nat) (bs : List Bool) (q : Int) (w : World) (h : Rd w A n 1 (bs.map .bool)) :
    Calls Try.prog 87 #[.slice A n c, .int .i64 q] w fun e w' => e = .returned (.int .i64 (findR (runs bs) q)) ∧ Fr w w' := by
  have hlen := (runs_bounds bs).1
  go_enter Try.func87, Try.ntmps87
  go_wp2_with fail
  refine (specRuns_any A n c bs _ h).mono ?_
  rintro e w1 ⟨A', c', rfl, o1, f1⟩
  generalize hm : (runs bs).length = m at o1 hlen
  have HM := Lib.hid hm
  have r1 := Rd.of_own o1
  clear hm h o1
  go_wp2_with fail
  go_loopw [6] (fun i wr => ∃ k : Nat, k ≤ m ∧ i = .int .i64 k ∧ (∀ x ∈ (runs bs).take k, x.2 < q) ∧ Fr w1 wr) (fun i _ => m - (intOf i).toNat)
  case atStart => exact ⟨0, Nat.zero_le _, rfl, by simp, Below.refl _ _⟩
  case round =>
    obtain ⟨k, hk, rfl, hall, hfr⟩ := hrel
    have HA := Lib.hid hall
    by_cases hlt : k < m
    · obtain ⟨⟨a, b⟩, hx⟩ := some_at HM.out hlt
      obtain ⟨bk, of, rfl, hcell⟩ := (r1.fr hfr).elem cRun_len hx (by omega)
      have ca := hcell 0 _ rfl; simp only [Nat.add_zero] at ca
      have cb := hcell 1 _ rfl
      have HX := Lib.hid hx
      have HF := Lib.hid hfr
      clear r1 hcell hx hfr hall
      by_cases hq : 1 ≤ q
      · by_cases hb : q ≤ b
        · go_wp2
          go_ret
          exact ⟨ret_int (find_some hq HX.out hb HA.out).symm, f1.then HF.out⟩
        · go_wp2
          go_roundw
          case rel => exact ⟨k + 1, by omega, by go_num, none_snoc HX.out (by simp only; omega) HA.out, HF.out⟩
          case measure => simp [intOf]; omega
      · go_wp2
        go_ret
        exact ⟨ret_int (find_low (by omega)).symm, f1.then HF.out⟩
    · clear hall
      go_wp2
      go_ret
      refine ⟨ret_int (findRun_none ?_).symm, f1.then hfr⟩
      have := HA.out
      rwa [List.take_of_length_le (by have := HM.out; omega)] at this

set_option maxRecDepth 100000 in
set_option maxHeartbeats 1000000 in
theorem implFindRun_any (A : Option Addr) (n c : Nat) (bs : List Bool) (q : Int) (w : World) (h : Rd w A n 1 (bs.map .bool)) :
    Calls Try.prog 80 #[.slice A n c, .int .i64 q] w fun e w' => e = .returned (.int .i64 (findR (runs bs) q)) ∧ Fr w w' := by
  have hlen := (runs_bounds bs).1
  go_enter Try.func80, Try.ntmps80
  go_wp2_with fail
  refine (implRuns_any A n c bs _ h).mono ?_
  rintro e w1 ⟨A', c', rfl, o1, f1⟩
  generalize hm : (runs bs).length = m at o1 hlen
  have HM := Lib.hid hm
  have r1 := Rd.of_own o1
  clear hm h o1
  go_wp2_with fail
  go_loopw [10] (fun i wr => ∃ k : Nat, k ≤ m ∧ i = .int .i64 k ∧ (1 ≤ q → ∀ x ∈ (runs bs).take k, x.2 < q) ∧ Fr w1 wr) (fun i _ => m - (intOf i).toNat)
  case atStart => exact ⟨0, Nat.zero_le _, rfl, by simp, Below.refl _ _⟩
  case round =>
    obtain ⟨k, hk, rfl, hall, hfr⟩ := hrel
    have HA := Lib.hid hall
    by_cases hlt : k < m
    · obtain ⟨⟨a, b⟩, hx⟩ := some_at HM.out hlt
      obtain ⟨bk, of, rfl, hcell⟩ := (r1.fr hfr).elem cRun_len hx (by omega)
      have ca := hcell 0 _ rfl; simp only [Nat.add_zero] at ca
      have cb := hcell 1 _ rfl
      have HX := Lib.hid hx
      have HF := Lib.hid hfr
      clear r1 hcell hx hfr hall
      by_cases hq : 1 ≤ q
      · by_cases hb : q ≤ b
        · go_wp2
          go_ret
          exact ⟨ret_int (find_some hq HX.out hb (HA.out hq)).symm, f1.then (Fr.al HF.out _)⟩
        · go_wp2
          go_roundw
          case rel => exact ⟨k + 1, by omega, by go_num, fun h1 => none_snoc HX.out (by simp only; omega) (HA.out h1), Fr.al HF.out _⟩
          case measure => simp [intOf]; omega
      · go_wp2
        go_roundw
        case rel => exact ⟨k + 1, by omega, by go_num, fun h1 => absurd h1 hq, Fr.al HF.out _⟩
        case measure => simp [intOf]; omega
    · clear hall
      go_wp2
      go_ret
      refine ⟨ret_int ?_, f1.then hfr⟩
      by_cases hq : 1 ≤ q
      · have := HA.out hq
        rw [List.take_of_length_le (by have := HM.out; omega)] at this
        exact (findRun_none this).symm
      · exact (find_low (by omega)).symm
end Go.Proofs.Ytbmoolmgfpcnkaa

namespace Go.Proofs.Ytbmoolmgfpcnkaa
open Go.RowKit

/-! ### Free flags -/
theorem sumLen_bump (o : List (Int × Int)) : sumLen (bump o) = sumLen o + 1 := by
  rcases List.eq_nil_or_concat o with rfl | ⟨o', q, rfl⟩
  · simp [bump, sumLen]
  · rw [List.concat_eq_append, bump_snoc, sumLen_snoc, sumLen_snoc]
    simp only
    omega
theorem free_blocks {bits : List Bool} {l : List (Int × Int × Int)} (hb : bits.length = 24) (ho : ∀ b : Nat, b < 24 → (bits[b]? = some true ↔ (b : Int) ∈ flatL l)) : ∀ k, k ≤ 24 → sumLen (runsTo bits k) + ((blocksTo l k).length : Int) = k
  | 0, _ => by simp [runsTo, sumLen, blocksTo]
  | k + 1, hk => by
    have ih := free_blocks hb ho k (by omega)
    obtain ⟨x, hx⟩ := some_at hb (show k < 24 by omega)
    have hd : bits.getD k true = x := getD_at hx
    have hok := ho k (by omega)
    rw [blocksTo_succ, runsTo, hd]
    cases x with
    | true =>
      have hc : (flatL l).contains (k : Int) = true := by rw [List.contains_iff_mem]; exact hok.1 hx
      rw [hc]
      simp only [if_true, List.length_append, List.length_cons, List.length_nil]
      omega
    | false =>
      have hc : (flatL l).contains (k : Int) = false := by
        rw [← Bool.not_eq_true, List.contains_iff_mem, ← hok, hx]; simp
      rw [hc]
      simp only [Bool.false_eq_true, if_false]
      split
      · rw [sumLen_bump]; omega
      · rw [sumLen_snoc]; simp only; omega
theorem free_sum {bits : List Bool} {l : List (Int × Int × Int)} (hb : bits.length = 24) (hl : eOk l = true) (ho : ∀ b : Nat, b < 24 → (bits[b]? = some true ↔ (b : Int) ∈ flatL l)) : sumLen (runs bits) + ((blocksOfL l).length : Int) = 24 := by
  have h := free_blocks hb ho 24 (Nat.le_refl _)
  rw [runs, if_pos hb, blocksOfL, if_pos hl]
  exact h
theorem cntB_le (m : List Int) : cntB m ≤ m.length := List.length_filter_le _ _
theorem find_free {bits : List Bool} {l : List (Int × Int × Int)} (hb : bits.length = 24) (hl : eOk l = true) (ho : ∀ b : Nat, b < 24 → (bits[b]? = some true ↔ (b : Int) ∈ flatL l)) : findR (runs bits) 1 ≠ -1 := by
  intro h
  have h1 := free_sum hb hl ho
  have h2 := cntB_le (flatL l)
  rw [blocks_len hl] at h1
  rw [flatL_len] at h2
  unfold findR at h
  rw [if_pos (by decide)] at h
  cases hf : (runs bits).find? fun r => decide (1 ≤ r.2) with
  | none =>
    have h3 : runs bits = [] := by
      cases hr : runs bits with
      | nil => rfl
      | cons r rs =>
        have h4 := List.find?_eq_none.1 hf r (by rw [hr]; simp)
        have h5 := (runs_bounds bits).2 r (by rw [hr]; simp)
        simp only [decide_eq_true_eq] at h4
        omega
    rw [h3] at h1
    simp [sumLen] at h1
    omega
  | some r =>
    rw [hf] at h
    simp only [Option.map_some, Option.getD_some] at h
    have h5 := (runs_bounds bits).2 r (List.mem_of_find?_eq_some hf)
    omega

/-! ### The text of a file -/
structure Sim (bits : List Bool) (data : List ByteArray) (z : Int) (l : List (Int × Int × Int)) (want : List UInt8) : Prop where
  fi : FI bits data z l
  own : ∀ b : Nat, bits[b]? = some true → (b : Int) ∈ flatL l
  len : z = want.length
  bytes : ∀ p, byteAt data (flatL l) p = want.getD p 0
theorem own_iff {bits : List Bool} {data : List ByteArray} {z : Int} {l : List (Int × Int × Int)} (h : FI bits data z l) (ho : ∀ b : Nat, bits[b]? = some true → (b : Int) ∈ flatL l) (b : Nat) : bits[b]? = some true ↔ (b : Int) ∈ flatL l := by
  refine ⟨ho b, fun hm => ?_⟩
  obtain ⟨i, hi⟩ := List.mem_iff_getElem?.1 hm
  exact (h.blk i b hi).1
theorem Sim.free {bits : List Bool} {data : List ByteArray} {z : Int} {l : List (Int × Int × Int)} {want : List UInt8} (h : Sim bits data z l want) : sumLen (runs bits) + ((blocksOfL l).length : Int) = 24 :=
  free_sum h.fi.lb h.fi.ok fun b _ => own_iff h.fi h.own b
theorem bytesTo_get {data : List ByteArray} {m : List Int} (hd : ∀ s ∈ data, s.size = 4) (hl : data.length = 24) (hm : BlkOk m) (hml : m.length = 12) : ∀ k p, k ≤ 12 → p < 4 * k → (bytesTo data m k)[p]? = some (byteAt data m p)
  | 0, p, _, h => by omega
  | k + 1, p, hk, h => by
    obtain ⟨x, hx⟩ := some_at hml (show k < 12 by omega)
    have hlen := bytesTo_len hd hl hm hml k (by omega)
    rw [bytesTo_succ hx, List.getElem?_append, hlen]
    by_cases hp : p < 4 * k
    · rw [if_pos hp]
      exact bytesTo_get hd hl hm hml k p (by omega) hp
    · rw [if_neg hp]
      have hpk : p / 4 = k := by omega
      have hpm : p - 4 * k = p % 4 := by omega
      rw [hpm]
      by_cases hx0 : x < 0
      · rw [byte_neg (by rw [hpk, getD_at hx]; exact hx0), blkB, if_pos hx0, zB, List.getElem?_replicate, if_pos (by omega)]
      · obtain ⟨b, rfl⟩ : ∃ b : Nat, x = b := ⟨x.toNat, by omega⟩
        obtain ⟨s, hs⟩ := some_at hl (blk_lt hm hx)
        obtain ⟨v, hv⟩ := some_at (show (toB s).length = 4 by rw [toB_len]; exact hd s (List.mem_of_getElem? hs)) (show p % 4 < 4 by omega)
        rw [byte_some (by rw [hpk]; exact hx) hs, blkB, if_neg hx0, Int.toNat_natCast, getD_at (d := default) hs, hv, getD_at hv]
theorem Sim.whole {bits : List Bool} {data : List ByteArray} {z : Int} {l : List (Int × Int × Int)} {want : List UInt8} (h : Sim bits data z l want) : wholeL data (flatL l) z = want := by
  obtain ⟨hm, ho, hml⟩ := h.fi.flat
  have hz := h.fi.z1
  have hw := h.len
  apply List.ext_getElem?
  intro p
  rw [wholeL, List.getElem?_take]
  split
  · rename_i hp
    rw [bytesTo_get h.fi.sz h.fi.ld hm hml 12 p (Nat.le_refl _) (by omega), h.bytes]
    obtain ⟨v, hv⟩ := some_at rfl (show p < want.length by omega)
    rw [hv, getD_at hv]
  · exact (List.getElem?_eq_none (by omega)).symm
/-- Filled up with noughts. -/
def pad (w : List UInt8) (n : Nat) : List UInt8 := w ++ zB (n - w.length)
theorem pad_len (w : List UInt8) (n : Nat) : (pad w n).length = max w.length n := by rw [pad, List.length_append, zB, List.length_replicate]; omega
theorem pad_get (w : List UInt8) (n p : Nat) : (pad w n).getD p 0 = w.getD p 0 := by
  rw [pad, List.getD_eq_getElem?_getD, List.getElem?_append, List.getD_eq_getElem?_getD]
  split
  · rfl
  · rename_i h
    rw [List.getElem?_eq_none (show w.length ≤ p by omega), zB, List.getElem?_replicate]
    split <;> rfl
/-- A plain text that is written. -/
def wrote (w : List UInt8) (off : Nat) (t : List UInt8) : List UInt8 := if t = [] then w else (pad w (off + t.length)).take off ++ (t ++ (pad w (off + t.length)).drop (off + t.length))
theorem wrote_len (w : List UInt8) (off : Nat) (t : List UInt8) : (wrote w off t).length = if t.length = 0 then w.length else max w.length (off + t.length) := by
  unfold wrote
  by_cases h : t = []
  · rw [if_pos h, if_pos (by rw [h]; rfl)]
  · rw [if_neg h, if_neg (by intro h2; exact h (List.eq_nil_of_length_eq_zero h2)), List.length_append, List.length_append, List.length_take, List.length_drop, pad_len]
    omega
theorem wrote_get (w : List UInt8) (off : Nat) (t : List UInt8) (p : Nat) : (wrote w off t).getD p 0 = if off ≤ p ∧ p < off + t.length then t.getD (p - off) 0 else w.getD p 0 := by
  unfold wrote
  by_cases h : t = []
  · rw [if_pos h, if_neg (by rw [h]; simp only [List.length_nil]; omega)]
  · rw [if_neg h]
    have hl : ((pad w (off + t.length)).take off).length = off := by rw [List.length_take, pad_len]; omega
    rw [List.getD_eq_getElem?_getD, List.getElem?_append, hl]
    by_cases h1 : p < off
    · rw [if_pos h1, List.getElem?_take_of_lt h1, if_neg (by omega), ← List.getD_eq_getElem?_getD, pad_get]
    · rw [if_neg h1, List.getElem?_append]
      by_cases h2 : p - off < t.length
      · rw [if_pos h2, if_pos (by omega), List.getD_eq_getElem?_getD]
      · rw [if_neg h2, if_neg (by omega), List.getElem?_drop, ← List.getD_eq_getElem?_getD, show off + t.length + (p - off - t.length) = p by omega, pad_get]
theorem wTo_some {o en : Nat} {txt : ByteArray} {bs : List Bool} {ds : List ByteArray} {ls : List (Int × Int × Int)} {z : Int} (h : FI bs ds z ls) (ho : ∀ b : Nat, bs[b]? = some true → (b : Int) ∈ flatL ls) (h3 : o < en) (hen : (en : Int) ≤ z) (ht : txt.size = en - o) :
    ∀ (k : Nat), o / 4 + k ≤ (en + 3) / 4 → ∃ s', wTo o en txt (bs, ds, ls) k = some s'
  | 0, _ => ⟨_, rfl⟩
  | k + 1, hk => by
    obtain ⟨s, hs⟩ := wTo_some h ho h3 hen ht k (by omega)
    obtain ⟨a1, _, a3⟩ := to_ok h h3 hen ht k s (by omega) hs
    have hf := find_free a1.lb a1.ok fun b _ => own_iff a1 (a3.own ho) b
    rw [wTo_succ hs, wStep]
    by_cases hb : 0 ≤ blockAtL s.2.2 ((o / 4 + k : Nat) : Int)
    · exact ⟨_, by rw [if_pos hb]⟩
    · rw [if_neg hb, if_pos]
      · exact ⟨_, rfl⟩
      · rcases findR_one s.1 with h5 | ⟨b, h5, _⟩
        · exact absurd h5 hf
        · rw [h5]; omega
theorem Sim.write {bits : List Bool} {data : List ByteArray} {z : Int} {l : List (Int × Int × Int)} {want : List UInt8} (h : Sim bits data z l want) {off : Nat} {txt : ByteArray} (hb : off + txt.size ≤ 48) {r : WRes} (hr : wrRes bits data z l off txt = r) :
    r.2.2.2.2 = true ∧ Sim r.1 r.2.1 r.2.2.1 r.2.2.2.1 (wrote want off (toB txt)) := by
  have hk : r.2.2.2.2 = true := by
    rw [← hr]
    unfold wrRes
    have hz0 := h.fi.z0
    have hz1 := h.fi.z1
    rw [filOk_iff.2 h.fi, if_pos (by simp; omega)]
    split
    · rfl
    · rename_i ht
      obtain ⟨s, hs⟩ := wTo_some (o := off) (en := off + txt.size) (txt := txt) (h.fi.mono (z' := max z ((off + txt.size : Nat) : Int)) (by omega) (by omega)) h.own (by omega) (by omega) (by omega) (wN off (off + txt.size)) (by rw [wN]; omega)
      rw [Int.toNat_natCast, hs]
      rfl
  obtain ⟨_, _, _, a4, a5, a6, a7⟩ := wr_ok hr hk
  refine ⟨hk, a4, a7.own h.own, ?_, fun p => ?_⟩
  · rw [a5, wrote_len, toB_len, h.len]
    split
    · rfl
    · omega
  · rw [a6, wrote_get, toB_len, h.bytes, Int.toNat_natCast]
    by_cases hc : off ≤ p ∧ p < off + txt.size
    · rw [if_pos hc, if_pos (by omega)]
    · rw [if_neg hc, if_neg (by omega)]
/-- A plain text that is cut. -/
def cutT (w : List UInt8) (n : Nat) : List UInt8 := (pad w n).take n
theorem cutT_len (w : List UInt8) (n : Nat) : (cutT w n).length = n := by rw [cutT, List.length_take, pad_len]; omega
theorem cutT_get (w : List UInt8) (n p : Nat) : (cutT w n).getD p 0 = if p < n then w.getD p 0 else 0 := by
  rw [cutT, List.getD_eq_getElem?_getD, List.getElem?_take]
  split
  · rw [← List.getD_eq_getElem?_getD, pad_get]
  · rfl
theorem Sim.cut {bits : List Bool} {data : List ByteArray} {z : Int} {l : List (Int × Int × Int)} {want : List UInt8} (h : Sim bits data z l want) {n : Nat} (hb : n ≤ 48) :
    cutOk bits data z l n = true ∧ Sim (cutBits bits data z l n) (cutData bits data z l n) (cutZ bits data z l n) (cutL bits data z l n) (cutT want n) := by
  have hk : cutOk bits data z l n = true := by rw [cutOk, filOk_iff.2 h.fi, inB_iff.2 ⟨by omega, by omega⟩]; rfl
  obtain ⟨_, _, a3, a4, a5⟩ := cut_fi hk
  have hz : cutZ bits data z l n = (n : Int) := by rw [cutZ, if_pos hk]
  rw [hz]
  refine ⟨hk, a3, a5.own h.own, by rw [cutT_len], fun p => ?_⟩
  rw [a4, cutT_get, h.bytes]
  by_cases hc : p < n
  · rw [if_pos hc, if_pos (by omega)]
  · rw [if_neg hc, if_neg (by omega)]
theorem read_all {w : List UInt8} (h : w.length ≤ 100) : readL w 0 100 = w := by
  show (w.drop 0).take 100 = w
  rw [List.drop_zero, List.take_of_length_le h]
end Go.Proofs.Ytbmoolmgfpcnkaa
