/-
  Bytes put into a block of a store.
-/
import Derived.Test.YtbmoolmgfpcnkaaFilCopy
namespace Go.Proofs.Ytbmoolmgfpcnkaa
open Go.RowKit

set_option linter.unusedSimpArgs false
/-- A text with bytes from a place on. -/
def intoS (s : ByteArray) (k : Nat) (t : ByteArray) : ByteArray := s.extract 0 k ++ t ++ s.extract (k + t.size) s.size

set_option maxRecDepth 100000 in
set_option maxHeartbeats 4000000 in
theorem into_any (s : ByteArray) (k : Nat) (t : ByteArray) (w : World) (hk : k + t.size ≤ s.size) (hs : s.size ≤ 1000) :
    Calls Try.prog 48 #[.string s, .int .i64 k, .string t] w fun e w' => e = .returned (.string (intoS s k t)) ∧ Fr w w' := by
  obtain ⟨q, hq⟩ : ∃ q, q = t.size := ⟨_, rfl⟩
  have hts : t.size ≤ 1000 := by omega
  have hw : IntKind.i64.wrap ((k : Int) + (t.size : Int)) = ((k + t.size : Nat) : Int) := by rw [IntWalk.i64_in _ (by omega)]; omega
  obtain ⟨p, hp⟩ : ∃ p, p = k + t.size := ⟨_, rfl⟩
  rw [← hp] at hw hk
  have hks : (k : Int) ≤ (s.size : Int) := by omega
  have hps : (p : Int) ≤ (s.size : Int) := by omega
  have hk0 : (0 : Int) ≤ (k : Int) := by omega
  have hp0 : (0 : Int) ≤ (p : Int) := by omega
  have HP := Lib.hid (show s.extract 0 k ++ t ++ s.extract p s.size = intoS s k t by rw [hp]; rfl)
  clear hp hq
  go_enter Try.func48, Try.ntmps48
  go_wp2_with fail
  refine wp_region_quiet_lit (by kernel_rfl) (by kernel_rfl) ?_
  repeat (any_goals (first | go_big_quiet_step ((fail)) | quiet_step ((fail)) | (refine wpQuiet_step (fun K hK => ?_); go_simp; split <;> (refine hK _ ?_; clear hK K))))
  all_goals (refine wpQuiet_nil ?_; intro _ hw_; obtain ⟨nq, hw__⟩ := hw_; subst hw__)
  go_wp2_with fail
  go_ret
  exact ⟨congrArg (fun s => Ending.returned (.string s)) HP.out, Fr.on (Below.refl _ _) nq⟩

set_option maxRecDepth 100000 in
set_option maxHeartbeats 4000000 in
theorem store_any {W : List Nat} {w0 w : World} {l : List Ob} (H : Hp W w0 w l) (i j : Nat) (g gB n c m d : Nat) (A : Option Addr) (data : List ByteArray) (hi : l[i]? = some (.blk g 31 [.slice A n c, .slice (some ⟨gB, 0, none⟩) m d]))
    (hj : l[j]? = some (.row 9 1 (.slice (some ⟨gB, 0, none⟩) m d) m (data.map Value.string))) (b k : Nat) (s t : ByteArray) (hij : j ≠ i) (hb : At data b s) (hm : b < m) (hk : k + t.size ≤ s.size) (hs : s.size ≤ 1000) :
    Calls Try.prog 58 #[.pointer (some ⟨g, 0, none⟩), .int .i64 b, .int .i64 k, .string t] w fun e w' => e = .returned (.tuple #[]) ∧
      Hp W w0 w' (l.set j (.row 9 1 (.slice (some ⟨gB, 0, none⟩) m d) m ((data.set b (intoS s k t)).map Value.string))) := by
  have hts : t.size ≤ 1000 := by omega
  have hw : IntKind.i64.wrap ((k : Int) + (t.size : Int)) = ((k + t.size : Nat) : Int) := by rw [IntWalk.i64_in _ (by omega)]; omega
  obtain ⟨p, hp⟩ : ∃ p, p = k + t.size := ⟨_, rfl⟩
  rw [← hp] at hw hk
  have hks : (k : Int) ≤ (s.size : Int) := by omega
  have hps : (p : Int) ≤ (s.size : Int) := by omega
  have hk0 : (0 : Int) ≤ (k : Int) := by omega
  have hp0 : (0 : Int) ≤ (p : Int) := by omega
  have hb0 : (0 : Int) ≤ (b : Int) := by omega
  have hb1 : (b : Int) < (m : Int) := by omega
  have hz2 : (9223372036854775807 < min k s.size + t.size + (s.size - p)) = False := eq_false (by omega)
  have hz1 : (9223372036854775807 < min k s.size + t.size) = False := eq_false (by omega)
  have HP := Lib.hid (show s.extract 0 k ++ t ++ s.extract p s.size = intoS s k t by rw [hp]; rfl)
  clear hp
  have HBB := Lib.hid hb
  have s1 := H.bat i hi (j := 1) rfl
  have c1 := H.atM (f1 := Value.string) j hj hb
  have HD := H.drew
  have t1 := HD.bat i hi (j := 1) rfl
  have x1 := HD.atM (f1 := Value.string) j hj hb
  have x2 := HD.free j hj b
  clear hb
  go_enter Try.func58, Try.ntmps58
  go_wp2_with fail
  refine wp_region_held_drew (S := fun w' => w'.cell? ⟨g, 1, none⟩ = some (.slice (some ⟨gB, 0, none⟩) m d)) (by kernel_rfl) ?_ (fun hHeld => ?_)
  · exact t1
  refine wpAnyH_take (i := 0) (v := ?_) rfl (by kernel_rfl) (by kernel_rfl) (by kernel_rfl) (fun _ _ _ h => h) (Or.inl ⟨by kernel_rfl, ?_⟩) (by assumption) ?_
  rotate_left
  · (intro w hSw; (try dsimp only at hSw); go_simp; try (with_reducible rfl))
  try simp only [sA, sB, sC, Act.put, sD, sE, sF]
  refine wpAnyH_take (i := 1) (v := ?_) rfl (by kernel_rfl) (by kernel_rfl) (by kernel_rfl) (fun _ _ _ h => h) (Or.inl ⟨by kernel_rfl, ?_⟩) (by assumption) ?_
  rotate_left
  · (intro w hSw; (try dsimp only at hSw); go_simp; try (with_reducible rfl))
  try simp only [sA, sB, sC, Act.put, sD, sE, sF]
  refine wpAnyH_take (i := 2) (v := ?_) rfl (by kernel_rfl) (by kernel_rfl) (by kernel_rfl) (fun _ _ _ h => h) (Or.inl ⟨by kernel_rfl, ?_⟩) (by assumption) ?_
  rotate_left
  · (intro w hSw; (try dsimp only at hSw); go_simp; try (with_reducible rfl))
  try simp only [sA, sB, sC, Act.put, sD, sE, sF]
  refine wpAnyH_take (i := 3) (v := ?_) rfl (by kernel_rfl) (by kernel_rfl) (by kernel_rfl) (fun _ _ _ h => h) (Or.inl ⟨by kernel_rfl, ?_⟩) (by assumption) ?_
  rotate_left
  · (intro w hSw; (try dsimp only at hSw); go_simp; try (with_reducible rfl))
  try simp only [sA, sB, sC, Act.put, sD, sE, sF]
  refine wpAnyH_take (i := 4) (v := ?_) rfl (by kernel_rfl) (by kernel_rfl) (by kernel_rfl) (fun _ _ _ h => h) (Or.inl ⟨by kernel_rfl, ?_⟩) (by assumption) ?_
  rotate_left
  · (intro w hSw; (try dsimp only at hSw); go_simp; try (with_reducible rfl))
  try simp only [sA, sB, sC, Act.put, sD, sE, sF]
  refine wpAnyH_take (i := 5) (v := ?_) rfl (by kernel_rfl) (by kernel_rfl) (by kernel_rfl) (fun _ _ _ h => h) (Or.inl ⟨by kernel_rfl, ?_⟩) (by assumption) ?_
  rotate_left
  · (intro w hSw; (try dsimp only at hSw); go_simp; try (with_reducible rfl))
  try simp only [sA, sB, sC, Act.put, sD, sE, sF]
  refine wpAnyH_take (i := 6) (v := ?_) rfl (by kernel_rfl) (by kernel_rfl) (by kernel_rfl) (fun _ _ _ h => h) (Or.inl ⟨by kernel_rfl, ?_⟩) (by assumption) ?_
  rotate_left
  · (intro w hSw; (try dsimp only at hSw); go_simp; try (with_reducible rfl))
  try simp only [sA, sB, sC, Act.put, sD, sE, sF]
  refine wpAnyH_take (i := 7) (v := ?_) rfl (by kernel_rfl) (by kernel_rfl) (by kernel_rfl) (fun _ _ _ h => h) (Or.inl ⟨by kernel_rfl, ?_⟩) (by assumption) ?_
  rotate_left
  · (intro w hSw; (try dsimp only at hSw); go_simp; try (with_reducible rfl))
  try simp only [sA, sB, sC, Act.put, sD, sE, sF]
  refine wpAnyH_take (i := 8) (v := ?_) rfl (by kernel_rfl) (by kernel_rfl) (by kernel_rfl) (fun _ _ _ h => h) (Or.inl ⟨by kernel_rfl, ?_⟩) (by assumption) ?_
  rotate_left
  · (intro w hSw; (try dsimp only at hSw); go_simp; try (with_reducible rfl))
  try simp only [sA, sB, sC, Act.put, sD, sE, sF]
  refine wpAnyH_take (i := 9) (v := ?_) rfl (by kernel_rfl) (by kernel_rfl) (by kernel_rfl) (fun _ _ _ h => h) (Or.inl ⟨by kernel_rfl, ?_⟩) (by assumption) ?_
  rotate_left
  · (intro w hSw; (try dsimp only at hSw); go_simp; try (with_reducible rfl))
  try simp only [sA, sB, sC, Act.put, sD, sE, sF]
  refine wpAnyH_take (i := 10) (v := ?_) rfl (by kernel_rfl) (by kernel_rfl) (by kernel_rfl) (fun _ _ _ h => h) (Or.inl ⟨by kernel_rfl, ?_⟩) (by assumption) ?_
  rotate_left
  · (intro w hSw; (try dsimp only at hSw); go_simp; try (with_reducible rfl))
  try simp only [sA, sB, sC, Act.put, sD, sE, sF]
  refine wpAnyH_take (i := 11) (v := ?_) rfl (by kernel_rfl) (by kernel_rfl) (by kernel_rfl) (fun _ _ _ h => h) (Or.inl ⟨by kernel_rfl, ?_⟩) (by assumption) ?_
  rotate_left
  · (intro w hSw; (try dsimp only at hSw); go_simp; try (with_reducible rfl))
  try simp only [sA, sB, sC, Act.put, sD, sE, sF]
  refine wpAnyH_take (i := 12) (v := ?_) rfl (by kernel_rfl) (by kernel_rfl) (by kernel_rfl) (fun _ _ _ h => h) (Or.inl ⟨by kernel_rfl, ?_⟩) (by assumption) ?_
  rotate_left
  · (intro w hSw; (try dsimp only at hSw); go_simp; try (with_reducible rfl))
  try simp only [sA, sB, sC, Act.put, sD, sE, sF]
  refine wpAnyH_take (i := 13) (v := ?_) rfl (by kernel_rfl) (by kernel_rfl) (by kernel_rfl) (fun _ _ _ h => h) (Or.inl ⟨by kernel_rfl, ?_⟩) (by assumption) ?_
  rotate_left
  · (intro w hSw; (try dsimp only at hSw); go_simp; try (with_reducible rfl))
  try simp only [sA, sB, sC, Act.put, sD, sE, sF]
  refine wpAnyH_take (i := 14) (v := ?_) rfl (by kernel_rfl) (by kernel_rfl) (by kernel_rfl) (fun _ _ _ h => h) (Or.inl ⟨by kernel_rfl, ?_⟩) (by assumption) ?_
  rotate_left
  · (intro w hSw; (try dsimp only at hSw); go_simp; try (with_reducible rfl))
  try simp only [sA, sB, sC, Act.put, sD, sE, sF]
  refine wpAnyH_take (i := 15) (v := ?_) rfl (by kernel_rfl) (by kernel_rfl) (by kernel_rfl) (fun _ _ _ h => h) (Or.inl ⟨by kernel_rfl, ?_⟩) (by assumption) ?_
  rotate_left
  · (intro w hSw; (try dsimp only at hSw); go_simp; try (with_reducible rfl))
  try simp only [sA, sB, sC, Act.put, sD, sE, sF]
  refine wpAnyH_take (i := 16) (v := ?_) rfl (by kernel_rfl) (by kernel_rfl) (by kernel_rfl) (fun _ _ _ h => h) (Or.inl ⟨by kernel_rfl, ?_⟩) (by assumption) ?_
  rotate_left
  · (intro w hSw; (try dsimp only at hSw); go_simp; try (with_reducible rfl))
  try simp only [sA, sB, sC, Act.put, sD, sE, sF]
  refine wpAnyH_take (i := 17) (v := ?_) rfl (by kernel_rfl) (by kernel_rfl) (by kernel_rfl) (fun _ _ _ h => h) (Or.inl ⟨by kernel_rfl, ?_⟩) (by assumption) ?_
  rotate_left
  · (intro w hSw; (try dsimp only at hSw); go_simp; try (with_reducible rfl))
  try simp only [sA, sB, sC, Act.put, sD, sE, sF]
  refine wpAnyH_ready (rs := [18]) (by kernel_rfl) (by simp) ?_
  refine (AllReadyH.cons rfl (fun K hK => ?_) AllReadyH.nil)
  have HZ := Lib.hid (HD.putM (f1 := Value.string) j hj b (intoS s k t))
  have x3 := HD.atM (f1 := Value.string) j hj HBB.out
  rw [← HP.out] at HZ
  go_simp
  refine hK.out _ _ ?_ (fun hHeld => ?_)
  · exact HZ.out.bat i (by rw [List.getElem?_set_ne hij]; exact hi) (j := 1) rfl
  clear hK K
  try simp only [sA, sB, sC, Act.put, sD, sE, sF]
  refine wpAnyH_done (by kernel_rfl) ?_ _
  go_wp2_with fail
  go_end0
  rw [← HP.out]
  exact ⟨rfl, HZ.out⟩
end Go.Proofs.Ytbmoolmgfpcnkaa
