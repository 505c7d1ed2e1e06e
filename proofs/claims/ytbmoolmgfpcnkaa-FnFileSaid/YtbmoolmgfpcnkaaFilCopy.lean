/-
  Copies of stores and files.
-/
import Derived.Test.YtbmoolmgfpcnkaaGa
import Derived.Test.YtbmoolmgfpcnkaaFilOkS
import Derived.Test.YtbmoolmgfpcnkaaPutBlock
import Derived.Test.YtbmoolmgfpcnkaaGb
namespace Go.Proofs.Ytbmoolmgfpcnkaa
open Go.RowKit

theorem one_bool (l : List Bool) : ∀ u ∈ l.map Value.bool, u.oneCell' = true := by
  intro u hu
  obtain ⟨e, _, rfl⟩ := List.mem_map.1 hu
  rfl
theorem one_str (l : List ByteArray) : ∀ u ∈ l.map Value.string, u.oneCell' = true := by
  intro u hu
  obtain ⟨e, _, rfl⟩ := List.mem_map.1 hu
  rfl
set_option linter.unusedSimpArgs false
/-- A store comes back, in memory of its own. -/
def GaveS (w : World) (n m : Nat) (bits : List Bool) (data : List ByteArray) (e : Ending) (w' : World) : Prop := ∃ (A : Option Addr) (c : Nat) (B : Option Addr) (d : Nat), e = .returned (.agg #[.slice A n c, .slice B m d]) ∧
  Hp [] w w' [.row 4 1 (.slice A n c) n (bits.map Value.bool), .row 9 1 (.slice B m d) m (data.map Value.string)]
/-- A file comes back. -/
def GaveF (w : World) (z : Int) (q : Nat) (l : List (Int × Int × Int)) (e : Ending) (w' : World) : Prop := ∃ (E : Option Addr) (r : Nat), e = .returned (.agg #[.int .i64 z, .slice E q r]) ∧
  Hp [] w w' [.row 92 3 (.slice E q r) q (l.flatMap cExt)]
/-- A row with one place more ahead. -/
def nilFi : List Value := [.int .i64 0, .slice none 0 0]

set_option maxRecDepth 100000 in
set_option maxHeartbeats 1000000 in
theorem copyTexts_any (B : Option Addr) (m d : Nat) (data : List ByteArray) (w : World) (h : Rd w B m 1 (data.map Value.string)) (hc : B = none → d = 0) (hm : m ≤ 1048576) :
    Calls Try.prog 89 #[.slice B m d] w fun e w' => Made w 9 1 m (data.map Value.string) e w' := by
  go_enter Try.func89, Try.ntmps89
  go_wp2_with (at_builtin; refine wp_appRd ((Hp.start w).nil_ 9 1) rfl _ _ _ rfl Try.underlying23 infoString rfl (by decide) 0 _ _ _ rfl rfl _ _ _ _ rfl (hc) (h) (one_str _) (by first | (simp only [maxLen]; omega) | (simp [maxLen]; done) | (simp [maxLen]; omega)) (by first | omega | (simp; done) | (simp; omega)) ?_)
  intro v' w9 H9
  obtain ⟨B, d, rfl⟩ := H9.shape 0 rfl
  have HF := Lib.hid H9
  clear H9 h hc
  go_wp2_with fail
  go_ret
  have h9 := HF.out
  exact h9.toMade 0 rfl

set_option maxRecDepth 100000 in
set_option maxHeartbeats 4000000 in
theorem copyStore_any (A : Option Addr) (n c : Nat) (bits : List Bool) (B : Option Addr) (m d : Nat) (data : List ByteArray) (w : World)
    (h0 : Rd w A n 1 (bits.map Value.bool)) (h1 : Rd w B m 1 (data.map Value.string)) (hc : A = none → c = 0) (hd : B = none → d = 0) (hn : n ≤ 1048576) (hm : m ≤ 1048576) :
    Calls Try.prog 53 #[.agg #[.slice A n c, .slice B m d]] w fun e w' => GaveS w n m bits data e w' := by
  have H := (((Hp.start w).lay_ 31 [.slice A n c, .slice B m d] rfl).lay_ 31 nilSt (g := w.heap.size + 1) (by simp)).drew
  obtain ⟨b0, hb0⟩ : ∃ q, q = w.heap.size := ⟨_, rfl⟩
  have HB0 := Lib.hid hb0
  have t0 := H.bat 1 rfl (j := 0) rfl
  have t1 := H.bat 1 rfl (j := 1) rfl
  go_enter Try.func53, Try.ntmps53
  go_wp2_with fail
  refine wp_region_held_drew (S := fun w' => w'.cell? ⟨w.heap.size, 0, none⟩ = some (.slice A n c) ∧ w'.cell? ⟨w.heap.size, 1, none⟩ = some (.slice B m d)) (by kernel_rfl) ?_ (fun hHeld => ?_)
  · exact ⟨t0, t1⟩
  refine wpAnyH_take (i := 0) (v := ?_) rfl (by kernel_rfl) (by kernel_rfl) (by kernel_rfl) (fun _ _ _ h => h) (Or.inl ⟨by kernel_rfl, ?_⟩) (by assumption) ?_
  rotate_left
  · (intro w hSw; (try dsimp only at hSw); go_simp; try (with_reducible rfl))
  try simp only [sA, sB, sC, Act.put, sD, sE, sF]
  refine wpAnyH_take (i := 1) (v := ?_) rfl (by kernel_rfl) (by kernel_rfl) (by kernel_rfl) (fun _ _ _ h => h) (Or.inl ⟨by kernel_rfl, ?_⟩) (by assumption) ?_
  rotate_left
  · (intro w hSw; (try dsimp only at hSw); go_simp; try (with_reducible rfl))
  try simp only [sA, sB, sC, Act.put, sD, sE, sF]
  refine wpAnyH_take (i := 3) (v := ?_) rfl (by kernel_rfl) (by kernel_rfl) (by kernel_rfl) (fun _ _ _ h => h) (Or.inl ⟨by kernel_rfl, ?_⟩) (by assumption) ?_
  rotate_left
  · (intro w hSw; (try dsimp only at hSw); go_simp; try (with_reducible rfl))
  try simp only [sA, sB, sC, Act.put, sD, sE, sF]
  refine wpAnyH_take (i := 4) (v := ?_) rfl (by kernel_rfl) (by kernel_rfl) (by kernel_rfl) (fun _ _ _ h => h) (Or.inl ⟨by kernel_rfl, ?_⟩) (by assumption) ?_
  rotate_left
  · (intro w hSw; (try dsimp only at hSw); go_simp; try (with_reducible rfl))
  try simp only [sA, sB, sC, Act.put, sD, sE, sF]
  refine wpAnyH_ready (rs := [2]) (by kernel_rfl) (by simp) ?_
  refine (AllReadyH.cons rfl (fun K hK => ?_) AllReadyH.nil)
  refine step_appRd (H.nil_ 4 1) rfl _ _ _ rfl Try.underlying22 infoBool rfl (by decide) 0 _ _ _ rfl (by simp [Act.eval]) A n c _ (by simp [Act.eval]) hc (H.old h0) (one_bool _) (by simp only [maxLen]; omega) (by omega) ?_
  intro v1 u1 H1
  rw [Nat.zero_add, List.nil_append] at H1
  replace H : Hp [] w u1 [.row 4 1 v1 n (bits.map Value.bool), .blk (w.heap.size + 1) 31 nilSt, .blk w.heap.size 31 [.slice A n c, .slice B m d]] := H1
  clear H1
  obtain ⟨A1, c1, rfl⟩ := H.shape 0 rfl
  refine hK.out _ _ ?_ (fun hHeld => ?_)
  · exact ⟨H.bat 2 rfl (j := 0) rfl, H.bat 2 rfl (j := 1) rfl⟩
  clear hK K
  try simp only [sA, sB, sC, Act.put, sD, sE, sF]
  refine wpAnyH_ready (rs := [5]) (by kernel_rfl) (by simp) ?_
  refine (AllReadyH.cons rfl (fun K hK => ?_) AllReadyH.nil)
  go_simp
  refine (copyTexts_any B m d data _ (H.old h1) hd hm).mono ?_
  rintro e u2 ⟨B1, d1, rfl, o1, f1⟩
  replace H := H.made o1 f1
  go_wp2_with fail
  refine hK.out _ _ ?_ (fun hHeld => ?_)
  · exact ⟨H.bat 3 rfl (j := 0) rfl, H.bat 3 rfl (j := 1) rfl⟩
  clear hK K
  try simp only [sA, sB, sC, Act.put, sD, sE, sF]
  refine wpAnyH_take (i := 6) (v := ?_) rfl (by kernel_rfl) (by kernel_rfl) (by kernel_rfl) (fun _ _ _ h => h) (Or.inl ⟨by kernel_rfl, ?_⟩) (by assumption) ?_
  rotate_left
  · (intro w hSw; (try dsimp only at hSw); go_simp; try (with_reducible rfl))
  try simp only [sA, sB, sC, Act.put, sD, sE, sF]
  refine wpAnyH_ready (rs := [7]) (by kernel_rfl) (by simp) ?_
  refine (AllReadyH.cons rfl (fun K hK => ?_) AllReadyH.nil)
  have e0 := H.bfree 2 rfl 0
  have e1 := H.bfree 2 rfl 1
  have s0 := H.bat 2 rfl (j := 0) rfl
  have s1 := H.bat 2 rfl (j := 1) rfl
  replace H := (H.bput 2 rfl 0 (.slice A1 n c1)).bput 2 rfl 1 (.slice B1 m d1)
  go_simp
  refine hK.out _ _ ?_ (fun hHeld => ?_)
  · exact ⟨H.bat 3 rfl (j := 0) rfl, H.bat 3 rfl (j := 1) rfl⟩
  clear hK K
  try simp only [sA, sB, sC, Act.put, sD, sE, sF]
  refine wpAnyH_done (by kernel_rfl) ?_ _
  have c3 := H.bat 2 rfl (j := 0) rfl
  have c4 := H.bat 2 rfl (j := 1) rfl
  have H7 := Lib.hid (H.reord [1, 0, 2, 3] (n := 4) rfl (by decide))
  clear H
  go_wp2_with fail
  exact bodyPost_ret (v := .agg #[.slice A1 n c1, .slice B1 m d1]) (by simp [results, Try.results53, go_sem, c3, c4]) rfl ⟨_, _, _, _, rfl, H7.out.sub (l' := [.row 4 1 (.slice A1 n c1) n (bits.map Value.bool), .row 9 1 (.slice B1 m d1) m (data.map Value.string)]) (.cons_cons _ (.cons_cons _ (.cons _ (.cons _ .slnil))))⟩
set_option maxRecDepth 100000 in
set_option maxHeartbeats 4000000 in
theorem copyFil_any (z : Int) (E : Option Addr) (q r : Nat) (l : List (Int × Int × Int)) (w : World) (h0 : Rd w E q 3 (l.flatMap cExt)) (hc : E = none → r = 0) (hq : q ≤ 1048576) :
    Calls Try.prog 54 #[.agg #[.int .i64 z, .slice E q r]] w fun e w' => GaveF w z q l e w' := by
  have H := (((Hp.start w).lay_ 34 [.int .i64 z, .slice E q r] rfl).lay_ 34 [.int .i64 0, .slice none 0 0] (g := w.heap.size + 1) (by simp)).drew
  have t0 := H.bat 1 rfl (j := 0) rfl
  have t1 := H.bat 1 rfl (j := 1) rfl
  go_enter Try.func54, Try.ntmps54
  go_wp2_with fail
  refine wp_region_held_drew (S := fun w' => w'.cell? ⟨w.heap.size, 0, none⟩ = some (.int .i64 z) ∧ w'.cell? ⟨w.heap.size, 1, none⟩ = some (.slice E q r)) (by kernel_rfl) ?_ (fun hHeld => ?_)
  · exact ⟨t0, t1⟩
  refine wpAnyH_take (i := 0) (v := ?_) rfl (by kernel_rfl) (by kernel_rfl) (by kernel_rfl) (fun _ _ _ h => h) (Or.inl ⟨by kernel_rfl, ?_⟩) (by assumption) ?_
  rotate_left
  · (intro w hSw; (try dsimp only at hSw); go_simp; try (with_reducible rfl))
  try simp only [sA, sB, sC, Act.put, sD, sE, sF]
  refine wpAnyH_take (i := 1) (v := ?_) rfl (by kernel_rfl) (by kernel_rfl) (by kernel_rfl) (fun _ _ _ h => h) (Or.inl ⟨by kernel_rfl, ?_⟩) (by assumption) ?_
  rotate_left
  · (intro w hSw; (try dsimp only at hSw); go_simp; try (with_reducible rfl))
  try simp only [sA, sB, sC, Act.put, sD, sE, sF]
  refine wpAnyH_take (i := 2) (v := ?_) rfl (by kernel_rfl) (by kernel_rfl) (by kernel_rfl) (fun _ _ _ h => h) (Or.inl ⟨by kernel_rfl, ?_⟩) (by assumption) ?_
  rotate_left
  · (intro w hSw; (try dsimp only at hSw); go_simp; try (with_reducible rfl))
  try simp only [sA, sB, sC, Act.put, sD, sE, sF]
  refine wpAnyH_take (i := 3) (v := ?_) rfl (by kernel_rfl) (by kernel_rfl) (by kernel_rfl) (fun _ _ _ h => h) (Or.inl ⟨by kernel_rfl, ?_⟩) (by assumption) ?_
  rotate_left
  · (intro w hSw; (try dsimp only at hSw); go_simp; try (with_reducible rfl))
  try simp only [sA, sB, sC, Act.put, sD, sE, sF]
  refine wpAnyH_ready (rs := [4]) (by kernel_rfl) (by simp) ?_
  refine (AllReadyH.cons rfl (fun K hK => ?_) AllReadyH.nil)
  refine step_appRd (H.nil_ 92 3) rfl _ _ _ rfl Try.underlying32 infoExt rfl (by decide) 0 _ _ _ rfl (by simp [Act.eval]) E q r _ (by simp [Act.eval]) hc (H.old h0) (cExt_one _) (by simp only [maxLen]; omega) (by omega) ?_
  intro v1 u1 H1
  rw [Nat.zero_add, List.nil_append] at H1
  replace H : Hp [] w u1 [.row 92 3 v1 q (l.flatMap cExt), .blk (w.heap.size + 1) 34 [.int .i64 0, .slice none 0 0], .blk w.heap.size 34 [.int .i64 z, .slice E q r]] := H1
  clear H1
  obtain ⟨A1, c1, rfl⟩ := H.shape 0 rfl
  refine hK.out _ _ ?_ (fun hHeld => ?_)
  · exact ⟨H.bat 2 rfl (j := 0) rfl, H.bat 2 rfl (j := 1) rfl⟩
  clear hK K
  try simp only [sA, sB, sC, Act.put, sD, sE, sF]
  refine wpAnyH_take (i := 5) (v := ?_) rfl (by kernel_rfl) (by kernel_rfl) (by kernel_rfl) (fun _ _ _ h => h) (Or.inl ⟨by kernel_rfl, ?_⟩) (by assumption) ?_
  rotate_left
  · (intro w hSw; (try dsimp only at hSw); go_simp; try (with_reducible rfl))
  try simp only [sA, sB, sC, Act.put, sD, sE, sF]
  refine wpAnyH_ready (rs := [6]) (by kernel_rfl) (by simp) ?_
  refine (AllReadyH.cons rfl (fun K hK => ?_) AllReadyH.nil)
  have e0 := H.bfree 1 rfl 0
  have e1 := H.bfree 1 rfl 1
  have s0 := H.bat 1 rfl (j := 0) rfl
  have s1 := H.bat 1 rfl (j := 1) rfl
  replace H := (H.bput 1 rfl 0 (.int .i64 z)).bput 1 rfl 1 (.slice A1 q c1)
  go_simp
  refine hK.out _ _ ?_ (fun hHeld => ?_)
  · exact ⟨H.bat 2 rfl (j := 0) rfl, H.bat 2 rfl (j := 1) rfl⟩
  clear hK K
  try simp only [sA, sB, sC, Act.put, sD, sE, sF]
  refine wpAnyH_done (by kernel_rfl) ?_ _
  have c3 := H.bat 1 rfl (j := 0) rfl
  have c4 := H.bat 1 rfl (j := 1) rfl
  have H7 := Lib.hid H
  clear H
  go_wp2_with fail
  exact bodyPost_ret (v := .agg #[.int .i64 z, .slice A1 q c1]) (by simp [results, Try.results54, go_sem, c3, c4]) rfl ⟨_, _, rfl, H7.out.sub (l' := [.row 92 3 (.slice A1 q c1) q (l.flatMap cExt)]) (.cons_cons _ (.cons _ (.cons _ .slnil)))⟩

set_option maxRecDepth 100000 in
set_option maxHeartbeats 4000000 in
theorem l17Same_any (z : Int) (E : Option Addr) (q r : Nat) (l : List (Int × Int × Int)) (w : World) (h0 : Rd w E q 3 (l.flatMap cExt)) (hc : E = none → r = 0) (hq : q ≤ 1048576) :
    Calls Try.prog 44 #[.agg #[.int .i64 z, .slice E q r]] w fun e w' => GaveF w z q l e w' := by
  have H := (((Hp.start w).lay_ 34 [.int .i64 z, .slice E q r] rfl).lay_ 34 [.int .i64 0, .slice none 0 0] (g := w.heap.size + 1) (by simp)).drew
  have t0 := H.bat 1 rfl (j := 0) rfl
  have t1 := H.bat 1 rfl (j := 1) rfl
  go_enter Try.func44, Try.ntmps44
  go_wp2_with fail
  refine wp_region_held_drew (S := fun w' => w'.cell? ⟨w.heap.size, 0, none⟩ = some (.int .i64 z) ∧ w'.cell? ⟨w.heap.size, 1, none⟩ = some (.slice E q r)) (by kernel_rfl) ?_ (fun hHeld => ?_)
  · exact ⟨t0, t1⟩
  obtain ⟨u0, hu0⟩ : ∃ uu : World, uu = ((w.alloc (.cells #[.int .i64 z, .slice E q r] 34)).alloc (.cells #[.int .i64 0, .slice none 0 0] 34)).drew := ⟨_, rfl⟩
  rw [← hu0] at H hHeld ⊢
  clear hu0
  refine wpAnyH_take (i := 0) (v := ?_) rfl (by kernel_rfl) (by kernel_rfl) (by kernel_rfl) (fun _ _ _ h => h) (Or.inl ⟨by kernel_rfl, ?_⟩) (by assumption) ?_
  rotate_left
  · (intro w hSw; (try dsimp only at hSw); go_simp; try (with_reducible rfl))
  try simp only [sA, sB, sC, Act.put, sD, sE, sF]
  refine wpAnyH_take (i := 1) (v := ?_) rfl (by kernel_rfl) (by kernel_rfl) (by kernel_rfl) (fun _ _ _ h => h) (Or.inl ⟨by kernel_rfl, ?_⟩) (by assumption) ?_
  rotate_left
  · (intro w hSw; (try dsimp only at hSw); go_simp; try (with_reducible rfl))
  try simp only [sA, sB, sC, Act.put, sD, sE, sF]
  refine wpAnyH_take (i := 3) (v := ?_) rfl (by kernel_rfl) (by kernel_rfl) (by kernel_rfl) (fun _ _ _ h => h) (Or.inl ⟨by kernel_rfl, ?_⟩) (by assumption) ?_
  rotate_left
  · (intro w hSw; (try dsimp only at hSw); go_simp; try (with_reducible rfl))
  try simp only [sA, sB, sC, Act.put, sD, sE, sF]
  refine wpAnyH_take (i := 4) (v := ?_) rfl (by kernel_rfl) (by kernel_rfl) (by kernel_rfl) (fun _ _ _ h => h) (Or.inl ⟨by kernel_rfl, ?_⟩) (by assumption) ?_
  rotate_left
  · (intro w hSw; (try dsimp only at hSw); go_simp; try (with_reducible rfl))
  try simp only [sA, sB, sC, Act.put, sD, sE, sF]
  refine wpAnyH_ready (rs := [2]) (by kernel_rfl) (by simp) ?_
  refine (AllReadyH.cons rfl (fun K hK => ?_) AllReadyH.nil)
  replace H := H.lit0 92 3
  go_simp
  refine hK.out _ _ ?_ (fun hHeld => ?_)
  · exact ⟨H.bat 2 rfl (j := 0) rfl, H.bat 2 rfl (j := 1) rfl⟩
  clear hK K
  try simp only [sA, sB, sC, Act.put, sD, sE, sF]
  refine wpAnyH_ready (rs := [5]) (by kernel_rfl) (by simp) ?_
  refine (AllReadyH.cons rfl (fun K hK => ?_) AllReadyH.nil)
  refine step_appRd H rfl _ _ _ rfl Try.underlying32 infoExt rfl (by decide) 0 _ _ _ rfl (by simp [Act.eval]) E q r _ (by simp [Act.eval]) hc (H.old h0) (cExt_one _) (by simp only [maxLen]; omega) (by omega) ?_
  intro v1 u2 H1
  rw [Nat.zero_add, List.nil_append] at H1
  replace H : Hp [] w u2 [.row 92 3 v1 q (l.flatMap cExt), .blk (w.heap.size + 1) 34 [.int .i64 0, .slice none 0 0], .blk w.heap.size 34 [.int .i64 z, .slice E q r]] := H1
  clear H1
  obtain ⟨A1, c1, rfl⟩ := H.shape 0 rfl
  refine hK.out _ _ ?_ (fun hHeld => ?_)
  · exact ⟨H.bat 2 rfl (j := 0) rfl, H.bat 2 rfl (j := 1) rfl⟩
  clear hK K
  try simp only [sA, sB, sC, Act.put, sD, sE, sF]
  refine wpAnyH_take (i := 6) (v := ?_) rfl (by kernel_rfl) (by kernel_rfl) (by kernel_rfl) (fun _ _ _ h => h) (Or.inl ⟨by kernel_rfl, ?_⟩) (by assumption) ?_
  rotate_left
  · (intro w hSw; (try dsimp only at hSw); go_simp; try (with_reducible rfl))
  try simp only [sA, sB, sC, Act.put, sD, sE, sF]
  refine wpAnyH_ready (rs := [7]) (by kernel_rfl) (by simp) ?_
  refine (AllReadyH.cons rfl (fun K hK => ?_) AllReadyH.nil)
  have e0 := H.bfree 1 rfl 0
  have e1 := H.bfree 1 rfl 1
  have s0 := H.bat 1 rfl (j := 0) rfl
  have s1 := H.bat 1 rfl (j := 1) rfl
  replace H := (H.bput 1 rfl 0 (.int .i64 z)).bput 1 rfl 1 (.slice A1 q c1)
  go_simp
  refine hK.out _ _ ?_ (fun hHeld => ?_)
  · exact ⟨H.bat 2 rfl (j := 0) rfl, H.bat 2 rfl (j := 1) rfl⟩
  clear hK K
  try simp only [sA, sB, sC, Act.put, sD, sE, sF]
  refine wpAnyH_done (by kernel_rfl) ?_ _
  have c3 := H.bat 1 rfl (j := 0) rfl
  have c4 := H.bat 1 rfl (j := 1) rfl
  have H7 := Lib.hid H
  clear H
  go_wp2_with fail
  exact bodyPost_ret (v := .agg #[.int .i64 z, .slice A1 q c1]) (by simp [results, Try.results44, go_sem, c3, c4]) rfl ⟨_, _, rfl, H7.out.sub (l' := [.row 92 3 (.slice A1 q c1) q (l.flatMap cExt)]) (.cons_cons _ (.cons _ (.cons _ .slnil)))⟩
set_option maxRecDepth 100000 in
set_option maxHeartbeats 4000000 in
theorem l17Copy_any (A : Option Addr) (n c : Nat) (bits : List Bool) (B : Option Addr) (m d : Nat) (data : List ByteArray) (w : World)
    (h0 : Rd w A n 1 (bits.map Value.bool)) (h1 : Rd w B m 1 (data.map Value.string)) (hc : A = none → c = 0) (hd : B = none → d = 0) (hn : n ≤ 1048576) (hm : m ≤ 1048576) :
    Calls Try.prog 43 #[.agg #[.slice A n c, .slice B m d]] w fun e w' => GaveS w n m bits data e w' := by
  have H := (((Hp.start w).lay_ 31 [.slice A n c, .slice B m d] rfl).lay_ 31 [.slice none 0 0, .slice none 0 0] (g := w.heap.size + 1) (by simp)).drew
  have t0 := H.bat 1 rfl (j := 0) rfl
  have t1 := H.bat 1 rfl (j := 1) rfl
  go_enter Try.func43, Try.ntmps43
  go_wp2_with fail
  refine wp_joint (fun a a' w' => ∃ (x3 x7 : Value) (A1 : Option Addr) (c1 : Nat) (B1 : Option Addr) (d1 : Nat), a' = ((((((((a.put (some 3) x3).put (some 4) (.pointer (some ⟨w.heap.size, 0, none⟩))).put (some 5) (.slice A n c)).put (some 6) (.slice A1 n c1)).put (some 7) x7).put (some 8) (.pointer (some ⟨w.heap.size, 1, none⟩))).put (some 9) (.slice B m d)).put (some 10) (.slice B1 m d1)).put (some 11) (.agg #[.slice A1 n c1, .slice B1 m d1]) ∧
    Hp [] w w' [.row 4 1 (.slice A1 n c1) n (bits.map Value.bool), .row 9 1 (.slice B1 m d1) m (data.map Value.string), .blk (w.heap.size + 1) 31 [.slice A1 n c1, .slice B1 m d1], .blk w.heap.size 31 [.slice A n c, .slice B m d]]) ?_ ?_
  ·
    refine wp_region_held_drew (S := fun w' => w'.cell? ⟨w.heap.size, 0, none⟩ = some (.slice A n c) ∧ w'.cell? ⟨w.heap.size, 1, none⟩ = some (.slice B m d)) (by kernel_rfl) ?_ (fun hHeld => ?_)
    · exact ⟨t0, t1⟩
    obtain ⟨u0, hu0⟩ : ∃ uu : World, uu = ((w.alloc (.cells #[.slice A n c, .slice B m d] 31)).alloc (.cells #[.slice none 0 0, .slice none 0 0] 31)).drew := ⟨_, rfl⟩
    rw [← hu0] at H hHeld ⊢
    clear hu0
    refine wpAnyH_take (i := 1) (v := ?_) rfl (by kernel_rfl) (by kernel_rfl) (by kernel_rfl) (fun _ _ _ h => nomatch h.1) (Or.inl ⟨by kernel_rfl, ?_⟩) (by assumption) ?_
    rotate_left
    · (intro w hSw; (try dsimp only at hSw); go_simp; try (with_reducible rfl))
    try simp only [sA, sB, sC, Act.put, sD, sE, sF]
    refine wpAnyH_take (i := 2) (v := ?_) rfl (by kernel_rfl) (by kernel_rfl) (by kernel_rfl) (fun _ _ _ h => nomatch h.1) (Or.inl ⟨by kernel_rfl, ?_⟩) (by assumption) ?_
    rotate_left
    · (intro w hSw; (try dsimp only at hSw); go_simp; try (with_reducible rfl))
    try simp only [sA, sB, sC, Act.put, sD, sE, sF]
    refine wpAnyH_take (i := 5) (v := ?_) rfl (by kernel_rfl) (by kernel_rfl) (by kernel_rfl) (fun _ _ _ h => nomatch h.1) (Or.inl ⟨by kernel_rfl, ?_⟩) (by assumption) ?_
    rotate_left
    · (intro w hSw; (try dsimp only at hSw); go_simp; try (with_reducible rfl))
    try simp only [sA, sB, sC, Act.put, sD, sE, sF]
    refine wpAnyH_take (i := 6) (v := ?_) rfl (by kernel_rfl) (by kernel_rfl) (by kernel_rfl) (fun _ _ _ h => nomatch h.1) (Or.inl ⟨by kernel_rfl, ?_⟩) (by assumption) ?_
    rotate_left
    · (intro w hSw; (try dsimp only at hSw); go_simp; try (with_reducible rfl))
    try simp only [sA, sB, sC, Act.put, sD, sE, sF]
    refine wpAnyH_ready (rs := [0, 4]) (by kernel_rfl) (by simp) ?_
    refine (AllReadyH.cons rfl (fun K hK => ?_) (AllReadyH.cons rfl (fun K hK => ?_) AllReadyH.nil))
    · replace H := H.lit0 4 1
      go_simp
      refine hK.out _ _ ?_ (fun hHeld => ?_)
      · exact ⟨H.bat 2 rfl (j := 0) rfl, H.bat 2 rfl (j := 1) rfl⟩
      clear hK K
      try simp only [sA, sB, sC, Act.put, sD, sE, sF]
      refine wpAnyH_ready (rs := [3, 4]) (by kernel_rfl) (by simp) ?_
      refine (AllReadyH.cons rfl (fun K hK => ?_) (AllReadyH.cons rfl (fun K hK => ?_) AllReadyH.nil))
      · refine step_appRd H rfl _ _ _ rfl Try.underlying22 infoBool rfl (by decide) 0 _ _ _ rfl (by simp [Act.eval]) A n c _ (by simp [Act.eval]) hc (H.old h0) (one_bool _) (by simp only [maxLen]; omega) (by omega) ?_
        intro v1 u2 H1
        rw [Nat.zero_add, List.nil_append] at H1
        replace H := H1
        clear H1
        obtain ⟨A1, c1, rfl⟩ := H.shape 0 rfl
        refine hK.out _ _ ?_ (fun hHeld => ?_)
        · exact ⟨H.bat 2 rfl (j := 0) rfl, H.bat 2 rfl (j := 1) rfl⟩
        clear hK K
        try simp only [sA, sB, sC, Act.put, sD, sE, sF]
        refine wpAnyH_ready (rs := [4]) (by kernel_rfl) (by simp) ?_
        refine (AllReadyH.cons rfl (fun K hK => ?_) AllReadyH.nil)
        replace H := H.lit0 9 1
        go_simp
        refine hK.out _ _ ?_ (fun hHeld => ?_)
        · exact ⟨H.bat 3 rfl (j := 0) rfl, H.bat 3 rfl (j := 1) rfl⟩
        clear hK K
        try simp only [sA, sB, sC, Act.put, sD, sE, sF]
        refine wpAnyH_ready (rs := [7]) (by kernel_rfl) (by simp) ?_
        refine (AllReadyH.cons rfl (fun K hK => ?_) AllReadyH.nil)
        refine step_appRd H rfl _ _ _ rfl Try.underlying23 infoString rfl (by decide) 0 _ _ _ rfl (by simp [Act.eval]) B m d _ (by simp [Act.eval]) hd (H.old h1) (one_str _) (by simp only [maxLen]; omega) (by omega) ?_
        intro v1 u4 H1
        rw [Nat.zero_add, List.nil_append] at H1
        replace H := H1
        clear H1
        obtain ⟨B1, d1, rfl⟩ := H.shape 0 rfl
        refine hK.out _ _ ?_ (fun hHeld => ?_)
        · exact ⟨H.bat 3 rfl (j := 0) rfl, H.bat 3 rfl (j := 1) rfl⟩
        clear hK K
        try simp only [sA, sB, sC, Act.put, sD, sE, sF]
        refine wpAnyH_take (i := 8) (v := ?_) rfl (by kernel_rfl) (by kernel_rfl) (by kernel_rfl) (fun _ _ _ h => nomatch h.1) (Or.inl ⟨by kernel_rfl, ?_⟩) (by assumption) ?_
        rotate_left
        · (intro w hSw; (try dsimp only at hSw); go_simp; try (with_reducible rfl))
        try simp only [sA, sB, sC, Act.put, sD, sE, sF]
        refine wpAnyH_ready (rs := [9]) (by kernel_rfl) (by simp) ?_
        refine (AllReadyH.cons rfl (fun K hK => ?_) AllReadyH.nil)
        replace H := H.reord [1, 0, 2, 3] (n := 4) rfl (by decide)
        have e0 := H.bfree 2 rfl 0
        have e1 := H.bfree 2 rfl 1
        have s0 := H.bat 2 rfl (j := 0) rfl
        have s1 := H.bat 2 rfl (j := 1) rfl
        replace H := (H.bput 2 rfl 0 (.slice A1 n c1)).bput 2 rfl 1 (.slice B1 m d1)
        go_simp
        refine hK.out _ _ ?_ (fun hHeld => ?_)
        · exact ⟨H.bat 3 rfl (j := 0) rfl, H.bat 3 rfl (j := 1) rfl⟩
        clear hK K
        try simp only [sA, sB, sC, Act.put, sD, sE, sF]
        refine wpAnyH_done (by kernel_rfl) ?_ _
        exact ⟨rfl, _, _, A1, c1, B1, d1, rfl, H⟩
      · replace H := H.lit0 9 1
        go_simp
        refine hK.out _ _ ?_ (fun hHeld => ?_)
        · exact ⟨H.bat 3 rfl (j := 0) rfl, H.bat 3 rfl (j := 1) rfl⟩
        clear hK K
        try simp only [sA, sB, sC, Act.put, sD, sE, sF]
        refine wpAnyH_ready (rs := [3]) (by kernel_rfl) (by simp) ?_
        refine (AllReadyH.cons rfl (fun K hK => ?_) AllReadyH.nil)
        refine step_appRd H rfl _ _ _ rfl Try.underlying22 infoBool rfl (by decide) 1 _ _ _ rfl (by simp [Act.eval]) A n c _ (by simp [Act.eval]) hc (H.old h0) (one_bool _) (by simp only [maxLen]; omega) (by omega) ?_
        intro v1 u3 H1
        rw [Nat.zero_add, List.nil_append] at H1
        replace H := H1
        clear H1
        obtain ⟨A1, c1, rfl⟩ := H.shape 1 rfl
        refine hK.out _ _ ?_ (fun hHeld => ?_)
        · exact ⟨H.bat 3 rfl (j := 0) rfl, H.bat 3 rfl (j := 1) rfl⟩
        clear hK K
        try simp only [sA, sB, sC, Act.put, sD, sE, sF]
        refine wpAnyH_ready (rs := [7]) (by kernel_rfl) (by simp) ?_
        refine (AllReadyH.cons rfl (fun K hK => ?_) AllReadyH.nil)
        refine step_appRd H rfl _ _ _ rfl Try.underlying23 infoString rfl (by decide) 0 _ _ _ rfl (by simp [Act.eval]) B m d _ (by simp [Act.eval]) hd (H.old h1) (one_str _) (by simp only [maxLen]; omega) (by omega) ?_
        intro v1 u4 H1
        rw [Nat.zero_add, List.nil_append] at H1
        replace H := H1
        clear H1
        obtain ⟨B1, d1, rfl⟩ := H.shape 0 rfl
        refine hK.out _ _ ?_ (fun hHeld => ?_)
        · exact ⟨H.bat 3 rfl (j := 0) rfl, H.bat 3 rfl (j := 1) rfl⟩
        clear hK K
        try simp only [sA, sB, sC, Act.put, sD, sE, sF]
        refine wpAnyH_take (i := 8) (v := ?_) rfl (by kernel_rfl) (by kernel_rfl) (by kernel_rfl) (fun _ _ _ h => nomatch h.1) (Or.inl ⟨by kernel_rfl, ?_⟩) (by assumption) ?_
        rotate_left
        · (intro w hSw; (try dsimp only at hSw); go_simp; try (with_reducible rfl))
        try simp only [sA, sB, sC, Act.put, sD, sE, sF]
        refine wpAnyH_ready (rs := [9]) (by kernel_rfl) (by simp) ?_
        refine (AllReadyH.cons rfl (fun K hK => ?_) AllReadyH.nil)
        replace H := H.reord [1, 0, 2, 3] (n := 4) rfl (by decide)
        have e0 := H.bfree 2 rfl 0
        have e1 := H.bfree 2 rfl 1
        have s0 := H.bat 2 rfl (j := 0) rfl
        have s1 := H.bat 2 rfl (j := 1) rfl
        replace H := (H.bput 2 rfl 0 (.slice A1 n c1)).bput 2 rfl 1 (.slice B1 m d1)
        go_simp
        refine hK.out _ _ ?_ (fun hHeld => ?_)
        · exact ⟨H.bat 3 rfl (j := 0) rfl, H.bat 3 rfl (j := 1) rfl⟩
        clear hK K
        try simp only [sA, sB, sC, Act.put, sD, sE, sF]
        refine wpAnyH_done (by kernel_rfl) ?_ _
        exact ⟨rfl, _, _, A1, c1, B1, d1, rfl, H⟩
    · replace H := H.lit0 9 1
      go_simp
      refine hK.out _ _ ?_ (fun hHeld => ?_)
      · exact ⟨H.bat 2 rfl (j := 0) rfl, H.bat 2 rfl (j := 1) rfl⟩
      clear hK K
      try simp only [sA, sB, sC, Act.put, sD, sE, sF]
      refine wpAnyH_ready (rs := [0]) (by kernel_rfl) (by simp) ?_
      refine (AllReadyH.cons rfl (fun K hK => ?_) AllReadyH.nil)
      replace H := H.lit0 4 1
      go_simp
      refine hK.out _ _ ?_ (fun hHeld => ?_)
      · exact ⟨H.bat 3 rfl (j := 0) rfl, H.bat 3 rfl (j := 1) rfl⟩
      clear hK K
      try simp only [sA, sB, sC, Act.put, sD, sE, sF]
      refine wpAnyH_ready (rs := [3]) (by kernel_rfl) (by simp) ?_
      refine (AllReadyH.cons rfl (fun K hK => ?_) AllReadyH.nil)
      refine step_appRd H rfl _ _ _ rfl Try.underlying22 infoBool rfl (by decide) 0 _ _ _ rfl (by simp [Act.eval]) A n c _ (by simp [Act.eval]) hc (H.old h0) (one_bool _) (by simp only [maxLen]; omega) (by omega) ?_
      intro v1 u3 H1
      rw [Nat.zero_add, List.nil_append] at H1
      replace H := H1
      clear H1
      obtain ⟨A1, c1, rfl⟩ := H.shape 0 rfl
      refine hK.out _ _ ?_ (fun hHeld => ?_)
      · exact ⟨H.bat 3 rfl (j := 0) rfl, H.bat 3 rfl (j := 1) rfl⟩
      clear hK K
      try simp only [sA, sB, sC, Act.put, sD, sE, sF]
      refine wpAnyH_ready (rs := [7]) (by kernel_rfl) (by simp) ?_
      refine (AllReadyH.cons rfl (fun K hK => ?_) AllReadyH.nil)
      refine step_appRd H rfl _ _ _ rfl Try.underlying23 infoString rfl (by decide) 1 _ _ _ rfl (by simp [Act.eval]) B m d _ (by simp [Act.eval]) hd (H.old h1) (one_str _) (by simp only [maxLen]; omega) (by omega) ?_
      intro v1 u4 H1
      rw [Nat.zero_add, List.nil_append] at H1
      replace H := H1
      clear H1
      obtain ⟨B1, d1, rfl⟩ := H.shape 1 rfl
      refine hK.out _ _ ?_ (fun hHeld => ?_)
      · exact ⟨H.bat 3 rfl (j := 0) rfl, H.bat 3 rfl (j := 1) rfl⟩
      clear hK K
      try simp only [sA, sB, sC, Act.put, sD, sE, sF]
      refine wpAnyH_take (i := 8) (v := ?_) rfl (by kernel_rfl) (by kernel_rfl) (by kernel_rfl) (fun _ _ _ h => nomatch h.1) (Or.inl ⟨by kernel_rfl, ?_⟩) (by assumption) ?_
      rotate_left
      · (intro w hSw; (try dsimp only at hSw); go_simp; try (with_reducible rfl))
      try simp only [sA, sB, sC, Act.put, sD, sE, sF]
      refine wpAnyH_ready (rs := [9]) (by kernel_rfl) (by simp) ?_
      refine (AllReadyH.cons rfl (fun K hK => ?_) AllReadyH.nil)
      replace H := H.reord [0, 1, 2, 3] (n := 4) rfl (by decide)
      have e0 := H.bfree 2 rfl 0
      have e1 := H.bfree 2 rfl 1
      have s0 := H.bat 2 rfl (j := 0) rfl
      have s1 := H.bat 2 rfl (j := 1) rfl
      replace H := (H.bput 2 rfl 0 (.slice A1 n c1)).bput 2 rfl 1 (.slice B1 m d1)
      go_simp
      refine hK.out _ _ ?_ (fun hHeld => ?_)
      · exact ⟨H.bat 3 rfl (j := 0) rfl, H.bat 3 rfl (j := 1) rfl⟩
      clear hK K
      try simp only [sA, sB, sC, Act.put, sD, sE, sF]
      refine wpAnyH_done (by kernel_rfl) ?_ _
      exact ⟨rfl, _, _, A1, c1, B1, d1, rfl, H⟩
  rintro a' w' ⟨x3, x7, A1, c1, B1, d1, rfl, H⟩
  simp only [List.getElem_toArray, List.getElem_cons_succ, List.getElem_cons_zero, Act.put, List.setIfInBounds_toArray, List.set_cons_zero, List.set_cons_succ]
  have c3 := H.bat 2 rfl (j := 0) rfl
  have c4 := H.bat 2 rfl (j := 1) rfl
  have H7 := Lib.hid H
  clear H
  go_wp2_with fail
  exact bodyPost_ret (v := .agg #[.slice A1 n c1, .slice B1 m d1]) (by simp [results, Try.results43, go_sem, c3, c4]) rfl ⟨_, _, _, _, rfl, H7.out.sub (l' := [.row 4 1 (.slice A1 n c1) n (bits.map Value.bool), .row 9 1 (.slice B1 m d1) m (data.map Value.string)]) (.cons_cons _ (.cons_cons _ (.cons _ (.cons _ .slnil))))⟩
end Go.Proofs.Ytbmoolmgfpcnkaa
