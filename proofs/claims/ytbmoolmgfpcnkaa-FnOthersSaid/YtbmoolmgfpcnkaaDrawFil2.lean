/-
  What the reference draws for FilWrite and FilCut.
-/
import Derived.Test.YtbmoolmgfpcnkaaDrawFil
namespace Go.Proofs.Ytbmoolmgfpcnkaa
open Go.RowKit

set_option linter.unusedSimpArgs false
set_option linter.unusedVariables false
theorem own_new {w w' : World} {g : Nat} {T : TypeId} {cs : List Value} (H : Hp [] w w' [.blk g T cs]) : w.heap.size ≤ g := by
  rcases H.own _ (List.mem_singleton.2 rfl) g rfl with h2 | h2
  · exact h2
  · simp at h2
theorem Hp.lit_ {W : List Nat} {w0 w : World} {l : List Ob} (H : Hp W w0 w l) (E : TypeId) (k n : Nat) (cs : List Value) (hs : cs.length = n * k) (hn : n ≤ maxLen) {g : Nat} (hg : g = w.heap.size) : Hp W w0 (w.alloc (.cells cs.toArray E)) (.row E k (.slice (some ⟨g, 0, none⟩) n n) n cs :: l) := by subst hg; exact H.lit E k n cs hs hn
/-- A store and a file are drawn, and two values. -/
def DrewW (w : World) (e : Ending) (w' : World) : Prop :=
  ∃ (A1 : Option Addr) (n1 c1 : Nat) (bits : List Bool) (B1 : Option Addr) (d1 : Nat) (data : List ByteArray) (z : Int) (E1 : Option Addr) (q r1 : Nat) (l : List (Int × Int × Int)) (off : Int) (tx : ByteArray),
    e = .returned (.tuple #[.agg #[.slice A1 n1 c1, .slice B1 24 d1], .agg #[.int .i64 z, .slice E1 q r1], .int .i64 off, .string tx]) ∧ n1 ≤ 24 ∧ (∀ s ∈ data, s.size ≤ 10) ∧ q ≤ 12 ∧ off ≤ 9223372036854775807 ∧ tx.size ≤ 12 ∧
    Hp [] w w' [.row 4 1 (.slice A1 n1 c1) n1 (bits.map Value.bool), .row 9 1 (.slice B1 24 d1) 24 (data.map Value.string), .row 92 3 (.slice E1 q r1) q (l.flatMap cExt)]
def DrewC (w : World) (e : Ending) (w' : World) : Prop :=
  ∃ (A1 : Option Addr) (n1 c1 : Nat) (bits : List Bool) (B1 : Option Addr) (d1 : Nat) (data : List ByteArray) (z : Int) (E1 : Option Addr) (q r1 : Nat) (l : List (Int × Int × Int)) (size : Int),
    e = .returned (.tuple #[.agg #[.slice A1 n1 c1, .slice B1 24 d1], .agg #[.int .i64 z, .slice E1 q r1], .int .i64 size]) ∧ n1 ≤ 24 ∧ (∀ s ∈ data, s.size ≤ 10) ∧ q ≤ 12 ∧
    Hp [] w w' [.row 4 1 (.slice A1 n1 c1) n1 (bits.map Value.bool), .row 9 1 (.slice B1 24 d1) 24 (data.map Value.string), .row 92 3 (.slice E1 q r1) q (l.flatMap cExt)]
def pickF : List Int := [0, 1, 3, 4, 7, 20, 40, 45, 48, 49, -1, 9223372036854775807]
theorem pickF_in : ∀ x ∈ pickF, x ≤ 9223372036854775807 := by decide
set_option maxRecDepth 100000 in
set_option maxHeartbeats 4000000 in
theorem drawFilWrite_any (A : Option Addr) (n c : Nat) (bs : List UInt8) (w : World) (hA : Rd w A n 1 (bs.map cU8)) (hn : n ≤ 1048576) :
    Calls Try.prog 37 #[.slice A n c] w (DrewW w) := by
  have G := Lib.hid hA
  have H := ((Hp.start w).lay_ 31 [.slice none 0 0, .slice none 0 0] rfl).lay_ 34 [.int .i64 0, .slice none 0 0] (g := w.heap.size + 1) (by simp)
  obtain ⟨g2, hg2⟩ : ∃ x, x = w.heap.size := ⟨_, rfl⟩
  have HG2 := Lib.hid hg2
  rw [← hg2] at H
  obtain ⟨g3, hg3⟩ : ∃ x, x = g2 + 1 := ⟨_, rfl⟩
  have HG3 := Lib.hid hg3
  rw [← hg3] at H
  have hfar : ∀ g, w.heap.size ≤ g → 0 < n → ∀ ad, A = some ad → ad.block ≠ g := rd_far hA (by decide)
  have HF := Lib.hid hfar
  clear hA hg2 hg3 hfar
  go_enter Try.func37, Try.ntmps37
  go_wp2_with fail
  rw [← HG2.out, ← HG3.out]
  refine (l1New_any A n c bs _ (H.old G.out) hn).mono ?_
  rintro e w1 ⟨g, h, rfl, K⟩
  have hgw : w.heap.size ≤ g := Nat.le_trans H.size (own_new K)
  have NE := Lib.hid (HF.out g hgw)
  replace H := H.join K
  clear K HF
  go_wp2_with fail
  refine (l17Some_any g A n c bs 0 h _ (H.blk 0 rfl) (H.old G.out) NE.out (by omega) (by omega) hn).mono ?_
  rintro e w2 ⟨A1, n1, c1, bits, B1, d1, data, z, E1, q, r1, l, i2, h2, rfl, hn1, hsz, hq, a2, b2, K⟩
  have HSZ := Lib.hid hsz
  replace H := H.joinL (l' := [_, _, _]) 0 rfl K
  replace H := (H.lay_ 31 [.slice A1 n1 c1, .slice B1 24 d1] rfl).lay_ 34 [.int .i64 z, .slice E1 q r1] (g := w2.heap.size + 1) (by simp)
  obtain ⟨g7, hg7⟩ : ∃ x, x = w2.heap.size := ⟨_, rfl⟩
  have HG7 := Lib.hid hg7
  rw [← hg7] at H
  obtain ⟨g8, hg8⟩ : ∃ x, x = g7 + 1 := ⟨_, rfl⟩
  have HG8 := Lib.hid hg8
  rw [← hg8] at H
  clear K hsz hg7 hg8
  replace H := H.reord [2, 3, 4, 1, 0, 5, 6, 7] (n := 8) rfl (by decide)
  have HL := H.lit_ 3 1 12 (pickF.map (Value.int .i64)) rfl (by simp [maxLen]) (g := g8 + 1) (by rw [HG8.out, HG7.out]; simp)
  have hgl := H.lt 5 rfl rfl
  have hg8 : g < g8 + 1 := by rw [HG8.out, HG7.out]; simpa using hgl
  clear hgl
  go_wp2_with fail
  rw [← HG7.out, ← HG8.out]
  refine (l1PickInt_any g A n c bs i2 h2 (some ⟨g8 + 1, 0, none⟩) 12 12 pickF _ (HL.blk 6 rfl) (HL.old G.out) NE.out a2 b2 hn (HL.rd 0 rfl) (by rintro ad he; injection he with he; subst he; simp; omega) (by decide) (by decide)).mono ?_
  rintro e w4 ⟨off, rfl, hoff, C⟩
  obtain ⟨i4, h4, a4, b4, H'⟩ := HL.cur 6 rfl C
  have hof := pickF_in off hoff
  have H := H'.tail
  clear HL C H' hoff hg8
  go_wp2_with fail
  replace H := H.drew
  have z0 := H.bat 3 rfl (j := 0) rfl
  have z1 := H.bat 3 rfl (j := 1) rfl
  have z2 := H.bat 4 rfl (j := 0) rfl
  have z3 := H.bat 4 rfl (j := 1) rfl
  have h12 : (12 : Nat) ≤ 100 := by decide
  refine wp_region_held_drew (S := fun w' => w'.cell? ⟨g7, 0, none⟩ = some (.slice A1 n1 c1) ∧ w'.cell? ⟨g7, 1, none⟩ = some (.slice B1 24 d1) ∧ w'.cell? ⟨g8, 0, none⟩ = some (.int .i64 z) ∧ w'.cell? ⟨g8, 1, none⟩ = some (.slice E1 q r1)) (by kernel_rfl) ?_ (fun hHeld => ?_)
  · exact ⟨z0, z1, z2, z3⟩
  obtain ⟨u0, hu0⟩ : ∃ uu : World, uu = w4.drew := ⟨_, rfl⟩
  rw [← hu0] at H hHeld ⊢
  clear hu0
  refine wpAnyH_take (i := 0) (v := ?_) rfl (by kernel_rfl) (by kernel_rfl) (by kernel_rfl) (fun _ _ _ h => h) (Or.inl ⟨by kernel_rfl, ?_⟩) (by assumption) ?_
  rotate_left
  · (intro w hSw; (try dsimp only at hSw); go_simp; try (with_reducible rfl))
  try simp only [sA, sB, sC, Act.put, sD, sE, sF]
  refine wpAnyH_take (i := 1) (v := ?_) rfl (by kernel_rfl) (by kernel_rfl) (by kernel_rfl) (fun _ _ _ h => h) (Or.inl ⟨by kernel_rfl, ?_⟩) (by assumption) ?_
  rotate_left
  · (intro w hSw; (try dsimp only at hSw); go_simp; try (with_reducible rfl))
  try simp only [sA, sB, sC, Act.put, sD, sE, sF]
  refine wpAnyH_take (i := 2) (v := ?_) rfl (by kernel_rfl) (by kernel_rfl) (by kernel_rfl) (fun _ _ _ h => h) (Or.inl ⟨by kernel_rfl, ?_⟩) (by assumption) ?_
  rotate_left
  · (intro w hSw; (try dsimp only at hSw); go_simp; try (with_reducible rfl))
  try simp only [sA, sB, sC, Act.put, sD, sE, sF]
  refine wpAnyH_take (i := 3) (v := ?_) rfl (by kernel_rfl) (by kernel_rfl) (by kernel_rfl) (fun _ _ _ h => h) (Or.inl ⟨by kernel_rfl, ?_⟩) (by assumption) ?_
  rotate_left
  · (intro w hSw; (try dsimp only at hSw); go_simp; try (with_reducible rfl))
  try simp only [sA, sB, sC, Act.put, sD, sE, sF]
  refine wpAnyH_ready (rs := [4]) (by kernel_rfl) (by simp) ?_
  refine (AllReadyH.cons rfl (fun K hK => ?_) AllReadyH.nil)
  go_simp
  refine (l1Text_any g A n c bs _ _ 12 _ (H.blk 5 rfl) (H.old G.out) NE.out a4 b4 hn h12).mono ?_
  rintro e u1 ⟨tx, rfl, htx, C⟩
  obtain ⟨i9, h9, a9, b9, H'⟩ := H.cur 5 rfl C
  replace H := H'
  clear C H'
  go_wp2_with fail
  refine hK.out _ _ ?_ (fun hHeld => ?_)
  · exact ⟨H.bat 3 rfl (j := 0) rfl, H.bat 3 rfl (j := 1) rfl, H.bat 4 rfl (j := 0) rfl, H.bat 4 rfl (j := 1) rfl⟩
  clear hK K
  try simp only [sA, sB, sC, Act.put, sD, sE, sF]
  refine wpAnyH_ready (rs := [5]) (by kernel_rfl) (by simp) ?_
  refine (AllReadyH.cons rfl (fun K hK => ?_) AllReadyH.nil)
  have e0 := H.bfree 7 rfl 0
  have e1 := H.bfree 7 rfl 1
  have s0 := H.bat 7 rfl (j := 0) rfl
  have s1 := H.bat 7 rfl (j := 1) rfl
  replace H := (H.bput 7 rfl 0 (.slice A1 n1 c1)).bput 7 rfl 1 (.slice B1 24 d1)
  go_simp
  refine hK.out _ _ ?_ (fun hHeld => ?_)
  · exact ⟨H.bat 3 rfl (j := 0) rfl, H.bat 3 rfl (j := 1) rfl, H.bat 4 rfl (j := 0) rfl, H.bat 4 rfl (j := 1) rfl⟩
  clear hK K
  try simp only [sA, sB, sC, Act.put, sD, sE, sF]
  refine wpAnyH_ready (rs := [6]) (by kernel_rfl) (by simp) ?_
  refine (AllReadyH.cons rfl (fun K hK => ?_) AllReadyH.nil)
  have e0 := H.bfree 6 rfl 0
  have e1 := H.bfree 6 rfl 1
  have s0 := H.bat 6 rfl (j := 0) rfl
  have s1 := H.bat 6 rfl (j := 1) rfl
  replace H := (H.bput 6 rfl 0 (.int .i64 z)).bput 6 rfl 1 (.slice E1 q r1)
  go_simp
  refine hK.out _ _ ?_ (fun hHeld => ?_)
  · exact ⟨H.bat 3 rfl (j := 0) rfl, H.bat 3 rfl (j := 1) rfl, H.bat 4 rfl (j := 0) rfl, H.bat 4 rfl (j := 1) rfl⟩
  clear hK K
  try simp only [sA, sB, sC, Act.put, sD, sE, sF]
  refine wpAnyH_take (i := 7) (v := ?_) rfl (by kernel_rfl) (by kernel_rfl) (by kernel_rfl) (fun _ _ _ h => h) (Or.inl ⟨by kernel_rfl, ?_⟩) (by assumption) ?_
  rotate_left
  · (intro w hSw; (try dsimp only at hSw); go_simp; try (with_reducible rfl))
  try simp only [sA, sB, sC, Act.put, sD, sE, sF]
  refine wpAnyH_take (i := 8) (v := ?_) rfl (by kernel_rfl) (by kernel_rfl) (by kernel_rfl) (fun _ _ _ h => h) (Or.inl ⟨by kernel_rfl, ?_⟩) (by assumption) ?_
  rotate_left
  · (intro w hSw; (try dsimp only at hSw); go_simp; try (with_reducible rfl))
  try simp only [sA, sB, sC, Act.put, sD, sE, sF]
  refine wpAnyH_done (by kernel_rfl) ?_ _
  have x1 := H.bat 7 rfl (j := 0) rfl
  have x2 := H.bat 7 rfl (j := 1) rfl
  have x3 := H.bat 6 rfl (j := 0) rfl
  have x4 := H.bat 6 rfl (j := 1) rfl
  have H7 := Lib.hid H
  clear H
  go_wp2_with fail
  refine bodyPost_ret (v := .tuple #[.agg #[.slice A1 n1 c1, .slice B1 24 d1], .agg #[.int .i64 z, .slice E1 q r1], .int .i64 off, .string tx]) (by simp [results, Try.results37, go_sem, x1, x2, x3, x4]) rfl ?_
  refine ⟨A1, n1, c1, bits, B1, d1, data, z, E1, q, r1, l, off, tx, rfl, hn1, HSZ.out, hq, hof, htx, ?_⟩
  exact H7.out.sub (.cons_cons _ (.cons_cons _ (.cons_cons _ (List.nil_sublist _))))
set_option maxRecDepth 100000 in
set_option maxHeartbeats 4000000 in
theorem drawFilCut_any (A : Option Addr) (n c : Nat) (bs : List UInt8) (w : World) (hA : Rd w A n 1 (bs.map cU8)) (hn : n ≤ 1048576) :
    Calls Try.prog 39 #[.slice A n c] w (DrewC w) := by
  have G := Lib.hid hA
  have H := ((Hp.start w).lay_ 31 [.slice none 0 0, .slice none 0 0] rfl).lay_ 34 [.int .i64 0, .slice none 0 0] (g := w.heap.size + 1) (by simp)
  obtain ⟨g2, hg2⟩ : ∃ x, x = w.heap.size := ⟨_, rfl⟩
  have HG2 := Lib.hid hg2
  rw [← hg2] at H
  obtain ⟨g3, hg3⟩ : ∃ x, x = g2 + 1 := ⟨_, rfl⟩
  have HG3 := Lib.hid hg3
  rw [← hg3] at H
  have hfar : ∀ g, w.heap.size ≤ g → 0 < n → ∀ ad, A = some ad → ad.block ≠ g := rd_far hA (by decide)
  have HF := Lib.hid hfar
  clear hA hg2 hg3 hfar
  go_enter Try.func39, Try.ntmps39
  go_wp2_with fail
  rw [← HG2.out, ← HG3.out]
  refine (l1New_any A n c bs _ (H.old G.out) hn).mono ?_
  rintro e w1 ⟨g, h, rfl, K⟩
  have hgw : w.heap.size ≤ g := Nat.le_trans H.size (own_new K)
  have NE := Lib.hid (HF.out g hgw)
  replace H := H.join K
  clear K HF
  go_wp2_with fail
  refine (l17Some_any g A n c bs 0 h _ (H.blk 0 rfl) (H.old G.out) NE.out (by omega) (by omega) hn).mono ?_
  rintro e w2 ⟨A1, n1, c1, bits, B1, d1, data, z, E1, q, r1, l, i2, h2, rfl, hn1, hsz, hq, a2, b2, K⟩
  have HSZ := Lib.hid hsz
  replace H := H.joinL (l' := [_, _, _]) 0 rfl K
  replace H := (H.lay_ 31 [.slice A1 n1 c1, .slice B1 24 d1] rfl).lay_ 34 [.int .i64 z, .slice E1 q r1] (g := w2.heap.size + 1) (by simp)
  obtain ⟨g7, hg7⟩ : ∃ x, x = w2.heap.size := ⟨_, rfl⟩
  have HG7 := Lib.hid hg7
  rw [← hg7] at H
  obtain ⟨g8, hg8⟩ : ∃ x, x = g7 + 1 := ⟨_, rfl⟩
  have HG8 := Lib.hid hg8
  rw [← hg8] at H
  clear K hsz hg7 hg8
  replace H := H.reord [2, 3, 4, 1, 0, 5, 6, 7] (n := 8) rfl (by decide)
  go_wp2_with fail
  rw [← HG7.out, ← HG8.out]
  obtain ⟨w4, hw4⟩ : ∃ w4 : World, w4 = (w2.alloc (.cells #[.slice A1 n1 c1, .slice B1 24 d1] 31)).alloc (.cells #[.int .i64 z, .slice E1 q r1] 34) := ⟨_, rfl⟩
  rw [← hw4] at H ⊢
  clear hw4
  replace H := H.drew
  have z0 := H.bat 3 rfl (j := 0) rfl
  have z1 := H.bat 3 rfl (j := 1) rfl
  have z2 := H.bat 4 rfl (j := 0) rfl
  have z3 := H.bat 4 rfl (j := 1) rfl
  have h51 : (51 : Int) ≤ 256 := by decide
  have hmr : ∀ x : Int, 0 ≤ x → x < 51 → IntKind.i64.wrap (x - 1) = x - 1 := fun x h0 h1 => IntWalk.i64_in _ (by omega)
  refine wp_region_held_drew (S := fun w' => w'.cell? ⟨g7, 0, none⟩ = some (.slice A1 n1 c1) ∧ w'.cell? ⟨g7, 1, none⟩ = some (.slice B1 24 d1) ∧ w'.cell? ⟨g8, 0, none⟩ = some (.int .i64 z) ∧ w'.cell? ⟨g8, 1, none⟩ = some (.slice E1 q r1)) (by kernel_rfl) ?_ (fun hHeld => ?_)
  · exact ⟨z0, z1, z2, z3⟩
  obtain ⟨u0, hu0⟩ : ∃ uu : World, uu = w4.drew := ⟨_, rfl⟩
  rw [← hu0] at H hHeld ⊢
  clear hu0
  refine wpAnyH_take (i := 0) (v := ?_) rfl (by kernel_rfl) (by kernel_rfl) (by kernel_rfl) (fun _ _ _ h => h) (Or.inl ⟨by kernel_rfl, ?_⟩) (by assumption) ?_
  rotate_left
  · (intro w hSw; (try dsimp only at hSw); go_simp; try (with_reducible rfl))
  try simp only [sA, sB, sC, Act.put, sD, sE, sF]
  refine wpAnyH_take (i := 1) (v := ?_) rfl (by kernel_rfl) (by kernel_rfl) (by kernel_rfl) (fun _ _ _ h => h) (Or.inl ⟨by kernel_rfl, ?_⟩) (by assumption) ?_
  rotate_left
  · (intro w hSw; (try dsimp only at hSw); go_simp; try (with_reducible rfl))
  try simp only [sA, sB, sC, Act.put, sD, sE, sF]
  refine wpAnyH_take (i := 2) (v := ?_) rfl (by kernel_rfl) (by kernel_rfl) (by kernel_rfl) (fun _ _ _ h => h) (Or.inl ⟨by kernel_rfl, ?_⟩) (by assumption) ?_
  rotate_left
  · (intro w hSw; (try dsimp only at hSw); go_simp; try (with_reducible rfl))
  try simp only [sA, sB, sC, Act.put, sD, sE, sF]
  refine wpAnyH_ready (rs := [3]) (by kernel_rfl) (by simp) ?_
  refine (AllReadyH.cons rfl (fun K hK => ?_) AllReadyH.nil)
  go_simp
  refine (l1Below_any g A n c bs _ _ 51 _ (H.blk 5 rfl) (H.old G.out) NE.out a2 b2 hn h51).mono ?_
  rintro e u1 ⟨x9, rfl, x0, x1, _, C⟩
  obtain ⟨i9, h9, a9, b9, H'⟩ := H.cur 5 rfl C
  replace H := H'
  have x2 := x1 (by decide)
  have hwx := hmr x9 x0 x2
  clear C H' x1
  go_wp2_with fail
  refine hK.out _ _ ?_ (fun hHeld => ?_)
  · exact ⟨H.bat 3 rfl (j := 0) rfl, H.bat 3 rfl (j := 1) rfl, H.bat 4 rfl (j := 0) rfl, H.bat 4 rfl (j := 1) rfl⟩
  clear hK K
  try simp only [sA, sB, sC, Act.put, sD, sE, sF]
  refine wpAnyH_take (i := 4) (v := ?_) rfl (by kernel_rfl) (by kernel_rfl) (by kernel_rfl) (fun _ _ _ h => h) (Or.inl ⟨by kernel_rfl, ?_⟩) (by assumption) ?_
  rotate_left
  · (intro w hSw; (try dsimp only at hSw); go_simp; try (with_reducible rfl))
  try simp only [sA, sB, sC, Act.put, sD, sE, sF]
  refine wpAnyH_ready (rs := [5]) (by kernel_rfl) (by simp) ?_
  refine (AllReadyH.cons rfl (fun K hK => ?_) AllReadyH.nil)
  have e0 := H.bfree 7 rfl 0
  have e1 := H.bfree 7 rfl 1
  have s0 := H.bat 7 rfl (j := 0) rfl
  have s1 := H.bat 7 rfl (j := 1) rfl
  replace H := (H.bput 7 rfl 0 (.slice A1 n1 c1)).bput 7 rfl 1 (.slice B1 24 d1)
  go_simp
  refine hK.out _ _ ?_ (fun hHeld => ?_)
  · exact ⟨H.bat 3 rfl (j := 0) rfl, H.bat 3 rfl (j := 1) rfl, H.bat 4 rfl (j := 0) rfl, H.bat 4 rfl (j := 1) rfl⟩
  clear hK K
  try simp only [sA, sB, sC, Act.put, sD, sE, sF]
  refine wpAnyH_ready (rs := [6]) (by kernel_rfl) (by simp) ?_
  refine (AllReadyH.cons rfl (fun K hK => ?_) AllReadyH.nil)
  have e0 := H.bfree 6 rfl 0
  have e1 := H.bfree 6 rfl 1
  have s0 := H.bat 6 rfl (j := 0) rfl
  have s1 := H.bat 6 rfl (j := 1) rfl
  replace H := (H.bput 6 rfl 0 (.int .i64 z)).bput 6 rfl 1 (.slice E1 q r1)
  go_simp
  refine hK.out _ _ ?_ (fun hHeld => ?_)
  · exact ⟨H.bat 3 rfl (j := 0) rfl, H.bat 3 rfl (j := 1) rfl, H.bat 4 rfl (j := 0) rfl, H.bat 4 rfl (j := 1) rfl⟩
  clear hK K
  try simp only [sA, sB, sC, Act.put, sD, sE, sF]
  refine wpAnyH_take (i := 7) (v := ?_) rfl (by kernel_rfl) (by kernel_rfl) (by kernel_rfl) (fun _ _ _ h => h) (Or.inl ⟨by kernel_rfl, ?_⟩) (by assumption) ?_
  rotate_left
  · (intro w hSw; (try dsimp only at hSw); go_simp; try (with_reducible rfl))
  try simp only [sA, sB, sC, Act.put, sD, sE, sF]
  refine wpAnyH_done (by kernel_rfl) ?_ _
  have x1 := H.bat 7 rfl (j := 0) rfl
  have x2 := H.bat 7 rfl (j := 1) rfl
  have x3 := H.bat 6 rfl (j := 0) rfl
  have x4 := H.bat 6 rfl (j := 1) rfl
  have H7 := Lib.hid H
  clear H
  go_wp2_with fail
  refine bodyPost_ret (v := .tuple #[.agg #[.slice A1 n1 c1, .slice B1 24 d1], .agg #[.int .i64 z, .slice E1 q r1], .int .i64 (x9 - 1)]) (by simp [results, Try.results39, go_sem, x1, x2, x3, x4]) rfl ?_
  refine ⟨A1, n1, c1, bits, B1, d1, data, z, E1, q, r1, l, x9 - 1, rfl, hn1, HSZ.out, hq, ?_⟩
  exact H7.out.sub (.cons_cons _ (.cons_cons _ (.cons_cons _ (List.nil_sublist _))))
end Go.Proofs.Ytbmoolmgfpcnkaa
