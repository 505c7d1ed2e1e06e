/-
  Drawn flags: what the reference draws for BitsOk, SetRun, FindRun.
-/
import Derived.Test.YtbmoolmgfpcnkaaDraw
namespace Go.Proofs.Ytbmoolmgfpcnkaa
open Go.RowKit

theorem own_cut {w : World} {base g : Nat} {e : TypeId} {k n c m : Nat} {xs : List Value} (h : w.ownsRow base e k (.slice (some ⟨g, 0, none⟩) n c) n xs) (hm : m ≤ n) : w.ownsRow base e k (.slice (some ⟨g, 0, none⟩) m c) m (xs.take (m * k)) := by
  have h1 := h.1
  have hmk : m * k ≤ n * k := Nat.mul_le_mul_right k hm
  refine ⟨by rw [List.length_take, h1]; omega, ?_⟩
  rcases h.2 with ⟨e, _⟩ | ⟨g', cap, cur, e, hb, hh, hn, hcap, hs, ht⟩
  · injection e with e1; cases e1
  · injection e with e1 _ e2
    injection e1 with e1
    injection e1 with e1
    subst e1
    subst e2
    exact .inr ⟨g, c, cur, rfl, hb, hh, by omega, hcap, hs, by rw [← ht, List.take_take, Nat.min_eq_left hmk]⟩
theorem Hp.cut {W : List Nat} {w0 w : World} {l : List Ob} {E : TypeId} {g k n c : Nat} {xs : List Value} (h : Hp W w0 w l) (i : Nat) (hi : l[i]? = some (.row E k (.slice (some ⟨g, 0, none⟩) n c) n xs)) (m : Nat) (hm : m ≤ n) : Hp W w0 w (l.set i (.row E k (.slice (some ⟨g, 0, none⟩) m c) m (xs.take (m * k)))) :=
  h.turnRow i hi (Gr.refl _ _) (own_cut (h.row i hi) hm) (.inl rfl)
theorem rd_far {w : World} {A : Option Addr} {n k : Nat} {xs : List Value} (hA : Rd w A n k xs) (hk : 0 < k) : ∀ g, w.heap.size ≤ g → 0 < n → ∀ ad, A = some ad → ad.block ≠ g := fun g hg h0 ad he => by
  obtain ⟨b, o, e, hc⟩ := hA.2 h0
  have hl : 0 < xs.length := by rw [hA.1]; exact Nat.mul_pos h0 hk
  have hc' := hc 0 xs[0] (List.getElem?_eq_getElem hl)
  rw [he] at e
  injection e with e
  subst e
  have := World.block_lt_of_cell? w _ hc'
  simp only at this ⊢
  omega

theorem results_tmp4 {fn : Func} {t u v x : Tmp} (h : fn.results = #[.tmp t, .tmp u, .tmp v, .tmp x]) (tmps : Array Value) (P : Program) (w : World) :
    (results fn tmps).run P w = .ok (.tuple #[tmps.getD t undef, tmps.getD u undef, tmps.getD v undef, tmps.getD x undef]) w := by
  simp [results, h]
/-- Flags drawn by a cursor. -/
def DrewBits (g : Nat) (A : Option Addr) (n c : Nat) (w : World) (e : Ending) (w' : World) : Prop :=
  ∃ (B : Option Addr) (k d : Nat) (L : List Bool) (i h : Int), e = .returned (.slice B k d) ∧ L.length = k ∧ (k = 24 ∨ k = 23) ∧ 0 ≤ i ∧ i ≤ n ∧
    Hp [g] w w' [.row 4 1 (.slice B k d) k (L.map Value.bool), .blk g 109 [.slice A n c, .int .i64 i, .int .i64 h]]

set_option maxRecDepth 100000 in
set_option maxHeartbeats 2000000 in
theorem l15Bits_any (g : Nat) (A : Option Addr) (n c : Nat) (bs : List UInt8) (i h : Int) (w : World) (hb : Bk w g 109 [.slice A n c, .int .i64 i, .int .i64 h])
    (hA : Rd w A n 1 (bs.map cU8)) (hne : 0 < n → ∀ ad, A = some ad → ad.block ≠ g) (h0 : 0 ≤ i) (h1 : i ≤ n) (hn : n ≤ 1048576) :
    Calls Try.prog 101 #[.pointer (some ⟨g, 0, none⟩)] w fun e w' => DrewBits g A n c w e w' := by
  have H := Hp.start_blk hb
  have G := Lib.hid hA
  have NE := Lib.hid hne
  have NW := Lib.hid (show 0 < n → ∀ ad, A = some ad → ad.block ∉ [g] from fun h0 ad he => by simpa using hne h0 ad he)
  clear hA hne hb
  go_enter Try.func101, Try.ntmps101
  go_wp2_with (at_make; refine wp_mk (H) rfl _ _ _ rfl Try.underlying22 infoBool rfl rfl (24) _ _ _ _ rfl rfl rfl rfl (by first | omega | (simp; done) | (simp; omega)) (by first | (simp only [maxLen]; omega) | (simp [maxLen]; done) | (simp [maxLen]; omega)) ?_)
  intro w1 H1_
  obtain ⟨gb, hgb⟩ : ∃ q, q = w.heap.size := ⟨_, rfl⟩
  have H1 : Hp [g] w w1 [.row 4 1 (.slice (some ⟨gb, 0, none⟩) 24 24) 24 ((List.replicate 24 false).map Value.bool), .blk g 109 [.slice A n c, .int .i64 i, .int .i64 h]] := by rw [hgb]; exact H1_
  rw [← hgb]
  clear H1_ hgb H
  go_wp2_with fail
  refine (l1Below_any g A n c bs i h 5 _ (H1.blk 1 rfl) (H1.oldN G.out NW.out) NE.out h0 h1 hn (by decide)).mono ?_
  rintro e w2 ⟨x, rfl, x0, x1, _, C⟩
  obtain ⟨i2, h2, a2, b2, H2⟩ := H1.cur 1 rfl C
  have x2 := x1 (by decide)
  have hw : IntKind.i64.wrap (1 + x) = 1 + x := IntWalk.i64_in _ (by omega)
  have hkk : 1 + x ≤ 256 := by omega
  clear H1 C x1
  go_wp2_with fail
  go_loopw [5] (fun v wr => ∃ (k : Nat) (L : List Bool) (i3 h3 : Int), k ≤ 24 ∧ v = .int .i64 k ∧ L.length = 24 ∧ 0 ≤ i3 ∧ i3 ≤ n ∧ Hp [g] w wr [.row 4 1 (.slice (some ⟨gb, 0, none⟩) 24 24) 24 (L.map Value.bool), .blk g 109 [.slice A n c, .int .i64 i3, .int .i64 h3]]) (fun v _ => 24 - (intOf v).toNat)
  case atStart => exact ⟨0, _, i2, h2, by omega, rfl, by simp, a2, b2, H2⟩
  case round =>
    clear H2
    obtain ⟨k, L, i3, h3, hk, rfl, hL, a3, b3, H⟩ := hrel
    have HL := Lib.hid hL
    clear hL
    by_cases hlt : k < 24
    · go_wp2_with fail
      refine (l1Once_any g A n c bs i3 h3 (1 + x) _ (H.blk 1 rfl) (H.oldN G.out NW.out) NE.out a3 b3 hn hkk).mono ?_
      rintro e w4 ⟨y, rfl, C⟩
      obtain ⟨i4, h4, a4, b4, H4⟩ := H.cur 1 rfl C
      have e0 := H4.free 0 rfl k
      have ⟨u, hu⟩ : ∃ u, w4.cell? ⟨gb, k, none⟩ = some u := by
        obtain ⟨u, hu⟩ := at_some HL.out hlt
        exact ⟨_, H4.atM (f1 := Value.bool) 0 rfl hu⟩
      have H5 := Lib.hid (H4.putM (f1 := Value.bool) 0 rfl k y)
      clear H H4 C
      go_wp2_with fail
      go_roundw
      case rel => exact ⟨k + 1, _, i4, h4, by omega, by go_num, by rw [List.length_set]; exact HL.out, a4, b4, H5.out⟩
      case measure => simp [intOf]; omega
    · go_wp2_with fail
      refine (l1Once_any g A n c bs i3 h3 12 _ (H.blk 1 rfl) (H.oldN G.out NW.out) NE.out a3 b3 hn (by decide)).mono ?_
      rintro e w4 ⟨y, rfl, C⟩
      obtain ⟨i4, h4, a4, b4, H4⟩ := H.cur 1 rfl C
      clear H C
      cases y with
      | false =>
        go_wp2_with fail
        go_ret
        exact ⟨_, 24, 24, L, i4, h4, rfl, HL.out, .inl rfl, a4, b4, H4⟩
      | true =>
        have H5 : Hid (Hp [g] w w4 [.row 4 1 (.slice (some ⟨gb, 0, none⟩) 23 24) 23 ((L.take 23).map Value.bool), .blk g 109 [.slice A n c, .int .i64 i4, .int .i64 h4]]) := by
          have h9 := H4.cut 0 rfl 23 (by decide)
          rw [← List.map_take] at h9
          exact h9
        clear H4
        go_wp2_with fail
        go_ret
        exact ⟨_, 23, 24, L.take 23, i4, h4, rfl, by rw [List.length_take, HL.out]; rfl, .inr rfl, a4, b4, H5.out⟩

/-- What is drawn for SetRun. -/
def DrewSet (w : World) (e : Ending) (w' : World) : Prop := ∃ (B : Option Addr) (k d : Nat) (L : List Bool) (a m : Int) (v : Bool), e = .returned (.tuple #[.slice B k d, .int .i64 a, .int .i64 m, .bool v]) ∧ L.length = k ∧ (k = 24 ∨ k = 23) ∧ (-9223372036854775808 ≤ a ∧ a ≤ 9223372036854775807) ∧ (-9223372036854775808 ≤ m ∧ m ≤ 9223372036854775807) ∧
      Hp [] w w' [.row 4 1 (.slice B k d) k (L.map Value.bool)]
end Go.Proofs.Ytbmoolmgfpcnkaa
