/-
  Drawn flags: what the reference draws for BitsOk, SetRun, FindRun.
-/
import Derived.Test.YtcpijfioipgoeaaDraw
namespace Go.Proofs.Ytcpijfioipgoeaa
open Go.RowKit

theorem own_cut {w : World} {base g : Nat} {e : TypeId} {k n c m : Nat} {xs : List Value} (h : w.ownsRow base e k (.slice (some ⟨g, 0, none⟩) n c) n xs) (hm : m ≤ n) : w.ownsRow base e k (.slice (some ⟨g, 0, none⟩) m c) m (xs.take (m * k)) := by
  have h1 := h.1
  have hmk : m * k ≤ n * k := Nat.mul_le_mul_right k hm
  refine ⟨by rw [List.length_take, h1]; omega, ?_⟩
  rcases h.2 with ⟨e, _⟩ | ⟨g', cap, cur, e, hb, hh, hn, hcap, hs, ht⟩
  · injection e with e1; cases e1
  · injection e with e1 _ e2
    injection e1 with e1
    injection e1 with e1
    subst e1
    subst e2
    exact .inr ⟨g, c, cur, rfl, hb, hh, by omega, hcap, hs, by rw [← ht, List.take_take, Nat.min_eq_left hmk]⟩
theorem Hp.cut {W : List Nat} {w0 w : World} {l : List Ob} {E : TypeId} {g k n c : Nat} {xs : List Value} (h : Hp W w0 w l) (i : Nat) (hi : l[i]? = some (.row E k (.slice (some ⟨g, 0, none⟩) n c) n xs)) (m : Nat) (hm : m ≤ n) : Hp W w0 w (l.set i (.row E k (.slice (some ⟨g, 0, none⟩) m c) m (xs.take (m * k)))) :=
  h.turn i hi (Gr.refl _ _) (own_cut (h.row i hi) hm) (.inl rfl)
theorem rd_far {w : World} {A : Option Addr} {n k : Nat} {xs : List Value} (hA : Rd w A n k xs) (hk : 0 < k) : ∀ g, w.heap.size ≤ g → 0 < n → ∀ ad, A = some ad → ad.block ≠ g := fun g hg h0 ad he => by
  obtain ⟨b, o, e, hc⟩ := hA.2 h0
  have hl : 0 < xs.length := by rw [hA.1]; exact Nat.mul_pos h0 hk
  have hc' := hc 0 xs[0] (List.getElem?_eq_getElem hl)
  rw [he] at e
  injection e with e
  subst e
  have := World.block_lt_of_cell? w _ hc'
  simp only at this ⊢
  omega

theorem results_tmp4 {fn : Func} {t u v x : Tmp} (h : fn.results = #[.tmp t, .tmp u, .tmp v, .tmp x]) (tmps : Array Value) (P : Program) (w : World) :
    (results fn tmps).run P w = .ok (.tuple #[tmps.getD t undef, tmps.getD u undef, tmps.getD v undef, tmps.getD x undef]) w := by
  simp [results, h]
/-- Flags drawn by a cursor. -/
def DrewBits (g : Nat) (A : Option Addr) (n c : Nat) (w : World) (e : Ending) (w' : World) : Prop :=
  ∃ (B : Option Addr) (k d : Nat) (L : List Bool) (i h : Int), e = .returned (.slice B k d) ∧ L.length = k ∧ (k = 24 ∨ k = 23) ∧ 0 ≤ i ∧ i ≤ n ∧
    Hp [g] w w' [.row 4 1 (.slice B k d) k (L.map Value.bool), .blk g 46 [.slice A n c, .int .i64 i, .int .i64 h]]

set_option maxRecDepth 100000 in
set_option maxHeartbeats 2000000 in
theorem l15Bits_any (g : Nat) (A : Option Addr) (n c : Nat) (bs : List UInt8) (i h : Int) (w : World) (hb : Bk w g 46 [.slice A n c, .int .i64 i, .int .i64 h])
    (hA : Rd w A n 1 (bs.map cU8)) (hne : 0 < n → ∀ ad, A = some ad → ad.block ≠ g) (h0 : 0 ≤ i) (h1 : i ≤ n) (hn : n ≤ 1048576) :
    Calls Try.prog 18 #[.pointer (some ⟨g, 0, none⟩)] w fun e w' => DrewBits g A n c w e w' := by
  have H := Hp.start_blk hb
  have G := Lib.hid hA
  have NE := Lib.hid hne
  have NW := Lib.hid (show 0 < n → ∀ ad, A = some ad → ad.block ∉ [g] from fun h0 ad he => by simpa using hne h0 ad he)
  clear hA hne hb
  go_enter Try.func18, Try.ntmps18
  go_wp2_with (at_make; refine wp_mk (H) rfl _ _ _ rfl Try.underlying24 infoBool rfl rfl (24) _ _ _ _ rfl rfl rfl rfl (by first | omega | (simp; done) | (simp; omega)) (by first | (simp only [maxLen]; omega) | (simp [maxLen]; done) | (simp [maxLen]; omega)) ?_)
  intro w1 H1_
  obtain ⟨gb, hgb⟩ : ∃ q, q = w.heap.size := ⟨_, rfl⟩
  have H1 : Hp [g] w w1 [.row 4 1 (.slice (some ⟨gb, 0, none⟩) 24 24) 24 ((List.replicate 24 false).map Value.bool), .blk g 46 [.slice A n c, .int .i64 i, .int .i64 h]] := by rw [hgb]; exact H1_
  rw [← hgb]
  clear H1_ hgb H
  go_wp2_with fail
  refine (l1Below_any g A n c bs i h 5 _ (H1.blk 1 rfl) (H1.oldN G.out NW.out) NE.out h0 h1 hn (by decide)).mono ?_
  rintro e w2 ⟨x, rfl, x0, x1, _, C⟩
  obtain ⟨i2, h2, a2, b2, H2⟩ := H1.cur 1 rfl C
  have x2 := x1 (by decide)
  have hw : IntKind.i64.wrap (1 + x) = 1 + x := IntWalk.i64_in _ (by omega)
  have hkk : 1 + x ≤ 256 := by omega
  clear H1 C x1
  go_wp2_with fail
  go_loopw [5] (fun v wr => ∃ (k : Nat) (L : List Bool) (i3 h3 : Int), k ≤ 24 ∧ v = .int .i64 k ∧ L.length = 24 ∧ 0 ≤ i3 ∧ i3 ≤ n ∧ Hp [g] w wr [.row 4 1 (.slice (some ⟨gb, 0, none⟩) 24 24) 24 (L.map Value.bool), .blk g 46 [.slice A n c, .int .i64 i3, .int .i64 h3]]) (fun v _ => 24 - (intOf v).toNat)
  case atStart => exact ⟨0, _, i2, h2, by omega, rfl, by simp, a2, b2, H2⟩
  case round =>
    clear H2
    obtain ⟨k, L, i3, h3, hk, rfl, hL, a3, b3, H⟩ := hrel
    have HL := Lib.hid hL
    clear hL
    by_cases hlt : k < 24
    · go_wp2_with fail
      refine (l1Once_any g A n c bs i3 h3 (1 + x) _ (H.blk 1 rfl) (H.oldN G.out NW.out) NE.out a3 b3 hn hkk).mono ?_
      rintro e w4 ⟨y, rfl, C⟩
      obtain ⟨i4, h4, a4, b4, H4⟩ := H.cur 1 rfl C
      have e0 := H4.free 0 rfl k
      have ⟨u, hu⟩ : ∃ u, w4.cell? ⟨gb, k, none⟩ = some u := by
        obtain ⟨u, hu⟩ := at_some HL.out hlt
        exact ⟨_, H4.atM (f1 := Value.bool) 0 rfl hu⟩
      have H5 := Lib.hid (H4.putM (f1 := Value.bool) 0 rfl k y)
      clear H H4 C
      go_wp2_with fail
      go_roundw
      case rel => exact ⟨k + 1, _, i4, h4, by omega, by go_num, by rw [List.length_set]; exact HL.out, a4, b4, H5.out⟩
      case measure => simp [intOf]; omega
    · go_wp2_with fail
      refine (l1Once_any g A n c bs i3 h3 12 _ (H.blk 1 rfl) (H.oldN G.out NW.out) NE.out a3 b3 hn (by decide)).mono ?_
      rintro e w4 ⟨y, rfl, C⟩
      obtain ⟨i4, h4, a4, b4, H4⟩ := H.cur 1 rfl C
      clear H C
      cases y with
      | false =>
        go_wp2_with fail
        go_ret
        exact ⟨_, 24, 24, L, i4, h4, rfl, HL.out, .inl rfl, a4, b4, H4⟩
      | true =>
        have H5 : Hid (Hp [g] w w4 [.row 4 1 (.slice (some ⟨gb, 0, none⟩) 23 24) 23 ((L.take 23).map Value.bool), .blk g 46 [.slice A n c, .int .i64 i4, .int .i64 h4]]) := by
          have h9 := H4.cut 0 rfl 23 (by decide)
          rw [← List.map_take] at h9
          exact h9
        clear H4
        go_wp2_with fail
        go_ret
        exact ⟨_, 23, 24, L.take 23, i4, h4, rfl, by rw [List.length_take, HL.out]; rfl, .inr rfl, a4, b4, H5.out⟩

set_option maxRecDepth 100000 in
set_option maxHeartbeats 2000000 in
theorem drawFindRun_any (A : Option Addr) (n c : Nat) (bs : List UInt8) (w : World) (hA : Rd w A n 1 (bs.map cU8)) (hn : n ≤ 1048576) :
    Calls Try.prog 11 #[.slice A n c] w fun e w' => ∃ (B : Option Addr) (k d : Nat) (L : List Bool) (m : Int), e = .returned (.tuple #[.slice B k d, .int .i64 m]) ∧ L.length = k ∧ (k = 24 ∨ k = 23) ∧ (-9223372036854775808 ≤ m ∧ m ≤ 9223372036854775807) ∧
      Hp [] w w' [.row 4 1 (.slice B k d) k (L.map Value.bool)] := by
  have hlt := rd_far hA Nat.one_pos
  go_enter Try.func11, Try.ntmps11
  go_wp2_with fail
  refine (l1New_any A n c bs _ hA hn).mono ?_
  rintro e w1 ⟨g, h, rfl, H1⟩
  have hg : w.heap.size ≤ g := by
    rcases H1.own _ (List.mem_singleton.2 rfl) g rfl with h2 | h2
    · exact h2
    · simp at h2
  have NE := Lib.hid (show 0 < n → ∀ ad, A = some ad → ad.block ≠ g from hlt g hg)
  have G := Lib.hid hA
  clear hlt hA
  have H2 := H1.lit 3 1 8 ([1, 2, 3, 5, 24, 25, 0, -1].map (Value.int .i64)) (by simp) (by simp [maxLen])
  have hg1 := H1.lt 0 rfl rfl
  go_wp2_with fail
  refine (l1PickInt_any g A n c bs 0 h (some ⟨w1.heap.size, 0, none⟩) 8 8 [1, 2, 3, 5, 24, 25, 0, -1] _ (H2.blk 1 rfl) (H2.old G.out) NE.out (by omega) (by omega) hn (H2.rd 0 rfl) (by rintro ad he; injection he with he; subst he; simp; omega) (by decide) (by decide)).mono ?_
  rintro e w2 ⟨m, rfl, hm, C⟩
  obtain ⟨i3, h3, a3, b3, H3⟩ := H2.cur 1 rfl C
  have hm2 : -1 ≤ m ∧ m ≤ 25 := by
    simp only [List.mem_cons, List.mem_nil_iff, or_false] at hm
    omega
  clear H1 H2 C hm hg1
  go_wp2_with fail
  refine (l15Bits_any g A n c bs i3 h3 _ (H3.blk 1 rfl) (H3.old G.out) NE.out a3 b3 hn).mono ?_
  rintro e w4 ⟨B, k, d, L, i4, h4, rfl, hL, hk, a4, b4, K4⟩
  have H4 := Lib.hid ((H3.joinV 1 rfl K4).sub (l' := [.row 4 1 (.slice B k d) k (L.map Value.bool)]) (by simp))
  clear H3 K4
  go_wp2_with fail
  go_ret2
  exact ⟨B, k, d, L, m, rfl, hL, hk, by omega, H4.out⟩

/-- What is drawn for SetRun. -/
def DrewSet (w : World) (e : Ending) (w' : World) : Prop := ∃ (B : Option Addr) (k d : Nat) (L : List Bool) (a m : Int) (v : Bool), e = .returned (.tuple #[.slice B k d, .int .i64 a, .int .i64 m, .bool v]) ∧ L.length = k ∧ (k = 24 ∨ k = 23) ∧ (-9223372036854775808 ≤ a ∧ a ≤ 9223372036854775807) ∧ (-9223372036854775808 ≤ m ∧ m ≤ 9223372036854775807) ∧
      Hp [] w w' [.row 4 1 (.slice B k d) k (L.map Value.bool)]
set_option maxRecDepth 100000 in
set_option maxHeartbeats 4000000 in
theorem drawSetRun_any (A : Option Addr) (n c : Nat) (bs : List UInt8) (w : World) (hA : Rd w A n 1 (bs.map cU8)) (hn : n ≤ 1048576) :
    Calls Try.prog 5 #[.slice A n c] w fun e w' => DrewSet w e w' := by
  have hlt := rd_far hA Nat.one_pos
  go_enter Try.func5, Try.ntmps5
  go_wp2_with fail
  refine (l1New_any A n c bs _ hA hn).mono ?_
  rintro e w1 ⟨g, h, rfl, H1⟩
  have hg : w.heap.size ≤ g := by
    rcases H1.own _ (List.mem_singleton.2 rfl) g rfl with h2 | h2
    · exact h2
    · simp at h2
  have NE := Lib.hid (show 0 < n → ∀ ad, A = some ad → ad.block ≠ g from hlt g hg)
  have G := Lib.hid hA
  clear hlt hA
  have H2 := H1.lit 3 1 9 ([-1, 0, 1, 5, 12, 20, 23, 24, 9223372036854775807].map (Value.int .i64)) (by simp) (by simp [maxLen])
  have hg1 := H1.lt 0 rfl rfl
  go_wp2_with fail
  refine (l1PickInt_any g A n c bs 0 h (some ⟨w1.heap.size, 0, none⟩) 9 9 [-1, 0, 1, 5, 12, 20, 23, 24, 9223372036854775807] _ (H2.blk 1 rfl) (H2.old G.out) NE.out (by omega) (by omega) hn (H2.rd 0 rfl) (by rintro ad he; injection he with he; subst he; simp; omega) (by decide) (by decide)).mono ?_
  rintro e w2 ⟨a, rfl, ha, C⟩
  obtain ⟨i3, h3, a3, b3, H3⟩ := H2.cur 1 rfl C
  have ha2 : -1 ≤ a ∧ a ≤ 9223372036854775807 := by
    simp only [List.mem_cons, List.mem_nil_iff, or_false] at ha
    omega
  clear H1 H2 C ha hg1
  have H4 := H3.lit 3 1 8 ([0, 1, 1, 2, 3, 4, 24, 9223372036854775807].map (Value.int .i64)) (by simp) (by simp [maxLen])
  have hg2 := H3.lt 1 rfl rfl
  go_wp2_with fail
  refine (l1PickInt_any g A n c bs i3 h3 (some ⟨w2.heap.size, 0, none⟩) 8 8 [0, 1, 1, 2, 3, 4, 24, 9223372036854775807] _ (H4.blk 2 rfl) (H4.old G.out) NE.out a3 b3 hn (H4.rd 0 rfl) (by rintro ad he; injection he with he; subst he; simp; omega) (by decide) (by decide)).mono ?_
  rintro e w4 ⟨m, rfl, hm, C⟩
  obtain ⟨i5, h5, a5, b5, H5⟩ := H4.cur 2 rfl C
  have hm2 : 0 ≤ m ∧ m ≤ 9223372036854775807 := by
    simp only [List.mem_cons, List.mem_nil_iff, or_false] at hm
    omega
  clear H3 H4 C hm hg2
  go_wp2_with fail
  refine (l1Once_any g A n c bs i5 h5 2 _ (H5.blk 2 rfl) (H5.old G.out) NE.out a5 b5 hn (by decide)).mono ?_
  rintro e w6 ⟨v, rfl, C⟩
  obtain ⟨i6, h6, a6, b6, H6⟩ := H5.cur 2 rfl C
  clear H5 C
  go_wp2_with fail
  refine (l15Bits_any g A n c bs i6 h6 _ (H6.blk 2 rfl) (H6.old G.out) NE.out a6 b6 hn).mono ?_
  rintro e w7 ⟨B, k, d, L, i7, h7, rfl, hL, hk, a7, b7, K7⟩
  have H7 := H6.joinV 2 rfl K7
  clear H6 K7
  go_wp2_with fail
  refine (l1Once_any g A n c bs i7 h7 2 _ (H7.blk 3 rfl) (H7.old G.out) NE.out a7 b7 hn (by decide)).mono ?_
  rintro e w8 ⟨x, rfl, C⟩
  obtain ⟨i8, h8, a8, b8, H8_⟩ := H7.cur 3 rfl C
  have H8 : Hp [] w w8 [.row 4 1 (.slice B k d) k (L.map Value.bool)] := H8_.sub (by simp)
  have HL := Lib.hid hL
  clear H7 H8_ C hL
  cases x with
  | false =>
    go_wp2_with fail
    ((try simp only [Exit.inBlock, Exit.then]); refine bodyPost_ret (results_tmp4 rfl _ _ _) rfl ?_)
    exact ⟨B, k, d, L, a, m, v, rfl, HL.out, hk, by omega, by omega, H8⟩
  | true =>
    by_cases h23 : k = 23
    · subst h23
      go_wp2_with fail
      ((try simp only [Exit.inBlock, Exit.then]); refine bodyPost_ret (results_tmp4 rfl _ _ _) rfl ?_)
      exact ⟨B, 23, d, L, a, m, v, rfl, HL.out, .inr rfl, by omega, by omega, H8⟩
    · obtain rfl : k = 24 := by omega
      by_cases h0 : 0 ≤ a
      · by_cases h20 : a < 20
        · obtain ⟨aN, rfl⟩ := Int.eq_ofNat_of_zero_le h0
          have ha20 : aN < 20 := by omega
          have hw4 : IntKind.i64.wrap ((aN : Int) + 4) = (aN : Int) + 4 := IntWalk.i64_in _ (by omega)
          obtain ⟨gb, d2, e, hgb⟩ := H8.form 0 rfl (by decide)
          injection e with e1 _ e2
          subst e1 e2
          clear hgb
          obtain ⟨q, hq⟩ : ∃ q : Nat, q = aN + 4 := ⟨_, rfl⟩
          have hwq : IntKind.i64.wrap ((aN : Int) + 4) = (q : Int) := by rw [hw4]; omega
          have hq24 : q ≤ 24 := by omega
          have HQ := Lib.hid hq
          clear hq hw4
          go_wp2_with fail
          go_loopw [11] (fun iv wr => ∃ (p : Nat) (L2 : List Bool), p ≤ q ∧ iv = .int .i64 p ∧ L2.length = 24 ∧ Hp [] w wr [.row 4 1 (.slice (some ⟨gb, 0, none⟩) 24 d) 24 (L2.map Value.bool)]) (fun iv _ => 24 - (intOf iv).toNat)
          case atStart => exact ⟨aN, L, by have := HQ.out; omega, rfl, HL.out, H8⟩
          case round =>
            clear H8
            obtain ⟨p, L2, hp, rfl, hL2, H⟩ := hrel
            have HL2 := Lib.hid hL2
            clear hL2
            by_cases hlt : p < q
            · have hp24 : p < 24 := by omega
              have e0 := H.free 0 rfl p
              have ⟨u, hu⟩ : ∃ u, wr.cell? ⟨gb, p, none⟩ = some u := by
                obtain ⟨u, hu⟩ := at_some HL2.out hp24
                exact ⟨_, H.atM (f1 := Value.bool) 0 rfl hu⟩
              have H9 := Lib.hid (H.putM (f1 := Value.bool) 0 rfl p (!v))
              clear H
              go_wp2_with fail
              go_roundw
              case rel => exact ⟨p + 1, _, by omega, by go_num, by rw [List.length_set]; exact HL2.out, H9.out⟩
              case measure => simp [intOf]; omega
            · go_wp2_with fail
              ((try simp only [Exit.inBlock, Exit.then]); refine bodyPost_ret (results_tmp4 rfl _ _ _) rfl ?_)
              exact ⟨_, 24, d, L2, aN, m, v, rfl, HL2.out, .inl rfl, by omega, by omega, H⟩
        · go_wp2_with fail
          ((try simp only [Exit.inBlock, Exit.then]); refine bodyPost_ret (results_tmp4 rfl _ _ _) rfl ?_)
          exact ⟨B, 24, d, L, a, m, v, rfl, HL.out, .inl rfl, by omega, by omega, H8⟩
      · go_wp2_with fail
        ((try simp only [Exit.inBlock, Exit.then]); refine bodyPost_ret (results_tmp4 rfl _ _ _) rfl ?_)
        exact ⟨B, 24, d, L, a, m, v, rfl, HL.out, .inl rfl, by omega, by omega, H8⟩
end Go.Proofs.Ytcpijfioipgoeaa
