/-
  SortNames of the program and of the reference.
-/
import Derived.Test.YtfmifaneggenoaaDoorStab
import Derived.Test.YtfmifaneggenoaaDoorSortSp
namespace Go.Proofs.YtfmifaneggenoaaDoor
open Go.RowKit

set_option linter.unusedVariables false
set_option linter.unusedSimpArgs false
theorem KT.pos {w : World} (h : KT w) : 0 < w.heap.size := by
  obtain ⟨b, o, e, hc⟩ := (show Rd w (some ⟨0, 0, none⟩) 27 2 (kpPairs.flatMap cPair) from h).2 (by decide)
  injection e with e
  injection e with e1 e2
  subst e1 e2
  obtain ⟨u, hu⟩ : ∃ u, (kpPairs.flatMap cPair)[0]? = some u := ⟨_, rfl⟩
  exact World.block_lt_of_cell? w _ (hc 0 u hu)
set_option maxRecDepth 100000 in
set_option maxHeartbeats 1000000 in
theorem copyTextsN_any (B : Option Addr) (m d : Nat) (data : List ByteArray) (w : World) (h : Rd w B m 1 (data.map Value.string)) (hc : B = none → d = 0) (hm : m ≤ 1048576) :
    Calls Tryd.prog 76 #[.slice B m d] w fun e w' => Made w 9 1 m (data.map Value.string) e w' := by
  go_enter Tryd.func76, Tryd.ntmps76
  go_wp2_with (at_builtin; refine wp_appRd ((Hp.start w).nil_ 9 1) rfl _ _ _ rfl Tryd.underlying38 infoString rfl (by decide) 0 _ _ _ rfl rfl _ _ _ _ rfl (hc) (h) (one_strL _) (by first | (simp only [maxLen]; omega) | (simp [maxLen]; done) | (simp [maxLen]; omega)) (by first | omega | (simp; done) | (simp; omega)) ?_)
  intro v' w9 H9
  obtain ⟨B, d, rfl⟩ := H9.shape 0 rfl
  have HF := Lib.hid H9
  clear H9 h hc
  go_wp2_with fail
  go_ret
  have h9 := HF.out
  exact h9.toMade 0 rfl
theorem sortStable0_any (A : Option Addr) (c : Nat) (fv : Value) (w : World) :
    Calls Tryd.prog 77 #[.slice A 0 c, fv] w fun e w' => e = .returned (.tuple #[]) ∧ w' = w := by
  go_enter Tryd.func77, Tryd.ntmps77
  go_wp2_with fail
  refine (stable0_any _ fv _).mono ?_
  rintro e w1 ⟨rfl, rfl⟩
  go_wp2_with fail
  go_end0
  exact ⟨rfl, rfl⟩
theorem sortStable_any (g n c base : Nat) (xs : List ByteArray) (w : World) (h : w.ownsRow base 9 1 (.slice (some ⟨g, 0, none⟩) n c) n (xs.map Value.string)) (hn : n ≤ 1048576) (hz : ∀ x ∈ xs, x.size ≤ 16777216) (hk : KT w) (hg : g ≠ 0) :
    Calls Tryd.prog 77 #[.slice (some ⟨g, 0, none⟩) n c, .func (.func 11) #[] #[]] w fun e w' => e = .returned (.tuple #[]) ∧ Hp [g] w w' [.row 9 1 (.slice (some ⟨g, 0, none⟩) n c) n ((sortL xs).map Value.string)] := by
  have hl : xs.length = n := by have := h.1; simpa using this
  go_enter Tryd.func77, Tryd.ntmps77
  go_wp2_with fail
  refine (stable_any g n c base xs _ h hn hz hk hg).mono ?_
  rintro e w1 ⟨ys, rfl, hp, hu, K⟩
  rw [sortL_of hp (UpS.pw (by rw [hp.length_eq, hl]; exact hu))] at K
  have HF := Lib.hid K
  clear K hu hp h hz hk hl
  go_wp2_with fail
  go_end0
  exact ⟨rfl, HF.out⟩
set_option maxRecDepth 100000 in
set_option maxHeartbeats 1000000 in
theorem implSortNames_any (A : Option Addr) (n c : Nat) (l : List ByteArray) (w : World) (h : Rd w A n 1 (l.map Value.string)) (hc : A = none → c = 0) (hn : n ≤ 1048576) (hz : ∀ x ∈ l, x.size ≤ 16777216) (hk : KT w) :
    Calls Tryd.prog 37 #[.slice A n c] w (Made w 9 1 n ((sortL l).map Value.string)) := by
  have HK := Lib.hid hk
  have HZ := Lib.hid hz
  have hl : l.length = n := h.len1
  have hpos := hk.pos
  go_enter Tryd.func37, Tryd.ntmps37
  go_wp2_with fail
  refine (copyTextsN_any A n c l _ h hc hn).mono ?_
  rintro e w1 ⟨B, d, rfl, o1, f1⟩
  have H := (Hp.start w).made o1 f1
  have HK1 := Lib.hid (HK.out.fr f1)
  clear o1 f1 h hc hz hk
  rcases Nat.eq_zero_or_pos n with h0 | h0
  · subst h0
    have hln : l = [] := List.eq_nil_of_length_eq_zero hl
    subst hln
    go_wp2_with fail
    refine (sortStable0_any B d _ _).mono ?_
    rintro e w2 ⟨rfl, rfl⟩
    go_wp2_with fail
    go_ret
    rw [show sortL ([] : List ByteArray) = [] by simp [sortL]]
    exact H.toMade 0 rfl
  · obtain ⟨g, d', e, _⟩ := H.form 0 rfl h0
    injection e with e1 _ e2
    subst e1 e2
    have hg : g ≠ 0 := by
      have := H.own (.row 9 1 (.slice (some ⟨g, 0, none⟩) n d) n (l.map Value.string)) List.mem_cons_self g rfl
      rcases this with h1 | h1
      · omega
      · simp at h1
    go_wp2_with fail
    refine (sortStable_any g n d 0 l _ (H.row 0 rfl) hn HZ.out HK1.out hg).mono ?_
    rintro e w2 ⟨rfl, K⟩
    replace H := H.turnRow 0 rfl K.gr (K.row 0 rfl) (.inl rfl)
    have HF := Lib.hid H
    clear H K
    go_wp2_with fail
    go_ret
    have h9 := HF.out
    exact h9.toMade 0 rfl
end Go.Proofs.YtfmifaneggenoaaDoor
