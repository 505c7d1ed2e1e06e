/-
A cursor among other things: what the reference draws with it.
-/
import Derived.Test.YtllonpbhgbhogaaGreatDoorDrawName
import Derived.Test.YtllonpbhgbhogaaGreatDoorDrawText
namespace Go.Proofs.YtllonpbhgbhogaaGreatDoor
open Go.RowKit
set_option linter.unusedVariables false
set_option linter.unusedSimpArgs false
abbrev TCUR : TypeId := 115
def CurP (W : List Nat) (w0 : World) (g : Nat) (A : Option Addr) (n : Nat) : Prop := (∃ bs : List UInt8, Rd w0 A n 1 (bs.map cU8)) ∧ (0 < n → ∀ ad, A = some ad → ad.block ∉ W ∧ ad.block ≠ g) ∧ n ≤ 1048576
def HC (W : List Nat) (w0 w : World) (g : Nat) (A : Option Addr) (n c : Nat) (l : List Ob) : Prop := ∃ i h : Int, 0 ≤ i ∧ i ≤ n ∧ Hp W w0 w (.blk g TCUR [.slice A n c, .int .i64 i, .int .i64 h] :: l)
section
variable {W : List Nat} {w0 w : World} {g : Nat} {A : Option Addr} {n c : Nat} {l : List Ob}
theorem CurP.old (Q : CurP W w0 g A n) : 0 < n → ∀ ad, A = some ad → ad.block ∉ W := fun h0 ad he => (Q.2.1 h0 ad he).1
theorem CurP.ne (Q : CurP W w0 g A n) : 0 < n → ∀ ad, A = some ad → ad.block ≠ g := fun h0 ad he => (Q.2.1 h0 ad he).2
theorem HC.below (K : HC W w0 w g A n c l) (Q : CurP W w0 g A n) (k : Int) (hk : k ≤ 256) :
 Calls Tryz.prog 88 #[.pointer (some ⟨g, 0, none⟩), .int .i64 k] w fun e w' => ∃ x : Int, e = .returned (.int .i64 x) ∧ 0 ≤ x ∧ x ≤ 256 ∧ (0 < k → x < k) ∧ HC W w0 w' g A n c l := by
 obtain ⟨i, h, a, b, H⟩ := K;obtain ⟨bs, hA⟩ := Q.1;refine (l1Below_any g A n c bs i h k _ (H.blk 0 rfl) (H.oldN hA Q.old) Q.ne a b Q.2.2 hk).mono ?_;rintro e w' ⟨x, rfl, x0, x1, x2, C⟩;exact ⟨x, rfl, x0, by by_cases hk0 : 0 < k; (have := x1 hk0; omega); (have := x2 (by omega); omega), x1, H.cur 0 rfl C⟩
theorem HC.once (K : HC W w0 w g A n c l) (Q : CurP W w0 g A n) (k : Int) (hk : k ≤ 256) :
 Calls Tryz.prog 87 #[.pointer (some ⟨g, 0, none⟩), .int .i64 k] w fun e w' => ∃ x : Bool, e = .returned (.bool x) ∧ HC W w0 w' g A n c l := by
 obtain ⟨i, h, a, b, H⟩ := K;obtain ⟨bs, hA⟩ := Q.1;refine (l1Once_any g A n c bs i h k _ (H.blk 0 rfl) (H.oldN hA Q.old) Q.ne a b Q.2.2 hk).mono ?_;rintro e w' ⟨x, rfl, C⟩;exact ⟨x, rfl, H.cur 0 rfl C⟩
theorem HC.name (K : HC W w0 w g A n c l) (Q : CurP W w0 g A n) :
 Calls Tryz.prog 57 #[.pointer (some ⟨g, 0, none⟩)] w fun e w' => ∃ x : ByteArray, e = .returned (.string x) ∧ x.size ≤ 32 ∧ HC W w0 w' g A n c l := by
 obtain ⟨i, h, a, b, H⟩ := K;obtain ⟨bs, hA⟩ := Q.1;refine (l4Name_any g A n c bs i h _ (H.blk 0 rfl) (H.oldN hA Q.old) Q.ne a b Q.2.2).mono ?_;rintro e w' ⟨x, rfl, hx, C⟩;exact ⟨x, rfl, hx, H.cur 0 rfl C⟩
theorem HC.text (K : HC W w0 w g A n c l) (Q : CurP W w0 g A n) (m : Nat) (hm : m ≤ 100) :
 Calls Tryz.prog 92 #[.pointer (some ⟨g, 0, none⟩), .int .i64 m] w fun e w' => ∃ x : ByteArray, e = .returned (.string x) ∧ x.size ≤ m ∧ HC W w0 w' g A n c l := by
 obtain ⟨i, h, a, b, H⟩ := K;obtain ⟨bs, hA⟩ := Q.1;refine (l1Text_any g A n c bs i h m _ (H.blk 0 rfl) (H.oldN hA Q.old) Q.ne a b Q.2.2 hm).mono ?_;rintro e w' ⟨x, rfl, hx, C⟩;exact ⟨x, rfl, hx, H.cur 0 rfl C⟩
theorem HC.pick (K : HC W w0 w g A n c l) (Q : CurP W w0 g A n) (xs : List Int) {m : Nat} (hm : m = xs.length) (hm0 : 0 < m) (hm1 : m ≤ 256) {gz : Nat} (hz : gz = w.heap.size) :
 Calls Tryz.prog 89 #[.pointer (some ⟨g, 0, none⟩), .slice (some ⟨gz, 0, none⟩) m m] (w.alloc (.cells (xs.map (Value.int .i64)).toArray 3)) fun e w' => ∃ x : Int, e = .returned (.int .i64 x) ∧ x ∈ xs ∧ HC W w0 w' g A n c l := by
 subst hz;obtain ⟨i, h, a, b, H⟩ := K;obtain ⟨bs, hA⟩ := Q.1;have hg := H.lt 0 rfl rfl;have H1 := H.lit 3 1 m (xs.map (Value.int .i64)) (by simp [hm]) (by simp only [maxLen]; omega);refine (l1PickInt_any g A n c bs i h (some ⟨w.heap.size, 0, none⟩) m m xs _ (H1.blk 1 rfl) (H1.oldN hA Q.old) Q.ne a b Q.2.2 (H1.rd 0 rfl) (fun ad he => by injection he with he; subst he; simp; omega) hm0 hm1).mono ?_;rintro e w' ⟨x, rfl, hx, C⟩;obtain ⟨i', h', a', b', H2⟩ := H1.cur 1 rfl C;exact ⟨x, rfl, hx, i', h', a', b', H2.tail⟩
end
set_option maxRecDepth 100000 in
theorem l1Size_any (A : Option Addr) (n c : Nat) (m : Int) (w : World) (hn : n ≤ 1048576) (h0 : 0 ≤ m) :
 Calls Tryz.prog 45 #[.slice A n c, .int .i64 m] w fun e w' => ∃ x : Int, e = .returned (.int .i64 x) ∧ 0 ≤ x ∧ x ≤ m ∧ Fr w w' := by
 obtain ⟨q, hq⟩ : ∃ q : Int, q = (n : Int) / 20 := ⟨_, rfl⟩;have hq0 : 0 ≤ q := by omega
 have hq1 : q ≤ 1048576 := by omega
 have hdz : IntKind.i64.wrap ((n : Int).tdiv 20) = q := by rw [Int.tdiv_eq_ediv_of_nonneg (by omega), ← hq]; exact IntWalk.i64_in _ (by omega)
 have hw : IntKind.i64.wrap (2 + q) = 2 + q := IntWalk.i64_in _ (by omega)
 by_cases hm : m < 2 + q
 ·go_enter Tryz.func45, Tryz.ntmps45
  go_wp2
  go_ret;exact ⟨_, rfl, by omega, by omega, Below.refl _ _⟩
 ·go_enter Tryz.func45, Tryz.ntmps45
  go_wp2
  go_ret;exact ⟨_, rfl, by omega, by omega, Below.refl _ _⟩
end Go.Proofs.YtllonpbhgbhogaaGreatDoor
