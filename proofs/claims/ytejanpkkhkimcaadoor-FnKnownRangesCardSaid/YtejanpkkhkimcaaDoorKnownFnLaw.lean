/-
  The law FnKnownRanges, walked.
-/
import Derived.Test.YtejanpkkhkimcaaDoorKnownR
import Derived.Test.YtejanpkkhkimcaaDoorCountOf
import Derived.Test.YtejanpkkhkimcaaDoorLaw2
import Derived.Test.YtejanpkkhkimcaaDoorBytes
namespace Go.Proofs.YtejanpkkhkimcaaDoor
open Go.RowKit

theorem big_any (A : Option Addr) (n c : Nat) (w : World) (_hn : n ≤ 9223372036854775807) :
    Calls Tryd.prog 10 #[.slice A n c] w fun e w' => e = .returned (.bool (decide (1048576 < n))) ∧ w = w' := by
  go_enter Tryd.func10, Tryd.ntmps10
  go_wp2
  go_ret
  exact ⟨ret_bool (by simp; omega), rfl⟩

set_option linter.unusedVariables false
set_option maxHeartbeats 1000000 in
theorem at_any (A : Option Addr) (n c : Nat) (bs : List UInt8) (z : Int) (w : World) (hA : Rd w A n 1 (bs.map cU8)) (hn : n ≤ 1048576) (hz : 0 ≤ z ∧ z ≤ 1048576) :
    Calls Tryd.prog 12 #[.slice A n c, .int .i64 z] w fun e w' => ∃ x : Int, e = .returned (.int .i64 x) ∧ (0 ≤ x ∧ x ≤ 255) ∧ w = w' := by
  obtain ⟨i, rfl⟩ := Int.eq_ofNat_of_zero_le hz.1
  have hi : i ≤ 1048576 := by omega
  by_cases hlt : i < n
  · obtain ⟨b, hb⟩ := some_at hA.len1 hlt
    obtain ⟨bk, of, rfl, hc⟩ := hA.get1 hb
    have hi0 : (0 : Int) ≤ (i : Int) := by omega
    have hi1 : (i : Int) < (n : Int) := by omega
    simp only [cU8] at hc
    have hx : (b.toNat : Int) ≤ 255 := by have := b.toNat_lt; omega
    have hx0 : (0 : Int) ≤ (b.toNat : Int) := by omega
    clear hb
    generalize (b.toNat : Int) = x at hc hx hx0
    go_enter Tryd.func12, Tryd.ntmps12
    go_wp2
    go_ret
    exact ⟨x, rfl, ⟨hx0, hx⟩, rfl⟩
  · have hge : ¬ ((i : Int) < (n : Int)) := by omega
    have h1 : IntKind.i64.wrap ((i : Int) * 37) = (i : Int) * 37 := IntWalk.i64_in _ (by omega)
    have h2 : IntKind.i64.wrap ((n : Int) * 11) = (n : Int) * 11 := IntWalk.i64_in _ (by omega)
    have h3 : IntKind.i64.wrap ((i : Int) * 37 + (n : Int) * 11) = (i : Int) * 37 + (n : Int) * 11 := IntWalk.i64_in _ (by omega)
    go_enter Tryd.func12, Tryd.ntmps12
    go_wp2
    go_ret
    refine ⟨_, rfl, ?_, rfl⟩
    omega

theorem inR_KR (c : Int) : inR KR c = knownS c := by
  rw [inR, ranges_known]
  simp
  intro _
  decide

set_option maxRecDepth 100000 in
set_option maxHeartbeats 4000000 in
theorem lawFnKnownRanges_walk (A : Option Addr) (n c : Nat) (bs : List UInt8) (w : World) (hA : Rd w A n 1 (bs.map cU8)) (hcap : n ≤ 9223372036854775807) (hk : KT w) :
    Calls Tryd.prog 4 #[.slice A n c] w fun e w' => e = .returned (.bool true) ∧ Fr w w' := by
  by_cases hbig : 1048576 < n
  · have hd : decide (1048576 < n) = true := by simpa using hbig
    go_enter Tryd.func4, Tryd.ntmps4
    go_wp2_with fail
    refine (big_any A n c _ hcap).mono ?_
    rintro e w1 ⟨rfl, rfl⟩
    rw [hd]
    go_wp2_with fail
    go_ret
    exact ⟨rfl, Below.refl _ _⟩
  have hd : decide (1048576 < n) = false := by simpa using hbig
  have hn : n ≤ 1048576 := by omega
  have G := Lib.hid hA
  have G2 := Lib.hid hk
  have H0 := Hp.start w
  go_enter Tryd.func4, Tryd.ntmps4
  go_wp2_with fail
  refine (big_any A n c _ hcap).mono ?_
  rintro e w1 ⟨rfl, rfl⟩
  rw [hd]
  clear hd hA hk
  go_wp2_with fail
  refine (implKnownRanges_any _ G2.out).mono ?_
  rintro e w1 ⟨B, cb, rfl, o1, f1⟩
  have H1 := H0.made o1 f1
  clear H0 o1 f1
  go_wp2_with fail
  refine (specRangesOk_any B KR.length cb KR _ (H1.rd 0 rfl) (by decide)).mono ?_
  rintro e w2 ⟨rfl, d2⟩
  have H2 := H1.go d2.fr
  clear H1 d2
  have hrk : rOk KR = true := by decide +kernel
  rw [hrk]
  go_wp2_with fail
  go_loopw [4, 5] (fun iv xv wr => ∃ i : Nat, iv = .int .i64 i ∧ i ≤ 8 ∧ Hp [] w wr [.row 37 2 (.slice B KR.length cb) KR.length (KR.flatMap cRange)]) (fun iv _ _ => 8 - (intOf iv).toNat)
  case atStart => exact ⟨0, rfl, by omega, H2⟩
  case round =>
    clear H2
    obtain ⟨i, rfl, hi, H⟩ := hrel
    by_cases hlt : i < 8
    · go_wp2_with fail
      refine (at_any A n c bs (2 * (i : Int)) _ (H.old G.out) hn (by omega)).mono ?_
      rintro e w3 ⟨x, rfl, hx, rfl⟩
      go_wp2_with fail
      refine (at_any A n c bs (2 * (i : Int) + 1) _ (H.old G.out) hn (by omega)).mono ?_
      rintro e w3 ⟨y, rfl, hy, rfl⟩
      obtain ⟨v, hv⟩ : ∃ q : Int, q = x * 256 + y := ⟨_, rfl⟩
      have hvb : 0 ≤ v ∧ v ≤ 65535 := by omega
      have hw3 : IntKind.i64.wrap (x * 256) = x * 256 := IntWalk.i64_in _ (by omega)
      have hw4 : IntKind.i64.wrap (x * 256 + y) = x * 256 + y := IntWalk.i64_in _ (by omega)
      go_wp2_with fail
      rw [← hv]
      clear hw3 hw4 hv
      refine (implInRanges_any B KR.length cb KR v _ (H.rd 0 rfl) (by decide)).mono ?_
      rintro e w5 ⟨rfl, f5⟩
      have H5 := H.go f5
      clear H
      rw [inR_KR]
      obtain ⟨k1, hk1⟩ : ∃ q, q = knownS v := ⟨_, rfl⟩
      have HK1 := Lib.hid hk1
      rw [← hk1]
      clear hk1
      go_wp2_with fail
      refine (specKnown_any v _ (by omega)).mono ?_
      rintro e w6 ⟨rfl, f6⟩
      have H6 := H5.go f6
      clear H5
      rw [← HK1.out]
      have hkk : (k1 != k1) = false := by cases k1 <;> rfl
      obtain ⟨m, hm⟩ : ∃ q : Int, q = v % 1300 := ⟨_, rfl⟩
      have hmb : 0 ≤ m ∧ m ≤ 1300 := by omega
      have HM := Lib.hid hm
      clear hm
      go_wp2_with fail
      rw [← HM.out]
      refine (implInRanges_any B KR.length cb KR m _ (H6.rd 0 rfl) (by decide)).mono ?_
      rintro e w7 ⟨rfl, f7⟩
      have H7 := H6.go f7
      clear H6
      rw [inR_KR]
      obtain ⟨k2, hk2⟩ : ∃ q, q = knownS m := ⟨_, rfl⟩
      have HK2 := Lib.hid hk2
      rw [← hk2]
      clear hk2
      go_wp2_with fail
      rw [← HM.out]
      refine (specKnown_any m _ (by omega)).mono ?_
      rintro e w8 ⟨rfl, f8⟩
      have H8 := H7.go f8
      clear H7
      rw [← HK2.out]
      have hkk2 : (k2 != k2) = false := by cases k2 <;> rfl
      go_wp2_with fail
      go_roundw
      case rel => exact ⟨i + 1, by go_num, by omega, H8⟩
      case measure => simp [intOf]; omega
    · go_wp2_with fail
      refine (implCountOf_any B KR.length cb KR _ (H.rd 0 rfl) (by decide)).mono ?_
      rintro e w3 ⟨rfl, f3⟩
      have H3 := H.go f3
      clear H
      obtain ⟨ct, hct⟩ : ∃ q, q = cntR KR := ⟨_, rfl⟩
      have HC := Lib.hid hct
      rw [← hct]
      clear hct
      go_wp2_with fail
      refine (specKnownRanges_any _).mono ?_
      rintro e w4 ⟨D, cd, rfl, o4, f4⟩
      have H4 := H3.made o4 f4
      clear H3 o4 f4
      go_wp2_with fail
      refine (specCountOf_any D KR.length cd KR _ (H4.rd 0 rfl) (by decide)).mono ?_
      rintro e w5 ⟨rfl, d5⟩
      have H5 := H4.go d5.fr
      clear H4 d5
      rw [← HC.out]
      go_wp2_with fail
      refine (implInRanges_any B KR.length cb KR (-1) _ (H5.rd 1 rfl) (by decide)).mono ?_
      rintro e w6 ⟨rfl, f6⟩
      have H6 := H5.go f6
      clear H5
      rw [inR_KR, show knownS (-1) = false by decide +kernel]
      go_wp2_with fail
      go_ret
      exact ⟨rfl, H6.fr⟩
end Go.Proofs.YtejanpkkhkimcaaDoor
