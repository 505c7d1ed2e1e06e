/-
  BlockAt: the program and the reference answer the same.
-/
import Derived.Test.YtbmoolmgfpcnkaaExtents
import Derived.Test.YtbmoolmgfpcnkaaExtsOk
import Derived.Test.YtbmoolmgfpcnkaaExtsOkI
namespace Go.Proofs.Ytbmoolmgfpcnkaa
open Go.RowKit

set_option maxRecDepth 100000 in
set_option maxHeartbeats 4000000 in
theorem implBlockAt_any (A : Option Addr) (n c : Nat) (l : List (Int × Int × Int)) (i : Int) (w : World) (h : Rd w A n 3 (l.flatMap cExt)) (hn : n ≤ 1048576) :
    Calls Try.prog 24 #[.slice A n c, .int .i64 i] w fun e w' => e = .returned (.int .i64 (blockAtL l i)) ∧ Fr w w' := by
  by_cases hok : eOk l = true
  · have OK := eOk_ranges hok
    by_cases hi : inB i 0 11 = true
    · have hi2 := inB_iff.1 hi
      obtain ⟨k, rfl⟩ : ∃ q : Nat, i = q := ⟨i.toNat, by omega⟩
      have hk : k < 12 := by omega
      obtain ⟨x, hx⟩ := at_some (flatL_len l) hk
      have HX := Lib.hid (show blockAtL l k = x by simp [blockAtL, hok, hi, List.getD_eq_getElem?_getD, show (flatL l)[k]? = some x from hx])
      go_enter Try.func24, Try.ntmps24
      go_wp2_with fail
      refine (implExtsOk_any A n c l _ h hn).mono ?_
      rintro e w1 ⟨rfl, f1⟩
      rw [hok]
      go_wp2_with fail
      refine (within_any _ _ _ _).mono ?_
      rintro e w2 ⟨rfl, rfl⟩
      rw [hi]
      go_wp2_with fail
      refine (implFlat_any A n c l _ (h.fr f1) OK hn).mono ?_
      rintro e w3 ⟨A3, c3, rfl, o3, f3⟩
      have H3 := Hp.one_row o3 f3
      obtain ⟨g, c4, e, hg⟩ := H3.form 0 rfl (by omega)
      injection e with e1 _ e2
      subst e1 e2
      have cx := H3.atM 0 rfl hx
      clear hx o3 H3
      go_wp2
      go_ret
      exact ⟨ret_int HX.out.symm, f1.then f3⟩
    · have hi' : inB i 0 11 = false := by simpa using hi
      have HX := Lib.hid (show blockAtL l i = -1 by simp [blockAtL, hi'])
      go_enter Try.func24, Try.ntmps24
      go_wp2_with fail
      refine (implExtsOk_any A n c l _ h hn).mono ?_
      rintro e w1 ⟨rfl, f1⟩
      rw [hok]
      go_wp2_with fail
      refine (within_any _ _ _ _).mono ?_
      rintro e w2 ⟨rfl, rfl⟩
      rw [hi']
      go_wp2_with fail
      go_ret
      exact ⟨ret_int HX.out.symm, f1⟩
  · have hok' : eOk l = false := by simpa using hok
    have HX := Lib.hid (show blockAtL l i = -1 by simp [blockAtL, hok'])
    go_enter Try.func24, Try.ntmps24
    go_wp2_with fail
    refine (implExtsOk_any A n c l _ h hn).mono ?_
    rintro e w1 ⟨rfl, f1⟩
    rw [hok']
    go_wp2_with fail
    go_ret
    exact ⟨ret_int HX.out.symm, f1⟩

set_option maxRecDepth 100000 in
set_option maxHeartbeats 4000000 in
theorem specBlockAt_any (A : Option Addr) (n c : Nat) (l : List (Int × Int × Int)) (i : Int) (w : World) (h : Rd w A n 3 (l.flatMap cExt)) (hn : n ≤ 1048576) :
    Calls Try.prog 25 #[.slice A n c, .int .i64 i] w fun e w' => e = .returned (.int .i64 (blockAtL l i)) ∧ Fr w w' := by
  by_cases hok : eOk l = true
  · have OK := eOk_ranges hok
    by_cases hi : inB i 0 11 = true
    · have hi2 := inB_iff.1 hi
      obtain ⟨k, rfl⟩ : ∃ q : Nat, i = q := ⟨i.toNat, by omega⟩
      have hk : k < 12 := by omega
      obtain ⟨x, hx⟩ := at_some (flatL_len l) hk
      have HX := Lib.hid (show blockAtL l k = x by simp [blockAtL, hok, hi, List.getD_eq_getElem?_getD, show (flatL l)[k]? = some x from hx])
      go_enter Try.func25, Try.ntmps25
      go_wp2_with fail
      refine (specExtsOk_any A n c l _ h hn).mono ?_
      rintro e w1 ⟨rfl, f1⟩
      rw [hok]
      go_wp2_with fail

      refine (specMap_any A n c l _ (h.fr f1) OK hn).mono ?_
      rintro e w3 ⟨A3, c3, rfl, o3, f3⟩
      have H3 := Hp.one_row o3 f3
      obtain ⟨g, c4, e, hg⟩ := H3.form 0 rfl (by omega)
      injection e with e1 _ e2
      subst e1 e2
      have cx := H3.atM 0 rfl hx
      clear hx o3 H3
      go_wp2
      go_ret
      exact ⟨ret_int HX.out.symm, f1.then f3⟩
    · have hi' : inB i 0 11 = false := by simpa using hi
      have HX := Lib.hid (show blockAtL l i = -1 by simp [blockAtL, hi'])
      by_cases h0 : i < 0
      · go_enter Try.func25, Try.ntmps25
        go_wp2_with fail
        refine (specExtsOk_any A n c l _ h hn).mono ?_
        rintro e w1 ⟨rfl, f1⟩
        rw [hok]
        go_wp2_with fail
        go_ret
        exact ⟨ret_int HX.out.symm, f1⟩
      · have h1 : 12 ≤ i := by
          simp only [inB, Bool.and_eq_false_iff, decide_eq_false_iff_not] at hi'
          omega
        go_enter Try.func25, Try.ntmps25
        go_wp2_with fail
        refine (specExtsOk_any A n c l _ h hn).mono ?_
        rintro e w1 ⟨rfl, f1⟩
        rw [hok]
        go_wp2_with fail
        go_ret
        exact ⟨ret_int HX.out.symm, f1⟩
  · have hok' : eOk l = false := by simpa using hok
    have HX := Lib.hid (show blockAtL l i = -1 by simp [blockAtL, hok'])
    go_enter Try.func25, Try.ntmps25
    go_wp2_with fail
    refine (specExtsOk_any A n c l _ h hn).mono ?_
    rintro e w1 ⟨rfl, f1⟩
    rw [hok']
    go_wp2_with fail
    go_ret
    exact ⟨ret_int HX.out.symm, f1⟩

end Go.Proofs.Ytbmoolmgfpcnkaa
