/-
  The order of names, and alike names.
-/
import Derived.Test.YtfmifaneggenoaaDoorName
namespace Go.Proofs.YtfmifaneggenoaaDoor
open Go.RowKit

set_option linter.unusedVariables false
set_option linter.unusedSimpArgs false
theorem keyS_yes {s : List UInt8} (h : (keyR s).2 = true) : keyS s = (keyR s).1 := by rw [keyS, if_pos h]
theorem keyS_no {s : List UInt8} (h : (keyR s).2 = false) : keyS s = s := by rw [keyS, if_neg (by rw [h]; simp)]
theorem keyS_len (s : ByteArray) (hs : s.size ≤ 16777216) : (keyS (toB s)).length ≤ 16777216 := by
  rw [keyS]
  split
  · have := keyR_len (toB s); omega
  · rw [toB_len]; exact hs
set_option maxRecDepth 100000 in
theorem keyOrSelf_any (s : ByteArray) (w : World) (hs : s.size ≤ 16777216) (hk : KT w) :
    Calls Tryd.prog 46 #[.string s] w fun e w' => e = .returned (.string (ofB (keyS (toB s)))) ∧ Fr w w' := by
  obtain ⟨K, hK⟩ : ∃ K, K = keyR (toB s) := ⟨_, rfl⟩
  have HK := Lib.hid hK
  clear hK
  obtain ⟨kk, kb⟩ := K
  obtain ⟨q, hq⟩ : ∃ q, q = ofB (keyS (toB s)) := ⟨_, rfl⟩
  have HQ := Lib.hid hq
  rw [← hq]
  clear hq
  go_enter Tryd.func46, Tryd.ntmps46
  go_wp2_with fail
  refine (implKeyOf_any s _ hs hk).mono ?_
  rintro e w1 ⟨rfl, f1⟩
  rw [← HK.out]
  cases kb with
  | true =>
    have HE := Lib.hid (HQ.out.trans (by rw [keyS_yes (by rw [← HK.out]), ← HK.out] : _ = ofB kk))
    go_wp2_with fail
    go_ret
    rw [HE.out]
    exact ⟨rfl, f1⟩
  | false =>
    have HE := Lib.hid (HQ.out.trans (by rw [keyS_no (by rw [← HK.out]), ofB_toB] : _ = s))
    go_wp2_with fail
    go_ret
    rw [HE.out]
    exact ⟨rfl, f1⟩
set_option maxRecDepth 100000 in
theorem l14Key_any (s : ByteArray) (w : World) (hs : s.size ≤ 16777216) :
    Calls Tryd.prog 44 #[.string s] w fun e w' => e = .returned (.string (ofB (keyS (toB s)))) ∧ Fr w w' := by
  obtain ⟨K, hK⟩ : ∃ K, K = keyR (toB s) := ⟨_, rfl⟩
  have HK := Lib.hid hK
  clear hK
  obtain ⟨kk, kb⟩ := K
  obtain ⟨q, hq⟩ : ∃ q, q = ofB (keyS (toB s)) := ⟨_, rfl⟩
  have HQ := Lib.hid hq
  rw [← hq]
  clear hq
  go_enter Tryd.func44, Tryd.ntmps44
  go_wp2_with fail
  refine (specKeyOf_any s _ hs).mono ?_
  rintro e w1 ⟨rfl, f1⟩
  rw [← HK.out]
  cases kb with
  | true =>
    have HE := Lib.hid (HQ.out.trans (by rw [keyS_yes (by rw [← HK.out]), ← HK.out] : _ = ofB kk))
    go_wp2_with fail
    go_ret
    rw [HE.out]
    exact ⟨rfl, f1⟩
  | false =>
    have HE := Lib.hid (HQ.out.trans (by rw [keyS_no (by rw [← HK.out]), ofB_toB] : _ = s))
    go_wp2_with fail
    go_ret
    rw [HE.out]
    exact ⟨rfl, f1⟩
theorem compareTexts_any (s t : ByteArray) (w : World) :
    Calls Tryd.prog 45 #[.string s, .string t] w fun e w' => e = .returned (.int .i64 (cmpT (toB s) (toB t))) ∧ w' = w := by
  obtain ⟨q, hq⟩ : ∃ q, q = cmpT (toB s) (toB t) := ⟨_, rfl⟩
  have HQ := Lib.hid hq
  rw [← hq]
  clear hq
  obtain ⟨b1, hb1⟩ : ∃ b, b = Op.bytesLess (toB s) (toB t) := ⟨_, rfl⟩
  obtain ⟨b2, hb2⟩ : ∃ b, b = decide (toB s = toB t) := ⟨_, rfl⟩
  have h1 : Op.bytesLess s.toList t.toList = b1 := by rw [toList_B, toList_B, hb1]
  have h2 : (s.toList == t.toList) = b2 := by rw [cmpB, hb2]
  have H1 := Lib.hid hb1
  have H2 := Lib.hid hb2
  clear hb1 hb2
  go_enter Tryd.func45, Tryd.ntmps45
  cases b1 with
  | true =>
    have HE := Lib.hid (HQ.out.trans (show cmpT (toB s) (toB t) = -1 by rw [cmpT, if_pos H1.out.symm]))
    go_wp2_with fail
    go_ret
    rw [HE.out]
    exact ⟨rfl, rfl⟩
  | false =>
    cases b2 with
    | true =>
      have HE := Lib.hid (HQ.out.trans (show cmpT (toB s) (toB t) = 0 by rw [cmpT, if_neg (by rw [← H1.out]; simp), if_pos (by simpa using H2.out.symm)]))
      go_wp2_with fail
      go_ret
      rw [HE.out]
      exact ⟨rfl, rfl⟩
    | false =>
      have HE := Lib.hid (HQ.out.trans (show cmpT (toB s) (toB t) = 1 by rw [cmpT, if_neg (by rw [← H1.out]; simp), if_neg (by simpa using H2.out.symm)]))
      go_wp2_with fail
      go_ret
      rw [HE.out]
      exact ⟨rfl, rfl⟩
theorem cmpT_num (a b : List UInt8) : cmpT a b = -1 ∨ cmpT a b = 0 ∨ cmpT a b = 1 := by
  rw [cmpT]; split
  · exact .inl rfl
  · split
    · exact .inr (.inl rfl)
    · exact .inr (.inr rfl)
set_option maxRecDepth 100000 in
theorem implOrder_any (s t : ByteArray) (w : World) (hs : s.size ≤ 16777216) (ht : t.size ≤ 16777216) (hk : KT w) :
    Calls Tryd.prog 11 #[.string s, .string t] w fun e w' => e = .returned (.int .i64 (ordT (toB s) (toB t))) ∧ Fr w w' := by
  obtain ⟨q, hq⟩ : ∃ q, q = ordT (toB s) (toB t) := ⟨_, rfl⟩
  have HQ := Lib.hid hq
  rw [← hq]
  clear hq
  go_enter Tryd.func11, Tryd.ntmps11
  go_wp2_with fail
  refine (keyOrSelf_any s _ hs hk).mono ?_
  rintro e w1 ⟨rfl, f1⟩
  go_wp2_with fail
  refine (keyOrSelf_any t _ ht (hk.fr f1)).mono ?_
  rintro e w2 ⟨rfl, f2⟩
  have F := f1.then f2
  clear f1 f2
  go_wp2_with fail
  refine (compareTexts_any _ _ _).mono ?_
  rintro e wq ⟨rfl, hwq⟩
  rw [← hwq] at F
  clear hwq
  rw [toB_ofB, toB_ofB]
  obtain ⟨n, hn⟩ : ∃ n, n = cmpT (keyS (toB s)) (keyS (toB t)) := ⟨_, rfl⟩
  have HN := Lib.hid hn
  rw [← hn]
  clear hn
  by_cases h0 : n = 0
  · have hd : (n == 0) = true := by simp [h0]
    have hd2 : (n != 0) = false := by simp [h0]
    have HE := Lib.hid (HQ.out.trans (by rw [ordT, if_neg (by rw [← HN.out]; simp [h0])] : _ = cmpT (toB s) (toB t)))
    clear h0
    go_wp2_with fail
    refine (compareTexts_any _ _ _).mono ?_
    rintro e wq ⟨rfl, hwq⟩
    rw [← hwq] at F
    clear hwq
    go_wp2_with fail
    go_ret
    rw [HE.out]
    exact ⟨rfl, F⟩
  · have hd : (n == 0) = false := by simpa using h0
    have hd2 : (n != 0) = true := by simpa using h0
    have HE := Lib.hid (HQ.out.trans (by rw [ordT, if_pos (by rw [← HN.out]; exact h0), ← HN.out] : _ = n))
    clear h0
    go_wp2_with fail
    go_ret
    rw [HE.out]
    exact ⟨rfl, F⟩
set_option maxRecDepth 100000 in
theorem specOrder_any (s t : ByteArray) (w : World) (hs : s.size ≤ 16777216) (ht : t.size ≤ 16777216) :
    Calls Tryd.prog 10 #[.string s, .string t] w fun e w' => e = .returned (.int .i64 (ordT (toB s) (toB t))) ∧ Fr w w' := by
  obtain ⟨q, hq⟩ : ∃ q, q = ordT (toB s) (toB t) := ⟨_, rfl⟩
  have HQ := Lib.hid hq
  rw [← hq]
  clear hq
  go_enter Tryd.func10, Tryd.ntmps10
  go_wp2_with fail
  refine (l14Key_any s _ hs).mono ?_
  rintro e w1 ⟨rfl, f1⟩
  go_wp2_with fail
  refine (l14Key_any t _ ht).mono ?_
  rintro e w2 ⟨rfl, f2⟩
  have F := f1.then f2
  clear f1 f2
  obtain ⟨x, hx⟩ : ∃ x, x = ofB (keyS (toB s)) := ⟨_, rfl⟩
  obtain ⟨y, hy⟩ : ∃ y, y = ofB (keyS (toB t)) := ⟨_, rfl⟩
  rw [← hx, ← hy]
  have HX := Lib.hid (show toB x = keyS (toB s) by rw [hx, toB_ofB])
  have HY := Lib.hid (show toB y = keyS (toB t) by rw [hy, toB_ofB])
  clear hx hy
  obtain ⟨b1, hb1⟩ : ∃ b, b = Op.bytesLess (toB x) (toB y) := ⟨_, rfl⟩
  obtain ⟨b2, hb2⟩ : ∃ b, b = decide (toB x = toB y) := ⟨_, rfl⟩
  obtain ⟨b3, hb3⟩ : ∃ b, b = Op.bytesLess (toB s) (toB t) := ⟨_, rfl⟩
  obtain ⟨b4, hb4⟩ : ∃ b, b = decide (toB s = toB t) := ⟨_, rfl⟩
  have h1 : Op.bytesLess x.toList y.toList = b1 := by rw [toList_B, toList_B, hb1]
  have h2 : (x.toList == y.toList) = b2 := by rw [cmpB, hb2]
  have h3 : Op.bytesLess s.toList t.toList = b3 := by rw [toList_B, toList_B, hb3]
  have h4 : (s.toList == t.toList) = b4 := by rw [cmpB, hb4]
  have HE := Lib.hid (show q = if b1 = true then -1 else if b2 = true then (if b3 = true then -1 else if b4 = true then 0 else 1) else 1 by
    rw [HQ.out, ordT, ← HX.out, ← HY.out, cmpT, cmpT, ← hb1, ← hb3]
    cases b1 with
    | true => simp
    | false =>
      cases b2 with
      | true =>
        have e2 : toB x = toB y := by simpa using hb2.symm
        cases b3 with
        | true => simp [e2]
        | false =>
          cases b4 with
          | true =>
            have e4 : toB s = toB t := by simpa using hb4.symm
            simp [e2, e4]
          | false =>
            have e4 : ¬ toB s = toB t := by simpa using hb4.symm
            simp [e2, e4]
      | false =>
        have e2 : ¬ toB x = toB y := by simpa using hb2.symm
        simp [e2])
  clear hb1 hb2 hb3 hb4
  cases b1 with
  | true =>
    go_wp2_with fail
    go_ret
    rw [HE.out]
    exact ⟨rfl, F⟩
  | false =>
    cases b2 with
    | false =>
      go_wp2_with fail
      go_ret
      rw [HE.out]
      exact ⟨rfl, F⟩
    | true =>
      cases b3 with
      | true =>
        go_wp2_with fail
        go_ret
        rw [HE.out]
        exact ⟨rfl, F⟩
      | false =>
        cases b4 with
        | true =>
          go_wp2_with fail
          go_ret
          rw [HE.out]
          exact ⟨rfl, F⟩
        | false =>
          go_wp2_with fail
          go_ret
          rw [HE.out]
          exact ⟨rfl, F⟩
/-- Are two names alike? -/
def aliB (a b : List UInt8) : Bool := (keyR a).2 && (keyR b).2 && decide ((keyR a).1 = (keyR b).1)
set_option maxRecDepth 100000 in
theorem implAlike_any (s t : ByteArray) (w : World) (hs : s.size ≤ 16777216) (ht : t.size ≤ 16777216) (hk : KT w) :
    Calls Tryd.prog 33 #[.string s, .string t] w fun e w' => e = .returned (.bool (aliB (toB s) (toB t))) ∧ Fr w w' := by
  obtain ⟨q, hq⟩ : ∃ q, q = aliB (toB s) (toB t) := ⟨_, rfl⟩
  have HQ := Lib.hid hq
  rw [← hq]
  clear hq
  go_enter Tryd.func33, Tryd.ntmps33
  go_wp2_with fail
  refine (implKeyOf_any s _ hs hk).mono ?_
  rintro e w1 ⟨rfl, f1⟩
  go_wp2_with fail
  refine (implKeyOf_any t _ ht (hk.fr f1)).mono ?_
  rintro e w2 ⟨rfl, f2⟩
  have F := f1.then f2
  clear f1 f2
  simp only [aliB] at HQ
  generalize keyR (toB s) = K at HQ ⊢
  generalize keyR (toB t) = L at HQ ⊢
  obtain ⟨x, bx⟩ := K
  obtain ⟨y, yb⟩ := L
  have h2 : ((ofB x).toList == (ofB y).toList) = decide (x = y) := by rw [cmpB, toB_ofB, toB_ofB]
  generalize decide (x = y) = b2 at h2 HQ
  generalize ofB x = tx at h2 ⊢
  generalize ofB y = ty at h2 ⊢
  cases bx with
  | false =>
    go_wp2_with fail
    go_ret
    rw [HQ.out]
    exact ⟨rfl, F⟩
  | true =>
    cases yb with
    | false =>
      go_wp2_with fail
      go_ret
      rw [HQ.out]
      exact ⟨rfl, F⟩
    | true =>
      go_wp2_with fail
      go_ret
      rw [HQ.out]
      exact ⟨rfl, F⟩
set_option maxRecDepth 100000 in
theorem specAlike_any (s t : ByteArray) (w : World) (hs : s.size ≤ 16777216) (ht : t.size ≤ 16777216) :
    Calls Tryd.prog 19 #[.string s, .string t] w fun e w' => e = .returned (.bool (aliB (toB s) (toB t))) ∧ Fr w w' := by
  obtain ⟨q, hq⟩ : ∃ q, q = aliB (toB s) (toB t) := ⟨_, rfl⟩
  have HQ := Lib.hid hq
  rw [← hq]
  clear hq
  go_enter Tryd.func19, Tryd.ntmps19
  go_wp2_with fail
  refine (specKeyOf_any s _ hs).mono ?_
  rintro e w1 ⟨rfl, f1⟩
  go_wp2_with fail
  refine (specKeyOf_any t _ ht).mono ?_
  rintro e w2 ⟨rfl, f2⟩
  have F := f1.then f2
  clear f1 f2
  simp only [aliB] at HQ
  generalize keyR (toB s) = K at HQ ⊢
  generalize keyR (toB t) = L at HQ ⊢
  obtain ⟨x, bx⟩ := K
  obtain ⟨y, yb⟩ := L
  have h2 : ((ofB x).toList == (ofB y).toList) = decide (x = y) := by rw [cmpB, toB_ofB, toB_ofB]
  generalize decide (x = y) = b2 at h2 HQ
  generalize ofB x = tx at h2 ⊢
  generalize ofB y = ty at h2 ⊢
  cases bx with
  | false =>
    go_wp2_with fail
    go_ret
    rw [HQ.out]
    exact ⟨rfl, F⟩
  | true =>
    cases yb with
    | false =>
      go_wp2_with fail
      go_ret
      rw [HQ.out]
      exact ⟨rfl, F⟩
    | true =>
      go_wp2_with fail
      go_ret
      rw [HQ.out]
      exact ⟨rfl, F⟩

set_option maxRecDepth 100000 in
theorem lawFnExactOrder_walk (s t : ByteArray) (w : World) (hs : s.size ≤ 9223372036854775807) (ht : t.size ≤ 9223372036854775807) (hk : KT w) :
    Calls Tryd.prog 3 #[.string s, .string t] w fun e w' => e = .returned (.bool true) ∧ Fr w w' := by
  by_cases h1 : 1048576 < s.size
  · have hd : decide ((1048576 : Int) < (s.size : Int)) = true := by simp; omega
    go_enter Tryd.func3, Tryd.ntmps3
    go_wp2_with fail
    go_ret
    exact ⟨rfl, Below.refl _ _⟩
  · have hd : decide ((1048576 : Int) < (s.size : Int)) = false := by simp; omega
    by_cases h2 : 1048576 < t.size
    · have hd2 : decide ((1048576 : Int) < (t.size : Int)) = true := by simp; omega
      go_enter Tryd.func3, Tryd.ntmps3
      go_wp2_with fail
      go_ret
      exact ⟨rfl, Below.refl _ _⟩
    · have hd2 : decide ((1048576 : Int) < (t.size : Int)) = false := by simp; omega
      go_enter Tryd.func3, Tryd.ntmps3
      go_wp2_with fail
      refine (specOrder_any s t _ (by omega) (by omega)).mono ?_
      rintro e w1 ⟨rfl, f1⟩
      go_wp2_with fail
      refine (implOrder_any s t _ (by omega) (by omega) (hk.fr f1)).mono ?_
      rintro e w2 ⟨rfl, f2⟩
      have F := f1.then f2
      clear f1 f2
      generalize ordT (toB s) (toB t) = n
      go_wp2
      go_ret
      exact ⟨rfl, F⟩
end Go.Proofs.YtfmifaneggenoaaDoor
