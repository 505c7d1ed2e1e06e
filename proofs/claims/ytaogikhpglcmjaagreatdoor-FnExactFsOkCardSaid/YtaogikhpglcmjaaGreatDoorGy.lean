/-
  Many texts in one: Vars, BelowS.
-/
import Derived.Test.YtaogikhpglcmjaaGreatDoorGn
import Derived.Test.YtaogikhpglcmjaaGreatDoorGs
import Derived.Test.YtaogikhpglcmjaaGreatDoorGm
import Derived.Test.YtaogikhpglcmjaaGreatDoorGr
import Derived.Test.YtaogikhpglcmjaaGreatDoorGc
namespace Go.Proofs.YtaogikhpglcmjaaGreatDoor
open Go.RowKit

set_option linter.unusedVariables false
set_option linter.unusedSimpArgs false
/-- A place; -1 where there is none. -/
def plZ : Option Nat → Int
  | some a => (a : Int)
  | none => -1
theorem tail_ext (s : ByteArray) (k : Nat) : s.extract k s.size = ofB ((toB s).drop k) := by
  have := toB_extract s k s.size
  rw [List.take_of_length_le (by rw [List.length_drop, toB_len]; omega)] at this
  rw [← this, ofB_toB]
theorem vars_le {s : List UInt8} {o : Option Nat} {k a : Nat} (ho : ∀ b, o = some b → b ≤ 1099511627776) (hs : s.length ≤ 1099511627776) (h : (varsP s o k).2 = some a) : a ≤ 1099511627776 := by
  cases k with
  | zero => exact ho a h
  | succ k => exact Nat.le_trans (vars_in h).1 hs
theorem vars_bound (s : List UInt8) (o : Option Nat) : ∀ k, ∀ x ∈ (varsP s o k).1, x ≤ 562949953421311
  | 0, x, hx => by simp [varsP] at hx
  | k + 1, x, hx => by
    rw [varsP] at hx
    cases hb : (varsP s o k).2 with
    | none => rw [hb] at hx; exact vars_bound s o k x hx
    | some b =>
      rw [hb] at hx
      simp only at hx
      split at hx
      · exact vars_bound s o k x hx
      · split at hx
        · exact vars_bound s o k x hx
        · rcases List.mem_append.1 hx with h | h
          · exact vars_bound s o k x h
          · rw [List.mem_singleton.1 h]; exact (readV_le _).2.2
theorem vars_stop {s : List UInt8} {o : Option Nat} {i : Nat} : ∀ {k : Nat}, i ≤ k → (varsP s o i).2 = none → varsP s o k = ((varsP s o i).1, none)
  | 0, h, hn => by
    obtain rfl : i = 0 := by omega
    exact Prod.ext rfl hn
  | k + 1, h, hn => by
    rcases Nat.lt_or_eq_of_le h with h1 | h1
    · have h2 := vars_stop (k := k) (by omega) hn
      rw [varsP, h2]
    · rw [← h1]; exact Prod.ext rfl hn
theorem vars_no1 {s : List UInt8} {o : Option Nat} {k a : Nat} (h : (varsP s o k).2 = some a) (hl : s.length < a) : varsP s o (k + 1) = ((varsP s o k).1, none) := by
  rw [varsP, h]
  simp only
  rw [if_pos hl]
theorem vars_no2 {s : List UInt8} {o : Option Nat} {k a : Nat} (h : (varsP s o k).2 = some a) (hl : ¬ s.length < a) (hz : (readV (s.drop a)).2 = 0) : varsP s o (k + 1) = ((varsP s o k).1, none) := by
  rw [varsP, h]
  simp only
  rw [if_neg hl, if_pos hz]
theorem vars_yes {s : List UInt8} {o : Option Nat} {k a : Nat} (h : (varsP s o k).2 = some a) (hl : ¬ s.length < a) (hz : ¬ (readV (s.drop a)).2 = 0) : varsP s o (k + 1) = ((varsP s o k).1 ++ [(readV (s.drop a)).1], some (a + (readV (s.drop a)).2)) := by
  rw [varsP, h]
  simp only
  rw [if_neg hl, if_neg hz]
abbrev intN (n : Nat) : Value := .int .i64 (n : Int)
set_option maxRecDepth 100000 in
set_option maxHeartbeats 4000000 in
theorem specVars_any (s : ByteArray) (o : Option Nat) (n : Nat) (w : World) (hs : s.size ≤ 1099511627776) (ho : ∀ b, o = some b → b ≤ 1099511627776) (hn : n ≤ 1000) :
    Calls Tryz.prog 50 #[.string s, .int .i64 (plZ o), .int .i64 (n : Int)] w fun e w' => ∃ (A : Option Addr) (c : Nat), e = .returned (.tuple #[.slice A (varsP (toB s) o n).1.length c, .int .i64 (plZ (varsP (toB s) o n).2)]) ∧ w'.ownsRow w.heap.size 3 1 (.slice A (varsP (toB s) o n).1.length c) (varsP (toB s) o n).1.length ((varsP (toB s) o n).1.map intN) ∧ Fr w w' := by
  have HT := Lib.hid (show (toB s).length = s.size from toB_len s)
  obtain ⟨P, hP⟩ : ∃ P, P = varsP (toB s) o n := ⟨_, rfl⟩
  rw [← hP]
  have HP := Lib.hid hP
  have HO := Lib.hid ho
  clear hP ho
  have H0 := (Hp.start w).lit0 3 1
  go_enter Tryz.func50, Tryz.ntmps50
  go_wp2_with fail
  go_loopw [1, 8, 9] (fun av vv iv wr => ∃ i a : Nat, iv = .int .i64 i ∧ i ≤ n ∧ ((varsP (toB s) o i).2 = some a ∧ av = .int .i64 (a : Int) ∨ (i = 0 ∧ a = 0 ∧ o = none ∧ av = .int .i64 (-1))) ∧ Hp [] w wr [.row 3 1 vv (varsP (toB s) o i).1.length ((varsP (toB s) o i).1.map intN)]) (fun _ _ iv _ => n - (intOf iv).toNat)
  case atStart =>
    cases o with
    | none => exact ⟨0, 0, rfl, by omega, .inr ⟨rfl, rfl, rfl, rfl⟩, H0⟩
    | some a => exact ⟨0, a, rfl, by omega, .inl ⟨rfl, rfl⟩, H0⟩
  case round =>
    clear H0
    obtain ⟨i, a, rfl, hi, ha, H⟩ := hrel
    have hi0 : (0 : Int) ≤ (i : Int) := by omega
    obtain ⟨Q, hQ⟩ : ∃ Q, Q = varsP (toB s) o i := ⟨_, rfl⟩
    rw [← hQ] at H ha
    have HQ := Lib.hid hQ
    clear hQ
    rcases ha with ⟨ha, rfl⟩ | ⟨hi00, rfl, hon, rfl⟩
    · have hab : a ≤ 1099511627776 := vars_le HO.out (by rw [HT.out]; exact hs) (by rw [← HQ.out]; exact ha)
      have HA := Lib.hid (show (varsP (toB s) o i).2 = some a by rw [← HQ.out]; exact ha)
      clear ha
      have ha0 : (0 : Int) ≤ (a : Int) := by omega
      have ha1 : ¬ (a : Int) < 0 := by omega
      by_cases hin : i < n
      · have hi1 : (i : Int) < (n : Int) := by omega
        by_cases hal : s.size < a
        · have hal1 : (s.size : Int) < (a : Int) := by omega
          have HE := Lib.hid (show P = (Q.1, none) by
            rw [HP.out, HQ.out]
            have h1 := vars_no1 HA.out (by rw [HT.out]; exact hal)
            rw [vars_stop (k := n) (i := i + 1) (by omega) (by rw [h1]), h1])
          obtain ⟨C, q, rfl⟩ := H.shape 0 rfl
          go_wp2_with fail
          go_ret2
          rw [HE.out]
          exact ⟨_, _, rfl, H.out 0 rfl, H.fr⟩
        · have hal1 : ¬ (s.size : Int) < (a : Int) := by omega
          have hal2 : (a : Int) ≤ (s.size : Int) := by omega
          have hal3 : a ≤ s.size := by omega
          obtain ⟨t1, ht1⟩ : ∃ t, t = s.extract a s.size := ⟨_, rfl⟩
          have hex : s.extract a s.size = t1 := ht1.symm
          have HT1 := Lib.hid (show toB t1 = (toB s).drop a by rw [ht1, tail_ext, toB_ofB])
          have hts : t1.size ≤ 1099511627776 := by
            have := congrArg List.length HT1.out
            rw [toB_len, List.length_drop, HT.out] at this
            omega
          clear ht1
          go_wp2_with fail
          refine (specReadVar_any t1 _ hts).mono ?_
          rintro e w1 ⟨rfl, f1⟩
          rw [HT1.out]
          replace H := H.go f1
          clear f1
          obtain ⟨R, hR⟩ : ∃ R, R = readV ((toB s).drop a) := ⟨_, rfl⟩
          rw [← hR]
          have hle := readV_le ((toB s).drop a)
          rw [← hR] at hle
          have HR := Lib.hid hR
          clear hR
          obtain ⟨R1, R2⟩ := R
          simp only at hle
          by_cases hz : R2 = 0
          · have hz1 : ((R2 : Int) == 0) = true := by simpa using hz
            have HE := Lib.hid (show P = (Q.1, none) by
              rw [HP.out, HQ.out]
              have h1 := vars_no2 HA.out (by rw [HT.out]; exact hal) (by rw [← HR.out]; exact hz)
              rw [vars_stop (k := n) (i := i + 1) (by omega) (by rw [h1]), h1])
            obtain ⟨C, q, rfl⟩ := H.shape 0 rfl
            go_wp2_with fail
            go_ret2
            rw [HE.out]
            exact ⟨_, _, rfl, H.out 0 rfl, H.fr⟩
          · have hz1 : ((R2 : Int) == 0) = false := by simpa using hz
            have HE := Lib.hid (show varsP (toB s) o (i + 1) = (Q.1 ++ [R1], some (a + R2)) by
              rw [HQ.out, vars_yes HA.out (by rw [HT.out]; exact hal) (by rw [← HR.out]; exact hz), ← HR.out])
            have hql : Q.1.length ≤ 1000 := by
              have := vars_len (s := toB s) (o := o) HA.out
              rw [← HQ.out] at this
              omega
            have hR2b : R2 ≤ 7 := hle.2.1
            clear hle
            go_wp2_with (at_builtin; refine wp_appM (f := intN) H rfl _ _ _ rfl Tryz.underlying82 infoInt rfl 0 _ _ rfl rfl _ _ R1 rfl (by simp) rfl (by simp only [maxLen]; omega) (by omega) ?_)
            intro v' w6 H6
            have H7 := Lib.hid H6
            obtain ⟨p, hp1, hp2⟩ : ∃ p : Nat, a + R2 ≤ p ∧ p ≤ a + R2 := ⟨a + R2, Nat.le_refl _, Nat.le_refl _⟩
            have hw8 : (a : Int) + (R2 : Int) = (p : Int) := by omega
            have hw9 : IntKind.i64.wrap ((a : Int) + (R2 : Int)) = (p : Int) := by rw [hw8]; exact IntWalk.i64_in _ (by omega)
            have HE := Lib.hid (show varsP (toB s) o (i + 1) = (Q.1 ++ [R1], some p) by rw [HE.out, show a + R2 = p by omega])
            clear H H6
            go_wp2_with fail
            go_roundw
            case rel => exact ⟨i + 1, p, by go_num, by omega, .inl ⟨by rw [HE.out], rfl⟩, by rw [HE.out]; exact H7.out.recast (by simp)⟩
            case measure => simp [intOf]; omega
      · have hi1 : ¬ (i : Int) < (n : Int) := by omega
        have HE := Lib.hid (show P = (Q.1, some a) by
          rw [HP.out, show n = i by omega, ← HQ.out]
          exact Prod.ext rfl (by rw [HQ.out]; exact HA.out))
        obtain ⟨C, q, rfl⟩ := H.shape 0 rfl
        go_wp2_with fail
        go_ret2
        rw [HE.out]
        exact ⟨_, _, rfl, H.out 0 rfl, H.fr⟩
    · have HE := Lib.hid (show P = (Q.1, none) by
        rw [HP.out, HQ.out, hon, hi00]
        have h1 := vars_none (toB s) n
        exact Prod.ext (by rw [h1.2]; rfl) h1.1)
      obtain ⟨C, q, rfl⟩ := H.shape 0 rfl
      by_cases hin : i < n
      · have hi1 : (i : Int) < (n : Int) := by omega
        go_wp2_with fail
        go_ret2
        rw [HE.out]
        exact ⟨_, _, rfl, H.out 0 rfl, H.fr⟩
      · have hi1 : ¬ (i : Int) < (n : Int) := by omega
        go_wp2_with fail
        go_ret2
        rw [HE.out]
        exact ⟨_, _, rfl, H.out 0 rfl, H.fr⟩
theorem num1_of {s : List UInt8} {o : Option Nat} {a : Nat} (h : (varsP s o 1).2 = some a) : (varsP s o 1).1 = [num1 (varsP s o 1)] ∧ num1 (varsP s o 1) ≤ 562949953421311 ∧ a ≤ s.length := by
  have hl := vars_len h
  obtain ⟨h1, _, _⟩ := vars_in h
  have hb := vars_bound s o 1
  obtain ⟨x, hx⟩ : ∃ x, (varsP s o 1).1 = [x] := by
    cases hq : (varsP s o 1).1 with
    | nil => rw [hq] at hl; simp at hl
    | cons x r =>
      rw [hq] at hl
      cases r with
      | nil => exact ⟨x, rfl⟩
      | cons y r => simp at hl
  have hn : num1 (varsP s o 1) = x := by rw [num1, hx]; rfl
  rw [hn]
  exact ⟨hx, hb x (by rw [hx]; simp), h1⟩
set_option maxRecDepth 100000 in
set_option maxHeartbeats 4000000 in
theorem specTake_any (s : ByteArray) (o : Option Nat) (w : World) (hs : s.size ≤ 1099511627776) (ho : ∀ b, o = some b → b ≤ 1099511627776) :
    Calls Tryz.prog 51 #[.string s, .int .i64 (plZ o)] w fun e w' => e = .returned (.tuple #[.string (ofB (takeP (toB s) o).1), .int .i64 (plZ (takeP (toB s) o).2)]) ∧ Fr w w' := by
  have HT := Lib.hid (show (toB s).length = s.size from toB_len s)
  obtain ⟨P, hP⟩ : ∃ P, P = takeP (toB s) o := ⟨_, rfl⟩
  rw [← hP]
  have HP := Lib.hid hP
  have HO := Lib.hid ho
  clear hP ho
  obtain ⟨P1, P2⟩ := P
  simp only
  go_enter Tryz.func51, Tryz.ntmps51
  go_wp2_with fail
  refine (specVars_any s o 1 _ hs HO.out (by omega)).mono ?_
  rintro e w1 ⟨A, c, rfl, o1, f1⟩
  obtain ⟨V, hV⟩ : ∃ V, V = varsP (toB s) o 1 := ⟨_, rfl⟩
  rw [← hV] at o1 ⊢
  have HV := Lib.hid hV
  clear hV
  have H := (Hp.start w).made o1 f1
  clear o1 f1
  obtain ⟨V1, V2⟩ := V
  simp only at H ⊢
  cases V2 with
  | none =>
    have HE := Lib.hid (HP.out.trans (takeP_none (by rw [← HV.out])))
    obtain ⟨rfl, rfl⟩ : P1 = [] ∧ P2 = none := ⟨congrArg Prod.fst HE.out, congrArg Prod.snd HE.out⟩
    have hm1 : plZ none = -1 := rfl
    rw [hm1]
    go_wp2_with fail
    go_ret2
    exact ⟨rfl, H.fr⟩
  | some k =>
    obtain ⟨n1, n2, n3⟩ := num1_of (s := toB s) (o := o) (a := k) (by rw [← HV.out])
    have hk : plZ (some k) = (k : Int) := rfl
    rw [hk]
    obtain ⟨x, hx⟩ : ∃ x, x = num1 (varsP (toB s) o 1) := ⟨_, rfl⟩
    rw [← hx] at n1 n2
    have HX := Lib.hid hx
    clear hx hk
    rw [← HV.out] at n1
    simp only at n1
    subst n1
    rw [HT.out] at n3
    obtain ⟨g, cg, e, _⟩ := H.form 0 rfl (by simp)
    injection e with e1 _ e2
    subst e1 e2
    have z0 := H.atM (f1 := intN) 0 rfl (j := 0) (x := x) rfl
    simp only [intN] at z0
    have k0 : (0 : Int) ≤ (k : Int) := by omega
    have k1 : ¬ (k : Int) < 0 := by omega
    obtain ⟨y, hy1, hy2⟩ : ∃ y : Nat, y + k ≤ s.size ∧ s.size ≤ y + k := ⟨s.size - k, by omega, by omega⟩
    have hy3 : (s.size : Int) - (k : Int) = (y : Int) := by omega
    have hy4 : IntKind.i64.wrap ((s.size : Int) - (k : Int)) = (y : Int) := by rw [hy3]; exact IntWalk.i64_in _ (by omega)
    have HE0 := Lib.hid (HP.out.trans (takeP_some (k := k) (n := x) (by rw [← HV.out]) HX.out.symm))
    by_cases hlt : y < x
    · have hlt1 : (y : Int) < (x : Int) := by omega
      have HE := Lib.hid (HE0.out.trans (if_pos (by rw [HT.out]; omega)))
      obtain ⟨rfl, rfl⟩ : P1 = [] ∧ P2 = none := ⟨congrArg Prod.fst HE.out, congrArg Prod.snd HE.out⟩
      go_wp2_with fail
      go_ret2
      exact ⟨rfl, H.fr⟩
    · have hlt1 : ¬ (y : Int) < (x : Int) := by omega
      obtain ⟨p, hp1, hp2⟩ : ∃ p : Nat, k + x ≤ p ∧ p ≤ k + x := ⟨k + x, Nat.le_refl _, Nat.le_refl _⟩
      have hp3 : (k : Int) + (x : Int) = (p : Int) := by omega
      have hp4 : IntKind.i64.wrap ((k : Int) + (x : Int)) = (p : Int) := by rw [hp3]; exact IntWalk.i64_in _ (by omega)
      have hp5 : IntKind.i64.wrap (p : Int) = (p : Int) := IntWalk.i64_in _ (by omega)
      have hp6 : (0 : Int) ≤ (p : Int) := by omega
      have hp7 : (p : Int) ≤ (s.size : Int) := by omega
      have hp8 : (k : Int) ≤ (p : Int) := by omega
      have hp9 : k ≤ p := by omega
      have hp10 : p ≤ s.size := by omega
      obtain ⟨t1, ht1⟩ : ∃ t, t = s.extract k p := ⟨_, rfl⟩
      have hex : s.extract k p = t1 := ht1.symm
      have HT1 := Lib.hid (show t1 = ofB (((toB s).drop k).take x) by
        rw [ht1, ← ofB_toB (s.extract k p), toB_extract, show p - k = x by omega])
      clear ht1
      have HE := Lib.hid (HE0.out.trans (if_neg (by rw [HT.out]; omega)))
      have HE1 := Lib.hid (show P1 = ((toB s).drop k).take x from congrArg Prod.fst HE.out)
      have HE2 := Lib.hid (show P2 = some p by rw [show P2 = some (k + x) from congrArg Prod.snd HE.out, show k + x = p by omega])
      go_wp2_with fail
      replace H := H.drew
      have z1 := H.atM (f1 := intN) 0 rfl (j := 0) (x := x) rfl
      simp only [intN] at z1
      refine wp_region_held_drew (S := fun w' => w'.cell? ⟨g, 0, none⟩ = some (.int .i64 (x : Int))) (by kernel_rfl) ?_ (fun hHeld => ?_)
      · exact z1
      obtain ⟨u0, hu0⟩ : ∃ uu : World, uu = w1.drew := ⟨_, rfl⟩
      rw [← hu0] at H hHeld ⊢
      clear hu0
      refine wpT 0 ?_
      refine wpT 1 ?_
      refine wpT 2 ?_
      refine wpT 3 ?_
      refine wpT 4 ?_
      refine wpT 5 ?_
      refine wpT 6 ?_
      refine wpT 7 ?_
      refine wpT 8 ?_
      refine wpT 9 ?_
      refine wpT 10 ?_
      refine wpT 11 ?_
      refine wpT 12 ?_
      refine wpT 13 ?_
      refine wpT 14 ?_
      refine wpAnyH_done (by kernel_rfl) ?_ _
      go_wp2_with fail
      go_ret2
      rw [HE1.out, HE2.out, ← HT1.out]
      exact ⟨rfl, H.fr⟩
end Go.Proofs.YtaogikhpglcmjaaGreatDoor

namespace Go.Proofs.YtaogikhpglcmjaaGreatDoor
open Go.RowKit

set_option linter.unusedVariables false
set_option linter.unusedSimpArgs false
theorem marks_len (l : List Nod) : ∀ (es : List EntT) (s : BS), (es.foldl (markE l) s).1.length = s.1.length ∧ (es.foldl (markE l) s).2.length = s.2.length
  | [], s => ⟨rfl, rfl⟩
  | e :: es, s => by
    obtain ⟨h1, h2⟩ := marks_len l es (markE l s e)
    obtain ⟨h3, h4⟩ := markE_len l s e
    exact ⟨h1.trans h3, h2.trans h4⟩
theorem marks_take {l : List Nod} {es : List EntT} {k : Nat} {e : EntT} (h : es[k]? = some e) (s : BS) : (es.take (k + 1)).foldl (markE l) s = markE l ((es.take k).foldl (markE l) s) e := by
  rw [List.take_add_one, h, List.foldl_append]; rfl
theorem goes_succ (l : List Nod) (s : BS) (i : Nat) : (List.range (i + 1)).foldl (goI l) s = goI l ((List.range i).foldl (goI l) s) i := by
  rw [List.range_succ, List.foldl_append]; rfl
theorem goI_on_ {l : List Nod} {s : BS} {i : Nat} {x : Nod} (h : l[i]? = some x) (ho : s.2[i]? = some true) : goI l s i = x.2.2.2.2.foldl (markE l) s := by rw [goI, h]; exact if_pos ho
theorem goI_off {l : List Nod} {s : BS} {i : Nat} {x : Nod} (h : l[i]? = some x) (ho : s.2[i]? = some false) : goI l s i = s := by rw [goI, h]; exact if_neg (by rw [ho]; simp)
set_option maxRecDepth 100000 in
set_option maxHeartbeats 8000000 in
theorem specBelow_any (next : Int) (A : Option Addr) (n c : Nat) (L : List (Value × Nod)) (id : Int) (w : World) (h : RdN w A n L) (hn : n ≤ 1048576) (hfew : FewE L) :
    Calls Tryz.prog 72 #[.agg #[.int .i64 next, .slice A n c], .int .i64 id] w (Made w 4 1 n ((belowS (nodes L) id).map Value.bool)) := by
  have HL := Lib.hid h.len
  have HNL := Lib.hid (show (nodes L).length = n by rw [nodes_len]; exact h.len)
  have HR := Lib.hid h
  have HFE := Lib.hid hfew
  have H := (Hp.start w).lay_ 26 [.int .i64 next, .slice A n c] rfl
  have y1 := H.bat 0 rfl (j := 1) rfl
  clear h hfew
  obtain ⟨BB, hBB⟩ : ∃ x, x = belowS (nodes L) id := ⟨_, rfl⟩
  rw [← hBB]
  have HBB := Lib.hid hBB
  clear hBB
  go_enter Tryz.func72, Tryz.ntmps72
  go_wp2_with (at_make; refine wp_mk (H) rfl _ _ _ rfl Tryz.underlying109 infoBool rfl rfl (n) _ _ _ _ rfl rfl rfl rfl (by first | omega | (simp; done) | (simp; omega)) (by first | (simp only [maxLen]; omega) | (simp [maxLen]; done) | (simp [maxLen]; omega)) ?_)
  intro w1 H_
  have H1 : Hp [] w w1 [.row 4 1 (.slice (some ⟨w.heap.size + 1, 0, none⟩) n n) n ((List.replicate n false).map Value.bool), .blk w.heap.size 26 [.int .i64 next, .slice A n c]] := H_.recast (by simp)
  clear H_ H y1
  have y1 := H1.bat 1 rfl (j := 1) rfl
  have hg12 := H1.lt 0 rfl (g := w.heap.size + 1) rfl
  go_wp2_with (at_make; refine wp_mk (H1) rfl _ _ _ rfl Tryz.underlying109 infoBool rfl rfl (n) _ _ _ _ rfl rfl rfl rfl (by first | omega | (simp; done) | (simp; omega)) (by first | (simp only [maxLen]; omega) | (simp [maxLen]; done) | (simp [maxLen]; omega)) ?_)
  intro w2 H_
  have H : Hp [] w w2 [.row 4 1 (.slice (some ⟨w1.heap.size, 0, none⟩) n n) n ((List.replicate n false).map Value.bool), .row 4 1 (.slice (some ⟨w.heap.size + 1, 0, none⟩) n n) n ((List.replicate n false).map Value.bool), .blk w.heap.size 26 [.int .i64 next, .slice A n c]] := H_.recast (by simp)
  clear H_ H1 y1
  obtain ⟨g1, hg1⟩ : ∃ x, x = w.heap.size + 1 := ⟨_, rfl⟩
  obtain ⟨g2, hg2⟩ : ∃ x, x = w1.heap.size := ⟨_, rfl⟩
  rw [← hg1, ← hg2] at H ⊢
  rw [← hg1, ← hg2] at hg12
  have HG1 := Lib.hid hg1
  have HG2 := Lib.hid hg2
  clear hg1 hg2
  have hne1 : ¬ g1 = g2 := by omega
  have hne2 : ¬ g2 = g1 := by omega
  have y0 := H.bat 2 rfl (j := 0) rfl
  have y1 := H.bat 2 rfl (j := 1) rfl
  go_wp2_with fail
  refine (specAt_any next A n c L id _ (HR.out.fr H.fr) hn).mono ?_
  rintro e w3 ⟨rfl, f9⟩
  replace H := H.go f9
  clear f9 y0 y1
  rcases atZ_cases (nodes L) id with ⟨hza, hzn⟩ | ⟨a, hza, hzn, hal⟩
  · rw [hza]
    have HE := Lib.hid (show BB = List.replicate n false by rw [HBB.out, belowS, hzn]; simp only [HNL.out])
    clear hza hzn
    have H9 := Lib.hid (H.toMade 1 rfl)
    clear H
    go_wp2_with fail
    go_ret
    rw [HE.out]
    exact H9.out
  · rw [hza]
    rw [HNL.out] at hal
    have ha0 : (0 : Int) ≤ (a : Int) := by omega
    have ha1 : (a : Int) < (n : Int) := by omega
    have ha2 : ¬ (a : Int) < 0 := by omega
    obtain ⟨s0, hs0⟩ : ∃ x, x = start0 (nodes L) a := ⟨_, rfl⟩
    have HS0 := Lib.hid (show s0.1 = List.replicate n false ∧ s0.2 = (List.replicate n false).set a true by rw [hs0, start0, HNL.out]; exact ⟨rfl, rfl⟩)
    have HE := Lib.hid (show BB = (roundsS (nodes L) s0 n).1 by rw [HBB.out, belowS, hzn]; simp only [HNL.out, hs0])
    have HBS := Lib.hid (show Bs (nodes L) id s0 by rw [hs0]; exact start0_Bs hzn)
    clear hza hzn hs0
    have e0 := H.free 0 rfl a
    have e1 := H.atM (f1 := Value.bool) 0 rfl (j := a) (x := false) (by simp [List.getElem?_replicate, hal])
    have H2 := H.putM (f1 := Value.bool) 0 rfl a true
    have H3 : Hp [] w (w3.setCell ⟨g2, a, none⟩ (.bool true)) [.row 4 1 (.slice (some ⟨g2, 0, none⟩) n n) n (s0.2.map Value.bool), .row 4 1 (.slice (some ⟨g1, 0, none⟩) n n) n (s0.1.map Value.bool), .blk w.heap.size 26 [.int .i64 next, .slice A n c]] := H2.recast (by rw [HS0.out.1, HS0.out.2]; rfl)
    clear H H2
    have y1 := H3.bat 2 rfl (j := 1) rfl
    go_wp2_with fail
    go_loopw [8] (fun rv wr => ∃ r : Nat, rv = .int .i64 r ∧ r ≤ n ∧ Hp [] w wr [.row 4 1 (.slice (some ⟨g2, 0, none⟩) n n) n ((roundsS (nodes L) s0 r).2.map Value.bool), .row 4 1 (.slice (some ⟨g1, 0, none⟩) n n) n ((roundsS (nodes L) s0 r).1.map Value.bool), .blk w.heap.size 26 [.int .i64 next, .slice A n c]]) (fun rv _ => n - (intOf rv).toNat)
    case atStart => exact ⟨0, rfl, by omega, H3⟩
    case round =>
      clear H3 y1 e0 e1
      obtain ⟨r, rfl, hr, H⟩ := hrel
      have y1 := H.bat 2 rfl (j := 1) rfl
      have hr0 : (0 : Int) ≤ (r : Int) := by omega
      by_cases hrn : r < n
      · have hr1 : (r : Int) < (n : Int) := by omega
        obtain ⟨t0, ht0⟩ : ∃ x, x = roundsS (nodes L) s0 r := ⟨_, rfl⟩
        rw [← ht0] at H
        have HT0 := Lib.hid (show roundsS (nodes L) s0 (r + 1) = (List.range n).foldl (goI (nodes L)) t0 by rw [roundsS, roundS, HNL.out, ht0])
        have HBS0 := Lib.hid (show Bs (nodes L) id t0 by rw [ht0]; exact HBS.out.rounds r)
        clear ht0
        go_wp2_with fail
        clear y1
        have H1 := H
        clear H
        go_loopw [9] (fun iv wr => ∃ i : Nat, iv = .int .i64 i ∧ i ≤ n ∧ Hp [] w wr [.row 4 1 (.slice (some ⟨g2, 0, none⟩) n n) n (((List.range i).foldl (goI (nodes L)) t0).2.map Value.bool), .row 4 1 (.slice (some ⟨g1, 0, none⟩) n n) n (((List.range i).foldl (goI (nodes L)) t0).1.map Value.bool), .blk w.heap.size 26 [.int .i64 next, .slice A n c]]) (fun iv _ => n - (intOf iv).toNat)
        case atStart => exact ⟨0, rfl, by omega, H1⟩
        case round =>
          clear H1
          obtain ⟨i, rfl, hi, H⟩ := hrel
          have y1 := H.bat 2 rfl (j := 1) rfl
          have hi0 : (0 : Int) ≤ (i : Int) := by omega
          by_cases hin : i < n
          · have hi1 : (i : Int) < (n : Int) := by omega
            obtain ⟨t1, ht1⟩ : ∃ x, x = (List.range i).foldl (goI (nodes L)) t0 := ⟨_, rfl⟩
            rw [← ht1] at H
            have HBS1 := Lib.hid (show Bs (nodes L) id t1 by rw [ht1]; exact HBS0.out.goes _)
            have HT1 := Lib.hid (show (List.range (i + 1)).foldl (goI (nodes L)) t0 = goI (nodes L) t1 i by rw [goes_succ, ht1])
            clear ht1
            obtain ⟨⟨v, x0, x1, x2, x3, es⟩, hx⟩ := some_at HL.out hin
            have hm := HFE.out _ (List.mem_of_getElem? hx)
            obtain ⟨bk, of, B1, d1, rfl, e1, rr1, c1⟩ := (HR.out.fr H.fr).elem hx
            simp only at e1 rr1 hm
            subst e1
            have HNX := Lib.hid (nodes_at hx)
            simp only at HNX
            have HRE := Lib.hid (show ∀ w', Fr w w' → Rd w' B1 es.length 4 (es.flatMap cEnt) ∧ w'.cell? ⟨bk, of + i * 5 + 4, none⟩ = some (.slice B1 es.length d1) from fun w' f => by
              obtain ⟨b', o', B2, d2, ea, e2, r2, cc⟩ := (HR.out.fr f).elem hx
              injection ea with ea; injection ea with ea eb; subst ea eb
              simp only at e2 r2
              have c4 := cc 4 _ rfl
              injection e2 with e2 _ e3
              subst e2 e3
              exact ⟨r2, c4⟩)
            obtain ⟨m, hmm⟩ : ∃ m, m = es.length := ⟨_, rfl⟩
            have HEM := Lib.hid hmm.symm
            rw [← hmm] at hm HRE
            clear hx c1 rr1 hmm
            obtain ⟨o, ho⟩ : ∃ o, t1.2[i]? = some o := ⟨_, List.getElem?_eq_getElem (by rw [HBS1.out.l2, HNL.out]; exact hin)⟩
            have HO := Lib.hid ho
            clear ho
            go_wp2_with fail
            clear y1
            have H1 := H
            clear H
            go_loopw [10] (fun kv wr => ∃ k : Nat, kv = .int .i64 k ∧ k ≤ m ∧ (o = true ∨ k = 0) ∧ Hp [] w wr [.row 4 1 (.slice (some ⟨g2, 0, none⟩) n n) n (((es.take k).foldl (markE (nodes L)) t1).2.map Value.bool), .row 4 1 (.slice (some ⟨g1, 0, none⟩) n n) n (((es.take k).foldl (markE (nodes L)) t1).1.map Value.bool), .blk w.heap.size 26 [.int .i64 next, .slice (some ⟨bk, of, none⟩) n c]]) (fun kv _ => m - (intOf kv).toNat)
            case atStart => exact ⟨0, rfl, by omega, .inr rfl, H1⟩
            case round =>
              clear H1
              obtain ⟨k, rfl, hk, hok, H⟩ := hrel
              have y1 := H.bat 2 rfl (j := 1) rfl
              have y4 := (HRE.out _ H.fr).2
              have hk0 : (0 : Int) ≤ (k : Int) := by omega
              cases o with
              | false =>
                have hk00 : k = 0 := hok.resolve_left (by simp)
                have HT2 := Lib.hid (show (List.range (i + 1)).foldl (goI (nodes L)) t0 = (es.take k).foldl (markE (nodes L)) t1 by
                  rw [HT1.out, goI_off HNX.out HO.out, hk00]; rfl)
                have c0 := H.atM (f1 := Value.bool) 0 rfl (j := i) (x := false) (by rw [hk00]; exact HO.out)
                clear hk00
                go_wp2_with fail
                go_roundw
                case rel => exact ⟨i + 1, by go_num, by omega, by rw [HT2.out]; exact H⟩
                case measure => simp [intOf]; omega
              | true =>
                obtain ⟨t2, ht2⟩ : ∃ x, x = (es.take k).foldl (markE (nodes L)) t1 := ⟨_, rfl⟩
                rw [← ht2] at H
                have ho2 : t2.2[i]? = some true := by rw [ht2]; exact (marks_on _ _).2 HO.out
                have hl1 : t2.1.length = n := by rw [ht2, (marks_len _ _ _).1, HBS1.out.l1, HNL.out]
                have hl2 : t2.2.length = n := by rw [ht2, (marks_len _ _ _).2, HBS1.out.l2, HNL.out]
                have HT2 := Lib.hid ht2
                clear ht2
                have c0 := H.atM (f1 := Value.bool) 0 rfl (j := i) (x := true) ho2
                have HO2 := Lib.hid ho2
                clear ho2
                by_cases hkm : k < m
                · have hk1 : (k : Int) < (m : Int) := by omega
                  obtain ⟨⟨z0, z1, z2, y3⟩, hy⟩ := some_at HEM.out hkm
                  obtain ⟨bq, oq, rfl, _⟩ := (HRE.out _ H.fr).1.elem cEnt_len hy (by omega)
                  have HE4 := Lib.hid (show ∀ w', Fr w w' → w'.cell? ⟨bk, of + i * 5 + 4, none⟩ = some (.slice (some ⟨bq, oq, none⟩) m d1) from fun w' f => (HRE.out _ f).2)
                  have HE3 := Lib.hid (show ∀ w', Fr w w' → w'.cell? ⟨bq, oq + k * 4 + 3, none⟩ = some (.int .i64 y3) from fun w' f => by
                    obtain ⟨b', o', e, hc⟩ := (HRE.out _ f).1.elem cEnt_len hy (by omega)
                    injection e with e; injection e with e1 e2; subst e1 e2
                    exact hc 3 _ rfl)
                  have HMT := Lib.hid (marks_take (l := nodes L) hy t1)
                  clear hy
                  obtain ⟨z, hz⟩ : ∃ z, z = atZ (nodes L) y3 := ⟨_, rfl⟩
                  have HZ := Lib.hid hz
                  clear hz
                  go_wp2_with fail
                  clear y1 y4 c0
                  replace H := H.drew
                  have y0 := H.bat 2 rfl (j := 0) rfl
                  have y1 := H.bat 2 rfl (j := 1) rfl
                  have y4 := HE4.out _ H.fr
                  have y5 := HE3.out _ H.fr
                  refine wp_region_held_drew (S := fun w' => w'.cell? ⟨w.heap.size, 0, none⟩ = some (.int .i64 next) ∧ w'.cell? ⟨w.heap.size, 1, none⟩ = some (.slice (some ⟨bk, of, none⟩) n c) ∧ w'.cell? ⟨bk, of + i * 5 + 4, none⟩ = some (.slice (some ⟨bq, oq, none⟩) m d1) ∧ w'.cell? ⟨bq, oq + k * 4 + 3, none⟩ = some (.int .i64 y3)) (by kernel_rfl) ?_ (fun hHeld => ?_)
                  · exact ⟨y0, y1, y4, y5⟩
                  obtain ⟨u0, hu0⟩ : ∃ uu : World, uu = wr.drew := ⟨_, rfl⟩
                  rw [← hu0] at H hHeld ⊢
                  clear hu0
                  refine wpT 0 ?_
                  refine wpT 1 ?_
                  refine wpT 2 ?_
                  refine wpT 3 ?_
                  refine wpT 4 ?_
                  refine wpT 5 ?_
                  refine wpT 6 ?_
                  refine wpT 7 ?_
                  refine wpT 8 ?_
                  refine wpT 9 ?_
                  refine wpT 10 ?_
                  refine wpC 11 fun K hK => ?_
                  go_simp
                  refine (specAt_any next _ n c L y3 _ (HR.out.fr H.fr) hn).mono ?_
                  rintro e u1 ⟨rfl, f9⟩
                  replace H := H.go f9
                  clear f9
                  rw [← HZ.out]
                  go_wp2_with fail
                  refine hK.out _ _ ?_ (fun hHeld => ?_)
                  · exact ⟨H.bat 2 rfl (j := 0) rfl, H.bat 2 rfl (j := 1) rfl, HE4.out _ H.fr, HE3.out _ H.fr⟩
                  clear hK K
                  try simp only [sA, sB, sC, Act.put, sD, sE, sF]
                  refine wpT 12 ?_
                  refine wpAnyH_done (by kernel_rfl) ?_ _
                  clear y0 y1 y4 y5
                  rcases atZ_cases (nodes L) y3 with ⟨hza, hzn⟩ | ⟨a, hza, hzn, hal⟩
                  · have hz1 : z = -1 := HZ.out.trans hza
                    subst hz1
                    have HT3 := Lib.hid (show (es.take (k + 1)).foldl (markE (nodes L)) t1 = t2 by rw [HMT.out, ← HT2.out, markE, hzn])
                    clear hza hzn
                    go_wp2_with fail
                    go_roundw
                    case rel => exact ⟨k + 1, by go_num, by omega, .inl (by trivial), by rw [HT3.out]; exact H⟩
                    case measure => simp [intOf]; omega
                  · have hz1 : z = (a : Int) := HZ.out.trans hza
                    subst hz1
                    rw [HNL.out] at hal
                    have HT3 := Lib.hid (show (es.take (k + 1)).foldl (markE (nodes L)) t1 = (t2.1.set a true, t2.2.set a true) by rw [HMT.out, ← HT2.out, markE, hzn])
                    have ha0 : (0 : Int) ≤ (a : Int) := by omega
                    have ha1 : (a : Int) < (n : Int) := by omega
                    clear hza hzn
                    obtain ⟨b1, hb1⟩ : ∃ b, t2.1[a]? = some b := ⟨_, List.getElem?_eq_getElem (by omega)⟩
                    obtain ⟨b2, hb2⟩ : ∃ b, t2.2[a]? = some b := ⟨_, List.getElem?_eq_getElem (by omega)⟩
                    have c1 := H.atM (f1 := Value.bool) 1 rfl hb1
                    have c2 := H.atM (f1 := Value.bool) 0 rfl hb2
                    have q1 := H.free 1 rfl a
                    have q2 := H.free 0 rfl a
                    have H5 := H.putM (f1 := Value.bool) 1 rfl a true
                    have c3 := H5.atM (f1 := Value.bool) 0 rfl hb2
                    have q3 := H5.free 0 rfl a
                    have H6 := H5.putM (f1 := Value.bool) 0 rfl a true
                    have H7 := Lib.hid H6
                    clear hb1 hb2 H H5 H6
                    go_wp2_with fail
                    go_roundw
                    case rel => exact ⟨k + 1, by go_num, by omega, .inl (by trivial), by rw [HT3.out]; exact H7.out⟩
                    case measure => simp [intOf]; omega
                · have hk1 : ¬ (k : Int) < (m : Int) := by omega
                  have HT3 := Lib.hid (show (List.range (i + 1)).foldl (goI (nodes L)) t0 = t2 by
                    rw [HT1.out, goI_on_ HNX.out HO.out, HT2.out, List.take_of_length_le (by rw [HEM.out]; omega)])
                  go_wp2_with fail
                  go_roundw
                  case rel => exact ⟨i + 1, by go_num, by omega, by rw [HT3.out]; exact H⟩
                  case measure => simp [intOf]; omega
          · have hi1 : ¬ (i : Int) < (n : Int) := by omega
            have HT1 := Lib.hid (show roundsS (nodes L) s0 (r + 1) = (List.range i).foldl (goI (nodes L)) t0 by rw [HT0.out, show i = n by omega])
            go_wp2_with fail
            go_roundw
            case rel => exact ⟨r + 1, by go_num, by omega, by rw [HT1.out]; exact H⟩
            case measure => simp [intOf]; omega
      · have hr1 : ¬ (r : Int) < (n : Int) := by omega
        have HE2 := Lib.hid (show BB = (roundsS (nodes L) s0 r).1 by rw [HE.out, show r = n by omega])
        have H9 := Lib.hid (H.toMade 1 rfl)
        go_wp2_with fail
        go_ret
        rw [HE2.out]
        exact H9.out
end Go.Proofs.YtaogikhpglcmjaaGreatDoor
