/-
  SetRun: the program and the reference set the same flags.
-/
import Derived.Test.YtcpijfioipgoeaaMSetRun
import Derived.Test.YtcpijfioipgoeaaInfo
import Derived.Test.YtcpijfioipgoeaaWithin
import Derived.Test.YtcpijfioipgoeaaBitsOk
namespace Go.Proofs.Ytcpijfioipgoeaa
open Go.RowKit

theorem one_bools (bs : List Bool) : ∀ u ∈ bs.map Value.bool, u.oneCell' = true := fun u hu => by
  obtain ⟨b, _, rfl⟩ := List.mem_map.1 hu
  rfl
theorem own_cap {w : World} {base : Nat} {e : TypeId} {k n c : Nat} {A : Option Addr} {xs : List Value} (h : w.ownsRow base e k (.slice A n c) n xs) (hA : A = none) : c = 0 := by
  rcases h.2 with ⟨e, _⟩ | ⟨g, cap, cur, e, _⟩
  · injection e
  · injection e with e1
    rw [hA] at e1
    cases e1
/-- What SetRun hands back. -/
def SetR (w : World) (bs : List Bool) (a m : Int) (v : Bool) (e : Ending) (w' : World) : Prop :=
  ∃ B d k, e = .returned (.tuple #[.slice B k d, .bool (setOk bs a m v)]) ∧ k = (setRes bs a m v).length ∧ Hp [] w w' [.row 4 1 (.slice B k d) k ((setRes bs a m v).map Value.bool)]
theorem setR_bad {w w' : World} {bs : List Bool} {a m : Int} {v : Bool} {B : Option Addr} {d : Nat} {e : Ending} (hl : bs.length ≠ 24) (he : e = .returned (.tuple #[.slice B 0 d, .bool false])) (H : Hp [] w w' [.row 4 1 (.slice B 0 d) 0 []]) : SetR w bs a m v e w' := by
  have h1 : setOk bs a m v = false := by simp [setOk, hl]
  have h2 : setRes bs a m v = [] := by rw [setRes, if_neg hl]
  exact ⟨B, d, 0, by rw [h1]; exact he, by rw [h2]; rfl, by rw [h2]; exact H⟩
theorem setR_no {w w' : World} {bs : List Bool} {a m : Int} {v : Bool} {B : Option Addr} {d : Nat} {e : Ending} (hl : bs.length = 24) (ho : setOk bs a m v = false) (he : e = .returned (.tuple #[.slice B 24 d, .bool false])) (H : Hp [] w w' [.row 4 1 (.slice B 24 d) 24 (bs.map Value.bool)]) : SetR w bs a m v e w' := by
  have h2 : setRes bs a m v = bs := by rw [setRes, if_pos hl, if_neg (by simp [ho])]
  exact ⟨B, d, 24, by rw [ho]; exact he, by rw [h2, hl], by rw [h2]; exact H⟩
theorem setR_yes {w w' : World} {bs : List Bool} {a m : Nat} {v : Bool} {B : Option Addr} {d : Nat} {e : Ending} (hl : bs.length = 24) (ha : a ≤ 23) (hm : 1 ≤ m) (hb : a + m ≤ 24) (hn : noneV bs a v m = true) (he : e = .returned (.tuple #[.slice B 24 d, .bool true])) (H : Hp [] w w' [.row 4 1 (.slice B 24 d) 24 ((setN bs a v m).map Value.bool)]) : SetR w bs a m v e w' := by
  have ho : setOk bs a m v = true := setOk_iff.2 ⟨hl, by omega, by omega, hn⟩
  have h2 : setRes bs a m v = setN bs a v m := by rw [setRes, if_pos hl, if_pos ho]; rfl
  exact ⟨B, d, 24, by rw [ho]; exact he, by rw [h2, setN_len, hl], by rw [h2]; exact H⟩
theorem setOk_no {bs : List Bool} {a m : Int} {v : Bool} (h : ¬ (0 ≤ a ∧ a ≤ 23) ∨ ¬ (1 ≤ m ∧ m ≤ 24 - a)) : setOk bs a m v = false := by
  cases e : setOk bs a m v with
  | false => rfl
  | true =>
    have h1 := setOk_iff.1 e
    rcases h with h | h
    · exact absurd h1.2.1 h
    · exact absurd h1.2.2.1 h
theorem setOk_stop {bs : List Bool} {a m j : Nat} {v : Bool} (hj : j < m) (hx : bs[a + j]? = some v) : setOk bs a m v = false := by
  cases e : setOk bs a m v with
  | false => rfl
  | true =>
    have h1 := (setOk_iff.1 e).2.2.2
    have h2 := noneV_stop hj hx
    simp only [Int.toNat_natCast] at h1
    rw [h1] at h2
    cases h2

set_option maxRecDepth 100000 in
set_option maxHeartbeats 4000000 in
theorem implSetRun_any (A : Option Addr) (n c : Nat) (bs : List Bool) (a m : Int) (v : Bool) (w : World) (h : Rd w A n 1 (bs.map Value.bool)) (hc : A = none → c = 0) (ia : -9223372036854775808 ≤ a ∧ a ≤ 9223372036854775807) (im : -9223372036854775808 ≤ m ∧ m ≤ 9223372036854775807) :
    Calls Try.prog 7 #[.slice A n c, .int .i64 a, .int .i64 m, .bool v] w fun e w' => SetR w bs a m v e w' := by
  have hlen := h.len1
  by_cases hn : n = 24
  · subst hn
    have HL := Lib.hid hlen
    have HR := Lib.hid h
    obtain ⟨ia1, ia2⟩ := ia
    obtain ⟨im1, im2⟩ := im
    have G := Lib.hid h
    have HC := Lib.hid hc
    clear h hlen
    go_enter Try.func7, Try.ntmps7
    go_wp2_with fail
    refine (implBitsOk_any A 24 c _).mono ?_
    rintro e w1 ⟨rfl, rfl⟩
    go_wp2_with (at_builtin; refine wp_appRd ((Hp.start w).nil_ 4 1) rfl _ _ _ rfl Try.underlying24 infoBool rfl (by decide) 0 _ _ _ rfl rfl _ _ _ _ rfl hc (G.out) (one_bools bs) (by simp [maxLen]) (by omega) ?_)
    intro v' w2 H2_
    have H2 : Hp [] w w2 [.row 4 1 v' 24 (bs.map Value.bool)] := by simpa using H2_
    clear H2_ G
    obtain ⟨g, d, rfl, hg⟩ := H2.form 0 rfl (by decide)
    clear hg
    by_cases hA : 0 ≤ a ∧ a ≤ 23
    · have hA1 : inB a 0 23 = true := inB_iff.2 hA
      by_cases hM : 1 ≤ m ∧ m ≤ 24 - a
      · have hM1 : inB m 1 (24 - a) = true := inB_iff.2 hM
        have hw24 : IntKind.i64.wrap (24 - a) = 24 - a := IntWalk.i64_in _ (by omega)
        go_wp2_with fail
        refine (within_any _ _ _ _).mono ?_
        rintro e w3 ⟨rfl, rfl⟩
        rw [hA1]
        go_wp2_with fail
        refine (within_any _ _ _ _).mono ?_
        rintro e w4 ⟨rfl, rfl⟩
        rw [hM1]
        clear hA1 hM1 hw24
        obtain ⟨aN, rfl⟩ := Int.eq_ofNat_of_zero_le hA.1
        obtain ⟨mN, rfl⟩ := Int.eq_ofNat_of_zero_le (show 0 ≤ m by omega)
        have hb : aN + mN ≤ 24 := by omega
        have hm1 : 1 ≤ mN := by omega
        have ha1 : aN ≤ 23 := by omega
        clear hA hM
        obtain ⟨q, hq⟩ : ∃ q : Nat, q = aN + mN := ⟨_, rfl⟩
        have hwq : IntKind.i64.wrap ((aN : Int) + (mN : Int)) = (q : Int) := by rw [IntWalk.i64_in _ (by omega)]; omega
        have HQ := Lib.hid hq
        have hq24 : q ≤ 24 := by omega
        clear hq
        go_wp2_with fail
        go_loopw [11] (fun i wr => ∃ j p : Nat, j ≤ mN ∧ p = aN + j ∧ i = .int .i64 p ∧ noneV bs aN v j = true ∧ Hp [] w wr [.row 4 1 (.slice (some ⟨g, 0, none⟩) 24 d) 24 ((setN bs aN v j).map Value.bool)]) (fun i _ => 24 - (intOf i).toNat)
        case atStart => exact ⟨0, aN, by omega, by omega, rfl, noneV_zero _ _ _, H2⟩
        case round =>
          clear H2
          obtain ⟨j, p, hj, hp, rfl, hnv, H⟩ := hrel
          have HP := Lib.hid hp
          have HN := Lib.hid hnv
          clear hnv
          by_cases hlt : p < q
          · have hjm : j < mN := by have := HQ.out; omega
            have hp24 : p < 24 := by omega
            obtain ⟨x, hx⟩ := at_some HL.out hp24
            have hR := H.old HR.out
            have HA := Lib.hid (H.old HR.out)
            obtain ⟨b1, o1, rfl, cs⟩ := hR.get1 hx
            have HX := Lib.hid hx
            clear hx hR hp
            by_cases hxv : x = v
            · subst hxv
              go_wp2_with (at_builtin; refine wp_appRd (H.nil_ 4 1) rfl _ _ _ rfl Try.underlying24 infoBool rfl (by decide) 0 _ _ _ rfl rfl _ _ _ _ rfl HC.out (HA.out) (one_bools bs) (by simp [maxLen]) (by omega) ?_)
              intro v' w6 H6_
              obtain ⟨B6, d6, rfl⟩ := H6_.shape 0 rfl
              have H6 := H6_.sub (l' := [.row 4 1 (.slice B6 24 d6) 24 (bs.map Value.bool)]) (by simp)
              clear H6_
              go_wp2_with fail
              go_ret2
              exact setR_no HL.out (setOk_stop hjm (by rw [← HP.out]; exact HX.out)) rfl H6
            · obtain rfl : x = !v := by cases x <;> cases v <;> simp_all
              have hne : ((!v) == v) = false := by cases v <;> rfl
              have HXN := Lib.hid (noneV_succ HN.out (by rw [← HP.out]; exact HX.out))
              have e0 := H.free 0 rfl p
              have ⟨y, hy⟩ : ∃ y, wr.cell? ⟨g, p, none⟩ = some y := by
                obtain ⟨y, hy⟩ := at_some (show (setN bs aN v j).length = 24 by rw [setN_len]; exact HL.out) hp24
                exact ⟨_, H.atM 0 rfl hy⟩
              have H6 := Lib.hid (H.putM (f1 := Value.bool) 0 rfl p v)
              clear H hxv
              go_wp2_with fail
              go_roundw
              case rel => exact ⟨j + 1, p + 1, by omega, by have := HP.out; omega, by go_num, HXN.out, by have h9 := H6.out; rw [HP.out] at h9 ⊢; exact h9⟩
              case measure => simp [intOf]; omega
          · have hjm : j = mN := by have := HQ.out; omega
            clear hp
            go_wp2_with fail
            go_ret2
            exact setR_yes HL.out ha1 hm1 hb (by rw [← hjm]; exact HN.out) rfl (by rw [← hjm]; exact H)
      · have hM1 : inB m 1 (24 - a) = false := by cases e : inB m 1 (24 - a) with | false => rfl | true => exact absurd (inB_iff.1 e) hM
        have hw24 : IntKind.i64.wrap (24 - a) = 24 - a := IntWalk.i64_in _ (by omega)
        go_wp2_with fail
        refine (within_any _ _ _ _).mono ?_
        rintro e w3 ⟨rfl, rfl⟩
        rw [hA1]
        go_wp2_with fail
        refine (within_any _ _ _ _).mono ?_
        rintro e w4 ⟨rfl, rfl⟩
        rw [hM1]
        go_wp2_with fail
        go_ret2
        exact setR_no HL.out (setOk_no (.inr hM)) rfl H2
    · have hA1 : inB a 0 23 = false := by cases e : inB a 0 23 with | false => rfl | true => exact absurd (inB_iff.1 e) hA
      go_wp2_with fail
      refine (within_any _ _ _ _).mono ?_
      rintro e w3 ⟨rfl, rfl⟩
      rw [hA1]
      go_wp2_with fail
      go_ret2
      exact setR_no HL.out (setOk_no (.inl hA)) rfl H2
  · go_enter Try.func7, Try.ntmps7
    go_wp2_with fail
    refine (implBitsOk_any A n c _).mono ?_
    rintro e w1 ⟨rfl, rfl⟩
    rw [decide_eq_false hn]
    go_wp2_with fail
    go_ret2
    exact setR_bad (by omega) rfl ((Hp.start w).nil_ 4 1)

set_option maxRecDepth 100000 in
set_option maxHeartbeats 4000000 in
theorem specSetRun_any (A : Option Addr) (n c : Nat) (bs : List Bool) (a m : Int) (v : Bool) (w : World) (h : Rd w A n 1 (bs.map Value.bool)) (hc : A = none → c = 0) (ia : -9223372036854775808 ≤ a ∧ a ≤ 9223372036854775807) (im : -9223372036854775808 ≤ m ∧ m ≤ 9223372036854775807) :
    Calls Try.prog 8 #[.slice A n c, .int .i64 a, .int .i64 m, .bool v] w fun e w' => SetR w bs a m v e w' := by
  have hlen := h.len1
  by_cases hn : n = 24
  · subst hn
    have HL := Lib.hid hlen
    have HR := Lib.hid h
    obtain ⟨ia1, ia2⟩ := ia
    obtain ⟨im1, im2⟩ := im
    have G := Lib.hid (h.fr ((Hp.start w).lit0 4 1).fr)
    have HC := Lib.hid hc
    clear h hlen
    go_enter Try.func8, Try.ntmps8
    go_wp2_with fail
    refine (specBitsOk_any A 24 c _).mono ?_
    rintro e w1 ⟨rfl, rfl⟩
    go_wp2_with (at_builtin; refine wp_appRd ((Hp.start w).lit0 4 1) rfl _ _ _ rfl Try.underlying24 infoBool rfl (by decide) 0 _ _ _ rfl rfl _ _ _ _ rfl hc (G.out) (one_bools bs) (by simp [maxLen]) (by omega) ?_)
    intro v' w2 H2_
    have H2 : Hp [] w w2 [.row 4 1 v' 24 (bs.map Value.bool)] := by simpa using H2_
    clear H2_ G
    obtain ⟨g, d, rfl, hg⟩ := H2.form 0 rfl (by decide)
    clear hg
    by_cases hA : m < 1
    · go_wp2_with fail
      go_ret2
      exact setR_no HL.out (setOk_no (.inr (by omega))) rfl H2
    by_cases hB : 24 < m
    · go_wp2_with fail
      go_ret2
      exact setR_no HL.out (setOk_no (by omega)) rfl H2
    by_cases hC : a < 0
    · go_wp2_with fail
      go_ret2
      exact setR_no HL.out (setOk_no (.inl (by omega))) rfl H2
    have hw24 : IntKind.i64.wrap (24 - m) = 24 - m := IntWalk.i64_in _ (by omega)
    by_cases hD : 24 - m < a
    · go_wp2_with fail
      go_ret2
      exact setR_no HL.out (setOk_no (by omega)) rfl H2
    go_wp2_with fail
    clear hw24
    obtain ⟨aN, rfl⟩ := Int.eq_ofNat_of_zero_le (show 0 ≤ a by omega)
    obtain ⟨mN, rfl⟩ := Int.eq_ofNat_of_zero_le (show 0 ≤ m by omega)
    have hb : aN + mN ≤ 24 := by omega
    have hm1 : 1 ≤ mN := by omega
    have ha1 : aN ≤ 23 := by omega
    clear hA hB hC hD
    obtain ⟨q, hq⟩ : ∃ q : Nat, q = aN + mN := ⟨_, rfl⟩
    have hwq : IntKind.i64.wrap ((aN : Int) + (mN : Int)) = (q : Int) := by rw [IntWalk.i64_in _ (by omega)]; omega
    have HQ := Lib.hid hq
    have hq24 : q ≤ 24 := by omega
    clear hq
    go_wp2_with fail
    go_loopw [11] (fun i wr => ∃ j p : Nat, j ≤ mN ∧ p = aN + j ∧ i = .int .i64 p ∧ noneV bs aN v j = true ∧ Hp [] w wr [.row 4 1 (.slice (some ⟨g, 0, none⟩) 24 d) 24 ((setN bs aN v j).map Value.bool)]) (fun i _ => 24 - (intOf i).toNat)
    case atStart => exact ⟨0, aN, by omega, by omega, rfl, noneV_zero _ _ _, H2⟩
    case round =>
      clear H2
      obtain ⟨j, p, hj, hp, rfl, hnv, H⟩ := hrel
      have HP := Lib.hid hp
      have HN := Lib.hid hnv
      clear hnv
      by_cases hlt : p < q
      · have hjm : j < mN := by have := HQ.out; omega
        have hp24 : p < 24 := by omega
        obtain ⟨x, hx⟩ := at_some HL.out hp24
        have hR := H.old HR.out
        have HA := Lib.hid ((H.lit0 4 1).old HR.out)
        obtain ⟨b1, o1, rfl, cs⟩ := hR.get1 hx
        have HX := Lib.hid hx
        clear hx hR hp
        by_cases hxv : x = v
        · subst hxv
          go_wp2_with (at_builtin; refine wp_appRd (H.lit0 4 1) rfl _ _ _ rfl Try.underlying24 infoBool rfl (by decide) 0 _ _ _ rfl rfl _ _ _ _ rfl HC.out (HA.out) (one_bools bs) (by simp [maxLen]) (by omega) ?_)
          intro v' w6 H6_
          obtain ⟨B6, d6, rfl⟩ := H6_.shape 0 rfl
          have H6 := H6_.sub (l' := [.row 4 1 (.slice B6 24 d6) 24 (bs.map Value.bool)]) (by simp)
          clear H6_
          go_wp2_with fail
          go_ret2
          exact setR_no HL.out (setOk_stop hjm (by rw [← HP.out]; exact HX.out)) rfl H6
        · obtain rfl : x = !v := by cases x <;> cases v <;> simp_all
          have hne : ((!v) == v) = false := by cases v <;> rfl
          have HXN := Lib.hid (noneV_succ HN.out (by rw [← HP.out]; exact HX.out))
          have e0 := H.free 0 rfl p
          have ⟨y, hy⟩ : ∃ y, wr.cell? ⟨g, p, none⟩ = some y := by
            obtain ⟨y, hy⟩ := at_some (show (setN bs aN v j).length = 24 by rw [setN_len]; exact HL.out) hp24
            exact ⟨_, H.atM 0 rfl hy⟩
          have H6 := Lib.hid (H.putM (f1 := Value.bool) 0 rfl p v)
          clear H hxv
          go_wp2_with fail
          go_roundw
          case rel => exact ⟨j + 1, p + 1, by omega, by have := HP.out; omega, by go_num, HXN.out, by have h9 := H6.out; rw [HP.out] at h9 ⊢; exact h9⟩
          case measure => simp [intOf]; omega
      · have hjm : j = mN := by have := HQ.out; omega
        clear hp
        go_wp2_with fail
        go_ret2
        exact setR_yes HL.out ha1 hm1 hb (by rw [← hjm]; exact HN.out) rfl (by rw [← hjm]; exact H)
  · go_enter Try.func8, Try.ntmps8
    go_wp2_with fail
    refine (specBitsOk_any A n c _).mono ?_
    rintro e w1 ⟨rfl, rfl⟩
    rw [decide_eq_false hn]
    go_wp2_with fail
    go_ret2
    exact setR_bad (by omega) rfl ((Hp.start w).lit0 4 1)

end Go.Proofs.Ytcpijfioipgoeaa
