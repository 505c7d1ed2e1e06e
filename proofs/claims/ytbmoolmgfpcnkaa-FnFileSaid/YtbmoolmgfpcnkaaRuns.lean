/-
  Runs: the program and the reference make the same list of free runs, in memory of their own.
-/
import Derived.Test.YtbmoolmgfpcnkaaGb
import Derived.Test.YtbmoolmgfpcnkaaGa
namespace Go.Proofs.Ytbmoolmgfpcnkaa
open Go.RowKit

set_option maxRecDepth 100000 in
set_option maxHeartbeats 2000000 in
theorem specRuns_any (A : Option Addr) (n c : Nat) (bs : List Bool) (w : World) (h : Rd w A n 1 (bs.map .bool)) :
    Calls Try.prog 83 #[.slice A n c] w (Made w 99 2 (runs bs).length ((runs bs).flatMap cRun)) := by
  obtain ⟨i0, hi, hz0, hz1, hz2⟩ := info_parts infoRun
  have hl := h.len1
  by_cases h24 : n = 24
  · have hlen : bs.length = 24 := by omega
    have HL := Lib.hid hlen
    have HR : Hid (runs bs = runsTo bs 24) := by simp [Hid, runs, hlen]
    subst h24
    clear hl hlen
    go_enter Try.func83, Try.ntmps83
    go_wp2_with fail
    refine (specBitsOk_any _ _ _ _).mono ?_
    rintro e w' ⟨rfl, rfl⟩
    go_wp2_with fail
    go_loopw [3, 4, 5] (fun v f i wr => ∃ k : Nat, k ≤ 25 ∧ i = .int .i64 k ∧ f = .int .i64 ((stR bs k).2 : Nat) ∧ wr.ownsRow w.heap.size 99 2 v (stR bs k).1.length ((stR bs k).1.flatMap cRun) ∧ Fr w wr) (fun _ _ i _ => 25 - (intOf i).toNat)
    case atStart => exact ⟨0, by omega, rfl, rfl, World.ownsRow_lit w #[] 0 (Nat.le_refl _) (by simp [maxLen]) rfl, Fr.al (Below.refl _ _) _⟩
    case round =>
      obtain ⟨k, hk, rfl, rfl, hown, hfr⟩ := hrel
      have hinv := runs_inv bs k
      have hfk := hinv.2.1
      have hln := stR_len bs k
      generalize hst : stR bs k = st at hown hinv hfk hln
      obtain ⟨o, f⟩ := st
      simp only at hown hfk hln
      have HST := Lib.hid hst
      have HF := Lib.hid hfr
      have HO := Lib.hid hown
      clear hinv hst
      by_cases hlt : k < 24
      · obtain ⟨b, hb⟩ := some_at HL.out hlt
        obtain ⟨bk, of, rfl, hc⟩ := (h.fr hfr).get1 hb
        have HB := Lib.hid hb
        clear h hfr hown hb
        cases b
        · have HE := Lib.hid ((stR_false HB.out).trans HST.out)
          go_wp2
          go_roundw
          case rel => exact ⟨k + 1, by omega, by go_num, by rw [HE.out], by rw [HE.out]; exact HO.out, HF.out⟩
          case measure => simp [intOf]; omega
        · have HE := Lib.hid (stR_true (.inl HB.out) HST.out)
          by_cases hfk' : f < k
          · have HE2 : Hid (stR bs (k + 1) = (o ++ [((f : Int), (k : Int) - f)], k + 1)) := by have := HE.out; rwa [opn, if_pos hfk'] at this
            go_wp2_with (at_builtin; refine wpList_append_own _ rfl (.tmp 31) (.tmp 37) 96 rfl w.heap.size 99 i0 _ 2 16 Try.underlying96 hi hz0 hz1 hz2 rfl (by decide) _ _ _ rfl (HO.out.alloc _) ⟨wr.heap.size, 0, none⟩ 1 1 (cRun ((f : Int), (k : Int) - f)) rfl rfl (news_at _ _ _) (by simp [cRun, Value.oneCell']) (by simp only [maxLen]; omega) (by omega) (by have := HF.out.size; simp; omega) ?_)
            intro v' w1 hown' hgrow _
            have HO' := Lib.hid hown'
            have HF' := Lib.hid (Below.grown (Fr.al HF.out _) hgrow (by have := HF.out.size; simp; omega) (fun g hg => (HO.out.lt g hg).1))
            clear hown' hgrow
            go_wp2
            go_roundw
            case rel => exact ⟨k + 1, by omega, by go_num, by rw [HE2.out]; go_num, by rw [HE2.out]; simpa using HO'.out, HF'.out⟩
            case measure => simp [intOf]; omega
          · have HE2 : Hid (stR bs (k + 1) = (o, k + 1)) := by have := HE.out; rw [opn, if_neg hfk'] at this; exact Lib.hid (by simpa using this)
            go_wp2
            go_roundw
            case rel => exact ⟨k + 1, by omega, by go_num, by rw [HE2.out]; go_num, by rw [HE2.out]; exact HO.out, HF.out⟩
            case measure => simp [intOf]; omega
      · rcases Nat.lt_or_ge k 25 with h25 | h25
        · obtain rfl : k = 24 := by omega
          have HE := Lib.hid (stR_true (.inr HL.out) HST.out)
          clear h hfr hown
          by_cases hfk' : f < 24
          · have HE2 : Hid (stR bs (24 + 1) = (o ++ [((f : Int), ((24 : Nat) : Int) - f)], 24 + 1)) := by have := HE.out; rwa [opn, if_pos hfk'] at this
            go_wp2_with (at_builtin; refine wpList_append_own _ rfl (.tmp 31) (.tmp 37) 96 rfl w.heap.size 99 i0 _ 2 16 Try.underlying96 hi hz0 hz1 hz2 rfl (by decide) _ _ _ rfl (HO.out.alloc _) ⟨wr.heap.size, 0, none⟩ 1 1 (cRun ((f : Int), ((24 : Nat) : Int) - f)) rfl rfl (news_at _ _ _) (by simp [cRun, Value.oneCell']) (by simp only [maxLen]; omega) (by omega) (by have := HF.out.size; simp; omega) ?_)
            intro v' w1 hown' hgrow _
            have HO' := Lib.hid hown'
            have HF' := Lib.hid (Below.grown (Fr.al HF.out _) hgrow (by have := HF.out.size; simp; omega) (fun g hg => (HO.out.lt g hg).1))
            clear hown' hgrow
            go_wp2
            go_roundw
            case rel => exact ⟨25, by omega, rfl, by rw [HE2.out]; rfl, by rw [HE2.out]; simpa using HO'.out, HF'.out⟩
            case measure => simp [intOf]
          · have HE2 : Hid (stR bs (24 + 1) = (o, 24 + 1)) := by have := HE.out; rw [opn, if_neg hfk'] at this; exact Lib.hid (by simpa using this)
            go_wp2
            go_roundw
            case rel => exact ⟨25, by omega, rfl, by rw [HE2.out]; rfl, by rw [HE2.out]; exact HO.out, HF.out⟩
            case measure => simp [intOf]
        · obtain rfl : k = 25 := by omega
          have e : o = runs bs := by have := stR_last HL.out; rw [HST.out] at this; rw [HR.out]; exact this
          subst e
          clear h hfr
          obtain ⟨A', c', rfl⟩ := own_shape hown
          clear hown
          go_wp2
          go_ret
          exact ⟨A', c', rfl, HO.out, HF.out⟩
  · have HR : Hid (runs bs = []) := by simp [Hid, runs, hl, h24]
    have hd : decide (n = 24) = false := by simp [h24]
    go_enter Try.func83, Try.ntmps83
    go_wp2_with fail
    refine (specBitsOk_any _ _ _ _).mono ?_
    rintro e w' ⟨rfl, rfl⟩
    rw [hd]
    go_wp2
    go_ret
    rw [HR.out]
    exact ⟨_, _, rfl, World.ownsRow_lit w #[] 0 (Nat.le_refl _) (by simp [maxLen]) rfl, Fr.al (Below.refl _ _) _⟩

set_option maxRecDepth 100000 in
set_option maxHeartbeats 2000000 in
theorem implRuns_any (A : Option Addr) (n c : Nat) (bs : List Bool) (w : World) (h : Rd w A n 1 (bs.map .bool)) :
    Calls Try.prog 99 #[.slice A n c] w (Made w 99 2 (runs bs).length ((runs bs).flatMap cRun)) := by
  obtain ⟨i0, hi, hz0, hz1, hz2⟩ := info_parts infoRun
  have hl := h.len1
  by_cases h24 : n = 24
  · have hlen : bs.length = 24 := by omega
    have HL := Lib.hid hlen
    have HR : Hid (runs bs = runsTo bs 24) := by simp [Hid, runs, hlen]
    subst h24
    clear hl hlen
    go_enter Try.func99, Try.ntmps99
    go_wp2_with fail
    refine (implBitsOk_any _ _ _ _).mono ?_
    rintro e w' ⟨rfl, rfl⟩
    go_wp2_with fail
    go_loopw [3, 13] (fun v i wr => ∃ k : Nat, k ≤ 24 ∧ i = .int .i64 k ∧ wr.ownsRow w.heap.size 99 2 v (runsTo bs k).length ((runsTo bs k).flatMap cRun) ∧ Fr w wr) (fun _ i _ => 24 - (intOf i).toNat)
    case atStart => exact ⟨0, by omega, rfl, World.ownsRow_lit w #[] 0 (Nat.le_refl _) (by simp [maxLen]) rfl, Fr.al (Below.refl _ _) _⟩
    case round =>
      obtain ⟨k, hk, rfl, hown, hfr⟩ := hrel
      have hln := (runsTo_bounds bs k).1
      by_cases hlt : k < 24
      · obtain ⟨b, hb⟩ := some_at HL.out hlt
        obtain ⟨bk, of, rfl, hc⟩ := (h.fr hfr).get1 hb
        have hinv := runs_inv bs k
        have HB := Lib.hid hb
        have HF := Lib.hid hfr
        cases b
        · by_cases hk0 : 0 < k
          · obtain ⟨m, rfl⟩ : ∃ m, k = m + 1 := ⟨k - 1, by omega⟩
            obtain ⟨b', hb'⟩ := some_at HL.out (show m < 24 by omega)
            obtain ⟨_, _, e, hc'⟩ := (h.fr hfr).get1 hb'
            injection e with e
            injection e with e1 e2
            subst e1 e2
            have HB' := Lib.hid hb'
            cases b'
            · obtain ⟨o, f, ho⟩ : ∃ o f, runsTo bs (m + 1) = o ++ [(f, (m + 1 : Int) - f)] := by
                have hf := hinv.2.2.2 ⟨by omega, by simp [List.getD, hb']⟩
                refine ⟨_, _, by rw [hinv.1, opn, if_pos hf]; rfl⟩
              have he : runsTo bs (m + 1 + 1) = o ++ [(f, (m + 1 : Int) - f + 1)] := by
                rw [runsTo, if_neg (by simp [List.getD, hb]), if_pos ⟨by omega, by simp [List.getD, hb']⟩, ho, bump_snoc]
              have hbd := (runsTo_bounds bs (m + 1)).2 (f, (m + 1 : Int) - f) (by rw [ho]; simp)
              simp only at hbd
              rw [ho] at hown hln
              simp only [List.length_append, List.length_cons, List.length_nil, Nat.zero_add] at hown hln
              obtain ⟨A', c', rfl⟩ := own_shape hown
              obtain ⟨g, rfl, hg1, hg2⟩ := own_form hown (by omega)
              have hcell := hown.cellAt (o.length * 2 + 1) (by omega)
              rw [List.flatMap_append, List.getElem?_append_right (by rw [flat_len cRun_len]; omega), flat_len cRun_len, show o.length * 2 + 1 - o.length * 2 = 1 from by omega] at hcell
              have hd1 : wr.cell? ⟨g, o.length * 2 + 1, none⟩ = some (.int .i64 ((m + 1 : Int) - f)) := hcell
              have hf1 := hown.frozenAt (o.length * 2 + 1)
              have hst := hown.stored (o.length * 2 + 1) (.int .i64 ((m + 1 : Int) - f + 1))
              rw [List.flatMap_append, List.set_append, if_neg (by rw [flat_len cRun_len]; omega), flat_len cRun_len, show o.length * 2 + 1 - o.length * 2 = 1 from by omega] at hst
              have HST := Lib.hid hst
              have HE := Lib.hid he
              clear hst he hcell hown hinv hfr h hb hb' ho HB HB'
              go_wp2
              go_roundw
              case rel => exact ⟨m + 1 + 1, by omega, by go_num, by rw [HE.out]; simpa [cRun] using HST.out.1, Below.setCell HF.out hg1 _⟩
              case measure => simp [intOf]; omega
            · have he : runsTo bs (m + 1 + 1) = runsTo bs (m + 1) ++ [((m : Int) + 1, 1)] := by
                rw [runsTo, if_neg (by simp [List.getD, hb]), if_neg (by simp [List.getD, hb'])]; simp
              have HE := Lib.hid he
              have HO := Lib.hid hown
              clear he hown hinv hfr h hb hb'
              go_wp2_with (at_builtin; refine wpList_append_own _ rfl (.tmp 18) (.tmp 21) 96 rfl w.heap.size 99 i0 _ 2 16 Try.underlying96 hi hz0 hz1 hz2 rfl (by decide) _ _ _ rfl (HO.out.alloc _) ⟨wr.heap.size, 0, none⟩ 1 1 (cRun ((m : Int) + 1, 1)) rfl rfl (news_at _ _ _) (by simp [cRun, Value.oneCell']) (by simp only [maxLen]; omega) (by omega) (by have := HF.out.size; simp; omega) ?_)
              intro v' w1 hown' hgrow _
              have HO' := Lib.hid hown'
              have HF' := Lib.hid (Below.grown (Fr.al HF.out _) hgrow (by have := HF.out.size; simp; omega) (fun g hg => (HO.out.lt g hg).1))
              clear hown' hgrow
              go_wp2
              go_roundw
              case rel => exact ⟨m + 1 + 1, by omega, by go_num, by rw [HE.out]; simpa using HO'.out, HF'.out⟩
              case measure => simp [intOf]; omega
          · obtain rfl : k = 0 := by omega
            have he := runsTo_first hb
            have HE := Lib.hid he
            have HO := Lib.hid hown
            clear he hown hinv hfr h hb
            simp only [Nat.add_zero] at hc
            go_wp2_with (at_builtin; refine wpList_append_own _ rfl (.tmp 18) (.tmp 21) 96 rfl w.heap.size 99 i0 _ 2 16 Try.underlying96 hi hz0 hz1 hz2 rfl (by decide) _ _ _ rfl (HO.out.alloc _) ⟨wr.heap.size, 0, none⟩ 1 1 (cRun (0, 1)) rfl rfl (news_at _ _ _) (by simp [cRun, Value.oneCell']) (by simp only [maxLen]; omega) (by omega) (by have := HF.out.size; simp; omega) ?_)
            intro v' w1 hown' hgrow _
            have HO' := Lib.hid hown'
            have HF' := Lib.hid (Below.grown (Fr.al HF.out _) hgrow (by have := HF.out.size; simp; omega) (fun g hg => (HO.out.lt g hg).1))
            clear hown' hgrow
            go_wp2
            go_roundw
            case rel => exact ⟨1, by omega, rfl, by rw [HE.out]; simpa using HO'.out, HF'.out⟩
            case measure => simp [intOf]
        · have HE := Lib.hid (runsTo_set hb)
          have HO := Lib.hid hown
          clear hown hinv hfr h hb
          go_wp2
          go_roundw
          case rel => exact ⟨k + 1, by omega, by go_num, by rw [HE.out]; exact HO.out, HF.out⟩
          case measure => simp [intOf]; omega
      · obtain rfl : k = 24 := by omega
        rw [← HR.out] at hown
        obtain ⟨A', c', rfl⟩ := own_shape hown
        have HO := Lib.hid hown
        clear h hown
        go_wp2
        go_ret
        exact ⟨A', c', rfl, HO.out, hfr⟩
  · have HR : Hid (runs bs = []) := by simp [Hid, runs, hl, h24]
    have hd : decide (n = 24) = false := by simp [h24]
    go_enter Try.func99, Try.ntmps99
    go_wp2_with fail
    refine (implBitsOk_any _ _ _ _).mono ?_
    rintro e w' ⟨rfl, rfl⟩
    rw [hd]
    go_wp2
    go_ret
    rw [HR.out]
    exact ⟨_, _, rfl, World.ownsRow_lit w #[] 0 (Nat.le_refl _) (by simp [maxLen]) rfl, Fr.al (Below.refl _ _) _⟩
end Go.Proofs.Ytbmoolmgfpcnkaa
