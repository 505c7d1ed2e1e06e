/-
  Minus: the program and the reference make the same list, in memory of their own.
-/
import Derived.Test.YtbhnlfpcodeloaaMMinus
import Derived.Test.YtbhnlfpcodeloaaRangesOk
import Derived.Maps.AppendAt
namespace Go.Proofs.Ytbhnlfpcodeloaa
open Go.RowKit


set_option maxRecDepth 100000 in
set_option maxHeartbeats 4000000 in
theorem implMinus_any (A : Option Addr) (n c : Nat) (a : List (Int × Int)) (B : Option Addr) (m d : Nat) (b : List (Int × Int)) (w : World) (h : Rd w A n 2 (a.flatMap cRange)) (h' : Rd w B m 2 (b.flatMap cRange)) (hn : n ≤ 1048576) (hm : m ≤ 1048576) :
    Calls Try.prog 44 #[.slice A n c, .slice B m d] w (Made w 127 2 (minus a b).length ((minus a b).flatMap cRange)) := by
  obtain ⟨i0, hi, hz0, hz1, hz2⟩ := info_parts infoRange
  by_cases ha : rOk a = true
  · by_cases hb : rOk b = true
    · have HR : Hid (minus a b = minusTo a b a.length) := by simp [Hid, minus, ha, hb]
      have HA := Lib.hid ha
      have HB := Lib.hid hb
      have HLa := Lib.hid (h.lenk cRange_len (by omega))
      have HLb := Lib.hid (h'.lenk cRange_len (by omega))
      go_enter Try.func44, Try.ntmps44
      go_wp2_with fail
      refine (implRangesOk_any A n c a _ h hn).mono ?_
      rintro e w1 ⟨rfl, f1⟩
      rw [ha]
      go_wp2_with fail
      refine (implRangesOk_any B m d b _ (h'.fr f1) hm).mono ?_
      rintro e w2 ⟨rfl, f2⟩
      rw [hb]
      have F2 := Lib.hid (f1.then f2)
      have G := Lib.hid h
      have G' := Lib.hid h'
      clear ha hb h h' f1 f2
      go_wp2_with fail
      go_loopw [5, 22] (fun v i wr => ∃ k : Nat, k ≤ n ∧ i = .int .i64 k ∧ wr.ownsRow w.heap.size 127 2 v (minusTo a b k).length ((minusTo a b k).flatMap cRange) ∧ Fr w wr) (fun _ i _ => n - (intOf i).toNat)
      case atStart => exact ⟨0, by omega, rfl, own_base (World.ownsRow_lit w2 #[] 0 (Nat.le_refl _) (by simp [maxLen]) rfl) F2.out.size, Fr.al F2.out _⟩
      case round =>
        obtain ⟨k, hk, rfl, hown, hfr⟩ := hrel
        by_cases hlt : k < n
        · obtain ⟨wo, rfl⟩ : ∃ wo : World, wo = wr := ⟨_, rfl⟩
          obtain ⟨⟨u, v⟩, hx⟩ := some_at HLa.out hlt
          obtain ⟨bk, of, rfl, hcell⟩ := (G.out.fr hfr).elem cRange_len hx (by omega)
          have ca := hcell 0 _ rfl; simp only [Nat.add_zero] at ca
          have cb := hcell 1 _ rfl
          have hr := rOk_in HA.out hx
          have hp := (minusTo_inv HA.out HB.out k (by rw [HLa.out]; omega)).2 u v hx
          have HI := Lib.hid (mSt_inv HB.out hr.1 hr.2.1 hr.2.2 hp)
          have HX := Lib.hid hx
          have HF := Lib.hid hfr
          have HO := Lib.hid hown
          clear hx hown hfr hcell
          go_wp2_with fail
          go_loopw [5, 8, 30] (fun o f i wi => ∃ j : Nat, j ≤ m ∧ i = .int .i64 j ∧ f = .int .i64 (mSt b v (minusTo a b k) u j).2 ∧ wi.ownsRow w.heap.size 127 2 o (mSt b v (minusTo a b k) u j).1.length ((mSt b v (minusTo a b k) u j).1.flatMap cRange) ∧ o.ownBlock ≠ some wo.heap.size ∧ Fr w wi ∧ Bk wi wo.heap.size 127 [.int .i64 u, .int .i64 v]) (fun _ _ i _ => m - (intOf i).toNat)
          case atStart => exact ⟨0, by omega, rfl, rfl, own_fr HO.out (Fr.al (Below.refl _ _) _), (fun he => by have := HO.out.lt _ he; omega), Fr.al HF.out _, Bk.new_ _ _ _ rfl⟩
          case round =>
            obtain ⟨j, hj, rfl, rfl, hown, hne, hfr, hbk⟩ := hrel
            have hinv := HI.out j (by rw [HLb.out]; omega)
            have cr0 := hbk.at_ (j := 0) rfl
            have zr := hbk.lt
            have cr1 := hbk.at_ (j := 1) rfl
            generalize hst : mSt b v (minusTo a b k) u j = st at hown hinv
            obtain ⟨o, f⟩ := st
            simp only at hown hinv ⊢
            have HST := Lib.hid hst
            have HO := Lib.hid hown
            have HN := Lib.hid hne
            have HF := Lib.hid hfr
            have HBk := Lib.hid hbk
            by_cases hjm : j < m
            · obtain ⟨⟨p, q⟩, hy⟩ := some_at HLb.out hjm
              obtain ⟨bk', of', rfl, hcell⟩ := (G'.out.fr hfr).elem cRange_len hy (by omega)
              have cx := hcell 0 _ rfl; simp only [Nat.add_zero] at cx
              have cy := hcell 1 _ rfl
              have zx : bk' < wr.heap.size := World.block_lt_of_cell? wr _ cx
              have hs := rOk_in HB.out hy
              have HE := Lib.hid ((mSt_succ hy v (minusTo a b k) u).trans (by rw [hst]))
              clear hst hown hne hfr hbk hcell hy
              by_cases hqf : q < f
              · have HE2 : Hid (mSt b v (minusTo a b k) u (j + 1) = (o, f)) := by have := HE.out; rwa [mStep, if_pos (.inl hqf)] at this
                go_wp2_with fail
                go_roundw
                case rel => exact ⟨j + 1, by omega, by go_num, by rw [HE2.out], by rw [HE2.out]; exact own_fr HO.out (Fr.al (Below.refl _ _) _), HN.out, Fr.al HF.out _, HBk.out.al _⟩
                case measure => simp [intOf]; omega
              · by_cases hvp : v < p
                · have HE2 : Hid (mSt b v (minusTo a b k) u (j + 1) = (o, f)) := by have := HE.out; rwa [mStep, if_pos (.inr hvp)] at this
                  go_wp2_with fail
                  go_roundw
                  case rel => exact ⟨j + 1, by omega, by go_num, by rw [HE2.out], by rw [HE2.out]; exact own_fr HO.out (Fr.al (Below.refl _ _) _), HN.out, Fr.al HF.out _, HBk.out.al _⟩
                  case measure => simp [intOf]; omega
                · have hw1 : IntKind.i64.wrap (q + 1) = q + 1 := IntWalk.i64_in _ (by omega)
                  by_cases hfp : f < p
                  · have HE2 : Hid (mSt b v (minusTo a b k) u (j + 1) = (o ++ [(f, p - 1)], q + 1)) := by have := HE.out; rwa [mStep, if_neg (by simp only; omega), if_pos hfp] at this
                    have hw2 : IntKind.i64.wrap (p - 1) = p - 1 := IntWalk.i64_in _ (by omega)
                    go_wp2_with (at_builtin; refine wpList_append_own_at _ rfl (.tmp 49) (.tmp 55) 55 rfl w.heap.size 127 i0 _ 2 16 Try.underlying55 hi hz0 hz1 hz2 rfl (by decide) _ _ _ rfl ((HO.out.alloc _).alloc _) ⟨wr.heap.size + 1, 0, none⟩ 1 1 (cRange (f, p - 1)) rfl rfl (news_at_ _ _ _ (by simp)) (by simp [cRange, Value.oneCell']) (by simp only [maxLen]; omega) (by omega) (by have := HF.out.size; simp; omega) ?_)
                    intro v' w3 hown' hgrow _ hat
                    have HO' := Lib.hid hown'
                    have HN' : Hid (v'.ownBlock ≠ some wo.heap.size) := by
                      rcases hat with h1 | h1
                      · rw [Hid, h1]; exact HN.out
                      · rw [Hid, h1]; simp; omega
                    have HBk' := Lib.hid (((HBk.out.al _).al _).grown hgrow (Ne.symm HN.out))
                    have HF' := Lib.hid (Below.grown (Fr.al (Fr.al HF.out _) _) hgrow (by have := HF.out.size; simp; omega) (fun g hg => (HO.out.lt g hg).1))
                    have c3 := HBk'.out.at_ (j := 0) rfl
                    have c4 := HBk'.out.at_ (j := 1) rfl
                    have cz : w3.cell? ⟨wr.heap.size, 1, none⟩ = some (.int .i64 q) := by
                      have hb2 : Bk ((wr.alloc (.cells #[.int .i64 p, .int .i64 q] 127)).alloc (.cells #[.int .i64 f, .int .i64 (p - 1)] 127)) wr.heap.size 127 [.int .i64 p, .int .i64 q] := (Bk.new_ wr _ _ rfl).al _
                      exact (hb2.grown hgrow (fun he => by have := HO.out.lt _ he.symm; omega)).at_ (j := 1) rfl
                    clear hown' hgrow hat
                    go_wp2
                    go_roundw
                    case rel => exact ⟨j + 1, by omega, by go_num, by rw [HE2.out], by rw [HE2.out]; simpa using HO'.out, HN'.out, HF'.out, HBk'.out⟩
                    case measure => simp [intOf]; omega
                  · have HE2 : Hid (mSt b v (minusTo a b k) u (j + 1) = (o, q + 1)) := by have := HE.out; rwa [mStep, if_neg (by simp only; omega), if_neg hfp] at this
                    go_wp2_with fail
                    go_roundw
                    case rel => exact ⟨j + 1, by omega, by go_num, by rw [HE2.out], by rw [HE2.out]; exact own_fr HO.out (Fr.al (Below.refl _ _) _), HN.out, Fr.al HF.out _, HBk.out.al _⟩
                    case measure => simp [intOf]; omega
            · obtain rfl : j = m := by omega
              have HE := Lib.hid ((minusTo_succ (b := b) HX.out).trans (by rw [mRow, HLb.out, hst]))
              clear hst hown hne hfr hbk
              by_cases hfv : f ≤ v
              · have HE2 : Hid (minusTo a b (k + 1) = o ++ [(f, v)]) := by have := HE.out; rwa [mEnd, if_pos hfv] at this
                go_wp2_with (at_builtin; refine wpList_append_own_at _ rfl (.tmp 65) (.tmp 70) 55 rfl w.heap.size 127 i0 _ 2 16 Try.underlying55 hi hz0 hz1 hz2 rfl (by decide) _ _ _ rfl (HO.out.alloc _) ⟨wr.heap.size, 0, none⟩ 1 1 (cRange (f, v)) rfl rfl (news_at _ _ _) (by simp [cRange, Value.oneCell']) (by simp only [maxLen]; omega) (by omega) (by have := HF.out.size; simp; omega) ?_)
                intro v' w3 hown' hgrow _ _
                have HO' := Lib.hid hown'
                have HF' := Lib.hid (Below.grown (Fr.al HF.out _) hgrow (by have := HF.out.size; simp; omega) (fun g hg => (HO.out.lt g hg).1))
                clear hown' hgrow
                go_wp2
                go_roundw
                case rel => exact ⟨k + 1, by omega, by go_num, by rw [HE2.out]; simpa using HO'.out, HF'.out⟩
                case measure => simp [intOf]; omega
              · have HE2 : Hid (minusTo a b (k + 1) = o) := by have := HE.out; rwa [mEnd, if_neg hfv] at this
                go_wp2_with fail
                go_roundw
                case rel => exact ⟨k + 1, by omega, by go_num, by rw [HE2.out]; exact HO.out, HF.out⟩
                case measure => simp [intOf]; omega
        · obtain rfl : k = n := by omega
          have e : minusTo a b k = minus a b := by rw [HR.out, HLa.out]
          rw [e] at hown
          obtain ⟨A', c', rfl⟩ := own_shape hown
          have HO := Lib.hid hown
          clear hown
          go_wp2
          go_ret
          exact ⟨A', c', rfl, HO.out, hfr⟩
    · have HR : Hid (minus a b = []) := by simp [Hid, minus, hb]
      have hb' : rOk b = false := by simpa using hb
      clear hb
      go_enter Try.func44, Try.ntmps44
      go_wp2_with fail
      refine (implRangesOk_any A n c a _ h hn).mono ?_
      rintro e w1 ⟨rfl, f1⟩
      rw [ha]
      go_wp2_with fail
      refine (implRangesOk_any B m d b _ (h'.fr f1) hm).mono ?_
      rintro e w2 ⟨rfl, f2⟩
      rw [hb']
      go_wp2_with fail
      go_ret
      rw [HR.out]
      exact ⟨_, _, rfl, own_nil _ _ _ _, f1.then f2⟩
  · have HR : Hid (minus a b = []) := by simp [Hid, minus, ha]
    have ha' : rOk a = false := by simpa using ha
    clear ha
    go_enter Try.func44, Try.ntmps44
    go_wp2_with fail
    refine (implRangesOk_any A n c a _ h hn).mono ?_
    rintro e w1 ⟨rfl, f1⟩
    rw [ha']
    go_wp2_with fail
    go_ret
    rw [HR.out]
    exact ⟨_, _, rfl, own_nil _ _ _ _, f1⟩

set_option maxRecDepth 100000 in
set_option maxHeartbeats 4000000 in
theorem specMinus_any (A : Option Addr) (n c : Nat) (a : List (Int × Int)) (B : Option Addr) (m d : Nat) (b : List (Int × Int)) (w : World) (h : Rd w A n 2 (a.flatMap cRange)) (h' : Rd w B m 2 (b.flatMap cRange)) (hn : n ≤ 1048576) (hm : m ≤ 1048576) :
    Calls Try.prog 42 #[.slice A n c, .slice B m d] w (Made w 127 2 (minus a b).length ((minus a b).flatMap cRange)) := by
  obtain ⟨i0, hi, hz0, hz1, hz2⟩ := info_parts infoRange
  have own0 : ∀ w2, Fr (w.alloc (.cells #[] 127)) w2 → w2.ownsRow w.heap.size 127 2 (.slice (some ⟨w.heap.size, 0, none⟩) 0 0) 0 [] := fun w2 f => own_fr (World.ownsRow_lit w #[] 0 (Nat.le_refl _) (by simp [maxLen]) rfl) f
  by_cases ha : rOk a = true
  · by_cases hb : rOk b = true
    · have HR : Hid (minus a b = minusTo a b a.length) := by simp [Hid, minus, ha, hb]
      have HA := Lib.hid ha
      have HB := Lib.hid hb
      have HLa := Lib.hid (h.lenk cRange_len (by omega))
      have HLb := Lib.hid (h'.lenk cRange_len (by omega))
      go_enter Try.func42, Try.ntmps42
      go_wp2_with fail
      refine (specRangesOk_any A n c a _ (h.alloc _) hn).mono ?_
      rintro e w1 ⟨rfl, f1⟩
      rw [ha]
      go_wp2_with fail
      refine (specRangesOk_any B m d b _ ((h'.alloc _).fr f1.fr) hm).mono ?_
      rintro e w2 ⟨rfl, f2⟩
      rw [hb]
      have F2 := Lib.hid (f1.fr.then f2.fr)
      have O2 := Lib.hid (own0 _ F2.out)
      have G := Lib.hid h
      have G' := Lib.hid h'
      clear ha hb h h' f1 f2 own0
      go_wp2_with fail
      go_loopw [5, 6] (fun v i wr => ∃ k : Nat, k ≤ n ∧ i = .int .i64 k ∧ wr.ownsRow w.heap.size 127 2 v (minusTo a b k).length ((minusTo a b k).flatMap cRange) ∧ Fr w wr) (fun _ i _ => n - (intOf i).toNat)
      case atStart => exact ⟨0, by omega, rfl, O2.out, (Fr.al (Below.refl _ _) _).then F2.out⟩
      case round =>
        obtain ⟨k, hk, rfl, hown, hfr⟩ := hrel
        by_cases hlt : k < n
        · obtain ⟨wo, rfl⟩ : ∃ wo : World, wo = wr := ⟨_, rfl⟩
          obtain ⟨⟨u, v⟩, hx⟩ := some_at HLa.out hlt
          obtain ⟨bk, of, rfl, hcell⟩ := (G.out.fr hfr).elem cRange_len hx (by omega)
          have ca := hcell 0 _ rfl; simp only [Nat.add_zero] at ca
          have hr := rOk_in HA.out hx
          have hp := (minusTo_inv HA.out HB.out k (by rw [HLa.out]; omega)).2 u v hx
          have HI := Lib.hid (mSt_inv HB.out hr.1 hr.2.1 hr.2.2 hp)
          have HX := Lib.hid hx
          have HF := Lib.hid hfr
          have HO := Lib.hid hown
          clear hx hown hfr hcell
          go_wp2_with fail
          go_loopw [5, 7, 8] (fun o f i wi => ∃ j : Nat, j ≤ m ∧ i = .int .i64 j ∧ f = .int .i64 (mSt b v (minusTo a b k) u j).2 ∧ wi.ownsRow w.heap.size 127 2 o (mSt b v (minusTo a b k) u j).1.length ((mSt b v (minusTo a b k) u j).1.flatMap cRange) ∧ Fr w wi) (fun _ _ i _ => m - (intOf i).toNat)
          case atStart => exact ⟨0, by omega, rfl, rfl, HO.out, HF.out⟩
          case round =>
            obtain ⟨j, hj, rfl, rfl, hown, hfr⟩ := hrel
            have hinv := HI.out j (by rw [HLb.out]; omega)
            obtain ⟨_, _, e, hcell⟩ := (G.out.fr hfr).elem cRange_len HX.out (by omega)
            injection e with e
            injection e with e1 e2
            subst e1 e2
            have cb := hcell 1 _ rfl
            generalize hst : mSt b v (minusTo a b k) u j = st at hown hinv
            obtain ⟨o, f⟩ := st
            simp only at hown hinv ⊢
            have HST := Lib.hid hst
            have HO := Lib.hid hown
            have HF := Lib.hid hfr
            by_cases hjm : j < m
            · obtain ⟨⟨p, q⟩, hy⟩ := some_at HLb.out hjm
              obtain ⟨bk', of', rfl, hcell'⟩ := (G'.out.fr hfr).elem cRange_len hy (by omega)
              have cx := hcell' 0 _ rfl; simp only [Nat.add_zero] at cx
              have cy := hcell' 1 _ rfl
              have hs := rOk_in HB.out hy
              have HE := Lib.hid ((mSt_succ hy v (minusTo a b k) u).trans (by rw [hst]))
              have HY := Lib.hid hy
              clear hst hown hfr hcell hcell' hy
              by_cases hqf : q < f
              · have HE2 : Hid (mSt b v (minusTo a b k) u (j + 1) = (o, f)) := by have := HE.out; rwa [mStep, if_pos (.inl hqf)] at this
                go_wp2_with fail
                refine wp_region_quiet_lit (by kernel_rfl) (by kernel_rfl) ?_
                repeat (any_goals (first | go_big_quiet_step ((fail)) | quiet_step ((fail)) | (refine wpQuiet_step (fun K hK => ?_); go_simp; split <;> (refine hK _ ?_; clear hK K))))
                all_goals (refine wpQuiet_nil ?_; intro _ hw_; obtain ⟨nq, hw__⟩ := hw_; subst hw__)
                go_wp2_with fail
                go_roundw
                case rel => exact ⟨j + 1, by omega, by go_num, by rw [HE2.out], by rw [HE2.out]; exact own_fr HO.out (Fr.on (Below.refl _ _) _), Fr.on HF.out _⟩
                case measure => simp [intOf]; omega
              · have hqf' : decide (q < f) = false := by simpa using hqf
                by_cases hvp : v < p
                · have HE2 : Hid (mSt b v (minusTo a b k) u (j + 1) = (o, f)) := by have := HE.out; rwa [mStep, if_pos (.inr hvp)] at this
                  go_wp2_with fail
                  refine wp_region_quiet_lit (by kernel_rfl) (by kernel_rfl) ?_
                  repeat (any_goals (first | go_big_quiet_step ((fail)) | quiet_step ((fail)) | (refine wpQuiet_step (fun K hK => ?_); go_simp; split <;> (refine hK _ ?_; clear hK K))))
                  all_goals (refine wpQuiet_nil ?_; intro _ hw_; obtain ⟨nq, hw__⟩ := hw_; subst hw__)
                  go_wp2_with fail
                  go_roundw
                  case rel => exact ⟨j + 1, by omega, by go_num, by rw [HE2.out], by rw [HE2.out]; exact own_fr HO.out (Fr.on (Below.refl _ _) _), Fr.on HF.out _⟩
                  case measure => simp [intOf]; omega
                · have hw1 : IntKind.i64.wrap (q + 1) = q + 1 := IntWalk.i64_in _ (by omega)
                  by_cases hfp : f < p
                  · have HE2 : Hid (mSt b v (minusTo a b k) u (j + 1) = (o ++ [(f, p - 1)], q + 1)) := by have := HE.out; rwa [mStep, if_neg (by simp only; omega), if_pos hfp] at this
                    have hw2 : IntKind.i64.wrap (p - 1) = p - 1 := IntWalk.i64_in _ (by omega)
                    go_wp2_with fail
                    refine wp_region_quiet_lit (by kernel_rfl) (by kernel_rfl) ?_
                    repeat (any_goals (first | go_big_quiet_step ((fail)) | quiet_step ((fail)) | (refine wpQuiet_step (fun K hK => ?_); go_simp; split <;> (refine hK _ ?_; clear hK K))))
                    all_goals (refine wpQuiet_nil ?_; intro _ hw_; obtain ⟨nq, hw__⟩ := hw_; subst hw__)
                    go_wp2_with (at_builtin; refine wpList_append_own_at _ rfl (.tmp 63) (.tmp 72) 55 rfl w.heap.size 127 i0 _ 2 16 Try.underlying55 hi hz0 hz1 hz2 rfl (by decide) _ _ _ rfl ((own_fr HO.out (Fr.on (Below.refl _ _) _)).alloc _) ⟨wr.heap.size, 0, none⟩ 1 1 (cRange (f, p - 1)) rfl rfl (news_at_ _ _ _ rfl) (by simp [cRange, Value.oneCell']) (by simp only [maxLen]; omega) (by omega) (by have := HF.out.size; simp; omega) ?_)
                    intro v' w3 hown' hgrow _ _
                    have HO' := Lib.hid hown'
                    have HF' := Lib.hid (Below.grown (Fr.al (Fr.on HF.out _) _) hgrow (by have := HF.out.size; simp; omega) (fun g hg => (HO.out.lt g hg).1))
                    have HG := Lib.hid hgrow
                    clear hown' hgrow
                    obtain ⟨_, _, e, hc3⟩ := (G'.out.fr HF'.out).elem cRange_len HY.out (by omega)
                    injection e with e
                    injection e with e1 e2
                    subst e1 e2
                    have cy' := hc3 1 _ rfl
                    clear hc3
                    go_wp2_with fail
                    go_roundw
                    case rel => exact ⟨j + 1, by omega, by go_num, by rw [HE2.out], by rw [HE2.out]; simpa using HO'.out, HF'.out⟩
                    case measure => simp [intOf]; omega
                  · have HE2 : Hid (mSt b v (minusTo a b k) u (j + 1) = (o, q + 1)) := by have := HE.out; rwa [mStep, if_neg (by simp only; omega), if_neg hfp] at this
                    go_wp2_with fail
                    refine wp_region_quiet_lit (by kernel_rfl) (by kernel_rfl) ?_
                    repeat (any_goals (first | go_big_quiet_step ((fail)) | quiet_step ((fail)) | (refine wpQuiet_step (fun K hK => ?_); go_simp; split <;> (refine hK _ ?_; clear hK K))))
                    all_goals (refine wpQuiet_nil ?_; intro _ hw_; obtain ⟨nq, hw__⟩ := hw_; subst hw__)
                    go_wp2_with fail
                    go_roundw
                    case rel => exact ⟨j + 1, by omega, by go_num, by rw [HE2.out], by rw [HE2.out]; exact own_fr HO.out (Fr.on (Below.refl _ _) _), Fr.on HF.out _⟩
                    case measure => simp [intOf]; omega
            · obtain rfl : j = m := by omega
              have HE := Lib.hid ((minusTo_succ (b := b) HX.out).trans (by rw [mRow, HLb.out, hst]))
              clear hst hown hfr hcell
              by_cases hfv : f ≤ v
              · have HE2 : Hid (minusTo a b (k + 1) = o ++ [(f, v)]) := by have := HE.out; rwa [mEnd, if_pos hfv] at this
                go_wp2_with (at_builtin; refine wpList_append_own_at _ rfl (.tmp 87) (.tmp 95) 55 rfl w.heap.size 127 i0 _ 2 16 Try.underlying55 hi hz0 hz1 hz2 rfl (by decide) _ _ _ rfl (HO.out.alloc _) ⟨wr.heap.size, 0, none⟩ 1 1 (cRange (f, v)) rfl rfl (news_at _ _ _) (by simp [cRange, Value.oneCell']) (by simp only [maxLen]; omega) (by omega) (by have := HF.out.size; simp; omega) ?_)
                intro v' w3 hown' hgrow _ _
                have HO' := Lib.hid hown'
                have HF' := Lib.hid (Below.grown (Fr.al HF.out _) hgrow (by have := HF.out.size; simp; omega) (fun g hg => (HO.out.lt g hg).1))
                have HG := Lib.hid hgrow
                clear hown' hgrow
                clear HG
                go_wp2
                go_roundw
                case rel => exact ⟨k + 1, by omega, by go_num, by rw [HE2.out]; simpa using HO'.out, HF'.out⟩
                case measure => simp [intOf]; omega
              · have HE2 : Hid (minusTo a b (k + 1) = o) := by have := HE.out; rwa [mEnd, if_neg hfv] at this
                go_wp2_with fail
                go_roundw
                case rel => exact ⟨k + 1, by omega, by go_num, by rw [HE2.out]; exact HO.out, HF.out⟩
                case measure => simp [intOf]; omega
        · obtain rfl : k = n := by omega
          have e : minusTo a b k = minus a b := by rw [HR.out, HLa.out]
          rw [e] at hown
          obtain ⟨A', c', rfl⟩ := own_shape hown
          have HO := Lib.hid hown
          clear hown
          go_wp2
          go_ret
          exact ⟨A', c', rfl, HO.out, hfr⟩
    · have HR : Hid (minus a b = []) := by simp [Hid, minus, hb]
      have hb' : rOk b = false := by simpa using hb
      clear hb
      go_enter Try.func42, Try.ntmps42
      go_wp2_with fail
      refine (specRangesOk_any A n c a _ (h.alloc _) hn).mono ?_
      rintro e w1 ⟨rfl, f1⟩
      rw [ha]
      go_wp2_with fail
      refine (specRangesOk_any B m d b _ ((h'.alloc _).fr f1.fr) hm).mono ?_
      rintro e w2 ⟨rfl, f2⟩
      rw [hb']
      go_wp2_with fail
      go_ret
      rw [HR.out]
      exact ⟨_, _, rfl, own0 _ (f1.fr.then f2.fr), (Fr.al (Below.refl _ _) _).then (f1.fr.then f2.fr)⟩
  · have HR : Hid (minus a b = []) := by simp [Hid, minus, ha]
    have ha' : rOk a = false := by simpa using ha
    clear ha
    go_enter Try.func42, Try.ntmps42
    go_wp2_with fail
    refine (specRangesOk_any A n c a _ (h.alloc _) hn).mono ?_
    rintro e w1 ⟨rfl, f1⟩
    rw [ha']
    go_wp2_with fail
    go_ret
    rw [HR.out]
    exact ⟨_, _, rfl, own0 _ f1.fr, (Fr.al (Below.refl _ _) _).then f1.fr⟩
end Go.Proofs.Ytbhnlfpcodeloaa
