/-
  Union: the program and the reference make the same list, in memory of their own.
-/
import Derived.Test.YtbhnlfpcodeloaaMUnion
import Derived.Test.YtbhnlfpcodeloaaMMinus
import Derived.Test.YtbhnlfpcodeloaaRangesOk
import Derived.Test.YtbhnlfpcodeloaaPut
import Derived.Test.YtbhnlfpcodeloaaInfo
namespace Go.Proofs.Ytbhnlfpcodeloaa
open Go.RowKit

set_option maxRecDepth 100000 in
set_option maxHeartbeats 4000000 in
theorem implUnion_any (A : Option Addr) (n c : Nat) (a : List (Int × Int)) (B : Option Addr) (m d : Nat) (b : List (Int × Int)) (w : World) (h : Rd w A n 2 (a.flatMap cRange)) (h' : Rd w B m 2 (b.flatMap cRange)) (hn : n ≤ 1048576) (hm : m ≤ 1048576) :
    Calls Try.prog 56 #[.slice A n c, .slice B m d] w (Made w 127 2 (union a b).length ((union a b).flatMap cRange)) := by
  obtain ⟨i0, hi, hz0, hz1, hz2⟩ := info_parts infoRange
  by_cases ha : rOk a = true
  · by_cases hb : rOk b = true
    · have HR : Hid (union a b = mergeR (mix a b)) := by simp [Hid, union, ha, hb]
      have HA := Lib.hid ha
      have HB := Lib.hid hb
      have HLa := Lib.hid (h.lenk cRange_len (by omega))
      have HLb := Lib.hid (h'.lenk cRange_len (by omega))
      go_enter Try.func56, Try.ntmps56
      go_wp2_with fail
      refine (implRangesOk_any A n c a _ h hn).mono ?_
      rintro e w1 ⟨rfl, f1⟩
      rw [ha]
      go_wp2_with fail
      refine (implRangesOk_any B m d b _ (h'.fr f1) hm).mono ?_
      rintro e w2 ⟨rfl, f2⟩
      rw [hb]
      have F2 := Lib.hid (f1.then f2)
      have G := Lib.hid h
      have G' := Lib.hid h'
      clear ha hb h h' f1 f2
      have H2 : Hp [] w w2 [] := (Hp.start w).go F2.out
      go_wp2_with fail
      go_loopw [5, 6, 7] (fun v i k wr => ∃ (p q : Nat) (o : List (Int × Int)), i = .int .i64 p ∧ k = .int .i64 q ∧ p ≤ n ∧ q ≤ m ∧ Mixed a b p q o ∧ Hp [] w wr [.row 127 2 v o.length (o.flatMap cRange)]) (fun _ i k _ => n + m - (intOf i).toNat - (intOf k).toNat)
      case atStart => exact ⟨0, 0, [], rfl, rfl, by omega, by omega, .start _ _, H2.lit0 _ _⟩
      case round =>
        clear H2
        obtain ⟨p, q, o, rfl, rfl, hp, hq, hmx, H⟩ := hrel
        have hol : o.length ≤ n + m := by have := hmx.len; rw [HLa.out, HLb.out] at this; exact this
        obtain ⟨A', c', rfl⟩ := H.shape 0 rfl
        by_cases hpn : p < n
        · obtain ⟨⟨u, v⟩, hx⟩ := at_some HLa.out hpn
          obtain ⟨bk, of, rfl, hcell⟩ := (H.old G.out).elem cRange_len hx (by omega)
          have ca := hcell 0 _ rfl; simp only [Nat.add_zero] at ca
          have cb := hcell 1 _ rfl
          have zk : bk < wr.heap.size := World.block_lt_of_cell? wr _ ca
          clear hcell
          by_cases hqm : q < m
          · obtain ⟨⟨u', v'⟩, hy⟩ := at_some HLb.out hqm
            obtain ⟨bk', of', rfl, hcell⟩ := (H.old G'.out).elem cRange_len hy (by omega)
            have ca' := hcell 0 _ rfl; simp only [Nat.add_zero] at ca'
            have cb' := hcell 1 _ rfl
            have zk' : bk' < wr.heap.size := World.block_lt_of_cell? wr _ ca'
            clear hcell
            have hqm' : ((q : Int) == m) = false := by simp; omega
            by_cases hle : u ≤ u'
            · have hm2 := hmx.left hx (.inr ⟨_, hy, hle⟩)
              have hle' : decide (u ≤ u') = true := by simpa using hle
              clear hmx
              go_wp2_with fail
              refine wp_region_quiet_lit (by kernel_rfl) (by kernel_rfl) ?_
              repeat (any_goals (first | go_big_quiet_step ((fail)) | quiet_step ((fail)) | (refine wpQuiet_step (fun K hK => ?_); go_simp; split <;> (refine hK _ ?_; clear hK K))))
              all_goals (refine wpQuiet_nil ?_; intro _ hw_; obtain ⟨nq, hw__⟩ := hw_; subst hw__)
              go_wp2_with (at_builtin; refine wp_appL (f := cRange) ((H.on nq)) rfl _ _ _ rfl Try.underlying55 infoRange rfl (by decide) 0 _ _ rfl rfl _ _ ((u, v)) rfl (by simp) rfl (by simp [cRange, Value.oneCell']) (by first | (simp only [maxLen]; omega) | (simp [maxLen]; omega)) (by first | omega | (simp; omega)) ?_)
              intro v9 w3 H3
              clear H
              go_wp2
              go_roundw
              case rel => exact ⟨p + 1, q, _, by go_num, by go_num, by omega, by omega, hm2, by simpa using H3⟩
              case measure => simp [intOf]; omega
            · have hm2 := hmx.right hy (.inr ⟨_, hx, hle⟩)
              have hle' : decide (u ≤ u') = false := by simpa using hle
              clear hmx
              go_wp2_with fail
              refine wp_region_quiet_lit (by kernel_rfl) (by kernel_rfl) ?_
              repeat (any_goals (first | go_big_quiet_step ((fail)) | quiet_step ((fail)) | (refine wpQuiet_step (fun K hK => ?_); go_simp; split <;> (refine hK _ ?_; clear hK K))))
              all_goals (refine wpQuiet_nil ?_; intro _ hw_; obtain ⟨nq, hw__⟩ := hw_; subst hw__)
              go_wp2_with (at_builtin; refine wp_appL (f := cRange) ((H.on nq)) rfl _ _ _ rfl Try.underlying55 infoRange rfl (by decide) 0 _ _ rfl rfl _ _ ((u', v')) rfl (by simp) rfl (by simp [cRange, Value.oneCell']) (by first | (simp only [maxLen]; omega) | (simp [maxLen]; omega)) (by first | omega | (simp; omega)) ?_)
              intro v9 w3 H3
              clear H
              go_wp2
              go_roundw
              case rel => exact ⟨p, q + 1, _, by go_num, by go_num, by omega, by omega, hm2, by simpa using H3⟩
              case measure => simp [intOf]; omega
          · have hm2 := hmx.left hx (.inl (by rw [HLb.out]; omega))
            obtain rfl : q = m := by omega
            clear hmx
            go_wp2_with fail
            refine wp_region_quiet_lit (by kernel_rfl) (by kernel_rfl) ?_
            repeat (any_goals (first | go_big_quiet_step ((fail)) | quiet_step ((fail)) | (refine wpQuiet_step (fun K hK => ?_); go_simp; split <;> (refine hK _ ?_; clear hK K))))
            all_goals (refine wpQuiet_nil ?_; intro _ hw_; obtain ⟨nq, hw__⟩ := hw_; subst hw__)
            go_wp2_with (at_builtin; refine wp_appL (f := cRange) ((H.on nq)) rfl _ _ _ rfl Try.underlying55 infoRange rfl (by decide) 0 _ _ rfl rfl _ _ ((u, v)) rfl (by simp) rfl (by simp [cRange, Value.oneCell']) (by first | (simp only [maxLen]; omega) | (simp [maxLen]; omega)) (by first | omega | (simp; omega)) ?_)
            intro v9 w3 H3
            clear H
            go_wp2
            go_roundw
            case rel => exact ⟨p + 1, q, _, by go_num, by go_num, by omega, by omega, hm2, by simpa using H3⟩
            case measure => simp [intOf]; omega
        · by_cases hqm : q < m
          · obtain ⟨⟨u', v'⟩, hy⟩ := at_some HLb.out hqm
            obtain ⟨bk', of', rfl, hcell⟩ := (H.old G'.out).elem cRange_len hy (by omega)
            have ca' := hcell 0 _ rfl; simp only [Nat.add_zero] at ca'
            have cb' := hcell 1 _ rfl
            have zk' : bk' < wr.heap.size := World.block_lt_of_cell? wr _ ca'
            clear hcell
            have hqm' : ((q : Int) == m) = false := by simp; omega
            have hm2 := hmx.right hy (.inl (by rw [HLa.out]; omega))
            have hpn' : decide ((p : Int) < n) = false := by simp; omega
            clear hmx
            go_wp2_with fail
            refine wp_region_quiet_lit (by kernel_rfl) (by kernel_rfl) ?_
            repeat (any_goals (first | go_big_quiet_step ((fail)) | quiet_step ((fail)) | (refine wpQuiet_step (fun K hK => ?_); go_simp; split <;> (refine hK _ ?_; clear hK K))))
            all_goals (refine wpQuiet_nil ?_; intro _ hw_; obtain ⟨nq, hw__⟩ := hw_; subst hw__)
            go_wp2_with (at_builtin; refine wp_appL (f := cRange) ((H.on nq)) rfl _ _ _ rfl Try.underlying55 infoRange rfl (by decide) 0 _ _ rfl rfl _ _ ((u', v')) rfl (by simp) rfl (by simp [cRange, Value.oneCell']) (by first | (simp only [maxLen]; omega) | (simp [maxLen]; omega)) (by first | omega | (simp; omega)) ?_)
            intro v9 w3 H3
            clear H
            go_wp2
            go_roundw
            case rel => exact ⟨p, q + 1, _, by go_num, by go_num, by omega, by omega, hm2, by simpa using H3⟩
            case measure => simp [intOf]; omega
          · have hd := hmx.done (by rw [HLa.out]; omega) (by rw [HLb.out]; omega)
            subst hd
            go_wp2_with fail
            refine (merged_any A' _ c' (mix a b) wr (H.rd 0 rfl) (by omega) (fun r hr => mix_mem a b (SgR_ok HA.out) (SgR_ok HB.out) r hr)).mono ?_
            rintro e w3 ⟨A3, c3, rfl, o3, f3⟩
            go_wp2
            go_ret
            rw [HR.out]
            exact ⟨A3, c3, rfl, own_base o3 H.size, H.fr.then f3⟩
    · have HR : Hid (union a b = []) := by simp [Hid, union, hb]
      have hb' : rOk b = false := by simpa using hb
      clear hb
      go_enter Try.func56, Try.ntmps56
      go_wp2_with fail
      refine (implRangesOk_any A n c a _ h hn).mono ?_
      rintro e w1 ⟨rfl, f1⟩
      rw [ha]
      go_wp2_with fail
      refine (implRangesOk_any B m d b _ (h'.fr f1) hm).mono ?_
      rintro e w2 ⟨rfl, f2⟩
      rw [hb']
      go_wp2_with fail
      go_ret
      rw [HR.out]
      exact ⟨_, _, rfl, own_nil _ _ _ _, f1.then f2⟩
  · have HR : Hid (union a b = []) := by simp [Hid, union, ha]
    have ha' : rOk a = false := by simpa using ha
    clear ha
    go_enter Try.func56, Try.ntmps56
    go_wp2_with fail
    refine (implRangesOk_any A n c a _ h hn).mono ?_
    rintro e w1 ⟨rfl, f1⟩
    rw [ha']
    go_wp2_with fail
    go_ret
    rw [HR.out]
    exact ⟨_, _, rfl, own_nil _ _ _ _, f1⟩
set_option maxRecDepth 100000 in
set_option maxHeartbeats 4000000 in
theorem specUnion_any (A : Option Addr) (n c : Nat) (a : List (Int × Int)) (B : Option Addr) (m d : Nat) (b : List (Int × Int)) (w : World) (h : Rd w A n 2 (a.flatMap cRange)) (h' : Rd w B m 2 (b.flatMap cRange)) (hn : n ≤ 1048576) (hm : m ≤ 1048576) :
    Calls Try.prog 55 #[.slice A n c, .slice B m d] w (Made w 127 2 (union a b).length ((union a b).flatMap cRange)) := by
  have L0 := (Hp.start w).lit0 127 2
  have h0 := h
  have h0' := h'
  replace h := h.alloc (.cells #[] 127)
  replace h' := h'.alloc (.cells #[] 127)
  by_cases ha : rOk a = true
  · by_cases hb : rOk b = true
    · have HR : Hid (union a b = mergeR (mix a b)) := by simp [Hid, union, ha, hb]
      have HA := Lib.hid ha
      have HB := Lib.hid hb
      have HLa := Lib.hid (h.lenk cRange_len (by omega))
      have HLb := Lib.hid (h'.lenk cRange_len (by omega))
      go_enter Try.func55, Try.ntmps55
      go_wp2_with fail
      refine (specRangesOk_any A n c a _ h hn).mono ?_
      rintro e w1 ⟨rfl, f1⟩
      rw [ha]
      go_wp2_with fail
      refine (specRangesOk_any B m d b _ (h'.fr f1.fr) hm).mono ?_
      rintro e w2 ⟨rfl, f2⟩
      rw [hb]
      have F2 := Lib.hid (f1.fr.then f2.fr)
      have G := Lib.hid h0
      have G' := Lib.hid h0'
      have H2 := L0.go F2.out
      clear ha hb h h' h0 h0' f1 f2 L0
      go_wp2_with fail
      go_loopw [5, 6, 7] (fun v i k wr => ∃ (p q : Nat) (o : List (Int × Int)), i = .int .i64 p ∧ k = .int .i64 q ∧ p ≤ n ∧ q ≤ m ∧ Mixed a b p q o ∧ Hp [] w wr [.row 127 2 v (mergeR o).length ((mergeR o).flatMap cRange)]) (fun _ i k _ => n + m - (intOf i).toNat - (intOf k).toNat)
      case atStart => exact ⟨0, 0, [], rfl, rfl, by omega, by omega, .start _ _, H2⟩
      case round =>
        clear H2
        obtain ⟨p, q, o, rfl, rfl, hp, hq, hmx, H⟩ := hrel
        have hol : o.length ≤ n + m := by have := hmx.len; rw [HLa.out, HLb.out] at this; exact this
        have hsg : SgR o := hmx.sub (SgR_ok HA.out) (SgR_ok HB.out)
        have hml := mergeR_len o
        obtain ⟨A', c', rfl⟩ := H.shape 0 rfl
        by_cases hpn : p < n
        · obtain ⟨⟨u, v⟩, hx⟩ := at_some HLa.out hpn
          obtain ⟨bk, of, rfl, hcell⟩ := (H.old G.out).elem cRange_len hx (by omega)
          have ca := hcell 0 _ rfl; simp only [Nat.add_zero] at ca
          have cb := hcell 1 _ rfl
          have zk : bk < wr.heap.size := World.block_lt_of_cell? wr _ ca
          clear hcell
          by_cases hqm : q < m
          · obtain ⟨⟨u', v'⟩, hy⟩ := at_some HLb.out hqm
            obtain ⟨bk', of', rfl, hcell⟩ := (H.old G'.out).elem cRange_len hy (by omega)
            have ca' := hcell 0 _ rfl; simp only [Nat.add_zero] at ca'
            have cb' := hcell 1 _ rfl
            have zk' : bk' < wr.heap.size := World.block_lt_of_cell? wr _ ca'
            clear hcell
            have hqm' : decide ((m : Int) ≤ q) = false := by simp; omega
            by_cases hle : u ≤ u'
            · have hm2 := hmx.left hx (.inr ⟨_, hy, hle⟩)
              have hle' : decide (u ≤ u') = true := by simpa using hle
              clear hmx
              go_wp2_with fail
              refine wp_region_quiet_lit (by kernel_rfl) (by kernel_rfl) ?_
              repeat (any_goals (first | go_big_quiet_step ((fail)) | quiet_step ((fail)) | (refine wpQuiet_step (fun K hK => ?_); go_simp; split <;> (refine hK _ ?_; clear hK K))))
              all_goals (refine wpQuiet_nil ?_; intro _ hw_; obtain ⟨nq, hw__⟩ := hw_; subst hw__)
              go_wp2_with fail
              refine (l12Put_any A' _ c' _ (mergeR o) _ _ _ rfl ((H.on nq).out 0 rfl) (H.on nq).size (by omega) (SgR_merge (by intro x hx; simp at hx) hsg) ?_).mono ?_
              · have q1 := rOk_in HA.out hx; omega
              rintro e w3 ⟨A3, c3, rfl, o3, f3⟩
              have H3 := (H.on nq).heir o3 f3
              clear H
              go_wp2
              go_roundw
              case rel => exact ⟨p + 1, q, _, by go_num, by go_num, by omega, by omega, hm2, by rw [mergeR_snoc]; exact H3⟩
              case measure => simp [intOf]; omega
            · have hm2 := hmx.right hy (.inr ⟨_, hx, hle⟩)
              have hle' : decide (u ≤ u') = false := by simpa using hle
              clear hmx
              go_wp2_with fail
              refine wp_region_quiet_lit (by kernel_rfl) (by kernel_rfl) ?_
              repeat (any_goals (first | go_big_quiet_step ((fail)) | quiet_step ((fail)) | (refine wpQuiet_step (fun K hK => ?_); go_simp; split <;> (refine hK _ ?_; clear hK K))))
              all_goals (refine wpQuiet_nil ?_; intro _ hw_; obtain ⟨nq, hw__⟩ := hw_; subst hw__)
              go_wp2_with fail
              refine (l12Put_any A' _ c' _ (mergeR o) _ _ _ rfl ((H.on nq).out 0 rfl) (H.on nq).size (by omega) (SgR_merge (by intro x hx; simp at hx) hsg) ?_).mono ?_
              · have q1 := rOk_in HB.out hy; omega
              rintro e w3 ⟨A3, c3, rfl, o3, f3⟩
              have H3 := (H.on nq).heir o3 f3
              clear H
              go_wp2
              go_roundw
              case rel => exact ⟨p, q + 1, _, by go_num, by go_num, by omega, by omega, hm2, by rw [mergeR_snoc]; exact H3⟩
              case measure => simp [intOf]; omega
          · have hm2 := hmx.left hx (.inl (by rw [HLb.out]; omega))
            obtain rfl : q = m := by omega
            clear hmx
            go_wp2_with fail
            refine wp_region_quiet_lit (by kernel_rfl) (by kernel_rfl) ?_
            repeat (any_goals (first | go_big_quiet_step ((fail)) | quiet_step ((fail)) | (refine wpQuiet_step (fun K hK => ?_); go_simp; split <;> (refine hK _ ?_; clear hK K))))
            all_goals (refine wpQuiet_nil ?_; intro _ hw_; obtain ⟨nq, hw__⟩ := hw_; subst hw__)
            go_wp2_with fail
            refine (l12Put_any A' _ c' _ (mergeR o) _ _ _ rfl ((H.on nq).out 0 rfl) (H.on nq).size (by omega) (SgR_merge (by intro x hx; simp at hx) hsg) ?_).mono ?_
            · have q1 := rOk_in HA.out hx; omega
            rintro e w3 ⟨A3, c3, rfl, o3, f3⟩
            have H3 := (H.on nq).heir o3 f3
            clear H
            go_wp2
            go_roundw
            case rel => exact ⟨p + 1, q, _, by go_num, by go_num, by omega, by omega, hm2, by rw [mergeR_snoc]; exact H3⟩
            case measure => simp [intOf]; omega
        · by_cases hqm : q < m
          · obtain ⟨⟨u', v'⟩, hy⟩ := at_some HLb.out hqm
            obtain ⟨bk', of', rfl, hcell⟩ := (H.old G'.out).elem cRange_len hy (by omega)
            have ca' := hcell 0 _ rfl; simp only [Nat.add_zero] at ca'
            have cb' := hcell 1 _ rfl
            have zk' : bk' < wr.heap.size := World.block_lt_of_cell? wr _ ca'
            clear hcell
            have hqm' : decide ((m : Int) ≤ q) = false := by simp; omega
            have hm2 := hmx.right hy (.inl (by rw [HLa.out]; omega))
            have hpn' : decide ((p : Int) < n) = false := by simp; omega
            clear hmx
            go_wp2_with fail
            refine wp_region_quiet_lit (by kernel_rfl) (by kernel_rfl) ?_
            repeat (any_goals (first | go_big_quiet_step ((fail)) | quiet_step ((fail)) | (refine wpQuiet_step (fun K hK => ?_); go_simp; split <;> (refine hK _ ?_; clear hK K))))
            all_goals (refine wpQuiet_nil ?_; intro _ hw_; obtain ⟨nq, hw__⟩ := hw_; subst hw__)
            go_wp2_with fail
            refine (l12Put_any A' _ c' _ (mergeR o) _ _ _ rfl ((H.on nq).out 0 rfl) (H.on nq).size (by omega) (SgR_merge (by intro x hx; simp at hx) hsg) ?_).mono ?_
            · have q1 := rOk_in HB.out hy; omega
            rintro e w3 ⟨A3, c3, rfl, o3, f3⟩
            have H3 := (H.on nq).heir o3 f3
            clear H
            go_wp2
            go_roundw
            case rel => exact ⟨p, q + 1, _, by go_num, by go_num, by omega, by omega, hm2, by rw [mergeR_snoc]; exact H3⟩
            case measure => simp [intOf]; omega
          · have hd := hmx.done (by rw [HLa.out]; omega) (by rw [HLb.out]; omega)
            subst hd
            go_wp2_with fail
            go_ret
            rw [HR.out]
            exact ⟨A', c', rfl, H.out 0 rfl, H.fr⟩
    · have HR : Hid (union a b = []) := by simp [Hid, union, hb]
      have hb' : rOk b = false := by simpa using hb
      clear hb
      go_enter Try.func55, Try.ntmps55
      go_wp2_with fail
      refine (specRangesOk_any A n c a _ h hn).mono ?_
      rintro e w1 ⟨rfl, f1⟩
      rw [ha]
      go_wp2_with fail
      refine (specRangesOk_any B m d b _ (h'.fr f1.fr) hm).mono ?_
      rintro e w2 ⟨rfl, f2⟩
      rw [hb']
      go_wp2_with fail
      go_ret
      rw [HR.out]
      exact ((L0.go f1.fr).go f2.fr).toMade 0 rfl
  · have HR : Hid (union a b = []) := by simp [Hid, union, ha]
    have ha' : rOk a = false := by simpa using ha
    clear ha
    go_enter Try.func55, Try.ntmps55
    go_wp2_with fail
    refine (specRangesOk_any A n c a _ h hn).mono ?_
    rintro e w1 ⟨rfl, f1⟩
    rw [ha']
    go_wp2_with fail
    go_ret
    rw [HR.out]
    exact (L0.go f1.fr).toMade 0 rfl
end Go.Proofs.Ytbhnlfpcodeloaa
