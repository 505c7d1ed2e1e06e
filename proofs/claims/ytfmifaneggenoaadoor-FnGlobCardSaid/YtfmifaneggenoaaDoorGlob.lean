/-
  fits and l14Fits; Glob.
-/
import Derived.Test.YtfmifaneggenoaaDoorStarts
import Derived.Test.YtfmifaneggenoaaDoorMFits
namespace Go.Proofs.YtfmifaneggenoaaDoor
open Go.RowKit

set_option linter.unusedVariables false
set_option linter.unusedSimpArgs false
theorem isOnly_any (A : Option Addr) (n d : Nat) (c : Int) (u : List Int) (w : World) (h : Rd w A n 1 (u.map (Value.int .i64))) :
    Calls Tryd.prog 85 #[.slice A n d, .int .i64 c] w fun e w' => e = .returned (.bool (isU u c)) ∧ w' = w := by
  have hl := h.len1
  have HL := Lib.hid hl
  clear hl
  match u, h with
  | [], h =>
    obtain rfl : n = 0 := HL.out.symm
    go_enter Tryd.func85, Tryd.ntmps85
    go_wp2
    go_ret
    exact ⟨rfl, rfl⟩
  | [x], h =>
    obtain rfl : n = 1 := HL.out.symm
    obtain ⟨b, o, rfl, hc⟩ := h.get1 (j := 0) (x := x) rfl
    simp only [Nat.add_zero] at hc
    by_cases hx : x = c
    · have hd : (x == c) = true := by simpa using hx
      have HE := Lib.hid (show isU [x] c = true by simp [isU, hx])
      go_enter Tryd.func85, Tryd.ntmps85
      go_wp2_with fail
      go_ret
      rw [HE.out]
      exact ⟨rfl, rfl⟩
    · have hd : (x == c) = false := by simpa using hx
      have HE := Lib.hid (show isU [x] c = false by simp [isU, hx])
      go_enter Tryd.func85, Tryd.ntmps85
      go_wp2_with fail
      go_ret
      rw [HE.out]
      exact ⟨rfl, rfl⟩
  | x :: y :: r, h =>
    have hd : ((n : Int) == 1) = false := by rw [beq_eq_false_iff_ne]; have := HL.out; simp at this; omega
    have hd2 : (n == 1) = false := by rw [beq_eq_false_iff_ne]; have := HL.out; simp at this; omega
    have hd3 : ¬ n = 1 := by have := HL.out; simp at this; omega
    have HE := Lib.hid (show isU (x :: y :: r) c = false by simp [isU])
    go_enter Tryd.func85, Tryd.ntmps85
    go_wp2_with fail
    go_ret
    rw [HE.out]
    exact ⟨rfl, rfl⟩
theorem l14Is_any (A : Option Addr) (n d : Nat) (c : Int) (u : List Int) (w : World) (h : Rd w A n 1 (u.map (Value.int .i64))) :
    Calls Tryd.prog 84 #[.slice A n d, .int .i64 c] w fun e w' => e = .returned (.bool (isU u c)) ∧ w' = w := by
  have hl := h.len1
  have HL := Lib.hid hl
  clear hl
  match u, h with
  | [], h =>
    obtain rfl : n = 0 := HL.out.symm
    go_enter Tryd.func84, Tryd.ntmps84
    go_wp2
    go_ret
    exact ⟨rfl, rfl⟩
  | [x], h =>
    obtain rfl : n = 1 := HL.out.symm
    obtain ⟨b, o, rfl, hc⟩ := h.get1 (j := 0) (x := x) rfl
    simp only [Nat.add_zero] at hc
    by_cases hx : x = c
    · have hd : (x == c) = true := by simpa using hx
      have HE := Lib.hid (show isU [x] c = true by simp [isU, hx])
      go_enter Tryd.func84, Tryd.ntmps84
      go_wp2_with fail
      go_ret
      rw [HE.out]
      exact ⟨rfl, rfl⟩
    · have hd : (x == c) = false := by simpa using hx
      have HE := Lib.hid (show isU [x] c = false by simp [isU, hx])
      go_enter Tryd.func84, Tryd.ntmps84
      go_wp2_with fail
      go_ret
      rw [HE.out]
      exact ⟨rfl, rfl⟩
  | x :: y :: r, h =>
    have hd : ((n : Int) == 1) = false := by rw [beq_eq_false_iff_ne]; have := HL.out; simp at this; omega
    have hd2 : (n == 1) = false := by rw [beq_eq_false_iff_ne]; have := HL.out; simp at this; omega
    have hd3 : ¬ n = 1 := by have := HL.out; simp at this; omega
    have HE := Lib.hid (show isU (x :: y :: r) c = false by simp [isU])
    go_enter Tryd.func84, Tryd.ntmps84
    go_wp2_with fail
    go_ret
    rw [HE.out]
    exact ⟨rfl, rfl⟩

set_option maxRecDepth 100000 in
set_option maxHeartbeats 8000000 in
theorem implFits_any (A B : Option Addr) (np nn c d : Nat) (p n : List (List Int)) (w : World) (hp : RdR w A np p) (hn : RdR w B nn n) (hnn : nn ≤ 300000) (hnp : np ≤ 300000) (hpi : ∀ u ∈ p, u.length ≤ 300000) (hni : ∀ u ∈ n, u.length ≤ 300000) :
    Calls Tryd.prog 54 #[.slice A np c, .slice B nn d] w fun e w' => e = .returned (.bool (fitsL p n)) ∧ Fr w w' := by
  have HPL := Lib.hid hp.len
  have HNL := Lib.hid hn.len
  have GP := Lib.hid hp
  have GN := Lib.hid hn
  obtain ⟨q0, hq0⟩ : ∃ q, q = fitsL p n := ⟨_, rfl⟩
  have HQ := Lib.hid (hq0.trans (show fitsL p n = (fitFrom p n).getD n.length false from rfl))
  rw [← hq0]
  obtain ⟨N, hN⟩ : ∃ N, N = nn + 1 := ⟨_, rfl⟩
  have hw : IntKind.i64.wrap ((nn : Int) + 1) = (N : Int) := by rw [IntWalk.i64_in _ (by omega)]; omega
  have HNN := Lib.hid (show N = n.length + 1 by rw [HNL.out]; exact hN)
  have HN1 := Lib.hid hN
  have hNb : N ≤ 300001 := by omega
  have hN0 : (0 : Int) < (N : Int) := by omega
  have hN2 : 0 < N := by omega
  clear hp hn hq0 hN
  go_enter Tryd.func54, Tryd.ntmps54
  go_wp2_with (at_make; refine wp_mk (Hp.start w) rfl _ _ _ rfl Tryd.underlying72 infoBool rfl rfl (N) _ _ _ _ rfl rfl rfl rfl (by first | omega | (simp; done) | (simp; omega)) (by first | (simp only [maxLen]; omega) | (simp [maxLen]; done) | (simp [maxLen]; omega)) ?_)
  intro w1 H
  have H1 : Hp [] w w1 [.row 4 1 (.slice (some ⟨w.heap.size, 0, none⟩) N N) N ((List.replicate N false).map Value.bool)] := by rw [List.map_replicate]; exact H
  have c0 := H1.atM (f1 := Value.bool) 0 rfl (j := 0) (x := false) (by rw [List.getElem?_replicate, if_pos hN2])
  have f0 := H1.free 0 rfl 0
  have H2 := H1.putM (f1 := Value.bool) 0 rfl 0 true
  have hz : (List.replicate N false).set 0 true = fitFrom (p.take 0) n := by
    rw [HNN.out, List.replicate_succ, List.set_cons_zero]; rfl
  rw [hz] at H2
  have HH := Lib.hid H2
  clear H H1 H2 hz
  go_wp2_with fail
  go_loopw [5, 18] (fun v iv wr => ∃ (i g : Nat), iv = .int .i64 i ∧ v = .slice (some ⟨g, 0, none⟩) N N ∧ i ≤ np ∧ Hp [] w wr [.row 4 1 (.slice (some ⟨g, 0, none⟩) N N) N ((fitFrom (p.take i) n).map Value.bool)]) (fun _ iv _ => np - (intOf iv).toNat)
  case atStart => exact ⟨0, _, rfl, rfl, by omega, HH.out⟩
  case round =>
    clear HH
    obtain ⟨i, g, rfl, rfl, hi, H⟩ := hrel
    by_cases hlt : i < np
    · obtain ⟨u, hx⟩ := some_at HPL.out hlt
      obtain ⟨bp, op, Bp, dp, rfl, cp0, ru⟩ := GP.out.at_ hx
      have cp := fr_cell H.fr cp0
      have hub := hpi u (List.mem_of_getElem? hx)
      have HX := Lib.hid (fitFrom_next (n := n) hx)
      have hfl := fitFrom_len (p.take i) n
      rw [← HNN.out] at hfl
      have HFL := Lib.hid hfl
      have hi0 : (0 : Int) ≤ (i : Int) := by omega
      have hi1 : (i : Int) < (np : Int) := by omega
      clear hx hfl
      generalize fitFrom (p.take i) n = F at H HX HFL
      obtain ⟨gt, hgt⟩ : ∃ gt, gt = wr.heap.size := ⟨_, rfl⟩
      have HR := Lib.hid ru
      go_wp2_with (at_make; refine wp_mk (H) rfl _ _ _ rfl Tryd.underlying72 infoBool rfl rfl (N) _ _ _ _ rfl rfl rfl rfl (by first | omega | (simp; done) | (simp; omega)) (by first | (simp only [maxLen]; omega) | (simp [maxLen]; done) | (simp [maxLen]; omega)) ?_)
      intro w2 H2
      have H3 : Hp [] w w2 [.row 4 1 (.slice (some ⟨gt, 0, none⟩) N N) N ((mixT u n F 0).map Value.bool), .row 4 1 (.slice (some ⟨g, 0, none⟩) N N) N (F.map Value.bool)] := by
        rw [mixT_zero, ← HNN.out, List.map_replicate, hgt]; exact H2
      rw [← hgt]
      have HH := Lib.hid H3
      have CP0 := Lib.hid cp0
      clear H H2 H3 hgt ru cp cp0
      go_wp2_with fail
      go_loopw [28] (fun kv w3 => ∃ k : Nat, kv = .int .i64 k ∧ k ≤ N ∧ Hp [] w w3 [.row 4 1 (.slice (some ⟨gt, 0, none⟩) N N) N ((mixT u n F k).map Value.bool), .row 4 1 (.slice (some ⟨g, 0, none⟩) N N) N (F.map Value.bool)]) (fun kv _ => N - (intOf kv).toNat)
      case atStart => exact ⟨0, rfl, by omega, HH.out⟩
      case round =>
        clear HH
        obtain ⟨k, rfl, hk, H⟩ := hrel
        by_cases hkt : k < N
        · obtain ⟨v, hv⟩ := some_at HFL.out hkt
          have cf := H.atM (f1 := Value.bool) 1 rfl hv
          have HV := Lib.hid hv
          have hk0 : (0 : Int) ≤ (k : Int) := by omega
          have hk1 : (k : Int) < (N : Int) := by omega
          clear hv
          go_wp2_with fail
          refine (isOnly_any _ _ _ 42 u _ (HR.out.fr H.fr)).mono ?_
          rintro e wq ⟨rfl, hwq⟩
          rw [← hwq] at H cf
          clear hwq
          rcases bool_or (isU u 42) with h42 | h42
          · have H42 := Lib.hid h42
            rw [h42]
            clear h42
            rcases Nat.eq_zero_or_pos k with hz | hz
            · subst hz
              cases v with
              | true =>
                have HE := Lib.hid (fit_star0 (n := n) H42.out HV.out)
                have HS := Lib.hid (show (mixT u n F 0).set 0 true = mixT u n F (0 + 1) by rw [← HE.out]; exact mixT_set (by rw [← HNN.out]; omega))
                have ft := H.free 0 rfl 0
                have ct := H.atM 0 rfl (mixT_at (u := u) (fr := F) (k := 0) (by rw [← HNN.out]; omega))
                have H9 := H.putM (f1 := Value.bool) 0 rfl 0 true
                rw [HS.out] at H9
                have H10 := Lib.hid H9
                clear H9 H
                go_wp2_with fail
                go_roundw
                case rel => exact ⟨0 + 1, by go_num, by omega, H10.out⟩
                case measure => simp [intOf]; omega
              | false =>
                have HE := Lib.hid (fit_star0 (n := n) H42.out HV.out)
                have HS := Lib.hid (show (mixT u n F 0).set 0 false = mixT u n F (0 + 1) by rw [← HE.out]; exact mixT_set (by rw [← HNN.out]; omega))
                have ft := H.free 0 rfl 0
                have ct := H.atM 0 rfl (mixT_at (u := u) (fr := F) (k := 0) (by rw [← HNN.out]; omega))
                have H9 := H.putM (f1 := Value.bool) 0 rfl 0 false
                rw [HS.out] at H9
                have H10 := Lib.hid H9
                clear H9 H
                go_wp2_with fail
                go_roundw
                case rel => exact ⟨0 + 1, by go_num, by omega, H10.out⟩
                case measure => simp [intOf]; omega
            · obtain ⟨q, rfl⟩ : ∃ q, k = q + 1 := ⟨k - 1, by omega⟩
              cases v with
              | true =>
                have HE := Lib.hid ((fit_star (n := n) H42.out HV.out).trans (Bool.true_or _))
                have HS := Lib.hid (show (mixT u n F (q + 1)).set (q + 1) true = mixT u n F ((q + 1) + 1) by rw [← HE.out]; exact mixT_set (by rw [← HNN.out]; omega))
                have ft := H.free 0 rfl (q + 1)
                have ct := H.atM 0 rfl (mixT_at (u := u) (fr := F) (k := (q + 1)) (by rw [← HNN.out]; omega))
                have H9 := H.putM (f1 := Value.bool) 0 rfl (q + 1) true
                rw [HS.out] at H9
                have H10 := Lib.hid H9
                clear H9 H
                go_wp2_with fail
                go_roundw
                case rel => exact ⟨(q + 1) + 1, by go_num, by omega, H10.out⟩
                case measure => simp [intOf]; omega
              | false =>
                obtain ⟨y, hy⟩ : ∃ y, y = fitTo u n F q := ⟨_, rfl⟩
                have cpv := H.atM (f1 := Value.bool) 0 rfl (mixT_prev (u := u) (fr := F) (n := n) (k := q) (by rw [← HNN.out]; omega))
                rw [← hy] at cpv
                have HY := Lib.hid hy
                clear hy
                have hwq1 : IntKind.i64.wrap (q : Int) = (q : Int) := IntWalk.i64_in _ (by omega)
                have hq0 : (0 : Int) ≤ (q : Int) := by omega
                have hq1 : (q : Int) < (N : Int) := by omega
                have HE := Lib.hid ((fit_star (n := n) H42.out HV.out).trans (by rw [Bool.false_or, ← HY.out]))
                have HS := Lib.hid (show (mixT u n F (q + 1)).set (q + 1) y = mixT u n F ((q + 1) + 1) by rw [← HE.out]; exact mixT_set (by rw [← HNN.out]; omega))
                have ft := H.free 0 rfl (q + 1)
                have ct := H.atM 0 rfl (mixT_at (u := u) (fr := F) (k := (q + 1)) (by rw [← HNN.out]; omega))
                have H9 := H.putM (f1 := Value.bool) 0 rfl (q + 1) y
                rw [HS.out] at H9
                have H10 := Lib.hid H9
                clear H9 H
                go_wp2_with fail
                go_roundw
                case rel => exact ⟨(q + 1) + 1, by go_num, by omega, H10.out⟩
                case measure => simp [intOf]; omega
          · have H42 := Lib.hid h42
            rw [h42]
            clear h42
            rcases Nat.eq_zero_or_pos k with hz | hz
            · subst hz
              clear cf
              have HS := Lib.hid (mixT_skip (u := u) (fr := F) (n := n) (k := 0) (by rw [← HNN.out]; omega) (fit_plain0 (n := n) (fr := F) H42.out))
              have H10 := Lib.hid H
              clear H
              go_wp2_with fail
              go_roundw
              case rel => exact ⟨0 + 1, by go_num, by omega, by rw [← HS.out]; exact H10.out⟩
              case measure => simp [intOf]; omega
            · obtain ⟨q, rfl⟩ : ∃ q, k = q + 1 := ⟨k - 1, by omega⟩
              have hq0 : (0 : Int) ≤ (q : Int) := by omega
              have hq1 : (q : Int) < (N : Int) := by omega
              have hwq1 : IntKind.i64.wrap (q : Int) = (q : Int) := IntWalk.i64_in _ (by omega)
              obtain ⟨vq, hvq⟩ := some_at HFL.out (show q < N by omega)
              obtain ⟨x, hxn⟩ := some_at HNL.out (show q < nn by have := HN1.out; omega)
              have HVQ := Lib.hid hvq
              have HXN := Lib.hid hxn
              have hxb := hni x (List.mem_of_getElem? hxn)
              have hqn : (q : Int) < (nn : Int) := by have := HN1.out; omega
              obtain ⟨bn, on, Bn, dn, rfl, cn0, rn⟩ := GN.out.at_ hxn
              have HFE := Lib.hid (fit_plain (u := u) H42.out HVQ.out HXN.out)
              clear hvq hxn cf
              go_wp2_with fail
              refine (isOnly_any _ _ _ 63 u _ (HR.out.fr H.fr)).mono ?_
              rintro e wq ⟨rfl, hwq⟩
              rw [← hwq] at H
              clear hwq
              have cq := H.atM (f1 := Value.bool) 1 rfl HVQ.out
              rcases bool_or (isU u 63) with h63 | h63
              · have H63 := Lib.hid h63
                rw [h63]
                clear h63
                have HE := Lib.hid (HFE.out.trans (by rw [H63.out, Bool.true_or, Bool.and_true]))
                have HS := Lib.hid (show (mixT u n F (q + 1)).set (q + 1) vq = mixT u n F ((q + 1) + 1) by rw [← HE.out]; exact mixT_set (by rw [← HNN.out]; omega))
                have ft := H.free 0 rfl (q + 1)
                have ct := H.atM 0 rfl (mixT_at (u := u) (fr := F) (k := (q + 1)) (by rw [← HNN.out]; omega))
                have H9 := H.putM (f1 := Value.bool) 0 rfl (q + 1) vq
                rw [HS.out] at H9
                have H10 := Lib.hid H9
                clear H9 H
                go_wp2_with fail
                go_roundw
                case rel => exact ⟨(q + 1) + 1, by go_num, by omega, H10.out⟩
                case measure => simp [intOf]; omega
              · have H63 := Lib.hid h63
                rw [h63]
                clear h63
                have cn := fr_cell H.fr cn0
                obtain ⟨bb, hbb⟩ : ∃ b, b = decide (u = x) := ⟨_, rfl⟩
                have HBB := Lib.hid hbb
                clear hbb cq
                go_wp2_with fail
                refine (slEqual_any _ _ _ _ _ _ u x _ (HR.out.fr H.fr) (rn.fr H.fr) (by omega) (by omega)).mono ?_
                rintro e w7 ⟨rfl, d7⟩
                rw [← HBB.out]
                replace H := H.go d7.fr
                clear d7 cn
                have cq := H.atM (f1 := Value.bool) 1 rfl HVQ.out
                cases bb with
                | true =>
                  have HE := Lib.hid (HFE.out.trans (by rw [H63.out, ← HBB.out, Bool.false_or, Bool.and_true]))
                  have HS := Lib.hid (show (mixT u n F (q + 1)).set (q + 1) vq = mixT u n F ((q + 1) + 1) by rw [← HE.out]; exact mixT_set (by rw [← HNN.out]; omega))
                  have ft := H.free 0 rfl (q + 1)
                  have ct := H.atM 0 rfl (mixT_at (u := u) (fr := F) (k := (q + 1)) (by rw [← HNN.out]; omega))
                  have H9 := H.putM (f1 := Value.bool) 0 rfl (q + 1) vq
                  rw [HS.out] at H9
                  have H10 := Lib.hid H9
                  clear H9 H
                  go_wp2_with fail
                  go_roundw
                  case rel => exact ⟨(q + 1) + 1, by go_num, by omega, H10.out⟩
                  case measure => simp [intOf]; omega
                | false =>
                  have HS := Lib.hid (mixT_skip (u := u) (fr := F) (n := n) (k := (q + 1)) (by rw [← HNN.out]; omega) (HFE.out.trans (by rw [H63.out, ← HBB.out, Bool.false_or, Bool.and_false])))
                  have H10 := Lib.hid H
                  clear H
                  go_wp2_with fail
                  go_roundw
                  case rel => exact ⟨(q + 1) + 1, by go_num, by omega, by rw [← HS.out]; exact H10.out⟩
                  case measure => simp [intOf]; omega
        · have hge : ¬ ((k : Int) < (N : Int)) := by omega
          rw [mixT_all (by rw [← HNN.out]; omega), ← HX.out] at H
          have HH := Lib.hid (show Hp [] w wr [.row 4 1 (.slice (some ⟨gt, 0, none⟩) N N) N ((fitFrom (p.take (i + 1)) n).map Value.bool)] from H.drop1)
          clear H
          go_wp2_with fail
          go_roundw
          case rel => exact ⟨i + 1, gt, by go_num, rfl, by omega, HH.out⟩
          case measure => simp [intOf]; omega
    ·
      have hge : ¬ ((i : Int) < (np : Int)) := by omega
      have ht : p.take i = p := List.take_of_length_le (by rw [HPL.out]; omega)
      rw [ht] at H
      have hfl := fitFrom_len p n
      obtain ⟨x, hx⟩ := some_at (l := fitFrom p n) hfl (show n.length < n.length + 1 by omega)
      have HE := Lib.hid (HQ.out.trans (show (fitFrom p n).getD n.length false = x by rw [List.getD_eq_getElem?_getD, hx]; rfl))
      rw [HNL.out] at hx
      have cx := H.atM 0 rfl hx
      have hnN : (nn : Int) < (N : Int) := by have := HN1.out; omega
      have HF := Lib.hid H.fr
      clear H hx hfl ht
      go_wp2_with fail
      go_ret
      rw [HE.out]
      exact ⟨rfl, HF.out⟩
set_option maxRecDepth 100000 in
set_option maxHeartbeats 8000000 in
theorem l14Fits_any (A B : Option Addr) (np nn c d : Nat) (p n : List (List Int)) (w : World) (hp : RdR w A np p) (hn : RdR w B nn n) (hnn : nn ≤ 300000) (hnp : np ≤ 300000) (hpi : ∀ u ∈ p, u.length ≤ 300000) (hni : ∀ u ∈ n, u.length ≤ 300000) :
    Calls Tryd.prog 53 #[.slice A np c, .slice B nn d] w fun e w' => e = .returned (.bool (fitsL p n)) ∧ Fr w w' := by
  have HPL := Lib.hid hp.len
  have HNL := Lib.hid hn.len
  have GP := Lib.hid hp
  have GN := Lib.hid hn
  obtain ⟨q0, hq0⟩ : ∃ q, q = fitsL p n := ⟨_, rfl⟩
  have HQ := Lib.hid (hq0.trans (show fitsL p n = (fitFrom p n).getD n.length false from rfl))
  rw [← hq0]
  obtain ⟨N, hN⟩ : ∃ N, N = nn + 1 := ⟨_, rfl⟩
  have hw : IntKind.i64.wrap ((nn : Int) + 1) = (N : Int) := by rw [IntWalk.i64_in _ (by omega)]; omega
  have HNN := Lib.hid (show N = n.length + 1 by rw [HNL.out]; exact hN)
  have HN1 := Lib.hid hN
  have hNb : N ≤ 300001 := by omega
  have hN0 : (0 : Int) < (N : Int) := by omega
  have hN2 : 0 < N := by omega
  clear hp hn hq0 hN
  go_enter Tryd.func53, Tryd.ntmps53
  go_wp2_with (at_make; refine wp_mk (Hp.start w) rfl _ _ _ rfl Tryd.underlying72 infoBool rfl rfl (N) _ _ _ _ rfl rfl rfl rfl (by first | omega | (simp; done) | (simp; omega)) (by first | (simp only [maxLen]; omega) | (simp [maxLen]; done) | (simp [maxLen]; omega)) ?_)
  intro w1 H
  have H1 : Hp [] w w1 [.row 4 1 (.slice (some ⟨w.heap.size, 0, none⟩) N N) N ((List.replicate N false).map Value.bool)] := by rw [List.map_replicate]; exact H
  have c0 := H1.atM (f1 := Value.bool) 0 rfl (j := 0) (x := false) (by rw [List.getElem?_replicate, if_pos hN2])
  have f0 := H1.free 0 rfl 0
  have H2 := H1.putM (f1 := Value.bool) 0 rfl 0 true
  have hz : (List.replicate N false).set 0 true = fitFrom (p.take 0) n := by
    rw [HNN.out, List.replicate_succ, List.set_cons_zero]; rfl
  rw [hz] at H2
  have HH := Lib.hid H2
  clear H H1 H2 hz
  go_wp2_with fail
  go_loopw [5, 6] (fun v iv wr => ∃ (i g : Nat), iv = .int .i64 i ∧ v = .slice (some ⟨g, 0, none⟩) N N ∧ i ≤ np ∧ Hp [] w wr [.row 4 1 (.slice (some ⟨g, 0, none⟩) N N) N ((fitFrom (p.take i) n).map Value.bool)]) (fun _ iv _ => np - (intOf iv).toNat)
  case atStart => exact ⟨0, _, rfl, rfl, by omega, HH.out⟩
  case round =>
    clear HH
    obtain ⟨i, g, rfl, rfl, hi, H⟩ := hrel
    by_cases hlt : i < np
    · obtain ⟨u, hx⟩ := some_at HPL.out hlt
      obtain ⟨bp, op, Bp, dp, rfl, cp0, ru⟩ := GP.out.at_ hx
      have cp := fr_cell H.fr cp0
      have hub := hpi u (List.mem_of_getElem? hx)
      have HX := Lib.hid (fitFrom_next (n := n) hx)
      have hfl := fitFrom_len (p.take i) n
      rw [← HNN.out] at hfl
      have HFL := Lib.hid hfl
      have hi0 : (0 : Int) ≤ (i : Int) := by omega
      have hi1 : (i : Int) < (np : Int) := by omega
      clear hx hfl
      generalize fitFrom (p.take i) n = F at H HX HFL
      obtain ⟨gt, hgt⟩ : ∃ gt, gt = wr.heap.size := ⟨_, rfl⟩
      have HR := Lib.hid ru
      go_wp2_with (at_make; refine wp_mk (H) rfl _ _ _ rfl Tryd.underlying72 infoBool rfl rfl (N) _ _ _ _ rfl rfl rfl rfl (by first | omega | (simp; done) | (simp; omega)) (by first | (simp only [maxLen]; omega) | (simp [maxLen]; done) | (simp [maxLen]; omega)) ?_)
      intro w2 H2
      have H3 : Hp [] w w2 [.row 4 1 (.slice (some ⟨gt, 0, none⟩) N N) N ((mixT u n F 0).map Value.bool), .row 4 1 (.slice (some ⟨g, 0, none⟩) N N) N (F.map Value.bool)] := by
        rw [mixT_zero, ← HNN.out, List.map_replicate, hgt]; exact H2
      rw [← hgt]
      have HH := Lib.hid H3
      have CP0 := Lib.hid cp0
      clear H H2 H3 hgt ru cp cp0
      go_wp2_with fail
      go_loopw [8] (fun kv w3 => ∃ k : Nat, kv = .int .i64 k ∧ k ≤ N ∧ Hp [] w w3 [.row 4 1 (.slice (some ⟨gt, 0, none⟩) N N) N ((mixT u n F k).map Value.bool), .row 4 1 (.slice (some ⟨g, 0, none⟩) N N) N (F.map Value.bool)]) (fun kv _ => N - (intOf kv).toNat)
      case atStart => exact ⟨0, rfl, by omega, HH.out⟩
      case round =>
        clear HH
        obtain ⟨k, rfl, hk, H⟩ := hrel
        by_cases hkt : k < N
        · obtain ⟨v, hv⟩ := some_at HFL.out hkt
          have cf := H.atM (f1 := Value.bool) 1 rfl hv
          have cp := fr_cell H.fr CP0.out
          have HV := Lib.hid hv
          have hk0 : (0 : Int) ≤ (k : Int) := by omega
          have hk1 : (k : Int) < (N : Int) := by omega
          have hk2 : (k : Int) ≤ (nn : Int) := by have := HN1.out; omega
          have hk3 : k ≤ nn := by have := HN1.out; omega
          clear hv
          go_wp2_with fail
          refine (l14Is_any _ _ _ 42 u _ (HR.out.fr H.fr)).mono ?_
          rintro e wq ⟨rfl, hwq⟩
          rw [← hwq] at H cf
          clear hwq cp
          rcases bool_or (isU u 42) with h42 | h42
          · have H42 := Lib.hid h42
            rw [h42]
            clear h42
            rcases Nat.eq_zero_or_pos k with hz | hz
            · subst hz
              cases v with
              | true =>
                have HE := Lib.hid (fit_star0 (n := n) H42.out HV.out)
                have HS := Lib.hid (show (mixT u n F 0).set 0 true = mixT u n F (0 + 1) by rw [← HE.out]; exact mixT_set (by rw [← HNN.out]; omega))
                have ft := H.free 0 rfl 0
                have ct := H.atM 0 rfl (mixT_at (u := u) (fr := F) (k := 0) (by rw [← HNN.out]; omega))
                have H9 := H.putM (f1 := Value.bool) 0 rfl 0 true
                rw [HS.out] at H9
                have H10 := Lib.hid H9
                clear H9 H
                go_wp2_with fail
                go_roundw
                case rel => exact ⟨0 + 1, by go_num, by omega, H10.out⟩
                case measure => simp [intOf]; omega
              | false =>
                have HE := Lib.hid (fit_star0 (n := n) H42.out HV.out)
                have HS := Lib.hid (show (mixT u n F 0).set 0 false = mixT u n F (0 + 1) by rw [← HE.out]; exact mixT_set (by rw [← HNN.out]; omega))
                have ft := H.free 0 rfl 0
                have ct := H.atM 0 rfl (mixT_at (u := u) (fr := F) (k := 0) (by rw [← HNN.out]; omega))
                have H9 := H.putM (f1 := Value.bool) 0 rfl 0 false
                rw [HS.out] at H9
                have H10 := Lib.hid H9
                clear H9 H
                go_wp2_with fail
                go_roundw
                case rel => exact ⟨0 + 1, by go_num, by omega, H10.out⟩
                case measure => simp [intOf]; omega
            · obtain ⟨q, rfl⟩ : ∃ q, k = q + 1 := ⟨k - 1, by omega⟩
              cases v with
              | true =>
                have HE := Lib.hid ((fit_star (n := n) H42.out HV.out).trans (Bool.true_or _))
                have HS := Lib.hid (show (mixT u n F (q + 1)).set (q + 1) true = mixT u n F ((q + 1) + 1) by rw [← HE.out]; exact mixT_set (by rw [← HNN.out]; omega))
                have ft := H.free 0 rfl (q + 1)
                have ct := H.atM 0 rfl (mixT_at (u := u) (fr := F) (k := (q + 1)) (by rw [← HNN.out]; omega))
                have H9 := H.putM (f1 := Value.bool) 0 rfl (q + 1) true
                rw [HS.out] at H9
                have H10 := Lib.hid H9
                clear H9 H
                go_wp2_with fail
                go_roundw
                case rel => exact ⟨(q + 1) + 1, by go_num, by omega, H10.out⟩
                case measure => simp [intOf]; omega
              | false =>
                obtain ⟨y, hy⟩ : ∃ y, y = fitTo u n F q := ⟨_, rfl⟩
                have cpv := H.atM (f1 := Value.bool) 0 rfl (mixT_prev (u := u) (fr := F) (n := n) (k := q) (by rw [← HNN.out]; omega))
                rw [← hy] at cpv
                have HY := Lib.hid hy
                clear hy
                have hwq1 : IntKind.i64.wrap (q : Int) = (q : Int) := IntWalk.i64_in _ (by omega)
                have hq0 : (0 : Int) ≤ (q : Int) := by omega
                have hq1 : (q : Int) < (N : Int) := by omega
                have HE := Lib.hid ((fit_star (n := n) H42.out HV.out).trans (by rw [Bool.false_or, ← HY.out]))
                have HS := Lib.hid (show (mixT u n F (q + 1)).set (q + 1) y = mixT u n F ((q + 1) + 1) by rw [← HE.out]; exact mixT_set (by rw [← HNN.out]; omega))
                have ft := H.free 0 rfl (q + 1)
                have ct := H.atM 0 rfl (mixT_at (u := u) (fr := F) (k := (q + 1)) (by rw [← HNN.out]; omega))
                have H9 := H.putM (f1 := Value.bool) 0 rfl (q + 1) y
                rw [HS.out] at H9
                have H10 := Lib.hid H9
                clear H9 H
                go_wp2_with fail
                go_roundw
                case rel => exact ⟨(q + 1) + 1, by go_num, by omega, H10.out⟩
                case measure => simp [intOf]; omega
          · have H42 := Lib.hid h42
            rw [h42]
            clear h42
            rcases Nat.eq_zero_or_pos k with hz | hz
            · subst hz
              clear cf
              have HS := Lib.hid (mixT_skip (u := u) (fr := F) (n := n) (k := 0) (by rw [← HNN.out]; omega) (fit_plain0 (n := n) (fr := F) H42.out))
              have H10 := Lib.hid H
              clear H
              go_wp2_with fail
              go_roundw
              case rel => exact ⟨0 + 1, by go_num, by omega, by rw [← HS.out]; exact H10.out⟩
              case measure => simp [intOf]; omega
            · obtain ⟨q, rfl⟩ : ∃ q, k = q + 1 := ⟨k - 1, by omega⟩
              have hq0 : (0 : Int) ≤ (q : Int) := by omega
              have hq1 : (q : Int) < (N : Int) := by omega
              have hwq1 : IntKind.i64.wrap (q : Int) = (q : Int) := IntWalk.i64_in _ (by omega)
              obtain ⟨vq, hvq⟩ := some_at HFL.out (show q < N by omega)
              obtain ⟨x, hxn⟩ := some_at HNL.out (show q < nn by have := HN1.out; omega)
              have HVQ := Lib.hid hvq
              have HXN := Lib.hid hxn
              have hxb := hni x (List.mem_of_getElem? hxn)
              have hqn : (q : Int) < (nn : Int) := by have := HN1.out; omega
              obtain ⟨bn, on, Bn, dn, rfl, cn0, rn⟩ := GN.out.at_ hxn
              have HFE := Lib.hid (fit_plain (u := u) H42.out HVQ.out HXN.out)
              have ru := HR.out.fr H.fr
              have rn2 := rn.fr H.fr
              clear hvq hxn cf
              go_wp2_with fail
              cases vq with
              | false =>
                have HE := Lib.hid (HFE.out.trans (Bool.false_and _))
                have HS := Lib.hid (show (mixT u n F (q + 1)).set (q + 1) false = mixT u n F (q + 2) by rw [← HE.out]; exact mixT_set (by rw [← HNN.out]; omega))
                have cq := H.atM (f1 := Value.bool) 1 rfl HVQ.out
                have cp := fr_cell H.fr CP0.out
                have cn := fr_cell H.fr cn0
                have hk5 : (0 : Int) ≤ (q : Int) + 1 := by omega
                have hk6 : (q : Int) + 1 < (N : Int) := by omega
                refine wp_region_held_drew (S := fun w' => w'.cell? ⟨g, q, none⟩ = some (.bool false)) (by kernel_rfl) ?_ (fun hHeld => ?_)
                · exact cq
                refine wpAnyH_take (i := 0) (v := ?_) rfl (by kernel_rfl) (by kernel_rfl) (by kernel_rfl) (fun _ _ _ h => h) (Or.inl ⟨by kernel_rfl, ?_⟩) (by assumption) ?_
                rotate_left
                · (intro w hSw; (try dsimp only at hSw); go_simp; try (with_reducible rfl))
                try simp only [List.getElem_toArray, List.getElem_cons_succ, List.getElem_cons_zero, Act.put, List.setIfInBounds_toArray, List.set_cons_zero, List.set_cons_succ]
                refine wpAnyH_take (i := 1) (v := ?_) rfl (by kernel_rfl) (by kernel_rfl) (by kernel_rfl) (fun _ _ _ h => h) (Or.inl ⟨by kernel_rfl, ?_⟩) (by assumption) ?_
                rotate_left
                · (intro w hSw; (try dsimp only at hSw); go_simp; try (with_reducible rfl))
                try simp only [List.getElem_toArray, List.getElem_cons_succ, List.getElem_cons_zero, Act.put, List.setIfInBounds_toArray, List.set_cons_zero, List.set_cons_succ]
                refine wpAnyH_take (i := 2) (v := ?_) rfl (by kernel_rfl) (by kernel_rfl) (by kernel_rfl) (fun _ _ _ h => h) (Or.inl ⟨by kernel_rfl, ?_⟩) (by assumption) ?_
                rotate_left
                · (intro w hSw; (try dsimp only at hSw); go_simp; try (with_reducible rfl))
                try simp only [List.getElem_toArray, List.getElem_cons_succ, List.getElem_cons_zero, Act.put, List.setIfInBounds_toArray, List.set_cons_zero, List.set_cons_succ]
                refine wpAnyH_take (i := 3) (v := ?_) rfl (by kernel_rfl) (by kernel_rfl) (by kernel_rfl) (fun _ _ _ h => h) (Or.inl ⟨by kernel_rfl, ?_⟩) (by assumption) ?_
                rotate_left
                · (intro w hSw; (try dsimp only at hSw); go_simp; try (with_reducible rfl))
                try simp only [List.getElem_toArray, List.getElem_cons_succ, List.getElem_cons_zero, Act.put, List.setIfInBounds_toArray, List.set_cons_zero, List.set_cons_succ]
                refine wpAnyH_take (i := 4) (v := ?_) rfl (by kernel_rfl) (by kernel_rfl) (by kernel_rfl) (fun _ _ _ h => h) (Or.inl ⟨by kernel_rfl, ?_⟩) (by assumption) ?_
                rotate_left
                · (intro w hSw; (try dsimp only at hSw); go_simp; try (with_reducible rfl))
                try simp only [List.getElem_toArray, List.getElem_cons_succ, List.getElem_cons_zero, Act.put, List.setIfInBounds_toArray, List.set_cons_zero, List.set_cons_succ]
                refine wpAnyH_take (i := 5) (v := ?_) rfl (by kernel_rfl) (by kernel_rfl) (by kernel_rfl) (fun _ _ _ h => h) (Or.inl ⟨by kernel_rfl, ?_⟩) (by assumption) ?_
                rotate_left
                · (intro w hSw; (try dsimp only at hSw); go_simp; try (with_reducible rfl))
                try simp only [List.getElem_toArray, List.getElem_cons_succ, List.getElem_cons_zero, Act.put, List.setIfInBounds_toArray, List.set_cons_zero, List.set_cons_succ]
                refine wpAnyH_take (i := 6) (v := ?_) rfl (by kernel_rfl) (by kernel_rfl) (by kernel_rfl) (fun _ _ _ h => h) (Or.inl ⟨by kernel_rfl, ?_⟩) (by assumption) ?_
                rotate_left
                · (intro w hSw; (try dsimp only at hSw); go_simp; try (with_reducible rfl))
                try simp only [List.getElem_toArray, List.getElem_cons_succ, List.getElem_cons_zero, Act.put, List.setIfInBounds_toArray, List.set_cons_zero, List.set_cons_succ]
                refine wpAnyH_take (i := 7) (v := ?_) rfl (by kernel_rfl) (by kernel_rfl) (by kernel_rfl) (fun _ _ _ h => h) (Or.inl ⟨by kernel_rfl, ?_⟩) (by assumption) ?_
                rotate_left
                · (intro w hSw; (try dsimp only at hSw); go_simp; try (with_reducible rfl))
                try simp only [List.getElem_toArray, List.getElem_cons_succ, List.getElem_cons_zero, Act.put, List.setIfInBounds_toArray, List.set_cons_zero, List.set_cons_succ]
                refine wpAnyH_take (i := 8) (v := undef) rfl (by kernel_rfl) (by kernel_rfl) (by kernel_rfl) (fun _ _ _ h => h) (Or.inr ⟨by kernel_rfl, rfl⟩) (by assumption) ?_
                try simp only [List.getElem_toArray, List.getElem_cons_succ, List.getElem_cons_zero, Act.put, List.setIfInBounds_toArray, List.set_cons_zero, List.set_cons_succ]
                refine wpAnyH_take (i := 9) (v := undef) rfl (by kernel_rfl) (by kernel_rfl) (by kernel_rfl) (fun _ _ _ h => h) (Or.inr ⟨by kernel_rfl, rfl⟩) (by assumption) ?_
                try simp only [List.getElem_toArray, List.getElem_cons_succ, List.getElem_cons_zero, Act.put, List.setIfInBounds_toArray, List.set_cons_zero, List.set_cons_succ]
                refine wpAnyH_take (i := 10) (v := undef) rfl (by kernel_rfl) (by kernel_rfl) (by kernel_rfl) (fun _ _ _ h => h) (Or.inr ⟨by kernel_rfl, rfl⟩) (by assumption) ?_
                try simp only [List.getElem_toArray, List.getElem_cons_succ, List.getElem_cons_zero, Act.put, List.setIfInBounds_toArray, List.set_cons_zero, List.set_cons_succ]
                refine wpAnyH_take (i := 11) (v := undef) rfl (by kernel_rfl) (by kernel_rfl) (by kernel_rfl) (fun _ _ _ h => h) (Or.inr ⟨by kernel_rfl, rfl⟩) (by assumption) ?_
                try simp only [List.getElem_toArray, List.getElem_cons_succ, List.getElem_cons_zero, Act.put, List.setIfInBounds_toArray, List.set_cons_zero, List.set_cons_succ]
                refine wpAnyH_take (i := 12) (v := undef) rfl (by kernel_rfl) (by kernel_rfl) (by kernel_rfl) (fun _ _ _ h => h) (Or.inr ⟨by kernel_rfl, rfl⟩) (by assumption) ?_
                try simp only [List.getElem_toArray, List.getElem_cons_succ, List.getElem_cons_zero, Act.put, List.setIfInBounds_toArray, List.set_cons_zero, List.set_cons_succ]
                refine wpAnyH_take (i := 13) (v := undef) rfl (by kernel_rfl) (by kernel_rfl) (by kernel_rfl) (fun _ _ _ h => h) (Or.inr ⟨by kernel_rfl, rfl⟩) (by assumption) ?_
                try simp only [List.getElem_toArray, List.getElem_cons_succ, List.getElem_cons_zero, Act.put, List.setIfInBounds_toArray, List.set_cons_zero, List.set_cons_succ]
                refine wpAnyH_take (i := 14) (v := undef) rfl (by kernel_rfl) (by kernel_rfl) (by kernel_rfl) (fun _ _ _ h => h) (Or.inr ⟨by kernel_rfl, rfl⟩) (by assumption) ?_
                try simp only [List.getElem_toArray, List.getElem_cons_succ, List.getElem_cons_zero, Act.put, List.setIfInBounds_toArray, List.set_cons_zero, List.set_cons_succ]
                refine wpAnyH_take (i := 15) (v := undef) rfl (by kernel_rfl) (by kernel_rfl) (by kernel_rfl) (fun _ _ _ h => h) (Or.inr ⟨by kernel_rfl, rfl⟩) (by assumption) ?_
                try simp only [List.getElem_toArray, List.getElem_cons_succ, List.getElem_cons_zero, Act.put, List.setIfInBounds_toArray, List.set_cons_zero, List.set_cons_succ]
                refine wpAnyH_take (i := 16) (v := undef) rfl (by kernel_rfl) (by kernel_rfl) (by kernel_rfl) (fun _ _ _ h => h) (Or.inr ⟨by kernel_rfl, rfl⟩) (by assumption) ?_
                try simp only [List.getElem_toArray, List.getElem_cons_succ, List.getElem_cons_zero, Act.put, List.setIfInBounds_toArray, List.set_cons_zero, List.set_cons_succ]
                refine wpAnyH_take (i := 17) (v := undef) rfl (by kernel_rfl) (by kernel_rfl) (by kernel_rfl) (fun _ _ _ h => h) (Or.inr ⟨by kernel_rfl, rfl⟩) (by assumption) ?_
                try simp only [List.getElem_toArray, List.getElem_cons_succ, List.getElem_cons_zero, Act.put, List.setIfInBounds_toArray, List.set_cons_zero, List.set_cons_succ]
                refine wpAnyH_take (i := 18) (v := undef) rfl (by kernel_rfl) (by kernel_rfl) (by kernel_rfl) (fun _ _ _ h => h) (Or.inr ⟨by kernel_rfl, rfl⟩) (by assumption) ?_
                try simp only [List.getElem_toArray, List.getElem_cons_succ, List.getElem_cons_zero, Act.put, List.setIfInBounds_toArray, List.set_cons_zero, List.set_cons_succ]
                refine wpAnyH_take (i := 19) (v := undef) rfl (by kernel_rfl) (by kernel_rfl) (by kernel_rfl) (fun _ _ _ h => h) (Or.inr ⟨by kernel_rfl, rfl⟩) (by assumption) ?_
                try simp only [List.getElem_toArray, List.getElem_cons_succ, List.getElem_cons_zero, Act.put, List.setIfInBounds_toArray, List.set_cons_zero, List.set_cons_succ]
                refine wpAnyH_take (i := 20) (v := undef) rfl (by kernel_rfl) (by kernel_rfl) (by kernel_rfl) (fun _ _ _ h => h) (Or.inr ⟨by kernel_rfl, rfl⟩) (by assumption) ?_
                try simp only [List.getElem_toArray, List.getElem_cons_succ, List.getElem_cons_zero, Act.put, List.setIfInBounds_toArray, List.set_cons_zero, List.set_cons_succ]
                refine wpAnyH_take (i := 21) (v := undef) rfl (by kernel_rfl) (by kernel_rfl) (by kernel_rfl) (fun _ _ _ h => h) (Or.inr ⟨by kernel_rfl, rfl⟩) (by assumption) ?_
                try simp only [List.getElem_toArray, List.getElem_cons_succ, List.getElem_cons_zero, Act.put, List.setIfInBounds_toArray, List.set_cons_zero, List.set_cons_succ]
                refine wpAnyH_take (i := 22) (v := undef) rfl (by kernel_rfl) (by kernel_rfl) (by kernel_rfl) (fun _ _ _ h => h) (Or.inr ⟨by kernel_rfl, rfl⟩) (by assumption) ?_
                try simp only [List.getElem_toArray, List.getElem_cons_succ, List.getElem_cons_zero, Act.put, List.setIfInBounds_toArray, List.set_cons_zero, List.set_cons_succ]
                refine wpAnyH_take (i := 23) (v := undef) rfl (by kernel_rfl) (by kernel_rfl) (by kernel_rfl) (fun _ _ _ h => h) (Or.inr ⟨by kernel_rfl, rfl⟩) (by assumption) ?_
                try simp only [List.getElem_toArray, List.getElem_cons_succ, List.getElem_cons_zero, Act.put, List.setIfInBounds_toArray, List.set_cons_zero, List.set_cons_succ]
                refine wpAnyH_take (i := 24) (v := undef) rfl (by kernel_rfl) (by kernel_rfl) (by kernel_rfl) (fun _ _ _ h => h) (Or.inr ⟨by kernel_rfl, rfl⟩) (by assumption) ?_
                try simp only [List.getElem_toArray, List.getElem_cons_succ, List.getElem_cons_zero, Act.put, List.setIfInBounds_toArray, List.set_cons_zero, List.set_cons_succ]
                refine wpAnyH_take (i := 25) (v := ?_) rfl (by kernel_rfl) (by kernel_rfl) (by kernel_rfl) (fun _ _ _ h => h) (Or.inl ⟨by kernel_rfl, ?_⟩) (by assumption) ?_
                rotate_left
                · (intro w hSw; (try dsimp only at hSw); go_simp; try (with_reducible rfl))
                try simp only [List.getElem_toArray, List.getElem_cons_succ, List.getElem_cons_zero, Act.put, List.setIfInBounds_toArray, List.set_cons_zero, List.set_cons_succ]
                refine wpAnyH_take (i := 26) (v := ?_) rfl (by kernel_rfl) (by kernel_rfl) (by kernel_rfl) (fun _ _ _ h => h) (Or.inl ⟨by kernel_rfl, ?_⟩) (by assumption) ?_
                rotate_left
                · (intro w hSw; (try dsimp only at hSw); go_simp; try (with_reducible rfl))
                try simp only [List.getElem_toArray, List.getElem_cons_succ, List.getElem_cons_zero, Act.put, List.setIfInBounds_toArray, List.set_cons_zero, List.set_cons_succ]
                have HZ := H.drew
                have ft := HZ.free 0 rfl (q + 1)
                have ct := HZ.atM 0 rfl (mixT_at (u := u) (fr := F) (k := q + 1) (by rw [← HNN.out]; omega))
                have H9 := HZ.putM (f1 := Value.bool) 0 rfl (q + 1) false
                refine wpAnyH_ready (rs := [27]) (by kernel_rfl) (by simp) ?_
                refine AllReadyH.cons rfl (fun K hK => ?_) AllReadyH.nil
                go_simp
                refine hK.out _ _ ?_ (fun hHeld => ?_)
                · exact H9.atM 1 rfl HVQ.out
                clear hK K
                try simp only [List.getElem_toArray, List.getElem_cons_succ, List.getElem_cons_zero, Act.put, List.setIfInBounds_toArray, List.set_cons_zero, List.set_cons_succ]
                refine wpAnyH_done (by kernel_rfl) ?_ _
                rw [HS.out] at H9
                have H10 := Lib.hid H9
                clear H9 H
                go_wp2_with fail
                go_roundw
                case rel => exact ⟨q + 2, by go_num, by omega, H10.out⟩
                case measure => simp [intOf]; omega
              | true =>
                rcases bool_or (isU u 63) with h63 | h63
                · have H63 := Lib.hid h63
                  clear h63
                  have HE := Lib.hid (HFE.out.trans (by rw [H63.out, Bool.true_or, Bool.and_true]))
                  have HS := Lib.hid (show (mixT u n F (q + 1)).set (q + 1) true = mixT u n F (q + 2) by rw [← HE.out]; exact mixT_set (by rw [← HNN.out]; omega))
                  have cq := H.atM (f1 := Value.bool) 1 rfl HVQ.out
                  have cp := fr_cell H.fr CP0.out
                  have cn := fr_cell H.fr cn0
                  have hk5 : (0 : Int) ≤ (q : Int) + 1 := by omega
                  have hk6 : (q : Int) + 1 < (N : Int) := by omega
                  refine wp_region_held_drew (S := fun w' => w'.cell? ⟨g, q, none⟩ = some (.bool true) ∧ w'.cell? ⟨bp, op + i, none⟩ = some (.slice Bp u.length dp)) (by kernel_rfl) ?_ (fun hHeld => ?_)
                  · exact ⟨cq, cp⟩
                  refine wpAnyH_take (i := 0) (v := ?_) rfl (by kernel_rfl) (by kernel_rfl) (by kernel_rfl) (fun _ _ _ h => h) (Or.inl ⟨by kernel_rfl, ?_⟩) (by assumption) ?_
                  rotate_left
                  · (intro w hSw; (try dsimp only at hSw); go_simp; try (with_reducible rfl))
                  try simp only [List.getElem_toArray, List.getElem_cons_succ, List.getElem_cons_zero, Act.put, List.setIfInBounds_toArray, List.set_cons_zero, List.set_cons_succ]
                  refine wpAnyH_take (i := 1) (v := ?_) rfl (by kernel_rfl) (by kernel_rfl) (by kernel_rfl) (fun _ _ _ h => h) (Or.inl ⟨by kernel_rfl, ?_⟩) (by assumption) ?_
                  rotate_left
                  · (intro w hSw; (try dsimp only at hSw); go_simp; try (with_reducible rfl))
                  try simp only [List.getElem_toArray, List.getElem_cons_succ, List.getElem_cons_zero, Act.put, List.setIfInBounds_toArray, List.set_cons_zero, List.set_cons_succ]
                  refine wpAnyH_take (i := 2) (v := ?_) rfl (by kernel_rfl) (by kernel_rfl) (by kernel_rfl) (fun _ _ _ h => h) (Or.inl ⟨by kernel_rfl, ?_⟩) (by assumption) ?_
                  rotate_left
                  · (intro w hSw; (try dsimp only at hSw); go_simp; try (with_reducible rfl))
                  try simp only [List.getElem_toArray, List.getElem_cons_succ, List.getElem_cons_zero, Act.put, List.setIfInBounds_toArray, List.set_cons_zero, List.set_cons_succ]
                  refine wpAnyH_take (i := 3) (v := ?_) rfl (by kernel_rfl) (by kernel_rfl) (by kernel_rfl) (fun _ _ _ h => h) (Or.inl ⟨by kernel_rfl, ?_⟩) (by assumption) ?_
                  rotate_left
                  · (intro w hSw; (try dsimp only at hSw); go_simp; try (with_reducible rfl))
                  try simp only [List.getElem_toArray, List.getElem_cons_succ, List.getElem_cons_zero, Act.put, List.setIfInBounds_toArray, List.set_cons_zero, List.set_cons_succ]
                  refine wpAnyH_take (i := 4) (v := ?_) rfl (by kernel_rfl) (by kernel_rfl) (by kernel_rfl) (fun _ _ _ h => h) (Or.inl ⟨by kernel_rfl, ?_⟩) (by assumption) ?_
                  rotate_left
                  · (intro w hSw; (try dsimp only at hSw); go_simp; try (with_reducible rfl))
                  try simp only [List.getElem_toArray, List.getElem_cons_succ, List.getElem_cons_zero, Act.put, List.setIfInBounds_toArray, List.set_cons_zero, List.set_cons_succ]
                  refine wpAnyH_take (i := 5) (v := ?_) rfl (by kernel_rfl) (by kernel_rfl) (by kernel_rfl) (fun _ _ _ h => h) (Or.inl ⟨by kernel_rfl, ?_⟩) (by assumption) ?_
                  rotate_left
                  · (intro w hSw; (try dsimp only at hSw); go_simp; try (with_reducible rfl))
                  try simp only [List.getElem_toArray, List.getElem_cons_succ, List.getElem_cons_zero, Act.put, List.setIfInBounds_toArray, List.set_cons_zero, List.set_cons_succ]
                  refine wpAnyH_take (i := 6) (v := ?_) rfl (by kernel_rfl) (by kernel_rfl) (by kernel_rfl) (fun _ _ _ h => h) (Or.inl ⟨by kernel_rfl, ?_⟩) (by assumption) ?_
                  rotate_left
                  · (intro w hSw; (try dsimp only at hSw); go_simp; try (with_reducible rfl))
                  try simp only [List.getElem_toArray, List.getElem_cons_succ, List.getElem_cons_zero, Act.put, List.setIfInBounds_toArray, List.set_cons_zero, List.set_cons_succ]
                  refine wpAnyH_take (i := 7) (v := ?_) rfl (by kernel_rfl) (by kernel_rfl) (by kernel_rfl) (fun _ _ _ h => h) (Or.inl ⟨by kernel_rfl, ?_⟩) (by assumption) ?_
                  rotate_left
                  · (intro w hSw; (try dsimp only at hSw); go_simp; try (with_reducible rfl))
                  try simp only [List.getElem_toArray, List.getElem_cons_succ, List.getElem_cons_zero, Act.put, List.setIfInBounds_toArray, List.set_cons_zero, List.set_cons_succ]
                  refine wpAnyH_take (i := 8) (v := ?_) rfl (by kernel_rfl) (by kernel_rfl) (by kernel_rfl) (fun _ _ _ h => h) (Or.inl ⟨by kernel_rfl, ?_⟩) (by assumption) ?_
                  rotate_left
                  · (intro w hSw; (try dsimp only at hSw); go_simp; try (with_reducible rfl))
                  try simp only [List.getElem_toArray, List.getElem_cons_succ, List.getElem_cons_zero, Act.put, List.setIfInBounds_toArray, List.set_cons_zero, List.set_cons_succ]
                  refine wpAnyH_take (i := 9) (v := ?_) rfl (by kernel_rfl) (by kernel_rfl) (by kernel_rfl) (fun _ _ _ h => h) (Or.inl ⟨by kernel_rfl, ?_⟩) (by assumption) ?_
                  rotate_left
                  · (intro w hSw; (try dsimp only at hSw); go_simp; try (with_reducible rfl))
                  try simp only [List.getElem_toArray, List.getElem_cons_succ, List.getElem_cons_zero, Act.put, List.setIfInBounds_toArray, List.set_cons_zero, List.set_cons_succ]
                  refine wpAnyH_take (i := 10) (v := ?_) rfl (by kernel_rfl) (by kernel_rfl) (by kernel_rfl) (fun _ _ _ h => h) (Or.inl ⟨by kernel_rfl, ?_⟩) (by assumption) ?_
                  rotate_left
                  · (intro w hSw; (try dsimp only at hSw); go_simp; try (with_reducible rfl))
                  try simp only [List.getElem_toArray, List.getElem_cons_succ, List.getElem_cons_zero, Act.put, List.setIfInBounds_toArray, List.set_cons_zero, List.set_cons_succ]
                  refine wpAnyH_take (i := 11) (v := ?_) rfl (by kernel_rfl) (by kernel_rfl) (by kernel_rfl) (fun _ _ _ h => h) (Or.inl ⟨by kernel_rfl, ?_⟩) (by assumption) ?_
                  rotate_left
                  · (intro w hSw; (try dsimp only at hSw); go_simp; try (with_reducible rfl))
                  try simp only [List.getElem_toArray, List.getElem_cons_succ, List.getElem_cons_zero, Act.put, List.setIfInBounds_toArray, List.set_cons_zero, List.set_cons_succ]
                  refine wpAnyH_ready (rs := [12]) (by kernel_rfl) (by simp) ?_
                  refine AllReadyH.cons rfl (fun K hK => ?_) AllReadyH.nil
                  go_simp
                  refine (l14Is_any _ _ _ 63 u _ ru.drew).mono ?_
                  rintro e w5 ⟨rfl, rfl⟩
                  rw [H63.out]
                  go_wp2_with fail
                  refine hK.out _ _ ?_ (fun hHeld => ?_)
                  · exact ⟨cq, cp⟩
                  clear hK K
                  try simp only [List.getElem_toArray, List.getElem_cons_succ, List.getElem_cons_zero, Act.put, List.setIfInBounds_toArray, List.set_cons_zero, List.set_cons_succ]
                  refine wpAnyH_take (i := 13) (v := ?_) rfl (by kernel_rfl) (by kernel_rfl) (by kernel_rfl) (fun _ _ _ h => h) (Or.inl ⟨by kernel_rfl, ?_⟩) (by assumption) ?_
                  rotate_left
                  · (intro w hSw; (try dsimp only at hSw); go_simp; try (with_reducible rfl))
                  try simp only [List.getElem_toArray, List.getElem_cons_succ, List.getElem_cons_zero, Act.put, List.setIfInBounds_toArray, List.set_cons_zero, List.set_cons_succ]
                  refine wpAnyH_take (i := 14) (v := undef) rfl (by kernel_rfl) (by kernel_rfl) (by kernel_rfl) (fun _ _ _ h => h) (Or.inr ⟨by kernel_rfl, rfl⟩) (by assumption) ?_
                  try simp only [List.getElem_toArray, List.getElem_cons_succ, List.getElem_cons_zero, Act.put, List.setIfInBounds_toArray, List.set_cons_zero, List.set_cons_succ]
                  refine wpAnyH_take (i := 15) (v := undef) rfl (by kernel_rfl) (by kernel_rfl) (by kernel_rfl) (fun _ _ _ h => h) (Or.inr ⟨by kernel_rfl, rfl⟩) (by assumption) ?_
                  try simp only [List.getElem_toArray, List.getElem_cons_succ, List.getElem_cons_zero, Act.put, List.setIfInBounds_toArray, List.set_cons_zero, List.set_cons_succ]
                  refine wpAnyH_take (i := 16) (v := undef) rfl (by kernel_rfl) (by kernel_rfl) (by kernel_rfl) (fun _ _ _ h => h) (Or.inr ⟨by kernel_rfl, rfl⟩) (by assumption) ?_
                  try simp only [List.getElem_toArray, List.getElem_cons_succ, List.getElem_cons_zero, Act.put, List.setIfInBounds_toArray, List.set_cons_zero, List.set_cons_succ]
                  refine wpAnyH_take (i := 17) (v := undef) rfl (by kernel_rfl) (by kernel_rfl) (by kernel_rfl) (fun _ _ _ h => h) (Or.inr ⟨by kernel_rfl, rfl⟩) (by assumption) ?_
                  try simp only [List.getElem_toArray, List.getElem_cons_succ, List.getElem_cons_zero, Act.put, List.setIfInBounds_toArray, List.set_cons_zero, List.set_cons_succ]
                  refine wpAnyH_take (i := 18) (v := undef) rfl (by kernel_rfl) (by kernel_rfl) (by kernel_rfl) (fun _ _ _ h => h) (Or.inr ⟨by kernel_rfl, rfl⟩) (by assumption) ?_
                  try simp only [List.getElem_toArray, List.getElem_cons_succ, List.getElem_cons_zero, Act.put, List.setIfInBounds_toArray, List.set_cons_zero, List.set_cons_succ]
                  refine wpAnyH_take (i := 19) (v := undef) rfl (by kernel_rfl) (by kernel_rfl) (by kernel_rfl) (fun _ _ _ h => h) (Or.inr ⟨by kernel_rfl, rfl⟩) (by assumption) ?_
                  try simp only [List.getElem_toArray, List.getElem_cons_succ, List.getElem_cons_zero, Act.put, List.setIfInBounds_toArray, List.set_cons_zero, List.set_cons_succ]
                  refine wpAnyH_take (i := 20) (v := undef) rfl (by kernel_rfl) (by kernel_rfl) (by kernel_rfl) (fun _ _ _ h => h) (Or.inr ⟨by kernel_rfl, rfl⟩) (by assumption) ?_
                  try simp only [List.getElem_toArray, List.getElem_cons_succ, List.getElem_cons_zero, Act.put, List.setIfInBounds_toArray, List.set_cons_zero, List.set_cons_succ]
                  refine wpAnyH_take (i := 21) (v := undef) rfl (by kernel_rfl) (by kernel_rfl) (by kernel_rfl) (fun _ _ _ h => h) (Or.inr ⟨by kernel_rfl, rfl⟩) (by assumption) ?_
                  try simp only [List.getElem_toArray, List.getElem_cons_succ, List.getElem_cons_zero, Act.put, List.setIfInBounds_toArray, List.set_cons_zero, List.set_cons_succ]
                  refine wpAnyH_take (i := 22) (v := undef) rfl (by kernel_rfl) (by kernel_rfl) (by kernel_rfl) (fun _ _ _ h => h) (Or.inr ⟨by kernel_rfl, rfl⟩) (by assumption) ?_
                  try simp only [List.getElem_toArray, List.getElem_cons_succ, List.getElem_cons_zero, Act.put, List.setIfInBounds_toArray, List.set_cons_zero, List.set_cons_succ]
                  refine wpAnyH_take (i := 23) (v := undef) rfl (by kernel_rfl) (by kernel_rfl) (by kernel_rfl) (fun _ _ _ h => h) (Or.inr ⟨by kernel_rfl, rfl⟩) (by assumption) ?_
                  try simp only [List.getElem_toArray, List.getElem_cons_succ, List.getElem_cons_zero, Act.put, List.setIfInBounds_toArray, List.set_cons_zero, List.set_cons_succ]
                  refine wpAnyH_take (i := 24) (v := ?_) rfl (by kernel_rfl) (by kernel_rfl) (by kernel_rfl) (fun _ _ _ h => h) (Or.inl ⟨by kernel_rfl, ?_⟩) (by assumption) ?_
                  rotate_left
                  · (intro w hSw; (try dsimp only at hSw); go_simp; try (with_reducible rfl))
                  try simp only [List.getElem_toArray, List.getElem_cons_succ, List.getElem_cons_zero, Act.put, List.setIfInBounds_toArray, List.set_cons_zero, List.set_cons_succ]
                  refine wpAnyH_take (i := 25) (v := ?_) rfl (by kernel_rfl) (by kernel_rfl) (by kernel_rfl) (fun _ _ _ h => h) (Or.inl ⟨by kernel_rfl, ?_⟩) (by assumption) ?_
                  rotate_left
                  · (intro w hSw; (try dsimp only at hSw); go_simp; try (with_reducible rfl))
                  try simp only [List.getElem_toArray, List.getElem_cons_succ, List.getElem_cons_zero, Act.put, List.setIfInBounds_toArray, List.set_cons_zero, List.set_cons_succ]
                  refine wpAnyH_take (i := 26) (v := ?_) rfl (by kernel_rfl) (by kernel_rfl) (by kernel_rfl) (fun _ _ _ h => h) (Or.inl ⟨by kernel_rfl, ?_⟩) (by assumption) ?_
                  rotate_left
                  · (intro w hSw; (try dsimp only at hSw); go_simp; try (with_reducible rfl))
                  try simp only [List.getElem_toArray, List.getElem_cons_succ, List.getElem_cons_zero, Act.put, List.setIfInBounds_toArray, List.set_cons_zero, List.set_cons_succ]
                  have HZ := H.drew
                  have ft := HZ.free 0 rfl (q + 1)
                  have ct := HZ.atM 0 rfl (mixT_at (u := u) (fr := F) (k := q + 1) (by rw [← HNN.out]; omega))
                  have H9 := HZ.putM (f1 := Value.bool) 0 rfl (q + 1) true
                  refine wpAnyH_ready (rs := [27]) (by kernel_rfl) (by simp) ?_
                  refine AllReadyH.cons rfl (fun K hK => ?_) AllReadyH.nil
                  go_simp
                  refine hK.out _ _ ?_ (fun hHeld => ?_)
                  · exact ⟨H9.atM 1 rfl HVQ.out, fr_cell H9.fr CP0.out⟩
                  clear hK K
                  try simp only [List.getElem_toArray, List.getElem_cons_succ, List.getElem_cons_zero, Act.put, List.setIfInBounds_toArray, List.set_cons_zero, List.set_cons_succ]
                  refine wpAnyH_done (by kernel_rfl) ?_ _
                  rw [HS.out] at H9
                  have H10 := Lib.hid H9
                  clear H9 H
                  go_wp2_with fail
                  go_roundw
                  case rel => exact ⟨q + 2, by go_num, by omega, H10.out⟩
                  case measure => simp [intOf]; omega
                · have H63 := Lib.hid h63
                  clear h63
                  obtain ⟨bb, hbb⟩ : ∃ b, b = decide (u = x) := ⟨_, rfl⟩
                  have HBB := Lib.hid hbb
                  clear hbb
                  have HE := Lib.hid (HFE.out.trans (by rw [H63.out, ← HBB.out, Bool.false_or, Bool.true_and]))
                  have HS := Lib.hid (show (mixT u n F (q + 1)).set (q + 1) bb = mixT u n F (q + 2) by rw [← HE.out]; exact mixT_set (by rw [← HNN.out]; omega))
                  have cq := H.atM (f1 := Value.bool) 1 rfl HVQ.out
                  have cp := fr_cell H.fr CP0.out
                  have cn := fr_cell H.fr cn0
                  have hk5 : (0 : Int) ≤ (q : Int) + 1 := by omega
                  have hk6 : (q : Int) + 1 < (N : Int) := by omega
                  refine wp_region_held_drew (S := fun w' => w'.cell? ⟨g, q, none⟩ = some (.bool true) ∧ w'.cell? ⟨bp, op + i, none⟩ = some (.slice Bp u.length dp) ∧ w'.cell? ⟨bn, on + q, none⟩ = some (.slice Bn x.length dn)) (by kernel_rfl) ?_ (fun hHeld => ?_)
                  · exact ⟨cq, cp, cn⟩
                  refine wpAnyH_take (i := 0) (v := ?_) rfl (by kernel_rfl) (by kernel_rfl) (by kernel_rfl) (fun _ _ _ h => h) (Or.inl ⟨by kernel_rfl, ?_⟩) (by assumption) ?_
                  rotate_left
                  · (intro w hSw; (try dsimp only at hSw); go_simp; try (with_reducible rfl))
                  try simp only [List.getElem_toArray, List.getElem_cons_succ, List.getElem_cons_zero, Act.put, List.setIfInBounds_toArray, List.set_cons_zero, List.set_cons_succ]
                  refine wpAnyH_take (i := 1) (v := ?_) rfl (by kernel_rfl) (by kernel_rfl) (by kernel_rfl) (fun _ _ _ h => h) (Or.inl ⟨by kernel_rfl, ?_⟩) (by assumption) ?_
                  rotate_left
                  · (intro w hSw; (try dsimp only at hSw); go_simp; try (with_reducible rfl))
                  try simp only [List.getElem_toArray, List.getElem_cons_succ, List.getElem_cons_zero, Act.put, List.setIfInBounds_toArray, List.set_cons_zero, List.set_cons_succ]
                  refine wpAnyH_take (i := 2) (v := ?_) rfl (by kernel_rfl) (by kernel_rfl) (by kernel_rfl) (fun _ _ _ h => h) (Or.inl ⟨by kernel_rfl, ?_⟩) (by assumption) ?_
                  rotate_left
                  · (intro w hSw; (try dsimp only at hSw); go_simp; try (with_reducible rfl))
                  try simp only [List.getElem_toArray, List.getElem_cons_succ, List.getElem_cons_zero, Act.put, List.setIfInBounds_toArray, List.set_cons_zero, List.set_cons_succ]
                  refine wpAnyH_take (i := 3) (v := ?_) rfl (by kernel_rfl) (by kernel_rfl) (by kernel_rfl) (fun _ _ _ h => h) (Or.inl ⟨by kernel_rfl, ?_⟩) (by assumption) ?_
                  rotate_left
                  · (intro w hSw; (try dsimp only at hSw); go_simp; try (with_reducible rfl))
                  try simp only [List.getElem_toArray, List.getElem_cons_succ, List.getElem_cons_zero, Act.put, List.setIfInBounds_toArray, List.set_cons_zero, List.set_cons_succ]
                  refine wpAnyH_take (i := 4) (v := ?_) rfl (by kernel_rfl) (by kernel_rfl) (by kernel_rfl) (fun _ _ _ h => h) (Or.inl ⟨by kernel_rfl, ?_⟩) (by assumption) ?_
                  rotate_left
                  · (intro w hSw; (try dsimp only at hSw); go_simp; try (with_reducible rfl))
                  try simp only [List.getElem_toArray, List.getElem_cons_succ, List.getElem_cons_zero, Act.put, List.setIfInBounds_toArray, List.set_cons_zero, List.set_cons_succ]
                  refine wpAnyH_take (i := 5) (v := ?_) rfl (by kernel_rfl) (by kernel_rfl) (by kernel_rfl) (fun _ _ _ h => h) (Or.inl ⟨by kernel_rfl, ?_⟩) (by assumption) ?_
                  rotate_left
                  · (intro w hSw; (try dsimp only at hSw); go_simp; try (with_reducible rfl))
                  try simp only [List.getElem_toArray, List.getElem_cons_succ, List.getElem_cons_zero, Act.put, List.setIfInBounds_toArray, List.set_cons_zero, List.set_cons_succ]
                  refine wpAnyH_take (i := 6) (v := ?_) rfl (by kernel_rfl) (by kernel_rfl) (by kernel_rfl) (fun _ _ _ h => h) (Or.inl ⟨by kernel_rfl, ?_⟩) (by assumption) ?_
                  rotate_left
                  · (intro w hSw; (try dsimp only at hSw); go_simp; try (with_reducible rfl))
                  try simp only [List.getElem_toArray, List.getElem_cons_succ, List.getElem_cons_zero, Act.put, List.setIfInBounds_toArray, List.set_cons_zero, List.set_cons_succ]
                  refine wpAnyH_take (i := 7) (v := ?_) rfl (by kernel_rfl) (by kernel_rfl) (by kernel_rfl) (fun _ _ _ h => h) (Or.inl ⟨by kernel_rfl, ?_⟩) (by assumption) ?_
                  rotate_left
                  · (intro w hSw; (try dsimp only at hSw); go_simp; try (with_reducible rfl))
                  try simp only [List.getElem_toArray, List.getElem_cons_succ, List.getElem_cons_zero, Act.put, List.setIfInBounds_toArray, List.set_cons_zero, List.set_cons_succ]
                  refine wpAnyH_take (i := 8) (v := ?_) rfl (by kernel_rfl) (by kernel_rfl) (by kernel_rfl) (fun _ _ _ h => h) (Or.inl ⟨by kernel_rfl, ?_⟩) (by assumption) ?_
                  rotate_left
                  · (intro w hSw; (try dsimp only at hSw); go_simp; try (with_reducible rfl))
                  try simp only [List.getElem_toArray, List.getElem_cons_succ, List.getElem_cons_zero, Act.put, List.setIfInBounds_toArray, List.set_cons_zero, List.set_cons_succ]
                  refine wpAnyH_take (i := 9) (v := ?_) rfl (by kernel_rfl) (by kernel_rfl) (by kernel_rfl) (fun _ _ _ h => h) (Or.inl ⟨by kernel_rfl, ?_⟩) (by assumption) ?_
                  rotate_left
                  · (intro w hSw; (try dsimp only at hSw); go_simp; try (with_reducible rfl))
                  try simp only [List.getElem_toArray, List.getElem_cons_succ, List.getElem_cons_zero, Act.put, List.setIfInBounds_toArray, List.set_cons_zero, List.set_cons_succ]
                  refine wpAnyH_take (i := 10) (v := ?_) rfl (by kernel_rfl) (by kernel_rfl) (by kernel_rfl) (fun _ _ _ h => h) (Or.inl ⟨by kernel_rfl, ?_⟩) (by assumption) ?_
                  rotate_left
                  · (intro w hSw; (try dsimp only at hSw); go_simp; try (with_reducible rfl))
                  try simp only [List.getElem_toArray, List.getElem_cons_succ, List.getElem_cons_zero, Act.put, List.setIfInBounds_toArray, List.set_cons_zero, List.set_cons_succ]
                  refine wpAnyH_take (i := 11) (v := ?_) rfl (by kernel_rfl) (by kernel_rfl) (by kernel_rfl) (fun _ _ _ h => h) (Or.inl ⟨by kernel_rfl, ?_⟩) (by assumption) ?_
                  rotate_left
                  · (intro w hSw; (try dsimp only at hSw); go_simp; try (with_reducible rfl))
                  try simp only [List.getElem_toArray, List.getElem_cons_succ, List.getElem_cons_zero, Act.put, List.setIfInBounds_toArray, List.set_cons_zero, List.set_cons_succ]
                  refine wpAnyH_ready (rs := [12]) (by kernel_rfl) (by simp) ?_
                  refine AllReadyH.cons rfl (fun K hK => ?_) AllReadyH.nil
                  go_simp
                  refine (l14Is_any _ _ _ 63 u _ ru.drew).mono ?_
                  rintro e w5 ⟨rfl, rfl⟩
                  rw [H63.out]
                  go_wp2_with fail
                  refine hK.out _ _ ?_ (fun hHeld => ?_)
                  · exact ⟨cq, cp, cn⟩
                  clear hK K
                  try simp only [List.getElem_toArray, List.getElem_cons_succ, List.getElem_cons_zero, Act.put, List.setIfInBounds_toArray, List.set_cons_zero, List.set_cons_succ]
                  refine wpAnyH_take (i := 13) (v := ?_) rfl (by kernel_rfl) (by kernel_rfl) (by kernel_rfl) (fun _ _ _ h => h) (Or.inl ⟨by kernel_rfl, ?_⟩) (by assumption) ?_
                  rotate_left
                  · (intro w hSw; (try dsimp only at hSw); go_simp; try (with_reducible rfl))
                  try simp only [List.getElem_toArray, List.getElem_cons_succ, List.getElem_cons_zero, Act.put, List.setIfInBounds_toArray, List.set_cons_zero, List.set_cons_succ]
                  refine wpAnyH_take (i := 14) (v := ?_) rfl (by kernel_rfl) (by kernel_rfl) (by kernel_rfl) (fun _ _ _ h => h) (Or.inl ⟨by kernel_rfl, ?_⟩) (by assumption) ?_
                  rotate_left
                  · (intro w hSw; (try dsimp only at hSw); go_simp; try (with_reducible rfl))
                  try simp only [List.getElem_toArray, List.getElem_cons_succ, List.getElem_cons_zero, Act.put, List.setIfInBounds_toArray, List.set_cons_zero, List.set_cons_succ]
                  refine wpAnyH_take (i := 15) (v := ?_) rfl (by kernel_rfl) (by kernel_rfl) (by kernel_rfl) (fun _ _ _ h => h) (Or.inl ⟨by kernel_rfl, ?_⟩) (by assumption) ?_
                  rotate_left
                  · (intro w hSw; (try dsimp only at hSw); go_simp; try (with_reducible rfl))
                  try simp only [List.getElem_toArray, List.getElem_cons_succ, List.getElem_cons_zero, Act.put, List.setIfInBounds_toArray, List.set_cons_zero, List.set_cons_succ]
                  refine wpAnyH_take (i := 16) (v := ?_) rfl (by kernel_rfl) (by kernel_rfl) (by kernel_rfl) (fun _ _ _ h => h) (Or.inl ⟨by kernel_rfl, ?_⟩) (by assumption) ?_
                  rotate_left
                  · (intro w hSw; (try dsimp only at hSw); go_simp; try (with_reducible rfl))
                  try simp only [List.getElem_toArray, List.getElem_cons_succ, List.getElem_cons_zero, Act.put, List.setIfInBounds_toArray, List.set_cons_zero, List.set_cons_succ]
                  refine wpAnyH_take (i := 17) (v := ?_) rfl (by kernel_rfl) (by kernel_rfl) (by kernel_rfl) (fun _ _ _ h => h) (Or.inl ⟨by kernel_rfl, ?_⟩) (by assumption) ?_
                  rotate_left
                  · (intro w hSw; (try dsimp only at hSw); go_simp; try (with_reducible rfl))
                  try simp only [List.getElem_toArray, List.getElem_cons_succ, List.getElem_cons_zero, Act.put, List.setIfInBounds_toArray, List.set_cons_zero, List.set_cons_succ]
                  refine wpAnyH_take (i := 18) (v := ?_) rfl (by kernel_rfl) (by kernel_rfl) (by kernel_rfl) (fun _ _ _ h => h) (Or.inl ⟨by kernel_rfl, ?_⟩) (by assumption) ?_
                  rotate_left
                  · (intro w hSw; (try dsimp only at hSw); go_simp; try (with_reducible rfl))
                  try simp only [List.getElem_toArray, List.getElem_cons_succ, List.getElem_cons_zero, Act.put, List.setIfInBounds_toArray, List.set_cons_zero, List.set_cons_succ]
                  refine wpAnyH_take (i := 19) (v := ?_) rfl (by kernel_rfl) (by kernel_rfl) (by kernel_rfl) (fun _ _ _ h => h) (Or.inl ⟨by kernel_rfl, ?_⟩) (by assumption) ?_
                  rotate_left
                  · (intro w hSw; (try dsimp only at hSw); go_simp; try (with_reducible rfl))
                  try simp only [List.getElem_toArray, List.getElem_cons_succ, List.getElem_cons_zero, Act.put, List.setIfInBounds_toArray, List.set_cons_zero, List.set_cons_succ]
                  refine wpAnyH_take (i := 20) (v := ?_) rfl (by kernel_rfl) (by kernel_rfl) (by kernel_rfl) (fun _ _ _ h => h) (Or.inl ⟨by kernel_rfl, ?_⟩) (by assumption) ?_
                  rotate_left
                  · (intro w hSw; (try dsimp only at hSw); go_simp; try (with_reducible rfl))
                  try simp only [List.getElem_toArray, List.getElem_cons_succ, List.getElem_cons_zero, Act.put, List.setIfInBounds_toArray, List.set_cons_zero, List.set_cons_succ]
                  refine wpAnyH_take (i := 21) (v := ?_) rfl (by kernel_rfl) (by kernel_rfl) (by kernel_rfl) (fun _ _ _ h => h) (Or.inl ⟨by kernel_rfl, ?_⟩) (by assumption) ?_
                  rotate_left
                  · (intro w hSw; (try dsimp only at hSw); go_simp; try (with_reducible rfl))
                  try simp only [List.getElem_toArray, List.getElem_cons_succ, List.getElem_cons_zero, Act.put, List.setIfInBounds_toArray, List.set_cons_zero, List.set_cons_succ]
                  refine wpAnyH_take (i := 22) (v := ?_) rfl (by kernel_rfl) (by kernel_rfl) (by kernel_rfl) (fun _ _ _ h => h) (Or.inl ⟨by kernel_rfl, ?_⟩) (by assumption) ?_
                  rotate_left
                  · (intro w hSw; (try dsimp only at hSw); go_simp; try (with_reducible rfl))
                  try simp only [List.getElem_toArray, List.getElem_cons_succ, List.getElem_cons_zero, Act.put, List.setIfInBounds_toArray, List.set_cons_zero, List.set_cons_succ]
                  refine wpAnyH_ready (rs := [23]) (by kernel_rfl) (by simp) ?_
                  refine AllReadyH.cons rfl (fun K hK => ?_) AllReadyH.nil
                  go_simp
                  refine (l14Same_any _ _ _ _ _ _ u x _ ru.drew rn2.drew (by omega) (by omega)).mono ?_
                  rintro e w6 ⟨rfl, d6⟩
                  rw [← HBB.out]
                  have HZ := H.drew.go d6.fr
                  go_wp2_with fail
                  refine hK.out _ _ ?_ (fun hHeld => ?_)
                  · exact ⟨HZ.atM 1 rfl HVQ.out, fr_cell HZ.fr CP0.out, fr_cell HZ.fr cn0⟩
                  clear hK K
                  try simp only [List.getElem_toArray, List.getElem_cons_succ, List.getElem_cons_zero, Act.put, List.setIfInBounds_toArray, List.set_cons_zero, List.set_cons_succ]
                  refine wpAnyH_take (i := 24) (v := ?_) rfl (by kernel_rfl) (by kernel_rfl) (by kernel_rfl) (fun _ _ _ h => h) (Or.inl ⟨by kernel_rfl, ?_⟩) (by assumption) ?_
                  rotate_left
                  · (intro w hSw; (try dsimp only at hSw); go_simp; try (with_reducible rfl))
                  try simp only [List.getElem_toArray, List.getElem_cons_succ, List.getElem_cons_zero, Act.put, List.setIfInBounds_toArray, List.set_cons_zero, List.set_cons_succ]
                  refine wpAnyH_take (i := 25) (v := ?_) rfl (by kernel_rfl) (by kernel_rfl) (by kernel_rfl) (fun _ _ _ h => h) (Or.inl ⟨by kernel_rfl, ?_⟩) (by assumption) ?_
                  rotate_left
                  · (intro w hSw; (try dsimp only at hSw); go_simp; try (with_reducible rfl))
                  try simp only [List.getElem_toArray, List.getElem_cons_succ, List.getElem_cons_zero, Act.put, List.setIfInBounds_toArray, List.set_cons_zero, List.set_cons_succ]
                  refine wpAnyH_take (i := 26) (v := ?_) rfl (by kernel_rfl) (by kernel_rfl) (by kernel_rfl) (fun _ _ _ h => h) (Or.inl ⟨by kernel_rfl, ?_⟩) (by assumption) ?_
                  rotate_left
                  · (intro w hSw; (try dsimp only at hSw); go_simp; try (with_reducible rfl))
                  try simp only [List.getElem_toArray, List.getElem_cons_succ, List.getElem_cons_zero, Act.put, List.setIfInBounds_toArray, List.set_cons_zero, List.set_cons_succ]
                  have ft := HZ.free 0 rfl (q + 1)
                  have ct := HZ.atM 0 rfl (mixT_at (u := u) (fr := F) (k := q + 1) (by rw [← HNN.out]; omega))
                  have H9 := HZ.putM (f1 := Value.bool) 0 rfl (q + 1) bb
                  refine wpAnyH_ready (rs := [27]) (by kernel_rfl) (by simp) ?_
                  refine AllReadyH.cons rfl (fun K hK => ?_) AllReadyH.nil
                  go_simp
                  refine hK.out _ _ ?_ (fun hHeld => ?_)
                  · exact ⟨H9.atM 1 rfl HVQ.out, fr_cell H9.fr CP0.out, fr_cell H9.fr cn0⟩
                  clear hK K
                  try simp only [List.getElem_toArray, List.getElem_cons_succ, List.getElem_cons_zero, Act.put, List.setIfInBounds_toArray, List.set_cons_zero, List.set_cons_succ]
                  refine wpAnyH_done (by kernel_rfl) ?_ _
                  rw [HS.out] at H9
                  have H10 := Lib.hid H9
                  clear H9 H
                  go_wp2_with fail
                  go_roundw
                  case rel => exact ⟨q + 2, by go_num, by omega, H10.out⟩
                  case measure => simp [intOf]; omega
        · have hge : ¬ ((k : Int) ≤ (nn : Int)) := by have := HN1.out; omega
          have hge2 : ¬ (k ≤ nn) := by have := HN1.out; omega
          rw [mixT_all (by rw [← HNN.out]; omega), ← HX.out] at H
          have HH := Lib.hid (show Hp [] w wr [.row 4 1 (.slice (some ⟨gt, 0, none⟩) N N) N ((fitFrom (p.take (i + 1)) n).map Value.bool)] from H.drop1)
          clear H
          go_wp2_with fail
          go_roundw
          case rel => exact ⟨i + 1, gt, by go_num, rfl, by omega, HH.out⟩
          case measure => simp [intOf]; omega
    ·
      have hge : ¬ ((i : Int) < (np : Int)) := by omega
      have ht : p.take i = p := List.take_of_length_le (by rw [HPL.out]; omega)
      rw [ht] at H
      have hfl := fitFrom_len p n
      obtain ⟨x, hx⟩ := some_at (l := fitFrom p n) hfl (show n.length < n.length + 1 by omega)
      have HE := Lib.hid (HQ.out.trans (show (fitFrom p n).getD n.length false = x by rw [List.getD_eq_getElem?_getD, hx]; rfl))
      rw [HNL.out] at hx
      have cx := H.atM 0 rfl hx
      have hnN : (nn : Int) < (N : Int) := by have := HN1.out; omega
      have HF := Lib.hid H.fr
      clear H hx hfl ht
      go_wp2_with fail
      go_ret
      rw [HE.out]
      exact ⟨rfl, HF.out⟩
def globB (a b : List UInt8) : Bool := (nameB a && nameB b) && fitsL (unT a) (unT b)
set_option maxRecDepth 100000 in
set_option maxHeartbeats 4000000 in
theorem implGlob_any (s t : ByteArray) (w : World) (hs : s.size ≤ 16777216) (ht : t.size ≤ 16777216) (hk : KT w) :
    Calls Tryd.prog 15 #[.string s, .string t] w fun e w' => e = .returned (.bool (globB (toB s) (toB t))) ∧ Fr w w' := by
  obtain ⟨q, hq⟩ : ∃ q, q = globB (toB s) (toB t) := ⟨_, rfl⟩
  have HQ := Lib.hid hq
  rw [← hq]
  clear hq
  go_enter Tryd.func15, Tryd.ntmps15
  go_wp2_with fail
  refine (implNameOk_any s _ hs hk).mono ?_
  rintro e w1 ⟨rfl, f1⟩
  rcases bool_or (nameB (toB s)) with h1 | h1
  · rw [h1]
    go_wp2_with fail
    refine (implNameOk_any t _ ht (hk.fr f1)).mono ?_
    rintro e w2 ⟨rfl, f2⟩
    have F2 := f1.then f2
    clear f1 f2
    rcases bool_or (nameB (toB t)) with h2 | h2
    · rw [h2]
      have HE := Lib.hid (HQ.out.trans (show globB (toB s) (toB t) = fitsL (unT (toB s)) (unT (toB t)) by rw [globB, h1, h2]; rfl))
      have N1 := Lib.hid h1
      have N2 := Lib.hid h2
      clear h1 h2
      have hub := unT_bounds (toB s)
      have hvb := unT_bounds (toB t)
      go_wp2_with fail
      refine (unitsOf_any s _ hs (hk.fr F2)).mono ?_
      rintro e w3 ⟨A, c, vs, rfl, hv, K3⟩
      have H3 := ((Hp.start w).go F2).join K3
      have HV := Lib.hid hv
      clear hv K3
      go_wp2_with fail
      refine (unitsOf_any t _ ht (hk.fr H3.fr)).mono ?_
      rintro e w4 ⟨B, d, vs2, rfl, hv2, K4⟩
      have H4 := H3.join K4
      have HV2 := Lib.hid hv2
      clear hv2 K4 H3
      generalize unT (toB s) = u at H4 HE HV hub ⊢
      generalize unT (toB t) = v at H4 HE HV2 hvb ⊢
      have RU := H4.rdR 1 rfl HV.out HV.out
      have RV := H4.rdR 0 rfl HV2.out HV2.out
      obtain ⟨bb, hbb⟩ : ∃ b, b = fitsL u v := ⟨_, rfl⟩
      have HBB := Lib.hid hbb
      rw [← hbb] at HE
      clear hbb
      go_wp2_with fail
      refine (implFits_any A B u.length v.length c d u v _ RU RV hvb.1 hub.1 hub.2 hvb.2).mono ?_
      rintro e w5 ⟨rfl, f5⟩
      have HF := Lib.hid (H4.go f5).fr
      rw [← HBB.out]
      clear H4 RU RV f5
      go_wp2_with fail
      go_ret
      rw [HE.out]
      exact ⟨rfl, HF.out⟩
    · have HE := Lib.hid (HQ.out.trans (show globB (toB s) (toB t) = false by rw [globB, h1, h2]; rfl))
      rw [h2]
      clear h1 h2
      go_wp2_with fail
      go_ret
      rw [HE.out]
      exact ⟨rfl, F2⟩
  · have HE := Lib.hid (HQ.out.trans (show globB (toB s) (toB t) = false by rw [globB, h1]; rfl))
    rw [h1]
    clear h1
    go_wp2_with fail
    go_ret
    rw [HE.out]
    exact ⟨rfl, f1⟩
set_option maxRecDepth 100000 in
set_option maxHeartbeats 4000000 in
theorem specGlob_any (s t : ByteArray) (w : World) (hs : s.size ≤ 16777216) (ht : t.size ≤ 16777216) :
    Calls Tryd.prog 14 #[.string s, .string t] w fun e w' => e = .returned (.bool (globB (toB s) (toB t))) ∧ Fr w w' := by
  obtain ⟨q, hq⟩ : ∃ q, q = globB (toB s) (toB t) := ⟨_, rfl⟩
  have HQ := Lib.hid hq
  rw [← hq]
  clear hq
  go_enter Tryd.func14, Tryd.ntmps14
  go_wp2_with fail
  refine (specNameOk_any s _ hs).mono ?_
  rintro e w1 ⟨rfl, f1⟩
  rcases bool_or (nameB (toB s)) with h1 | h1
  · rw [h1]
    go_wp2_with fail
    refine (specNameOk_any t _ ht).mono ?_
    rintro e w2 ⟨rfl, f2⟩
    have F2 := f1.then f2
    clear f1 f2
    rcases bool_or (nameB (toB t)) with h2 | h2
    · rw [h2]
      have HE := Lib.hid (HQ.out.trans (show globB (toB s) (toB t) = fitsL (unT (toB s)) (unT (toB t)) by rw [globB, h1, h2]; rfl))
      have N1 := Lib.hid h1
      have N2 := Lib.hid h2
      clear h1 h2
      have hub := unT_bounds (toB s)
      have hvb := unT_bounds (toB t)
      go_wp2_with fail
      refine (l14Units_any s _ hs N1.out).mono ?_
      rintro e w3 ⟨A, c, vs, rfl, hv, K3⟩
      have H3 := ((Hp.start w).go F2).join K3
      have HV := Lib.hid hv
      clear hv K3
      go_wp2_with fail
      refine (l14Units_any t _ ht N2.out).mono ?_
      rintro e w4 ⟨B, d, vs2, rfl, hv2, K4⟩
      have H4 := H3.join K4
      have HV2 := Lib.hid hv2
      clear hv2 K4 H3
      generalize unT (toB s) = u at H4 HE HV hub ⊢
      generalize unT (toB t) = v at H4 HE HV2 hvb ⊢
      have RU := H4.rdR 1 rfl HV.out HV.out
      have RV := H4.rdR 0 rfl HV2.out HV2.out
      obtain ⟨bb, hbb⟩ : ∃ b, b = fitsL u v := ⟨_, rfl⟩
      have HBB := Lib.hid hbb
      rw [← hbb] at HE
      clear hbb
      go_wp2_with fail
      refine (l14Fits_any A B u.length v.length c d u v _ RU RV hvb.1 hub.1 hub.2 hvb.2).mono ?_
      rintro e w5 ⟨rfl, f5⟩
      have HF := Lib.hid (H4.go f5).fr
      rw [← HBB.out]
      clear H4 RU RV f5
      go_wp2_with fail
      go_ret
      rw [HE.out]
      exact ⟨rfl, HF.out⟩
    · have HE := Lib.hid (HQ.out.trans (show globB (toB s) (toB t) = false by rw [globB, h1, h2]; rfl))
      rw [h2]
      clear h1 h2
      go_wp2_with fail
      go_ret
      rw [HE.out]
      exact ⟨rfl, F2⟩
  · have HE := Lib.hid (HQ.out.trans (show globB (toB s) (toB t) = false by rw [globB, h1]; rfl))
    rw [h1]
    clear h1
    go_wp2_with fail
    go_ret
    rw [HE.out]
    exact ⟨rfl, f1⟩
set_option maxRecDepth 100000 in
theorem lawFnExactGlob_walk (s t : ByteArray) (w : World) (hs : s.size ≤ 9223372036854775807) (ht : t.size ≤ 9223372036854775807) (hk : KT w) :
    Calls Tryd.prog 5 #[.string s, .string t] w fun e w' => e = .returned (.bool true) ∧ Fr w w' := by
  by_cases h1 : 1048576 < s.size
  · have hd : decide ((1048576 : Int) < (s.size : Int)) = true := by simp; omega
    go_enter Tryd.func5, Tryd.ntmps5
    go_wp2_with fail
    go_ret
    exact ⟨rfl, Below.refl _ _⟩
  · have hd : decide ((1048576 : Int) < (s.size : Int)) = false := by simp; omega
    by_cases h2 : 1048576 < t.size
    · have hd2 : decide ((1048576 : Int) < (t.size : Int)) = true := by simp; omega
      go_enter Tryd.func5, Tryd.ntmps5
      go_wp2_with fail
      go_ret
      exact ⟨rfl, Below.refl _ _⟩
    · have hd2 : decide ((1048576 : Int) < (t.size : Int)) = false := by simp; omega
      go_enter Tryd.func5, Tryd.ntmps5
      go_wp2_with fail
      refine (specGlob_any s t _ (by omega) (by omega)).mono ?_
      rintro e w1 ⟨rfl, f1⟩
      go_wp2_with fail
      refine (implGlob_any s t _ (by omega) (by omega) (hk.fr f1)).mono ?_
      rintro e w2 ⟨rfl, f2⟩
      have F := f1.then f2
      clear f1 f2
      generalize globB (toB s) (toB t) = n
      cases n with
      | true =>
        go_wp2
        go_ret
        exact ⟨rfl, F⟩
      | false =>
        go_wp2
        go_ret
        exact ⟨rfl, F⟩
end Go.Proofs.YtfmifaneggenoaaDoor
