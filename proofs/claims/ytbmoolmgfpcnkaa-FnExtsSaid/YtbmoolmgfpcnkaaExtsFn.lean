/-
  The law FnExts, walked.
-/
import Derived.Test.YtbmoolmgfpcnkaaDrawExts
import Derived.Test.YtbmoolmgfpcnkaaBlockAt
import Derived.Test.YtbmoolmgfpcnkaaLaw
namespace Go.Proofs.Ytbmoolmgfpcnkaa
open Go.RowKit

theorem bigE_any (A : Option Addr) (n c : Nat) (w : World) (_hn : n ≤ 9223372036854775807) :
    Calls Try.prog 19 #[.slice A n c] w fun e w' => e = .returned (.bool (decide (1048576 < n))) ∧ w = w' := by
  go_enter Try.func19, Try.ntmps19
  go_wp2
  go_ret
  exact ⟨ret_bool (by simp; omega), rfl⟩
theorem put_ok {l : List (Int × Int × Int)} {i b : Int} (hok : eOk l = true) : eOk (putExts l i b) = true := by
  cases h : putOk l i b with
  | true => exact (put_flat h).1
  | false => rw [putExts_no h hok]; exact hok
set_option linter.unusedVariables false
set_option maxRecDepth 100000 in
set_option maxHeartbeats 8000000 in
theorem lawFnExts_walk (A : Option Addr) (n c : Nat) (bs : List UInt8) (w : World) (hA : Rd w A n 1 (bs.map cU8)) (hcap : n ≤ 9223372036854775807) :
    Calls Try.prog 4 #[.slice A n c] w fun e w' => e = .returned (.bool true) ∧ Fr w w' := by
  by_cases hbig : 1048576 < n
  · have hd : decide (1048576 < n) = true := by simpa using hbig
    go_enter Try.func4, Try.ntmps4
    go_wp2_with fail
    refine (bigE_any A n c _ hcap).mono ?_
    rintro e w1 ⟨rfl, rfl⟩
    rw [hd]
    go_wp2_with fail
    go_ret
    exact ⟨rfl, Below.refl _ _⟩
  have hd : decide (1048576 < n) = false := by simpa using hbig
  have hn : n ≤ 1048576 := by omega
  have G := Lib.hid hA
  go_enter Try.func4, Try.ntmps4
  go_wp2_with fail
  refine (bigE_any A n c _ hcap).mono ?_
  rintro e w1 ⟨rfl, rfl⟩
  rw [hd]
  clear hd
  go_wp2_with fail
  refine (drawPutBlock_any A n c bs _ hA hn).mono ?_
  rintro e w1 ⟨B, kb, db, L, i, b, rfl, hL, hkb, H1⟩
  clear hA
  have HL := Lib.hid hL
  clear hL
  go_wp2_with fail
  refine (implPutBlock_any B kb db L i b _ (H1.rd 0 rfl) (own_capE (H1.row 0 rfl)) (by omega)).mono ?_
  rintro e w2 ⟨X, kx, dx, rfl, hkx, K2⟩
  have H2 := H1.join K2
  clear H1 K2
  go_wp2_with fail
  refine (specPutBlock_any B kb db L i b _ (H2.rd 1 rfl) (own_capE (H2.row 1 rfl)) (by omega)).mono ?_
  rintro e w3 ⟨X3, k3, d3, rfl, hk3, K3⟩
  have H3 := (H2.join K3).tail
  clear H2 K3 hk3
  have hx12 := putExts_12 (l := L) (by rw [HL.out]; exact hkb) i b
  have HB1 := Lib.hid (fun h : eOk L = false => putExts_bad (i := i) (b := b) h)
  have HB2 := Lib.hid (fun h : eOk L = true => put_ok (i := i) (b := b) h)
  have HB3 := Lib.hid (fun (h : eOk L = true) (k : Nat) (hk : k < 12) => put_at (i := i) (b := b) h hk)
  have HB4 := Lib.hid (fun h : putOk L i b = true => put_count h)
  obtain ⟨P, hP⟩ : ∃ q, q = putExts L i b := ⟨_, rfl⟩
  obtain ⟨is, his⟩ : ∃ q, q = putOk L i b := ⟨_, rfl⟩
  rw [← hP] at HB1 HB2 HB3 HB4 H3 hkx hx12
  rw [← his] at HB3 HB4 ⊢
  clear hP his
  have hkx12 : kx ≤ 12 := by omega
  have HKX := Lib.hid hkx
  clear hkx hx12
  have hii : (is != is) = false := by cases is <;> rfl
  go_wp2_with fail
  refine (specExtsOk_any B kb db L _ (H3.rd 1 rfl) (by omega)).mono ?_
  rintro e w4 ⟨rfl, f4⟩
  have H4 := H3.go f4
  clear H3 f4
  cases hok : eOk L with
  | false =>
    have hkx0 : kx = 0 := by rw [← HKX.out, HB1.out hok]; rfl
    have HBL := Lib.hid (blockAt_out (i := i) hok)
    subst hkx0
    clear hok
    go_wp2_with fail
    refine (implBlockAt_any B kb db L i _ (H4.rd 1 rfl) (by omega)).mono ?_
    rintro e w5 ⟨rfl, f5⟩
    rw [HBL.out]
    go_wp2_with fail
    go_ret
    exact ⟨rfl, (H4.go f5).fr⟩
  | true =>
    have HPOK := Lib.hid (HB2.out hok)
    have HAT := Lib.hid (HB3.out hok)
    clear hok
    go_wp2_with fail
    go_loopw [10] (fun kv wr => ∃ k : Nat, k ≤ 12 ∧ kv = .int .i64 k ∧ Hp [] w wr [.row 92 3 (.slice X kx dx) kx (P.flatMap cExt), .row 92 3 (.slice B kb db) kb (L.flatMap cExt)]) (fun kv _ => 12 - (intOf kv).toNat)
    case atStart => exact ⟨0, by omega, rfl, H4⟩
    case round =>
      clear H4
      obtain ⟨k, hk, rfl, H⟩ := hrel
      by_cases hlt : k < 12
      · go_wp2_with fail
        refine (specBlockAt_any B kb db L k _ (H.rd 1 rfl) (by omega)).mono ?_
        rintro e w5 ⟨rfl, f5⟩
        have H5 := H.go f5
        clear H f5
        have hat := HAT.out k hlt
        obtain ⟨v, hv⟩ : ∃ q, q = blockAtL L k := ⟨_, rfl⟩
        rw [← hv] at hat ⊢
        clear hv
        have hvv : (v != v) = false := by simp
        have hbb : (b != b) = false := by simp
        cases is with
        | false =>
          have HE := Lib.hid (hat.trans (if_neg (by simp)))
          clear hat
          go_wp2_with fail
          refine (implBlockAt_any X kx dx P k _ (H5.rd 0 rfl) (by omega)).mono ?_
          rintro e w6 ⟨rfl, f6⟩
          have H6 := H5.go f6
          clear H5 f6
          rw [HE.out]
          go_wp2_with fail
          go_roundw
          case rel => exact ⟨k + 1, by omega, by go_num, H6⟩
          case measure => simp [intOf]; omega
        | true =>
          by_cases hki : (k : Int) = i
          · have HE := Lib.hid (hat.trans (if_pos ⟨rfl, hki⟩))
            have hkb : ((k : Int) == i) = true := by simpa using hki
            clear hat hki
            go_wp2_with fail
            refine (implBlockAt_any X kx dx P k _ (H5.rd 0 rfl) (by omega)).mono ?_
            rintro e w6 ⟨rfl, f6⟩
            have H6 := H5.go f6
            clear H5 f6
            rw [HE.out]
            go_wp2_with fail
            go_roundw
            case rel => exact ⟨k + 1, by omega, by go_num, H6⟩
            case measure => simp [intOf]; omega
          · have HE := Lib.hid (hat.trans (if_neg (by simp [hki])))
            have hkb : ((k : Int) == i) = false := by simpa using hki
            clear hat hki
            go_wp2_with fail
            refine (implBlockAt_any X kx dx P k _ (H5.rd 0 rfl) (by omega)).mono ?_
            rintro e w6 ⟨rfl, f6⟩
            have H6 := H5.go f6
            clear H5 f6
            rw [HE.out]
            go_wp2_with fail
            go_roundw
            case rel => exact ⟨k + 1, by omega, by go_num, H6⟩
            case measure => simp [intOf]; omega
      · clear HAT HB1 HB2 HB3
        go_wp2_with fail
        refine (specExtsOk_any X kx dx P _ (H.rd 0 rfl) (by omega)).mono ?_
        rintro e w5 ⟨rfl, f5⟩
        have H5 := H.go f5
        rw [HPOK.out]
        clear H f5
        cases is with
        | false =>
          have H8 := H5
          clear H5
          go_wp2_with fail
          refine (drawCutAt_any A n c bs _ (H8.old G.out) hn).mono ?_
          rintro e w9 ⟨C, kc, dc, M, m, rfl, hM, hkc, K9⟩
          have H9 := (H8.join K9).sub (l' := [.row 92 3 (.slice C kc dc) kc (M.flatMap cExt)]) (by simp)
          clear H8 K9
          go_wp2_with fail
          refine (implCutAt_hp C kc dc M m _ (H9.rd 0 rfl) (by omega)).mono ?_
          rintro e w10 ⟨Y, dy, Z, dz, rfl, K10⟩
          have H10 := H9.join K10
          clear H9 K10
          have hyl := cutExts_len M m
          have hzl := cutGone_len M m
          have HC1 := Lib.hid (fun h : eOk M = false => cut_bad (n := m) h)
          have HC2 := Lib.hid (fun h : eOk M = true => (cut_flat h m).1)
          have HC3 := Lib.hid (fun (h : eOk M = true) (k : Nat) (hk : k < 12) => cut_at h m hk)
          have HC4 := Lib.hid (fun h : eOk M = true => cut_count h m)
          obtain ⟨ys, hys⟩ : ∃ q, q = cutExts M m := ⟨_, rfl⟩
          obtain ⟨zs, hzs⟩ : ∃ q, q = cutGone M m := ⟨_, rfl⟩
          rw [← hys, ← hzs] at HC1 HC4 H10 ⊢
          rw [← hys] at HC2 HC3 hyl
          rw [← hzs] at hzl
          clear hys hzs
          obtain ⟨ky, hky⟩ : ∃ q, q = ys.length := ⟨_, rfl⟩
          obtain ⟨kz, hkz⟩ : ∃ q, q = zs.length := ⟨_, rfl⟩
          rw [← hky, ← hkz] at H10 ⊢
          rw [← hky] at hyl
          rw [← hkz] at hzl HC4
          have HKY := Lib.hid hky
          have HKZ := Lib.hid hkz
          clear hky hkz
          go_wp2_with fail
          refine (specExtsOk_any C kc dc M _ (H10.rd 2 rfl) (by omega)).mono ?_
          rintro e w11 ⟨rfl, f11⟩
          have H11 := H10.go f11
          clear H10 f11
          cases hok : eOk M with
          | false =>
            have hky0 : ky = 0 := by rw [HKY.out, (HC1.out hok).1]; rfl
            have hkz0 : kz = 0 := by rw [HKZ.out, (HC1.out hok).2]; rfl
            subst hky0 hkz0
            clear hok
            go_wp2_with fail
            go_ret
            exact ⟨rfl, H11.fr⟩
          | true =>
            have HYOK := Lib.hid (HC2.out hok)
            have HAT := Lib.hid (HC3.out hok)
            have HCNT := Lib.hid (HC4.out hok)
            clear hok HC1 HC2 HC3 HC4
            go_wp2_with fail
            go_loopw [16] (fun kv wr => ∃ k : Nat, k ≤ 12 ∧ kv = .int .i64 k ∧ Hp [] w wr [.row 92 3 (.slice Y ky dy) ky (ys.flatMap cExt), .row 3 1 (.slice Z kz dz) kz (zs.map (Value.int .i64)), .row 92 3 (.slice C kc dc) kc (M.flatMap cExt)]) (fun kv _ => 12 - (intOf kv).toNat)
            case atStart => exact ⟨0, by omega, rfl, H11⟩
            case round =>
              clear H11
              obtain ⟨k, hk, rfl, H⟩ := hrel
              by_cases hlt : k < 12
              · go_wp2_with fail
                refine (specBlockAt_any C kc dc M k _ (H.rd 2 rfl) (by omega)).mono ?_
                rintro e w5 ⟨rfl, f5⟩
                have H5 := H.go f5
                clear H f5
                have hat := HAT.out k hlt
                obtain ⟨v, hv⟩ : ∃ q, q = blockAtL M k := ⟨_, rfl⟩
                rw [← hv] at hat ⊢
                clear hv
                have hvv : (v != v) = false := by simp
                by_cases hmk : m ≤ (k : Int)
                · have HE := Lib.hid (hat.trans (if_pos hmk))
                  clear hat
                  go_wp2_with fail
                  refine (implBlockAt_any Y ky dy ys k _ (H5.rd 0 rfl) (by omega)).mono ?_
                  rintro e w6 ⟨rfl, f6⟩
                  have H6 := H5.go f6
                  clear H5 f6
                  rw [HE.out]
                  go_wp2_with fail
                  go_roundw
                  case rel => exact ⟨k + 1, by omega, by go_num, H6⟩
                  case measure => simp [intOf]; omega
                · have HE := Lib.hid (hat.trans (if_neg hmk))
                  clear hat
                  go_wp2_with fail
                  refine (implBlockAt_any Y ky dy ys k _ (H5.rd 0 rfl) (by omega)).mono ?_
                  rintro e w6 ⟨rfl, f6⟩
                  have H6 := H5.go f6
                  clear H5 f6
                  rw [HE.out]
                  go_wp2_with fail
                  go_roundw
                  case rel => exact ⟨k + 1, by omega, by go_num, H6⟩
                  case measure => simp [intOf]; omega
              · clear HAT
                go_wp2_with fail
                refine (specExtsOk_any Y ky dy ys _ (H.rd 0 rfl) (by omega)).mono ?_
                rintro e w5 ⟨rfl, f5⟩
                have H5 := H.go f5
                rw [HYOK.out]
                clear H f5
                go_wp2_with fail
                refine (implBlocksOf_any Y ky dy ys _ (H5.rd 0 rfl) (by omega)).mono ?_
                rintro e w6 ⟨A6, c6, rfl, _, f6⟩
                have H6 := H5.go f6
                clear H5 f6
                have hbl := blocksOfL_len M
                have hby := blocksOfL_len ys
                obtain ⟨p, hp⟩ : ∃ q, q = (blocksOfL ys).length := ⟨_, rfl⟩
                obtain ⟨q, hq⟩ : ∃ q, q = (blocksOfL M).length := ⟨_, rfl⟩
                have hpq : p + kz = q := by rw [hp, hq]; exact HCNT.out
                rw [← hp] at hby ⊢
                rw [← hq] at hbl
                have HQ := Lib.hid hq
                clear hp hq
                have hw : IntKind.i64.wrap ((p : Int) + (kz : Int)) = (q : Int) := by rw [IntWalk.i64_in _ (by omega)]; omega
                clear hpq
                go_wp2_with fail
                refine (specBlocksOf_any C kc dc M _ (H6.rd 2 rfl) (by omega)).mono ?_
                rintro e w7 ⟨A7, c7, rfl, _, f7⟩
                have H7 := H6.go f7
                clear H6 f7
                rw [← HQ.out]
                go_wp2_with fail
                go_ret
                exact ⟨rfl, H7.fr⟩
        | true =>
          have hcnt := HB4.out rfl
          have hbl := blocksOfL_len L
          obtain ⟨p, hp⟩ : ∃ q, q = (blocksOfL P).length := ⟨_, rfl⟩
          obtain ⟨q, hq⟩ : ∃ q, q = (blocksOfL L).length := ⟨_, rfl⟩
          rw [← hp, ← hq] at hcnt
          rw [← hq] at hbl
          have HP := Lib.hid hp
          have HQ := Lib.hid hq
          clear hp hq HB4
          have hw : IntKind.i64.wrap ((q : Int) + 1) = (p : Int) := by rw [IntWalk.i64_in _ (by omega)]; omega
          have hpp : ((p : Int) != (p : Int)) = false := by simp
          clear hcnt
          go_wp2_with fail
          refine (implBlocksOf_any X kx dx P _ (H5.rd 0 rfl) (by omega)).mono ?_
          rintro e w6 ⟨A6, c6, rfl, _, f6⟩
          have H6 := H5.go f6
          clear H5 f6
          rw [← HP.out]
          go_wp2_with fail
          refine (specBlocksOf_any B kb db L _ (H6.rd 1 rfl) (by omega)).mono ?_
          rintro e w7 ⟨A7, c7, rfl, _, f7⟩
          have H8 := H6.go f7
          clear H6 f7
          rw [← HQ.out]
          go_wp2_with fail
          refine (drawCutAt_any A n c bs _ (H8.old G.out) hn).mono ?_
          rintro e w9 ⟨C, kc, dc, M, m, rfl, hM, hkc, K9⟩
          have H9 := (H8.join K9).sub (l' := [.row 92 3 (.slice C kc dc) kc (M.flatMap cExt)]) (by simp)
          clear H8 K9
          go_wp2_with fail
          refine (implCutAt_hp C kc dc M m _ (H9.rd 0 rfl) (by omega)).mono ?_
          rintro e w10 ⟨Y, dy, Z, dz, rfl, K10⟩
          have H10 := H9.join K10
          clear H9 K10
          have hyl := cutExts_len M m
          have hzl := cutGone_len M m
          have HC1 := Lib.hid (fun h : eOk M = false => cut_bad (n := m) h)
          have HC2 := Lib.hid (fun h : eOk M = true => (cut_flat h m).1)
          have HC3 := Lib.hid (fun (h : eOk M = true) (k : Nat) (hk : k < 12) => cut_at h m hk)
          have HC4 := Lib.hid (fun h : eOk M = true => cut_count h m)
          obtain ⟨ys, hys⟩ : ∃ q, q = cutExts M m := ⟨_, rfl⟩
          obtain ⟨zs, hzs⟩ : ∃ q, q = cutGone M m := ⟨_, rfl⟩
          rw [← hys, ← hzs] at HC1 HC4 H10 ⊢
          rw [← hys] at HC2 HC3 hyl
          rw [← hzs] at hzl
          clear hys hzs
          obtain ⟨ky, hky⟩ : ∃ q, q = ys.length := ⟨_, rfl⟩
          obtain ⟨kz, hkz⟩ : ∃ q, q = zs.length := ⟨_, rfl⟩
          rw [← hky, ← hkz] at H10 ⊢
          rw [← hky] at hyl
          rw [← hkz] at hzl HC4
          have HKY := Lib.hid hky
          have HKZ := Lib.hid hkz
          clear hky hkz
          go_wp2_with fail
          refine (specExtsOk_any C kc dc M _ (H10.rd 2 rfl) (by omega)).mono ?_
          rintro e w11 ⟨rfl, f11⟩
          have H11 := H10.go f11
          clear H10 f11
          cases hok : eOk M with
          | false =>
            have hky0 : ky = 0 := by rw [HKY.out, (HC1.out hok).1]; rfl
            have hkz0 : kz = 0 := by rw [HKZ.out, (HC1.out hok).2]; rfl
            subst hky0 hkz0
            clear hok
            go_wp2_with fail
            go_ret
            exact ⟨rfl, H11.fr⟩
          | true =>
            have HYOK := Lib.hid (HC2.out hok)
            have HAT := Lib.hid (HC3.out hok)
            have HCNT := Lib.hid (HC4.out hok)
            clear hok HC1 HC2 HC3 HC4
            go_wp2_with fail
            go_loopw [16] (fun kv wr => ∃ k : Nat, k ≤ 12 ∧ kv = .int .i64 k ∧ Hp [] w wr [.row 92 3 (.slice Y ky dy) ky (ys.flatMap cExt), .row 3 1 (.slice Z kz dz) kz (zs.map (Value.int .i64)), .row 92 3 (.slice C kc dc) kc (M.flatMap cExt)]) (fun kv _ => 12 - (intOf kv).toNat)
            case atStart => exact ⟨0, by omega, rfl, H11⟩
            case round =>
              clear H11
              obtain ⟨k, hk, rfl, H⟩ := hrel
              by_cases hlt : k < 12
              · go_wp2_with fail
                refine (specBlockAt_any C kc dc M k _ (H.rd 2 rfl) (by omega)).mono ?_
                rintro e w5 ⟨rfl, f5⟩
                have H5 := H.go f5
                clear H f5
                have hat := HAT.out k hlt
                obtain ⟨v, hv⟩ : ∃ q, q = blockAtL M k := ⟨_, rfl⟩
                rw [← hv] at hat ⊢
                clear hv
                have hvv : (v != v) = false := by simp
                by_cases hmk : m ≤ (k : Int)
                · have HE := Lib.hid (hat.trans (if_pos hmk))
                  clear hat
                  go_wp2_with fail
                  refine (implBlockAt_any Y ky dy ys k _ (H5.rd 0 rfl) (by omega)).mono ?_
                  rintro e w6 ⟨rfl, f6⟩
                  have H6 := H5.go f6
                  clear H5 f6
                  rw [HE.out]
                  go_wp2_with fail
                  go_roundw
                  case rel => exact ⟨k + 1, by omega, by go_num, H6⟩
                  case measure => simp [intOf]; omega
                · have HE := Lib.hid (hat.trans (if_neg hmk))
                  clear hat
                  go_wp2_with fail
                  refine (implBlockAt_any Y ky dy ys k _ (H5.rd 0 rfl) (by omega)).mono ?_
                  rintro e w6 ⟨rfl, f6⟩
                  have H6 := H5.go f6
                  clear H5 f6
                  rw [HE.out]
                  go_wp2_with fail
                  go_roundw
                  case rel => exact ⟨k + 1, by omega, by go_num, H6⟩
                  case measure => simp [intOf]; omega
              · clear HAT
                go_wp2_with fail
                refine (specExtsOk_any Y ky dy ys _ (H.rd 0 rfl) (by omega)).mono ?_
                rintro e w5 ⟨rfl, f5⟩
                have H5 := H.go f5
                rw [HYOK.out]
                clear H f5
                go_wp2_with fail
                refine (implBlocksOf_any Y ky dy ys _ (H5.rd 0 rfl) (by omega)).mono ?_
                rintro e w6 ⟨A6, c6, rfl, _, f6⟩
                have H6 := H5.go f6
                clear H5 f6
                have hbl := blocksOfL_len M
                have hby := blocksOfL_len ys
                obtain ⟨p, hp⟩ : ∃ q, q = (blocksOfL ys).length := ⟨_, rfl⟩
                obtain ⟨q, hq⟩ : ∃ q, q = (blocksOfL M).length := ⟨_, rfl⟩
                have hpq : p + kz = q := by rw [hp, hq]; exact HCNT.out
                rw [← hp] at hby ⊢
                rw [← hq] at hbl
                have HQ := Lib.hid hq
                clear hp hq
                have hw : IntKind.i64.wrap ((p : Int) + (kz : Int)) = (q : Int) := by rw [IntWalk.i64_in _ (by omega)]; omega
                clear hpq
                go_wp2_with fail
                refine (specBlocksOf_any C kc dc M _ (H6.rd 2 rfl) (by omega)).mono ?_
                rintro e w7 ⟨A7, c7, rfl, _, f7⟩
                have H7 := H6.go f7
                clear H6 f7
                rw [← HQ.out]
                go_wp2_with fail
                go_ret
                exact ⟨rfl, H7.fr⟩
end Go.Proofs.Ytbmoolmgfpcnkaa
