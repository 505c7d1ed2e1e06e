/-
  Units of names; what begins with what.
-/
import Derived.Test.YtfmifaneggenoaaDoorOrder
import Derived.Test.YtfmifaneggenoaaDoorUnits
import Derived.Test.YtfmifaneggenoaaDoorAppS
import Derived.Deep.RegionHeld3
namespace Go.Proofs.YtfmifaneggenoaaDoor
open Go.RowKit

theorem fr_cell {w w' : World} {p : Addr} {u : Value} (f : Fr w w') (h : w.cell? p = some u) : w'.cell? p = some u := (f.cell (World.block_lt_of_cell? w _ h)).trans h
set_option linter.unusedVariables false
set_option linter.unusedSimpArgs false
set_option maxHeartbeats 400000 in
theorem l14Same_any (A B : Option Addr) (n m c d : Nat) (bs cs : List Int) (w : World) (h : Rd w A n 1 (bs.map (Value.int .i64))) (h' : Rd w B m 1 (cs.map (Value.int .i64))) (hn : n ≤ 100000000) (hm : m ≤ 100000000) :
    Calls Tryd.prog 48 #[.slice A n c, .slice B m d] w fun e w' => e = .returned (.bool (decide (bs = cs))) ∧ Dr w w' := by
  have HL := Lib.hid h.len1
  have HL' := Lib.hid h'.len1
  by_cases hnm : n = m
  · subst hnm
    go_enter Tryd.func48, Tryd.ntmps48
    go_wp2_with fail
    go_loopw [5] (fun i wr => ∃ k : Nat, k ≤ n ∧ i = .int .i64 k ∧ bs.take k = cs.take k ∧ Dr w wr) (fun i _ => n - (intOf i).toNat)
    case atStart => exact ⟨0, Nat.zero_le _, rfl, by simp, Dr.refl _⟩
    case round =>
      obtain ⟨k, hk, rfl, htake, hfr⟩ := hrel
      have HT := Lib.hid htake
      clear htake
      by_cases hlt : k < n
      · obtain ⟨x, hx⟩ := some_at HL.out hlt
        obtain ⟨y, hy⟩ := some_at HL'.out hlt
        obtain ⟨bk, of, rfl, hc⟩ := (h.fr hfr.fr).get1 hx
        obtain ⟨bk', of', rfl, hc'⟩ := (h'.fr hfr.fr).get1 hy
        have HX := Lib.hid hx
        have HY := Lib.hid hy
        have HF := Lib.hid hfr
        clear h h' hx hy hfr
        by_cases hxy : x = y
        · subst hxy
          go_wp2_with fail
          go_quiet (fail)
          go_wp2
          go_roundw
          case rel => exact ⟨k + 1, by omega, by go_num, take_eq_step HT.out HX.out HY.out, Dr.on HF.out _⟩
          case measure => simp [intOf]; omega
        · have hne : (x == y) = false := by simpa using hxy
          have e : bs ≠ cs := ne_of_at HX.out HY.out hxy
          have HE := Lib.hid e
          clear hxy e
          go_wp2_with fail
          go_quiet (fail)
          go_wp2
          go_ret
          exact ⟨by simp [HE.out], Dr.on HF.out _⟩
      · go_wp2
        go_ret
        have e : bs = cs := take_eq_all (n := n) (by rw [show n = k from by omega]; exact HT.out) HL.out HL'.out
        exact ⟨by simp [e], hfr⟩
  · go_enter Tryd.func48, Tryd.ntmps48
    go_wp2
    go_ret
    have e : bs ≠ cs := by rintro rfl; exact hnm (HL.out.symm.trans HL'.out)
    exact ⟨by simp [e], Dr.refl _⟩
set_option maxHeartbeats 400000 in
theorem slEqual_any (A B : Option Addr) (n m c d : Nat) (bs cs : List Int) (w : World) (h : Rd w A n 1 (bs.map (Value.int .i64))) (h' : Rd w B m 1 (cs.map (Value.int .i64))) (hn : n ≤ 100000000) (hm : m ≤ 100000000) :
    Calls Tryd.prog 83 #[.slice A n c, .slice B m d] w fun e w' => e = .returned (.bool (decide (bs = cs))) ∧ Dr w w' := by
  have HL := Lib.hid h.len1
  have HL' := Lib.hid h'.len1
  by_cases hnm : n = m
  · subst hnm
    go_enter Tryd.func83, Tryd.ntmps83
    go_wp2_with fail
    go_loopw [13] (fun i wr => ∃ k : Nat, k ≤ n ∧ i = .int .i64 k ∧ bs.take k = cs.take k ∧ Dr w wr) (fun i _ => n - (intOf i).toNat)
    case atStart => exact ⟨0, Nat.zero_le _, rfl, by simp, Dr.refl _⟩
    case round =>
      obtain ⟨k, hk, rfl, htake, hfr⟩ := hrel
      have HT := Lib.hid htake
      clear htake
      by_cases hlt : k < n
      · obtain ⟨x, hx⟩ := some_at HL.out hlt
        obtain ⟨y, hy⟩ := some_at HL'.out hlt
        obtain ⟨bk, of, rfl, hc⟩ := (h.fr hfr.fr).get1 hx
        obtain ⟨bk', of', rfl, hc'⟩ := (h'.fr hfr.fr).get1 hy
        have HX := Lib.hid hx
        have HY := Lib.hid hy
        have HF := Lib.hid hfr
        clear h h' hx hy hfr
        by_cases hxy : x = y
        · subst hxy
          go_wp2_with fail
          go_quiet (fail)
          go_wp2
          go_roundw
          case rel => exact ⟨k + 1, by omega, by go_num, take_eq_step HT.out HX.out HY.out, Dr.on HF.out _⟩
          case measure => simp [intOf]; omega
        · have hne : (x == y) = false := by simpa using hxy
          have e : bs ≠ cs := ne_of_at HX.out HY.out hxy
          have HE := Lib.hid e
          clear hxy e
          go_wp2_with fail
          go_quiet (fail)
          go_wp2
          go_ret
          exact ⟨by simp [HE.out], Dr.on HF.out _⟩
      · go_wp2
        go_ret
        have e : bs = cs := take_eq_all (n := n) (by rw [show n = k from by omega]; exact HT.out) HL.out HL'.out
        exact ⟨by simp [e], hfr⟩
  · go_enter Tryd.func83, Tryd.ntmps83
    go_wp2
    go_ret
    have e : bs ≠ cs := by rintro rfl; exact hnm (HL.out.symm.trans HL'.out)
    exact ⟨by simp [e], Dr.refl _⟩
theorem equalUnits_any (A B : Option Addr) (n m c d : Nat) (bs cs : List Int) (w : World) (h : Rd w A n 1 (bs.map (Value.int .i64))) (h' : Rd w B m 1 (cs.map (Value.int .i64))) (hn : n ≤ 100000000) (hm : m ≤ 100000000) :
    Calls Tryd.prog 52 #[.slice A n c, .slice B m d] w fun e w' => e = .returned (.bool (decide (bs = cs))) ∧ Dr w w' := by
  have K := slEqual_any A B n m c d bs cs w h h' hn hm
  generalize decide (bs = cs) = b at K ⊢
  go_enter Tryd.func52, Tryd.ntmps52
  go_wp2_with fail
  refine K.mono ?_
  rintro e w1 ⟨rfl, d1⟩
  go_wp2_with fail
  go_ret
  exact ⟨rfl, d1⟩

/-- The units of a right name. -/
def unT (s : List UInt8) : List (List Int) := unitsL (decR (keyR s).1).1
theorem unT_key {s : List UInt8} (h : nameB s = true) : unitsL (decR (keyS s)).1 = unT s := by
  rw [unT, keyS_yes (by rw [keyR_yes h])]
theorem unT_bounds (s : List UInt8) : (unT s).length ≤ 300000 ∧ ∀ u ∈ unT s, u.length ≤ 300000 := by
  have h1 := keyR_len s
  have h2 := (decR_good (keyR s).1).1
  have h3 := units_len (decR (keyR s).1).1
  refine ⟨by rw [unT]; omega, fun u hu => ?_⟩
  have := units_in hu
  omega
set_option maxRecDepth 100000 in
theorem unitsOf_any (s : ByteArray) (w : World) (hs : s.size ≤ 16777216) (hk : KT w) :
    Calls Tryd.prog 50 #[.string s] w (MadeR w (unT (toB s))) := by
  obtain ⟨U, hU⟩ : ∃ U, U = unT (toB s) := ⟨_, rfl⟩
  have HU := Lib.hid (hU.trans (show unT (toB s) = unitsL (decR (keyR (toB s)).1).1 from rfl))
  rw [← hU]
  clear hU
  have hkl := keyR_len (toB s)
  go_enter Tryd.func50, Tryd.ntmps50
  go_wp2_with fail
  refine (implKeyOf_any s _ hs hk).mono ?_
  rintro e w1 ⟨rfl, f1⟩
  generalize (keyR (toB s)).2 = kb
  generalize (keyR (toB s)).1 = kk at HU hkl ⊢
  have H1 := (Hp.start w).go f1
  obtain ⟨t, ht⟩ : ∃ t, t = ofB kk := ⟨_, rfl⟩
  have htb : toB t = kk := by rw [ht, toB_ofB]
  have hts : t.size ≤ 300000 := by rw [ht, ofB_size]; exact hkl
  rw [← ht]
  clear ht f1
  go_wp2_with fail
  refine (implDecode_any t _ (by omega)).mono ?_
  rintro e w2 ⟨A, n, c, rfl, hn, o2, f2⟩
  rw [htb] at hn o2 ⊢
  have hl2 := (decR_good kk).1
  generalize (decR kk).2 = dk
  generalize (decR kk).1 = dl at HU hn o2 hl2
  have H2 := H1.made o2 f2
  have hnb : n ≤ 300000 := by omega
  clear H1 o2 f2 hn htb
  go_wp2_with fail
  refine (implUnits_any A n c dl _ (H2.rd 0 rfl) (by omega)).mono ?_
  rintro e w3 ⟨B, d, vs, rfl, hv, K3⟩
  have H3 := H2.join K3
  have HV := Lib.hid hv
  clear hv K3 H2
  go_wp2_with fail
  go_ret
  refine ⟨B, d, vs, by rw [HU.out]; rfl, by rw [HU.out]; exact HV.out, ?_⟩
  rw [HU.out]
  exact H3.sub (.cons_cons _ (List.nil_sublist _))
set_option maxRecDepth 100000 in
theorem l14Units_any (s : ByteArray) (w : World) (hs : s.size ≤ 16777216) (hname : nameB (toB s) = true) :
    Calls Tryd.prog 47 #[.string s] w (MadeR w (unT (toB s))) := by
  obtain ⟨U, hU⟩ : ∃ U, U = unT (toB s) := ⟨_, rfl⟩
  have HU := Lib.hid (hU.trans (unT_key hname).symm)
  rw [← hU]
  clear hU
  have hkl : (keyS (toB s)).length ≤ 300000 := by rw [keyS_yes (by rw [keyR_yes hname])]; exact keyR_len _
  clear hname
  go_enter Tryd.func47, Tryd.ntmps47
  go_wp2_with fail
  refine (l14Key_any s _ hs).mono ?_
  rintro e w1 ⟨rfl, f1⟩
  generalize keyS (toB s) = kk at HU hkl ⊢
  have H1 := (Hp.start w).go f1
  obtain ⟨t, ht⟩ : ∃ t, t = ofB kk := ⟨_, rfl⟩
  have htb : toB t = kk := by rw [ht, toB_ofB]
  have hts : t.size ≤ 300000 := by rw [ht, ofB_size]; exact hkl
  rw [← ht]
  clear ht f1
  go_wp2_with fail
  refine (specDecode_any t _ (by omega)).mono ?_
  rintro e w2 ⟨A, n, c, rfl, hn, o2, f2⟩
  rw [htb] at hn o2 ⊢
  have hl2 := (decR_good kk).1
  generalize (decR kk).2 = dk
  generalize (decR kk).1 = dl at HU hn o2 hl2
  have H2 := H1.made o2 f2
  have hnb : n ≤ 300000 := by omega
  clear H1 o2 f2 hn htb
  have hcap : n ≤ c := own_cap_le (H2.row 0 rfl)
  go_wp2_with fail
  refine (specUnits_any A n c dl _ (H2.rd 0 rfl) (by omega) hcap).mono ?_
  rintro e w3 ⟨B, d, vs, rfl, hv, K3⟩
  have H3 := H2.join K3
  have HV := Lib.hid hv
  clear hv K3 H2
  go_wp2_with fail
  go_ret
  refine ⟨B, d, vs, by rw [HU.out]; rfl, by rw [HU.out]; exact HV.out, ?_⟩
  rw [HU.out]
  exact H3.sub (.cons_cons _ (List.nil_sublist _))

theorem take_rows_eq {u v : List (List Int)} (h : ∀ (i : Nat) (x y : List Int), u[i]? = some x → v[i]? = some y → x = y) (hl : v.length ≤ u.length) : u.take v.length = v := by
  apply List.ext_getElem?
  intro i
  by_cases hi : i < v.length
  · rw [List.getElem?_take_of_lt hi, List.getElem?_eq_getElem (by omega), List.getElem?_eq_getElem hi, h i _ _ (List.getElem?_eq_getElem (by omega)) (List.getElem?_eq_getElem hi)]
  · rw [List.getElem?_eq_none (by rw [List.length_take]; omega), List.getElem?_eq_none (by omega)]
theorem take_rows_ne {u v : List (List Int)} {i : Nat} {x y : List Int} (hx : u[i]? = some x) (hy : v[i]? = some y) (hxy : x ≠ y) : u.take v.length ≠ v := by
  intro e
  have hi := (List.getElem?_eq_some_iff.1 hy).1
  have h1 : (u.take v.length)[i]? = some x := by rw [List.getElem?_take_of_lt hi]; exact hx
  rw [e, hy] at h1
  injection h1 with h1
  exact hxy h1.symm
def startsB (a b : List UInt8) : Bool := (nameB a && nameB b) && (decide ((unT b).length ≤ (unT a).length) && decide ((unT a).take (unT b).length = unT b))
set_option maxRecDepth 100000 in
set_option maxHeartbeats 4000000 in
theorem eqFunc_any (A B : Option Addr) (n c d : Nat) (L M : List (List Int)) (w : World) (h : RdR w A n L) (h' : RdR w B n M) (hn : n ≤ 100000000) (hi : ∀ l ∈ L, l.length ≤ 100000000) (hi' : ∀ l ∈ M, l.length ≤ 100000000) :
    Calls Tryd.prog 51 #[.slice A n c, .slice B n d, .func (.func 52) #[] #[]] w fun e w' => e = .returned (.bool (decide (L = M))) ∧ Fr w w' := by
  have HL := Lib.hid h.len
  have HM := Lib.hid h'.len
  have G := Lib.hid h
  have G' := Lib.hid h'
  clear h h'
  go_enter Tryd.func51, Tryd.ntmps51
  go_wp2_with fail
  go_loopw [17] (fun iv wr => ∃ i : Nat, iv = .int .i64 i ∧ i ≤ n ∧ L.take i = M.take i ∧ Fr w wr) (fun iv _ => n - (intOf iv).toNat)
  case atStart => exact ⟨0, rfl, by omega, rfl, Below.refl _ _⟩
  case round =>
    obtain ⟨i, rfl, hile, htk, hf⟩ := hrel
    have HT := Lib.hid htk
    clear htk
    by_cases hlt : i < n
    · obtain ⟨l, hx⟩ := some_at HL.out hlt
      obtain ⟨m, hy⟩ := some_at HM.out hlt
      obtain ⟨b1, o1, B1, d1, rfl, c1, r1⟩ := (G.out.fr hf).at_ hx
      obtain ⟨b2, o2, B2, d2, rfl, c2, r2⟩ := (G'.out.fr hf).at_ hy
      have hi0 : (0 : Int) ≤ (i : Int) := by omega
      have hi1 : (i : Int) < (n : Int) := by omega
      have hll := hi l (List.mem_of_getElem? hx)
      have hlm := hi' m (List.mem_of_getElem? hy)
      have HF := Lib.hid hf
      have HX := Lib.hid hx
      have HY := Lib.hid hy
      clear hx hy hf
      go_wp2_with fail
      refine (equalUnits_any _ _ _ _ _ _ l m _ r1 r2 hll hlm).mono ?_
      rintro e w5 ⟨rfl, d5⟩
      have f5 := HF.out.then d5.fr
      by_cases hlm : l = m
      · rw [decide_eq_true hlm]
        have HE := Lib.hid hlm
        clear hlm c1 c2 r1 r2 d5
        go_wp2_with fail
        go_roundw
        case rel => exact ⟨i + 1, by go_num, by omega, take_eq_step HT.out HX.out (by rw [HE.out]; exact HY.out), f5⟩
        case measure => simp [intOf]; omega
      · rw [decide_eq_false hlm]
        have HE := Lib.hid (ne_of_at HX.out HY.out hlm)
        clear hlm c1 c2 r1 r2 d5
        go_wp2_with fail
        go_ret
        rw [decide_eq_false HE.out]
        exact ⟨rfl, f5⟩
    · have hge : ¬ ((i : Int) < (n : Int)) := by omega
      have HE := Lib.hid (take_eq_all (n := n) (by rw [show n = i by omega]; exact HT.out) HL.out HM.out)
      go_wp2_with fail
      go_ret
      rw [decide_eq_true HE.out]
      exact ⟨rfl, hf⟩
set_option maxRecDepth 100000 in
set_option maxHeartbeats 4000000 in
theorem implStarts_any (s t : ByteArray) (w : World) (hs : s.size ≤ 16777216) (ht : t.size ≤ 16777216) (hk : KT w) :
    Calls Tryd.prog 13 #[.string s, .string t] w fun e w' => e = .returned (.bool (startsB (toB s) (toB t))) ∧ Fr w w' := by
  obtain ⟨q, hq⟩ : ∃ q, q = startsB (toB s) (toB t) := ⟨_, rfl⟩
  have HQ := Lib.hid hq
  rw [← hq]
  clear hq
  go_enter Tryd.func13, Tryd.ntmps13
  go_wp2_with fail
  refine (implNameOk_any s _ hs hk).mono ?_
  rintro e w1 ⟨rfl, f1⟩
  rcases bool_or (nameB (toB s)) with h1 | h1
  · rw [h1]
    go_wp2_with fail
    refine (implNameOk_any t _ ht (hk.fr f1)).mono ?_
    rintro e w2 ⟨rfl, f2⟩
    have F2 := f1.then f2
    clear f1 f2
    rcases bool_or (nameB (toB t)) with h2 | h2
    · rw [h2]
      have HE := Lib.hid (HQ.out.trans (show startsB (toB s) (toB t) = (decide ((unT (toB t)).length ≤ (unT (toB s)).length) && decide ((unT (toB s)).take (unT (toB t)).length = unT (toB t))) by rw [startsB, h1, h2]; rfl))
      clear h1 h2
      have hub := unT_bounds (toB s)
      have hvb := unT_bounds (toB t)
      go_wp2_with fail
      refine (unitsOf_any s _ hs (hk.fr F2)).mono ?_
      rintro e w3 ⟨A, c, vs, rfl, hv, K3⟩
      have H3 := ((Hp.start w).go F2).join K3
      have HV := Lib.hid hv
      clear hv K3
      go_wp2_with fail
      refine (unitsOf_any t _ ht (hk.fr H3.fr)).mono ?_
      rintro e w4 ⟨B, d, vs2, rfl, hv2, K4⟩
      have H4 := H3.join K4
      have HV2 := Lib.hid hv2
      clear hv2 K4 H3
      generalize unT (toB s) = u at H4 HE HV hub ⊢
      generalize unT (toB t) = v at H4 HE HV2 hvb ⊢
      have hcap := own_cap_le (H4.row_of_many (List.mem_of_getElem? (i := 1) rfl))
      by_cases hle : v.length ≤ u.length
      · have hd : decide ((v.length : Int) ≤ (u.length : Int)) = true := by simp; omega
        have hcap2 : v.length ≤ c := by omega
        have RU := (H4.rdR 1 rfl HV.out HV.out).first hle
        have RV := H4.rdR 0 rfl HV2.out HV2.out
        have HE2 := Lib.hid (HE.out.trans (by rw [decide_eq_true hle, Bool.true_and]))
        have hi1 : ∀ l ∈ u.take v.length, l.length ≤ 100000000 := fun l hl => Nat.le_trans (hub.2 l (List.mem_of_mem_take hl)) (by omega)
        have hi2 : ∀ l ∈ v, l.length ≤ 100000000 := fun l hl => Nat.le_trans (hvb.2 l hl) (by omega)
        have hle2 : (v.length : Int) ≤ (c : Int) := by omega
        obtain ⟨bb, hbb⟩ : ∃ b, b = decide (u.take v.length = v) := ⟨_, rfl⟩
        have HBB := Lib.hid hbb
        rw [← hbb] at HE2
        clear hbb
        go_wp2_with fail
        refine (eqFunc_any A B v.length c d (u.take v.length) v _ RU RV (by omega) hi1 hi2).mono ?_
        rintro e w5 ⟨rfl, f5⟩
        have HF := Lib.hid (H4.go f5).fr
        rw [← HBB.out]
        clear H4 RU RV hi1 hi2 f5
        go_wp2_with fail
        go_ret
        rw [HE2.out]
        exact ⟨rfl, HF.out⟩
      · have hd : decide ((v.length : Int) ≤ (u.length : Int)) = false := by simp; omega
        have HE2 := Lib.hid (HE.out.trans (by rw [decide_eq_false hle, Bool.false_and] : _ = false))
        have HF := Lib.hid H4.fr
        clear H4
        go_wp2_with fail
        go_ret
        rw [HE2.out]
        exact ⟨rfl, HF.out⟩
    · have HE := Lib.hid (HQ.out.trans (show startsB (toB s) (toB t) = false by rw [startsB, h1, h2]; rfl))
      rw [h2]
      clear h1 h2
      go_wp2_with fail
      go_ret
      rw [HE.out]
      exact ⟨rfl, F2⟩
  · have HE := Lib.hid (HQ.out.trans (show startsB (toB s) (toB t) = false by rw [startsB, h1]; rfl))
    rw [h1]
    clear h1
    go_wp2_with fail
    go_ret
    rw [HE.out]
    exact ⟨rfl, f1⟩

set_option maxRecDepth 100000 in
set_option maxHeartbeats 4000000 in
theorem specStarts_any (s t : ByteArray) (w : World) (hs : s.size ≤ 16777216) (ht : t.size ≤ 16777216) :
    Calls Tryd.prog 12 #[.string s, .string t] w fun e w' => e = .returned (.bool (startsB (toB s) (toB t))) ∧ Fr w w' := by
  obtain ⟨q, hq⟩ : ∃ q, q = startsB (toB s) (toB t) := ⟨_, rfl⟩
  have HQ := Lib.hid hq
  rw [← hq]
  clear hq
  go_enter Tryd.func12, Tryd.ntmps12
  go_wp2_with fail
  refine (specNameOk_any s _ hs).mono ?_
  rintro e w1 ⟨rfl, f1⟩
  rcases bool_or (nameB (toB s)) with h1 | h1
  · rw [h1]
    go_wp2_with fail
    refine (specNameOk_any t _ ht).mono ?_
    rintro e w2 ⟨rfl, f2⟩
    have F2 := f1.then f2
    clear f1 f2
    rcases bool_or (nameB (toB t)) with h2 | h2
    · rw [h2]
      have HE := Lib.hid (HQ.out.trans (show startsB (toB s) (toB t) = (decide ((unT (toB t)).length ≤ (unT (toB s)).length) && decide ((unT (toB s)).take (unT (toB t)).length = unT (toB t))) by rw [startsB, h1, h2]; rfl))
      have N1 := Lib.hid h1
      have N2 := Lib.hid h2
      clear h1 h2
      have hub := unT_bounds (toB s)
      have hvb := unT_bounds (toB t)
      go_wp2_with fail
      refine (l14Units_any s _ hs N1.out).mono ?_
      rintro e w3 ⟨A, c, vs, rfl, hv, K3⟩
      have H3 := ((Hp.start w).go F2).join K3
      have HV := Lib.hid hv
      clear hv K3
      go_wp2_with fail
      refine (l14Units_any t _ ht N2.out).mono ?_
      rintro e w4 ⟨B, d, vs2, rfl, hv2, K4⟩
      have H4 := H3.join K4
      have HV2 := Lib.hid hv2
      clear hv2 K4 H3
      generalize unT (toB s) = u at H4 HE HV hub ⊢
      generalize unT (toB t) = v at H4 HE HV2 hvb ⊢
      by_cases hle : v.length ≤ u.length
      · have hd : decide ((u.length : Int) < (v.length : Int)) = false := by simp; omega
        have hd2 : decide (u.length < v.length) = false := by simp; omega
        have HE2 := Lib.hid (HE.out.trans (by rw [decide_eq_true hle, Bool.true_and]))
        have HH := Lib.hid H4
        clear H4
        go_wp2_with fail
        go_loopw [7] (fun iv wr => ∃ i : Nat, iv = .int .i64 i ∧ i ≤ v.length ∧ (∀ (j : Nat) (x y : List Int), j < i → u[j]? = some x → v[j]? = some y → x = y) ∧ Hp [] w wr [manyR (.slice B v.length d) vs2 v, manyR (.slice A u.length c) vs u]) (fun iv _ => v.length - (intOf iv).toNat)
        case atStart => exact ⟨0, rfl, by omega, fun j x y hj => by omega, HH.out⟩
        case round =>
          clear HH
          obtain ⟨i, rfl, hi, hall, H⟩ := hrel
          have HA := Lib.hid hall
          clear hall
          by_cases hlt : i < v.length
          · obtain ⟨x, hx⟩ := some_at (l := u) rfl (show i < u.length by omega)
            obtain ⟨y, hy⟩ := some_at (l := v) rfl hlt
            obtain ⟨b1, o1, B1, d1, e1, c1, r1⟩ := (H.rdR 1 rfl HV.out HV.out).at_ hx
            obtain ⟨b2, o2, B2, d2, e2, c2, r2⟩ := (H.rdR 0 rfl HV2.out HV2.out).at_ hy
            subst e1 e2
            have hi0 : (0 : Int) ≤ (i : Int) := by omega
            have hi1 : (i : Int) < (v.length : Int) := by omega
            have hi2 : (i : Int) < (u.length : Int) := by omega
            have hlx := Nat.le_trans (hub.2 x (List.mem_of_getElem? hx)) (show 300000 ≤ 100000000 by decide)
            have hly := Nat.le_trans (hvb.2 y (List.mem_of_getElem? hy)) (show 300000 ≤ 100000000 by decide)
            have HX := Lib.hid hx
            have HY := Lib.hid hy
            obtain ⟨bb, hbb⟩ : ∃ b, b = decide (x = y) := ⟨_, rfl⟩
            have HBB := Lib.hid hbb
            clear hx hy hbb
            go_wp2_with fail
            go_region_held3 (fun w' => w'.cell? ⟨b1, o1 + i, none⟩ = some (.slice B1 x.length d1) ∧ w'.cell? ⟨b2, o2 + i, none⟩ = some (.slice B2 y.length d2))
              (first
                | exact ⟨c1a, c2a⟩
                | exact ⟨c1, c2⟩)
              ((first
                | (go_at_call 48
                   refine (l14Same_any _ _ _ _ _ _ x y _ r1.drew r2.drew hlx hly).mono ?_
                   rintro e w5 ⟨rfl, d5⟩
                   rw [← HBB.out]
                   have f5 := (Fr.drew_ _).then d5.fr
                   have c1a := fr_cell f5 c1
                   have c2a := fr_cell f5 c2)))
            have H5 := H.go f5
            clear c1 c2 c1a c2a r1 r2 d5 f5 H
            cases bb with
            | true =>
              have HXY := Lib.hid (show x = y by simpa using HBB.out.symm)
              go_wp2_with fail
              go_roundw
              case rel => exact ⟨i + 1, by go_num, by omega, fun j a b hj ha hb => by
                rcases Nat.lt_or_ge j i with h | h
                · exact HA.out j a b h ha hb
                · obtain rfl : j = i := by omega
                  rw [HX.out] at ha
                  rw [HY.out] at hb
                  injection ha with ha
                  injection hb with hb
                  rw [← ha, ← hb]; exact HXY.out, H5⟩
              case measure => simp [intOf]; omega
            | false =>
              have HXY := Lib.hid (show ¬ x = y by simpa using HBB.out.symm)
              have HE3 := Lib.hid (HE2.out.trans (decide_eq_false (take_rows_ne HX.out HY.out HXY.out)))
              go_wp2_with fail
              go_ret
              rw [HE3.out]
              exact ⟨rfl, H5.fr⟩
          · have hge : ¬ ((i : Int) < (v.length : Int)) := by omega
            have HE3 := Lib.hid (HE2.out.trans (decide_eq_true (take_rows_eq (fun j x y hx hy => HA.out j x y (by have := (List.getElem?_eq_some_iff.1 hy).1; omega) hx hy) hle)))
            go_wp2_with fail
            go_ret
            rw [HE3.out]
            exact ⟨rfl, H.fr⟩
      · have hd : decide ((u.length : Int) < (v.length : Int)) = true := by simp; omega
        have HE2 := Lib.hid (HE.out.trans (by rw [decide_eq_false hle, Bool.false_and] : _ = false))
        have HF := Lib.hid H4.fr
        clear H4
        go_wp2_with fail
        go_ret
        rw [HE2.out]
        exact ⟨rfl, HF.out⟩
    · have HE := Lib.hid (HQ.out.trans (show startsB (toB s) (toB t) = false by rw [startsB, h1, h2]; rfl))
      rw [h2]
      clear h1 h2
      go_wp2_with fail
      go_ret
      rw [HE.out]
      exact ⟨rfl, F2⟩
  · have HE := Lib.hid (HQ.out.trans (show startsB (toB s) (toB t) = false by rw [startsB, h1]; rfl))
    rw [h1]
    clear h1
    go_wp2_with fail
    go_ret
    rw [HE.out]
    exact ⟨rfl, f1⟩
set_option maxRecDepth 100000 in
theorem lawFnExactStarts_walk (s t : ByteArray) (w : World) (hs : s.size ≤ 9223372036854775807) (ht : t.size ≤ 9223372036854775807) (hk : KT w) :
    Calls Tryd.prog 4 #[.string s, .string t] w fun e w' => e = .returned (.bool true) ∧ Fr w w' := by
  by_cases h1 : 1048576 < s.size
  · have hd : decide ((1048576 : Int) < (s.size : Int)) = true := by simp; omega
    go_enter Tryd.func4, Tryd.ntmps4
    go_wp2_with fail
    go_ret
    exact ⟨rfl, Below.refl _ _⟩
  · have hd : decide ((1048576 : Int) < (s.size : Int)) = false := by simp; omega
    by_cases h2 : 1048576 < t.size
    · have hd2 : decide ((1048576 : Int) < (t.size : Int)) = true := by simp; omega
      go_enter Tryd.func4, Tryd.ntmps4
      go_wp2_with fail
      go_ret
      exact ⟨rfl, Below.refl _ _⟩
    · have hd2 : decide ((1048576 : Int) < (t.size : Int)) = false := by simp; omega
      go_enter Tryd.func4, Tryd.ntmps4
      go_wp2_with fail
      refine (specStarts_any s t _ (by omega) (by omega)).mono ?_
      rintro e w1 ⟨rfl, f1⟩
      go_wp2_with fail
      refine (implStarts_any s t _ (by omega) (by omega) (hk.fr f1)).mono ?_
      rintro e w2 ⟨rfl, f2⟩
      have F := f1.then f2
      clear f1 f2
      generalize startsB (toB s) (toB t) = n
      cases n with
      | true =>
        go_wp2
        go_ret
        exact ⟨rfl, F⟩
      | false =>
        go_wp2
        go_ret
        exact ⟨rfl, F⟩
end Go.Proofs.YtfmifaneggenoaaDoor
