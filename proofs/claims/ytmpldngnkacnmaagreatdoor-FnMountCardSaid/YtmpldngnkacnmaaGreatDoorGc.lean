/-
  Many texts in one: Decode, MParts, Parts, MApart, MCrc, FrC, Bputs.
-/
import Derived.Test.YtmpldngnkacnmaaGreatDoorGb
import Derived.Test.YtmpldngnkacnmaaGreatDoorGa
import Derived.Laws.BitsLemmas
import Derived.Test.YtmpldngnkacnmaaGreatDoorGf
set_option linter.unusedVariables false
set_option linter.unusedSimpArgs false
namespace Go.Proofs.YtmpldngnkacnmaaGreatDoor
open Go.RowKit
def DecM (s : List UInt8) (w : World) (e : Ending) (w' : World) : Prop :=
 ∃ (A : Option Addr) (n c : Nat), e = .returned (.tuple #[.slice A n c, .bool (decR s).2]) ∧ n = (decR s).1.length ∧ w'.ownsRow w.heap.size 3 1 (.slice A n c) n ((decR s).1.map (Value.int .i64)) ∧ Fr w w'
theorem drop_cons {s : List UInt8} {a : Nat} {b : UInt8} (h : s[a]? = some b) : s.drop a = b :: s.drop (a + 1) := by
 obtain ⟨hi, e⟩ := List.getElem?_eq_some_iff.1 h;rw [List.drop_eq_getElem_cons hi, e]
set_option maxRecDepth 100000 in
set_option maxHeartbeats 4000000 in
theorem implDecode_any (s : ByteArray) (w : World) (hz : s.size ≤ 16777216) :
 Calls Tryz.prog 115 #[.string s] w (DecM (toB s) w) := by
 have H0 := (Hp.start w).lit0 3 1;obtain ⟨N, hN⟩ : ∃ N, N = s.size := ⟨_, rfl⟩;have HN := Lib.hid hN;have HTL := Lib.hid (show (toB s).length = N by rw [toB_len, hN]);have hNb : N ≤ 16777216 := by omega
 rw [← hN] at hz;go_enter Tryz.func115, Tryz.ntmps115;go_wp2_with fail
 go_loopw [4, 5] (fun v av wr => ∃ (a : Nat) (o : List Int), av = .int .i64 a ∧ DSt (toB s) a o ∧ Hp [] w wr [.row 3 1 v o.length (o.map (Value.int .i64))]) (fun _ av _ => N - (intOf av).toNat)
 case atStart => exact ⟨0, [], rfl, DSt.start _, H0⟩
 case round =>
  clear H0;obtain ⟨a, o, rfl, hst, H⟩ := hrel;obtain ⟨B, d, rfl⟩ := H.shape 0 rfl;have HST := Lib.hid hst;have hal := hst.le;have hol := hst.len;rw [HTL.out] at hal;clear hst;have hsN : s.size = N := hN.symm
  by_cases hlt : a < N
  ·obtain ⟨b, hb⟩ := some_at HTL.out hlt
   have HD := Lib.hid (drop_cons hb);have hlt2 : (a : Int) < (N : Int) := by omega
   have ha0 : (0 : Int) ≤ (a : Int) := by omega
   have hle2 : (a : Int) ≤ (N : Int) := by omega
   clear hb hN;go_wp2_with fail;refine (implSignAt_any _ b ((toB s).drop (a + 1)) _ (by rw [toB_extract, HD.out]; exact List.take_of_length_le (by rw [← HD.out, List.length_drop, HTL.out]; omega)) (by rw [← toB_len, toB_extract, List.length_take, List.length_drop, HTL.out]; omega)).mono ?_;rintro e w1 ⟨rfl, f1⟩;replace H := H.go f1;have HO := Lib.hid (show oneF ((toB s).drop a) = oneT b ((toB s).drop (a + 1)) by rw [HD.out]; rfl)
   generalize oneT b ((toB s).drop (a + 1)) = p at HO ⊢
   obtain ⟨c0, k⟩ := p;clear f1
   by_cases hk : k = 0
   ·subst hk
    have HE := Lib.hid (HST.out.stop (by rw [HTL.out]; exact hlt) HO.out);go_wp2_with fail;go_ret2;refine ⟨none, 0, 0, by rw [HE.out]; rfl, by rw [HE.out]; rfl, by rw [HE.out]; exact own_nil _ _ _ _, H.fr⟩
   ·have hk' : ((k : Int) == 0) = false := by simp; omega
    have HNX := Lib.hid (HST.out.next (by rw [HTL.out]; exact hlt) HO.out hk);have hnl := HNX.out.le;rw [HTL.out] at hnl;go_wp2_with (at_builtin; refine wp_appM (f := Value.int .i64) (H) rfl _ _ _ rfl Tryz.underlying83 infoInt rfl 0 _ _ rfl rfl _ _ (c0) rfl (by simp) rfl (by first | (simp only [maxLen]; omega) | (simp [maxLen]; done) | (simp [maxLen]; omega)) (by first | omega | (simp; done) | (simp; omega)) ?_)
    intro v' w' H';have H2 := Lib.hid (show Hp [] w w' [.row 3 1 v' (o ++ [c0]).length ((o ++ [c0]).map (Value.int .i64))] by
     rw [List.map_append, List.length_append]; exact H')
    clear H' H;go_wp2_with fail;go_roundw
    case rel => exact ⟨a + k, o ++ [c0], by go_num, HNX.out, H2.out⟩
    case measure => simp [intOf]; omega
  ·have hge : ¬ ((a : Int) < (N : Int)) := by omega
   have HE := Lib.hid (HST.out.done (by rw [HTL.out]; omega));clear hN;go_wp2_with fail;go_ret2;exact ⟨B, o.length, d, by rw [HE.out]; rfl, by rw [HE.out], by rw [HE.out]; exact H.out 0 rfl, H.fr⟩
set_option maxRecDepth 100000 in
set_option maxHeartbeats 8000000 in
theorem l3One_any (s : ByteArray) (a : Nat) (b : UInt8) (r : List UInt8) (w : World) (hb : (toB s)[a]? = some b) (hr : r = (toB s).drop (a + 1)) (hz : s.size ≤ 16777216) :
 Calls Tryz.prog 109 #[.string s, .int .i64 a] w fun e w' => e = .returned (.tuple #[.int .i64 (oneT b r).1, .int .i64 ((oneT b r).2 : Nat)]) ∧ Fr w w' := by
 obtain ⟨p, hp⟩ : ∃ p, p = oneT b r := ⟨_, rfl⟩;have HP := Lib.hid hp;rw [← hp];clear hp;obtain ⟨N, hN⟩ : ∃ N, N = s.size := ⟨_, rfl⟩;have HN := Lib.hid hN;have HTL := Lib.hid (show (toB s).length = N by rw [toB_len, hN]);have hNb : N ≤ 16777216 := by omega
 have haN : a < N := by rw [← HTL.out]; exact (List.getElem?_eq_some_iff.1 hb).1
 have hrl : r.length + (a + 1) = N := by rw [hr, List.length_drop, HTL.out]; omega
 have hks : a < s.size := by rw [← hN]; exact haN
 have e1 : s[a] = b := toB_get hb hks;have hb0 : ((s[a]).toNat : Int) ≤ 255 := by have := (s[a]).toNat_lt; omega
 have hb1 : (0 : Int) ≤ ((s[a]).toNat : Int) := by omega
 have hlt2 : (a : Int) < (N : Int) := by omega
 have ha0 : (0 : Int) ≤ (a : Int) := by omega
 have HB := Lib.hid (show (s[a]).toNat = b.toNat by rw [e1]);have LB := Lib.hid (show 0 ≤ leadF b ∧ leadF b < 256 by have := (lead_bounds b).1; have h2 := b.toNat_lt; refine ⟨this, ?_⟩; unfold leadF; repeat' split; all_goals omega);have hsN : s.size = N := hN.symm;clear hb e1 hz hN;go_enter Tryz.func109, Tryz.ntmps109
 rcases sizeF_cases b with ⟨hb, hbb⟩ | ⟨hb, hbb⟩ | ⟨hb, hbb⟩ | ⟨hb, hbb⟩ | ⟨hb, hbb⟩
 ·have hd0 : decide (((s[a]).toNat : Int) < 128) = true := by rw [HB.out]; simp; omega
  obtain ⟨c0, hc0⟩ : ∃ q, q = leadF b := ⟨_, rfl⟩;have ha : ((s[a]).toNat : Int) = c0 := by rw [HB.out, hc0, leadF, if_pos hbb]
  have HC0 := Lib.hid hc0;rw [ha] at hb0 hb1 hd0;clear hc0;have HSZ := Lib.hid hb
  by_cases hlen : N < a + 1
  ·have HE := Lib.hid (HP.out.trans (oneT_none (.inr (by rw [HSZ.out]; omega))))
   have hw : IntKind.i64.wrap ((a : Int) + 1) = (a : Int) + 1 := IntWalk.i64_in _ (by omega);have hd : decide ((N : Int) < (a : Int) + 1) = true := by simp; omega
   go_wp2_with fail;go_ret2;rw [HE.out];exact ⟨rfl, Below.refl _ _⟩
  ·have hw : IntKind.i64.wrap ((a : Int) + 1) = (a : Int) + 1 := IntWalk.i64_in _ (by omega)
   have hd : decide ((N : Int) < (a : Int) + 1) = false := by simp; omega
   go_wp2_with fail
   go_loopw [8, 9] (fun cv iv wr => ∃ (i : Nat) (c : Int), iv = .int .i64 ((i + 1 : Nat) : Int) ∧ cv = .int .i64 c ∧ i + 1 ≤ 1 ∧ accC (leadF b) (r.take i) = some c ∧ 0 ≤ c ∧ c < 8388608 ∧ wr = w) (fun _ iv _ => 1 - (intOf iv).toNat)
   case atStart => exact ⟨0, c0, rfl, rfl, by omega, by rw [HC0.out]; rfl, by rw [HC0.out]; exact LB.out.1, by have := LB.out.2; rw [HC0.out]; omega, rfl⟩
   case round =>
    obtain ⟨i, c, rfl, rfl, hi, hacc, hc0, hc1, rfl⟩ := hrel;have HA := Lib.hid hacc;clear hacc hw hd
    by_cases hlt : i + 1 < 1
    ·obtain ⟨q, hq⟩ : ∃ q, q = a + (i + 1) := ⟨_, rfl⟩
     have hqN : q < N := by omega
     obtain ⟨x, hx⟩ := some_at (l := toB s) HTL.out hqN;have hkq : q < s.size := by rw [← HN.out]; omega
     have e1 : s[q] = x := toB_get hx hkq;have hx' : r[i]? = some x := by rw [hr, List.getElem?_drop]; rw [show a + 1 + i = q by omega]; exact hx
     have HX := Lib.hid hx';have hv2 : ((s[q]).toNat : Int) = (x.toNat : Int) := by rw [e1]
     have HV2 := Lib.hid hv2;have hxb := x.toNat_lt;have hwq : IntKind.i64.wrap ((a : Int) + ((i : Int) + 1)) = (q : Int) := by rw [IntWalk.i64_in _ (by omega)]; omega
     have hi2 : (0 : Int) ≤ (q : Int) := by omega
     have hi3 : ((i : Int) + 1) < 1 := by omega
     have hi4 : (q : Int) < (N : Int) := by omega
     have hv0 : (0 : Int) ≤ ((s[q]).toNat : Int) := by omega
     have hv3 : ((s[q]).toNat : Int) ≤ 255 := by omega
     clear hx hx' e1 hv2 hq
     by_cases hc : 128 ≤ x.toNat ∧ x.toNat ≤ 191
     ·have hcf : contF c x = some (c * 64 + (x.toNat : Int) % 64) := by rw [contF, if_pos hc]
      have hd1 : decide (((s[q]).toNat : Int) < 128) = false := by rw [HV2.out]; simp; omega
      have hd2 : decide (191 < ((s[q]).toNat : Int)) = false := by rw [HV2.out]; simp; omega
      have hsh : IntKind.i64.wrap (c * 64) = c * 64 := IntWalk.i64_in _ (by omega);obtain ⟨y, hyy⟩ : ∃ y : Int, y = (x.toNat : Int) % 64 := ⟨_, rfl⟩;have hy1 : bits .and .i64 ((s[q]).toNat : Int) 63 = y := by rw [HV2.out, hyy]; exact and_63 (by omega) (by omega)
      obtain ⟨d, hdd⟩ : ∃ d : Int, d = c * 64 + y := ⟨_, rfl⟩;have hor : IntKind.i64.wrap (c * 64 + y) = d := by rw [hdd]; exact IntWalk.i64_in _ (by omega)
      have HCF := Lib.hid (accC_take_some HA.out HX.out (hcf.trans (by rw [← hyy, ← hdd])));have hdb := acc_bound (by rw [HSZ.out]; omega) (by rw [HSZ.out]; omega) (by omega) HCF.out;clear hcf hyy hdd;go_wp2_with fail;go_roundw
      case rel => exact ⟨i + 1, d, by go_num, rfl, by omega, HCF.out, hdb.1, hdb.2, by first | rfl | trivial⟩
      case measure => simp [intOf]; omega
     ·have hcf : contF c x = none := by rw [contF, if_neg hc]
      have HE := Lib.hid (HP.out.trans (oneT_broken (by rw [HSZ.out]; exact accC_take_none HA.out HX.out hcf (by omega))));clear hcf
      by_cases hlo : x.toNat < 128
      ·have hd1 : decide (((s[q]).toNat : Int) < 128) = true := by rw [HV2.out]; simp; omega
       go_wp2_with fail;go_ret2;rw [HE.out];exact ⟨rfl, Below.refl _ _⟩
      ·have hd1 : decide (((s[q]).toNat : Int) < 128) = false := by rw [HV2.out]; simp; omega
       have hd2 : decide (191 < ((s[q]).toNat : Int)) = true := by rw [HV2.out]; simp; omega
       go_wp2_with fail;go_ret2;rw [HE.out];exact ⟨rfl, Below.refl _ _⟩
    ·have hge : ¬ (((i : Int) + 1) < 1) := by omega
     have hi2 : i = 1 - 1 := by omega
     subst hi2;have HE := Lib.hid (HP.out.trans (oneT_some (by rw [HSZ.out]; omega) (by rw [HSZ.out]; omega) (by rw [HSZ.out]; exact HA.out)));have HSL := Lib.hid (fun (hs : sgnB c = true) => size_least (by rw [HSZ.out]; omega) (by rw [HSZ.out]; omega) (show accC (leadF b) (r.take (sizeF b - 1)) = some c by rw [HSZ.out]; exact HA.out) hs);go_wp2_with fail;refine (specSign_any _ _).mono ?_;rintro e w1 ⟨rfl, rfl⟩
     rcases (show sgnB c = true ∨ sgnB c = false by cases sgnB c <;> simp) with hsg | hsg
     ·have hiff := HSL.out hsg
      rw [HSZ.out] at hiff;have HIF := Lib.hid hiff;clear hiff;have HEN := Lib.hid (show encL [c] = enc1 c by rw [encL_good (by simpa using hsg)]; simp);rw [hsg];have K := (Hp.start w1).lit 3 1 1 ([c].map (Value.int .i64)) rfl (by simp [maxLen]);go_wp2_with fail;refine (specEncode_any _ 1 1 [c] _ (K.rd 0 rfl) (by decide)).mono ?_;rintro e w2 ⟨rfl, f2⟩;have F2 := Lib.hid (K.go f2).fr;rw [HEN.out];obtain ⟨tx, htx⟩ : ∃ q, q = ofB (enc1 c) := ⟨_, rfl⟩;have HT := Lib.hid (show tx.size = szC c by rw [htx, ofB_size, enc1_len]);rw [← htx];clear htx K f2
      by_cases hszc : szC c = 1
      ·have hd1 : ((tx.size : Int) == 1) = true := by rw [HT.out]; simp; omega
       go_wp2_with fail;go_ret2;rw [HE.out, HSZ.out, if_neg (by
        rintro (h | h)
        ·exact (HIF.out.1 h) hszc
        ·rw [hsg] at h; cases h)]
       exact ⟨rfl, F2.out⟩
      ·have hd1 : ((tx.size : Int) == 1) = false := by rw [HT.out]; simp; omega
       go_wp2_with fail;go_ret2;rw [HE.out, HSZ.out, if_pos (.inl (HIF.out.2 hszc))];exact ⟨rfl, F2.out⟩
     ·rw [hsg]
      go_wp2_with fail;go_ret2;rw [HE.out, HSZ.out, if_pos (.inr hsg)];exact ⟨rfl, Below.refl _ _⟩
 ·have hd0 : decide (((s[a]).toNat : Int) < 128) = false := by rw [HB.out]; simp; omega
  have HE := Lib.hid (HP.out.trans (oneT_none (.inl hb)))
  by_cases hlo : b.toNat < 192
  ·have d1 : decide (192 ≤ ((s[a]).toNat : Int)) = false := by rw [HB.out]; simp; omega
   have d2 : decide (224 ≤ ((s[a]).toNat : Int)) = false := by rw [HB.out]; simp; omega
   have d3 : decide (240 ≤ ((s[a]).toNat : Int)) = false := by rw [HB.out]; simp; omega
   go_wp2_with fail;go_ret2;rw [HE.out];exact ⟨rfl, Below.refl _ _⟩
  ·have d1 : decide (192 ≤ ((s[a]).toNat : Int)) = true := by rw [HB.out]; simp; omega
   have d2 : decide (224 ≤ ((s[a]).toNat : Int)) = true := by rw [HB.out]; simp; omega
   have d3 : decide (240 ≤ ((s[a]).toNat : Int)) = true := by rw [HB.out]; simp; omega
   have d4 : decide (((s[a]).toNat : Int) < 224) = false := by rw [HB.out]; simp; omega
   have d5 : decide (((s[a]).toNat : Int) < 240) = false := by rw [HB.out]; simp; omega
   have d6 : decide (((s[a]).toNat : Int) < 248) = false := by rw [HB.out]; simp; omega
   go_wp2_with fail;go_ret2;rw [HE.out];exact ⟨rfl, Below.refl _ _⟩
 ·have hd0 : decide (((s[a]).toNat : Int) < 128) = false := by rw [HB.out]; simp; omega
  have d1 : decide (192 ≤ ((s[a]).toNat : Int)) = true := by rw [HB.out]; simp; omega
  have d2 : decide (((s[a]).toNat : Int) < 224) = true := by rw [HB.out]; simp; omega
  obtain ⟨c0, hc0⟩ : ∃ q, q = leadF b := ⟨_, rfl⟩;have ha : bits .and .i64 ((s[a]).toNat : Int) 31 = c0 := by
   rw [and_31 (by omega) (by omega), HB.out, hc0, leadF, if_neg (by omega), if_pos (by omega)]
  have HC0 := Lib.hid hc0;clear hc0;have HSZ := Lib.hid hb
  by_cases hlen : N < a + 2
  ·have HE := Lib.hid (HP.out.trans (oneT_none (.inr (by rw [HSZ.out]; omega))))
   have hw : IntKind.i64.wrap ((a : Int) + 2) = (a : Int) + 2 := IntWalk.i64_in _ (by omega);have hd : decide ((N : Int) < (a : Int) + 2) = true := by simp; omega
   go_wp2_with fail;go_ret2;rw [HE.out];exact ⟨rfl, Below.refl _ _⟩
  ·have hw : IntKind.i64.wrap ((a : Int) + 2) = (a : Int) + 2 := IntWalk.i64_in _ (by omega)
   have hd : decide ((N : Int) < (a : Int) + 2) = false := by simp; omega
   go_wp2_with fail
   go_loopw [8, 9] (fun cv iv wr => ∃ (i : Nat) (c : Int), iv = .int .i64 ((i + 1 : Nat) : Int) ∧ cv = .int .i64 c ∧ i + 1 ≤ 2 ∧ accC (leadF b) (r.take i) = some c ∧ 0 ≤ c ∧ c < 8388608 ∧ wr = w) (fun _ iv _ => 2 - (intOf iv).toNat)
   case atStart => exact ⟨0, c0, rfl, rfl, by omega, by rw [HC0.out]; rfl, by rw [HC0.out]; exact LB.out.1, by have := LB.out.2; rw [HC0.out]; omega, rfl⟩
   case round =>
    obtain ⟨i, c, rfl, rfl, hi, hacc, hc0, hc1, rfl⟩ := hrel;have HA := Lib.hid hacc;clear hacc hw hd
    by_cases hlt : i + 1 < 2
    ·obtain ⟨q, hq⟩ : ∃ q, q = a + (i + 1) := ⟨_, rfl⟩
     have hqN : q < N := by omega
     obtain ⟨x, hx⟩ := some_at (l := toB s) HTL.out hqN;have hkq : q < s.size := by rw [← HN.out]; omega
     have e1 : s[q] = x := toB_get hx hkq;have hx' : r[i]? = some x := by rw [hr, List.getElem?_drop]; rw [show a + 1 + i = q by omega]; exact hx
     have HX := Lib.hid hx';have hv2 : ((s[q]).toNat : Int) = (x.toNat : Int) := by rw [e1]
     have HV2 := Lib.hid hv2;have hxb := x.toNat_lt;have hwq : IntKind.i64.wrap ((a : Int) + ((i : Int) + 1)) = (q : Int) := by rw [IntWalk.i64_in _ (by omega)]; omega
     have hi2 : (0 : Int) ≤ (q : Int) := by omega
     have hi3 : ((i : Int) + 1) < 2 := by omega
     have hi4 : (q : Int) < (N : Int) := by omega
     have hv0 : (0 : Int) ≤ ((s[q]).toNat : Int) := by omega
     have hv3 : ((s[q]).toNat : Int) ≤ 255 := by omega
     clear hx hx' e1 hv2 hq
     by_cases hc : 128 ≤ x.toNat ∧ x.toNat ≤ 191
     ·have hcf : contF c x = some (c * 64 + (x.toNat : Int) % 64) := by rw [contF, if_pos hc]
      have hd1 : decide (((s[q]).toNat : Int) < 128) = false := by rw [HV2.out]; simp; omega
      have hd2 : decide (191 < ((s[q]).toNat : Int)) = false := by rw [HV2.out]; simp; omega
      have hsh : IntKind.i64.wrap (c * 64) = c * 64 := IntWalk.i64_in _ (by omega);obtain ⟨y, hyy⟩ : ∃ y : Int, y = (x.toNat : Int) % 64 := ⟨_, rfl⟩;have hy1 : bits .and .i64 ((s[q]).toNat : Int) 63 = y := by rw [HV2.out, hyy]; exact and_63 (by omega) (by omega)
      obtain ⟨d, hdd⟩ : ∃ d : Int, d = c * 64 + y := ⟨_, rfl⟩;have hor : IntKind.i64.wrap (c * 64 + y) = d := by rw [hdd]; exact IntWalk.i64_in _ (by omega)
      have HCF := Lib.hid (accC_take_some HA.out HX.out (hcf.trans (by rw [← hyy, ← hdd])));have hdb := acc_bound (by rw [HSZ.out]; omega) (by rw [HSZ.out]; omega) (by omega) HCF.out;clear hcf hyy hdd;go_wp2_with fail;go_roundw
      case rel => exact ⟨i + 1, d, by go_num, rfl, by omega, HCF.out, hdb.1, hdb.2, by first | rfl | trivial⟩
      case measure => simp [intOf]; omega
     ·have hcf : contF c x = none := by rw [contF, if_neg hc]
      have HE := Lib.hid (HP.out.trans (oneT_broken (by rw [HSZ.out]; exact accC_take_none HA.out HX.out hcf (by omega))));clear hcf
      by_cases hlo : x.toNat < 128
      ·have hd1 : decide (((s[q]).toNat : Int) < 128) = true := by rw [HV2.out]; simp; omega
       go_wp2_with fail;go_ret2;rw [HE.out];exact ⟨rfl, Below.refl _ _⟩
      ·have hd1 : decide (((s[q]).toNat : Int) < 128) = false := by rw [HV2.out]; simp; omega
       have hd2 : decide (191 < ((s[q]).toNat : Int)) = true := by rw [HV2.out]; simp; omega
       go_wp2_with fail;go_ret2;rw [HE.out];exact ⟨rfl, Below.refl _ _⟩
    ·have hge : ¬ (((i : Int) + 1) < 2) := by omega
     have hi2 : i = 2 - 1 := by omega
     subst hi2;have HE := Lib.hid (HP.out.trans (oneT_some (by rw [HSZ.out]; omega) (by rw [HSZ.out]; omega) (by rw [HSZ.out]; exact HA.out)));have HSL := Lib.hid (fun (hs : sgnB c = true) => size_least (by rw [HSZ.out]; omega) (by rw [HSZ.out]; omega) (show accC (leadF b) (r.take (sizeF b - 1)) = some c by rw [HSZ.out]; exact HA.out) hs);go_wp2_with fail;refine (specSign_any _ _).mono ?_;rintro e w1 ⟨rfl, rfl⟩
     rcases (show sgnB c = true ∨ sgnB c = false by cases sgnB c <;> simp) with hsg | hsg
     ·have hiff := HSL.out hsg
      rw [HSZ.out] at hiff;have HIF := Lib.hid hiff;clear hiff;have HEN := Lib.hid (show encL [c] = enc1 c by rw [encL_good (by simpa using hsg)]; simp);rw [hsg];have K := (Hp.start w1).lit 3 1 1 ([c].map (Value.int .i64)) rfl (by simp [maxLen]);go_wp2_with fail;refine (specEncode_any _ 1 1 [c] _ (K.rd 0 rfl) (by decide)).mono ?_;rintro e w2 ⟨rfl, f2⟩;have F2 := Lib.hid (K.go f2).fr;rw [HEN.out];obtain ⟨tx, htx⟩ : ∃ q, q = ofB (enc1 c) := ⟨_, rfl⟩;have HT := Lib.hid (show tx.size = szC c by rw [htx, ofB_size, enc1_len]);rw [← htx];clear htx K f2
      by_cases hszc : szC c = 2
      ·have hd1 : ((tx.size : Int) == 2) = true := by rw [HT.out]; simp; omega
       go_wp2_with fail;go_ret2;rw [HE.out, HSZ.out, if_neg (by
        rintro (h | h)
        ·exact (HIF.out.1 h) hszc
        ·rw [hsg] at h; cases h)]
       exact ⟨rfl, F2.out⟩
      ·have hd1 : ((tx.size : Int) == 2) = false := by rw [HT.out]; simp; omega
       go_wp2_with fail;go_ret2;rw [HE.out, HSZ.out, if_pos (.inl (HIF.out.2 hszc))];exact ⟨rfl, F2.out⟩
     ·rw [hsg]
      go_wp2_with fail;go_ret2;rw [HE.out, HSZ.out, if_pos (.inr hsg)];exact ⟨rfl, Below.refl _ _⟩
 ·have hd0 : decide (((s[a]).toNat : Int) < 128) = false := by rw [HB.out]; simp; omega
  have d1 : decide (192 ≤ ((s[a]).toNat : Int)) = true := by rw [HB.out]; simp; omega
  have d2 : decide (((s[a]).toNat : Int) < 224) = false := by rw [HB.out]; simp; omega
  have d3 : decide (224 ≤ ((s[a]).toNat : Int)) = true := by rw [HB.out]; simp; omega
  have d4 : decide (((s[a]).toNat : Int) < 240) = true := by rw [HB.out]; simp; omega
  obtain ⟨c0, hc0⟩ : ∃ q, q = leadF b := ⟨_, rfl⟩;have ha : bits .and .i64 ((s[a]).toNat : Int) 15 = c0 := by
   rw [and_15 (by omega) (by omega), HB.out, hc0, leadF, if_neg (by omega), if_neg (by omega), if_pos (by omega)]
  have HC0 := Lib.hid hc0;clear hc0;have HSZ := Lib.hid hb
  by_cases hlen : N < a + 3
  ·have HE := Lib.hid (HP.out.trans (oneT_none (.inr (by rw [HSZ.out]; omega))))
   have hw : IntKind.i64.wrap ((a : Int) + 3) = (a : Int) + 3 := IntWalk.i64_in _ (by omega);have hd : decide ((N : Int) < (a : Int) + 3) = true := by simp; omega
   go_wp2_with fail;go_ret2;rw [HE.out];exact ⟨rfl, Below.refl _ _⟩
  ·have hw : IntKind.i64.wrap ((a : Int) + 3) = (a : Int) + 3 := IntWalk.i64_in _ (by omega)
   have hd : decide ((N : Int) < (a : Int) + 3) = false := by simp; omega
   go_wp2_with fail
   go_loopw [8, 9] (fun cv iv wr => ∃ (i : Nat) (c : Int), iv = .int .i64 ((i + 1 : Nat) : Int) ∧ cv = .int .i64 c ∧ i + 1 ≤ 3 ∧ accC (leadF b) (r.take i) = some c ∧ 0 ≤ c ∧ c < 8388608 ∧ wr = w) (fun _ iv _ => 3 - (intOf iv).toNat)
   case atStart => exact ⟨0, c0, rfl, rfl, by omega, by rw [HC0.out]; rfl, by rw [HC0.out]; exact LB.out.1, by have := LB.out.2; rw [HC0.out]; omega, rfl⟩
   case round =>
    obtain ⟨i, c, rfl, rfl, hi, hacc, hc0, hc1, rfl⟩ := hrel;have HA := Lib.hid hacc;clear hacc hw hd
    by_cases hlt : i + 1 < 3
    ·obtain ⟨q, hq⟩ : ∃ q, q = a + (i + 1) := ⟨_, rfl⟩
     have hqN : q < N := by omega
     obtain ⟨x, hx⟩ := some_at (l := toB s) HTL.out hqN;have hkq : q < s.size := by rw [← HN.out]; omega
     have e1 : s[q] = x := toB_get hx hkq;have hx' : r[i]? = some x := by rw [hr, List.getElem?_drop]; rw [show a + 1 + i = q by omega]; exact hx
     have HX := Lib.hid hx';have hv2 : ((s[q]).toNat : Int) = (x.toNat : Int) := by rw [e1]
     have HV2 := Lib.hid hv2;have hxb := x.toNat_lt;have hwq : IntKind.i64.wrap ((a : Int) + ((i : Int) + 1)) = (q : Int) := by rw [IntWalk.i64_in _ (by omega)]; omega
     have hi2 : (0 : Int) ≤ (q : Int) := by omega
     have hi3 : ((i : Int) + 1) < 3 := by omega
     have hi4 : (q : Int) < (N : Int) := by omega
     have hv0 : (0 : Int) ≤ ((s[q]).toNat : Int) := by omega
     have hv3 : ((s[q]).toNat : Int) ≤ 255 := by omega
     clear hx hx' e1 hv2 hq
     by_cases hc : 128 ≤ x.toNat ∧ x.toNat ≤ 191
     ·have hcf : contF c x = some (c * 64 + (x.toNat : Int) % 64) := by rw [contF, if_pos hc]
      have hd1 : decide (((s[q]).toNat : Int) < 128) = false := by rw [HV2.out]; simp; omega
      have hd2 : decide (191 < ((s[q]).toNat : Int)) = false := by rw [HV2.out]; simp; omega
      have hsh : IntKind.i64.wrap (c * 64) = c * 64 := IntWalk.i64_in _ (by omega);obtain ⟨y, hyy⟩ : ∃ y : Int, y = (x.toNat : Int) % 64 := ⟨_, rfl⟩;have hy1 : bits .and .i64 ((s[q]).toNat : Int) 63 = y := by rw [HV2.out, hyy]; exact and_63 (by omega) (by omega)
      obtain ⟨d, hdd⟩ : ∃ d : Int, d = c * 64 + y := ⟨_, rfl⟩;have hor : IntKind.i64.wrap (c * 64 + y) = d := by rw [hdd]; exact IntWalk.i64_in _ (by omega)
      have HCF := Lib.hid (accC_take_some HA.out HX.out (hcf.trans (by rw [← hyy, ← hdd])));have hdb := acc_bound (by rw [HSZ.out]; omega) (by rw [HSZ.out]; omega) (by omega) HCF.out;clear hcf hyy hdd;go_wp2_with fail;go_roundw
      case rel => exact ⟨i + 1, d, by go_num, rfl, by omega, HCF.out, hdb.1, hdb.2, by first | rfl | trivial⟩
      case measure => simp [intOf]; omega
     ·have hcf : contF c x = none := by rw [contF, if_neg hc]
      have HE := Lib.hid (HP.out.trans (oneT_broken (by rw [HSZ.out]; exact accC_take_none HA.out HX.out hcf (by omega))));clear hcf
      by_cases hlo : x.toNat < 128
      ·have hd1 : decide (((s[q]).toNat : Int) < 128) = true := by rw [HV2.out]; simp; omega
       go_wp2_with fail;go_ret2;rw [HE.out];exact ⟨rfl, Below.refl _ _⟩
      ·have hd1 : decide (((s[q]).toNat : Int) < 128) = false := by rw [HV2.out]; simp; omega
       have hd2 : decide (191 < ((s[q]).toNat : Int)) = true := by rw [HV2.out]; simp; omega
       go_wp2_with fail;go_ret2;rw [HE.out];exact ⟨rfl, Below.refl _ _⟩
    ·have hge : ¬ (((i : Int) + 1) < 3) := by omega
     have hi2 : i = 3 - 1 := by omega
     subst hi2;have HE := Lib.hid (HP.out.trans (oneT_some (by rw [HSZ.out]; omega) (by rw [HSZ.out]; omega) (by rw [HSZ.out]; exact HA.out)));have HSL := Lib.hid (fun (hs : sgnB c = true) => size_least (by rw [HSZ.out]; omega) (by rw [HSZ.out]; omega) (show accC (leadF b) (r.take (sizeF b - 1)) = some c by rw [HSZ.out]; exact HA.out) hs);go_wp2_with fail;refine (specSign_any _ _).mono ?_;rintro e w1 ⟨rfl, rfl⟩
     rcases (show sgnB c = true ∨ sgnB c = false by cases sgnB c <;> simp) with hsg | hsg
     ·have hiff := HSL.out hsg
      rw [HSZ.out] at hiff;have HIF := Lib.hid hiff;clear hiff;have HEN := Lib.hid (show encL [c] = enc1 c by rw [encL_good (by simpa using hsg)]; simp);rw [hsg];have K := (Hp.start w1).lit 3 1 1 ([c].map (Value.int .i64)) rfl (by simp [maxLen]);go_wp2_with fail;refine (specEncode_any _ 1 1 [c] _ (K.rd 0 rfl) (by decide)).mono ?_;rintro e w2 ⟨rfl, f2⟩;have F2 := Lib.hid (K.go f2).fr;rw [HEN.out];obtain ⟨tx, htx⟩ : ∃ q, q = ofB (enc1 c) := ⟨_, rfl⟩;have HT := Lib.hid (show tx.size = szC c by rw [htx, ofB_size, enc1_len]);rw [← htx];clear htx K f2
      by_cases hszc : szC c = 3
      ·have hd1 : ((tx.size : Int) == 3) = true := by rw [HT.out]; simp; omega
       go_wp2_with fail;go_ret2;rw [HE.out, HSZ.out, if_neg (by
        rintro (h | h)
        ·exact (HIF.out.1 h) hszc
        ·rw [hsg] at h; cases h)]
       exact ⟨rfl, F2.out⟩
      ·have hd1 : ((tx.size : Int) == 3) = false := by rw [HT.out]; simp; omega
       go_wp2_with fail;go_ret2;rw [HE.out, HSZ.out, if_pos (.inl (HIF.out.2 hszc))];exact ⟨rfl, F2.out⟩
     ·rw [hsg]
      go_wp2_with fail;go_ret2;rw [HE.out, HSZ.out, if_pos (.inr hsg)];exact ⟨rfl, Below.refl _ _⟩
 ·have hd0 : decide (((s[a]).toNat : Int) < 128) = false := by rw [HB.out]; simp; omega
  have d1 : decide (192 ≤ ((s[a]).toNat : Int)) = true := by rw [HB.out]; simp; omega
  have d2 : decide (((s[a]).toNat : Int) < 224) = false := by rw [HB.out]; simp; omega
  have d3 : decide (224 ≤ ((s[a]).toNat : Int)) = true := by rw [HB.out]; simp; omega
  have d4 : decide (((s[a]).toNat : Int) < 240) = false := by rw [HB.out]; simp; omega
  have d5 : decide (240 ≤ ((s[a]).toNat : Int)) = true := by rw [HB.out]; simp; omega
  have d6 : decide (((s[a]).toNat : Int) < 248) = true := by rw [HB.out]; simp; omega
  obtain ⟨c0, hc0⟩ : ∃ q, q = leadF b := ⟨_, rfl⟩;have ha : bits .and .i64 ((s[a]).toNat : Int) 7 = c0 := by
   rw [and_7 (by omega) (by omega), HB.out, hc0, leadF, if_neg (by omega), if_neg (by omega), if_neg (by omega)]
  have HC0 := Lib.hid hc0;clear hc0;have HSZ := Lib.hid hb
  by_cases hlen : N < a + 4
  ·have HE := Lib.hid (HP.out.trans (oneT_none (.inr (by rw [HSZ.out]; omega))))
   have hw : IntKind.i64.wrap ((a : Int) + 4) = (a : Int) + 4 := IntWalk.i64_in _ (by omega);have hd : decide ((N : Int) < (a : Int) + 4) = true := by simp; omega
   go_wp2_with fail;go_ret2;rw [HE.out];exact ⟨rfl, Below.refl _ _⟩
  ·have hw : IntKind.i64.wrap ((a : Int) + 4) = (a : Int) + 4 := IntWalk.i64_in _ (by omega)
   have hd : decide ((N : Int) < (a : Int) + 4) = false := by simp; omega
   go_wp2_with fail
   go_loopw [8, 9] (fun cv iv wr => ∃ (i : Nat) (c : Int), iv = .int .i64 ((i + 1 : Nat) : Int) ∧ cv = .int .i64 c ∧ i + 1 ≤ 4 ∧ accC (leadF b) (r.take i) = some c ∧ 0 ≤ c ∧ c < 8388608 ∧ wr = w) (fun _ iv _ => 4 - (intOf iv).toNat)
   case atStart => exact ⟨0, c0, rfl, rfl, by omega, by rw [HC0.out]; rfl, by rw [HC0.out]; exact LB.out.1, by have := LB.out.2; rw [HC0.out]; omega, rfl⟩
   case round =>
    obtain ⟨i, c, rfl, rfl, hi, hacc, hc0, hc1, rfl⟩ := hrel;have HA := Lib.hid hacc;clear hacc hw hd
    by_cases hlt : i + 1 < 4
    ·obtain ⟨q, hq⟩ : ∃ q, q = a + (i + 1) := ⟨_, rfl⟩
     have hqN : q < N := by omega
     obtain ⟨x, hx⟩ := some_at (l := toB s) HTL.out hqN;have hkq : q < s.size := by rw [← HN.out]; omega
     have e1 : s[q] = x := toB_get hx hkq;have hx' : r[i]? = some x := by rw [hr, List.getElem?_drop]; rw [show a + 1 + i = q by omega]; exact hx
     have HX := Lib.hid hx';have hv2 : ((s[q]).toNat : Int) = (x.toNat : Int) := by rw [e1]
     have HV2 := Lib.hid hv2;have hxb := x.toNat_lt;have hwq : IntKind.i64.wrap ((a : Int) + ((i : Int) + 1)) = (q : Int) := by rw [IntWalk.i64_in _ (by omega)]; omega
     have hi2 : (0 : Int) ≤ (q : Int) := by omega
     have hi3 : ((i : Int) + 1) < 4 := by omega
     have hi4 : (q : Int) < (N : Int) := by omega
     have hv0 : (0 : Int) ≤ ((s[q]).toNat : Int) := by omega
     have hv3 : ((s[q]).toNat : Int) ≤ 255 := by omega
     clear hx hx' e1 hv2 hq
     by_cases hc : 128 ≤ x.toNat ∧ x.toNat ≤ 191
     ·have hcf : contF c x = some (c * 64 + (x.toNat : Int) % 64) := by rw [contF, if_pos hc]
      have hd1 : decide (((s[q]).toNat : Int) < 128) = false := by rw [HV2.out]; simp; omega
      have hd2 : decide (191 < ((s[q]).toNat : Int)) = false := by rw [HV2.out]; simp; omega
      have hsh : IntKind.i64.wrap (c * 64) = c * 64 := IntWalk.i64_in _ (by omega);obtain ⟨y, hyy⟩ : ∃ y : Int, y = (x.toNat : Int) % 64 := ⟨_, rfl⟩;have hy1 : bits .and .i64 ((s[q]).toNat : Int) 63 = y := by rw [HV2.out, hyy]; exact and_63 (by omega) (by omega)
      obtain ⟨d, hdd⟩ : ∃ d : Int, d = c * 64 + y := ⟨_, rfl⟩;have hor : IntKind.i64.wrap (c * 64 + y) = d := by rw [hdd]; exact IntWalk.i64_in _ (by omega)
      have HCF := Lib.hid (accC_take_some HA.out HX.out (hcf.trans (by rw [← hyy, ← hdd])));have hdb := acc_bound (by rw [HSZ.out]; omega) (by rw [HSZ.out]; omega) (by omega) HCF.out;clear hcf hyy hdd;go_wp2_with fail;go_roundw
      case rel => exact ⟨i + 1, d, by go_num, rfl, by omega, HCF.out, hdb.1, hdb.2, by first | rfl | trivial⟩
      case measure => simp [intOf]; omega
     ·have hcf : contF c x = none := by rw [contF, if_neg hc]
      have HE := Lib.hid (HP.out.trans (oneT_broken (by rw [HSZ.out]; exact accC_take_none HA.out HX.out hcf (by omega))));clear hcf
      by_cases hlo : x.toNat < 128
      ·have hd1 : decide (((s[q]).toNat : Int) < 128) = true := by rw [HV2.out]; simp; omega
       go_wp2_with fail;go_ret2;rw [HE.out];exact ⟨rfl, Below.refl _ _⟩
      ·have hd1 : decide (((s[q]).toNat : Int) < 128) = false := by rw [HV2.out]; simp; omega
       have hd2 : decide (191 < ((s[q]).toNat : Int)) = true := by rw [HV2.out]; simp; omega
       go_wp2_with fail;go_ret2;rw [HE.out];exact ⟨rfl, Below.refl _ _⟩
    ·have hge : ¬ (((i : Int) + 1) < 4) := by omega
     have hi2 : i = 4 - 1 := by omega
     subst hi2;have HE := Lib.hid (HP.out.trans (oneT_some (by rw [HSZ.out]; omega) (by rw [HSZ.out]; omega) (by rw [HSZ.out]; exact HA.out)));have HSL := Lib.hid (fun (hs : sgnB c = true) => size_least (by rw [HSZ.out]; omega) (by rw [HSZ.out]; omega) (show accC (leadF b) (r.take (sizeF b - 1)) = some c by rw [HSZ.out]; exact HA.out) hs);go_wp2_with fail;refine (specSign_any _ _).mono ?_;rintro e w1 ⟨rfl, rfl⟩
     rcases (show sgnB c = true ∨ sgnB c = false by cases sgnB c <;> simp) with hsg | hsg
     ·have hiff := HSL.out hsg
      rw [HSZ.out] at hiff;have HIF := Lib.hid hiff;clear hiff;have HEN := Lib.hid (show encL [c] = enc1 c by rw [encL_good (by simpa using hsg)]; simp);rw [hsg];have K := (Hp.start w1).lit 3 1 1 ([c].map (Value.int .i64)) rfl (by simp [maxLen]);go_wp2_with fail;refine (specEncode_any _ 1 1 [c] _ (K.rd 0 rfl) (by decide)).mono ?_;rintro e w2 ⟨rfl, f2⟩;have F2 := Lib.hid (K.go f2).fr;rw [HEN.out];obtain ⟨tx, htx⟩ : ∃ q, q = ofB (enc1 c) := ⟨_, rfl⟩;have HT := Lib.hid (show tx.size = szC c by rw [htx, ofB_size, enc1_len]);rw [← htx];clear htx K f2
      by_cases hszc : szC c = 4
      ·have hd1 : ((tx.size : Int) == 4) = true := by rw [HT.out]; simp; omega
       go_wp2_with fail;go_ret2;rw [HE.out, HSZ.out, if_neg (by
        rintro (h | h)
        ·exact (HIF.out.1 h) hszc
        ·rw [hsg] at h; cases h)]
       exact ⟨rfl, F2.out⟩
      ·have hd1 : ((tx.size : Int) == 4) = false := by rw [HT.out]; simp; omega
       go_wp2_with fail;go_ret2;rw [HE.out, HSZ.out, if_pos (.inl (HIF.out.2 hszc))];exact ⟨rfl, F2.out⟩
     ·rw [hsg]
      go_wp2_with fail;go_ret2;rw [HE.out, HSZ.out, if_pos (.inr hsg)];exact ⟨rfl, Below.refl _ _⟩
set_option maxRecDepth 100000 in
set_option maxHeartbeats 4000000 in
theorem specDecode_any (s : ByteArray) (w : World) (hz : s.size ≤ 16777216) :
 Calls Tryz.prog 88 #[.string s] w (DecM (toB s) w) := by
 have H0 := (Hp.start w).lit0 3 1;obtain ⟨N, hN⟩ : ∃ N, N = s.size := ⟨_, rfl⟩;have HN := Lib.hid hN;have HTL := Lib.hid (show (toB s).length = N by rw [toB_len, hN]);have HZ := Lib.hid hz;have hNb : N ≤ 16777216 := by omega
 go_enter Tryz.func88, Tryz.ntmps88;go_wp2_with fail
 go_loopw [4, 5] (fun v av wr => ∃ (a : Nat) (o : List Int), av = .int .i64 a ∧ DSt (toB s) a o ∧ Hp [] w wr [.row 3 1 v o.length (o.map (Value.int .i64))]) (fun _ av _ => N - (intOf av).toNat)
 case atStart => exact ⟨0, [], rfl, DSt.start _, H0⟩
 case round =>
  clear H0;obtain ⟨a, o, rfl, hst, H⟩ := hrel;obtain ⟨B, d, rfl⟩ := H.shape 0 rfl;have HST := Lib.hid hst;have hal := hst.le;have hol := hst.len;rw [HTL.out] at hal;clear hst;have hsN : s.size = N := hN.symm
  by_cases hlt : a < N
  ·obtain ⟨b, hb⟩ := some_at HTL.out hlt
   have HD := Lib.hid (drop_cons hb);have HB := Lib.hid hb;have hlt2 : (a : Int) < (N : Int) := by omega
   have ha0 : (0 : Int) ≤ (a : Int) := by omega
   clear hb hN;go_wp2_with fail;refine (l3One_any _ a b ((toB s).drop (a + 1)) _ HB.out rfl HZ.out).mono ?_;rintro e w1 ⟨rfl, f1⟩;replace H := H.go f1;have HO := Lib.hid (show oneF ((toB s).drop a) = oneT b ((toB s).drop (a + 1)) by rw [HD.out]; rfl)
   generalize oneT b ((toB s).drop (a + 1)) = p at HO ⊢
   obtain ⟨c0, k⟩ := p;clear f1
   by_cases hk : k = 0
   ·subst hk
    have HE := Lib.hid (HST.out.stop (by rw [HTL.out]; exact hlt) HO.out);have K := H.lit0 3 1;go_wp2_with fail;go_ret2;exact ⟨_, 0, 0, by rw [HE.out]; rfl, by rw [HE.out]; rfl, by rw [HE.out]; exact K.out 0 rfl, K.fr⟩
   ·have hk' : ((k : Int) == 0) = false := by simp; omega
    have HNX := Lib.hid (HST.out.next (by rw [HTL.out]; exact hlt) HO.out hk);have hnl := HNX.out.le;rw [HTL.out] at hnl;go_wp2_with (at_builtin; refine wp_appM (f := Value.int .i64) (H) rfl _ _ _ rfl Tryz.underlying83 infoInt rfl 0 _ _ rfl rfl _ _ (c0) rfl (by simp) rfl (by first | (simp only [maxLen]; omega) | (simp [maxLen]; done) | (simp [maxLen]; omega)) (by first | omega | (simp; done) | (simp; omega)) ?_)
    intro v' w' H';have H2 := Lib.hid (show Hp [] w w' [.row 3 1 v' (o ++ [c0]).length ((o ++ [c0]).map (Value.int .i64))] by
     rw [List.map_append, List.length_append]; exact H')
    clear H' H;go_wp2_with fail;go_roundw
    case rel => exact ⟨a + k, o ++ [c0], by go_num, HNX.out, H2.out⟩
    case measure => simp [intOf]; omega
  ·have hge : ¬ ((a : Int) < (N : Int)) := by omega
   have HE := Lib.hid (HST.out.done (by rw [HTL.out]; omega));clear hN;go_wp2_with fail;go_ret2;exact ⟨B, o.length, d, by rw [HE.out]; rfl, by rw [HE.out], by rw [HE.out]; exact H.out 0 rfl, H.fr⟩
end Go.Proofs.YtmpldngnkacnmaaGreatDoor
namespace Go.Proofs.YtmpldngnkacnmaaGreatDoor
def rowTbl : List (List Int × List Int × Int) :=
 [([192, 200, 204, 210, 217, 224, 232, 236, 242, 249], [65, 69, 73, 79, 85, 97, 101, 105, 111, 117], 768),
  ([193, 201, 205, 211, 218, 221, 225, 233, 237, 243, 250, 253], [65, 69, 73, 79, 85, 89, 97, 101, 105, 111, 117, 121], 769),
  ([194, 202, 206, 212, 219, 226, 234, 238, 244, 251], [65, 69, 73, 79, 85, 97, 101, 105, 111, 117], 770),
  ([195, 209, 213, 227, 241, 245], [65, 78, 79, 97, 110, 111], 771),
  ([196, 203, 207, 214, 220, 228, 235, 239, 246, 252, 255], [65, 69, 73, 79, 85, 97, 101, 105, 111, 117, 121], 776),
  ([197, 229], [65, 97], 778),
  ([199, 231], [67, 99], 807),
  ([902, 904, 905, 906, 908, 910, 911], [913, 917, 919, 921, 927, 933, 937], 769),
  ([940, 941, 942, 943, 972, 973, 974], [945, 949, 951, 953, 959, 965, 969], 769),
  ([469, 470], [220, 252], 772),
  ([7840, 7841], [65, 97], 803),
  ([7852, 7853], [7840, 7841], 770),
  ([8486, 8491], [937, 197], 0)]
def rows8 : List (List Int × List UInt8 × Int) :=
 [([192, 200, 204, 210, 217, 224, 232, 236, 242, 249], [65, 69, 73, 79, 85, 97, 101, 105, 111, 117], 768),
  ([193, 201, 205, 211, 218, 221, 225, 233, 237, 243, 250, 253], [65, 69, 73, 79, 85, 89, 97, 101, 105, 111, 117, 121], 769),
  ([194, 202, 206, 212, 219, 226, 234, 238, 244, 251], [65, 69, 73, 79, 85, 97, 101, 105, 111, 117], 770),
  ([195, 209, 213, 227, 241, 245], [65, 78, 79, 97, 110, 111], 771),
  ([196, 203, 207, 214, 220, 228, 235, 239, 246, 252, 255], [65, 69, 73, 79, 85, 97, 101, 105, 111, 117, 121], 776),
  ([197, 229], [65, 97], 778),
  ([199, 231], [67, 99], 807),
  ([7840, 7841], [65, 97], 803)]
def greekP : List (Int × Int) := [(902, 913), (904, 917), (905, 919), (906, 921), (908, 927), (910, 933), (911, 937), (940, 945), (941, 949), (942, 951), (943, 953), (972, 959), (973, 965), (974, 969)]
def casesP : List (Int × List Int) := [(469, [220, 772]), (470, [252, 772]), (7852, [7840, 770]), (7853, [7841, 770]), (8486, [937]), (8491, [197])]
def hangulP (c : Int) : List Int := [4352 + (c - 44032) / 588, 4449 + (c - 44032) % 588 / 28] ++ if 0 < (c - 44032) % 28 then [4519 + (c - 44032) % 28] else []
def rowHit (c : Int) : List Int → List UInt8 → Int → List Int
 | x :: xs, y :: ys, m => if x = c then [(y.toNat : Int), m] else rowHit c xs ys m
 | _, _, _ => []
def pickP (c : Int) : List Int :=
 match (rows8.map fun r => rowHit c r.1 r.2.1 r.2.2).find? (fun l => decide (0 < l.length)) with
 | some l => l
 | none => match greekP.find? (fun p => decide (p.1 = c)) with
   | some p => [p.2, 769]
   | none => match casesP.find? (fun p => decide (p.1 = c)) with
     | some p => p.2
     | none => []
def partsS (c : Int) : List Int := if 0 < (pickP c).length then pickP c else if inB c 44032 55203 then hangulP c else []
theorem rowHit_at {c : Int} {m : Int} : ∀ {xs : List Int} {ys : List UInt8} {k : Nat} {y : UInt8}, xs[k]? = some c → ys[k]? = some y → (∀ (j : Nat) (x : Int), j < k → xs[j]? = some x → x ≠ c) → rowHit c xs ys m = [(y.toNat : Int), m]
 | [], _, k, _, h, _, _ => by simp at h
 | _ :: _, [], k, _, _, h, _ => by simp at h
 | x :: xs, y' :: ys, 0, y, h, h', _ => by
   simp only [List.getElem?_cons_zero, Option.some.injEq] at h h';subst h h';simp [rowHit]
 | x :: xs, y' :: ys, k + 1, y, h, h', hn => by
   simp only [List.getElem?_cons_succ] at h h';have h0 := hn 0 x (by omega) rfl;rw [rowHit, if_neg h0];exact rowHit_at h h' fun j z hj hz => hn (j + 1) z (by omega) (by simpa using hz)
theorem rowHit_no {c : Int} {m : Int} : ∀ {xs : List Int} {ys : List UInt8}, (∀ x ∈ xs, x ≠ c) → rowHit c xs ys m = []
 | [], _, _ => by simp [rowHit]
 | _ :: _, [], _ => by simp [rowHit]
 | x :: xs, y' :: ys, hn => by
   rw [rowHit, if_neg (hn x (by simp))];exact rowHit_no fun z hz => hn z (by simp [hz])
theorem find_first {α : Type} {p : α → Bool} : ∀ {l : List α} {k : Nat} {x : α}, l[k]? = some x → p x = true → (∀ (j : Nat) (y : α), j < k → l[j]? = some y → p y = false) → l.find? p = some x
 | [], _, _, h, _, _ => by simp at h
 | y :: l, 0, x, h, hp, _ => by
   simp only [List.getElem?_cons_zero, Option.some.injEq] at h;subst h;simp [hp]
 | y :: l, k + 1, x, h, hp, hn => by
   rw [List.find?_cons, hn 0 y (by omega) rfl];exact find_first (by simpa using h) hp fun j z hj hz => hn (j + 1) z (by omega) (by simpa using hz)
theorem find_none {α : Type} {p : α → Bool} {l : List α} (h : ∀ (j : Nat) (y : α), l[j]? = some y → p y = false) : l.find? p = none := by
 rw [List.find?_eq_none];intro x hx;obtain ⟨j, hj⟩ := List.mem_iff_getElem?.1 hx;simp [h j x hj]
theorem parts_row {c : Int} {i : Nat} {r : List Int × List UInt8 × Int} {l : List Int} (hr : rows8[i]? = some r) (hl : l = rowHit c r.1 r.2.1 r.2.2) (h0 : 0 < l.length) (hn : ∀ (j : Nat) (r' : List Int × List UInt8 × Int), j < i → rows8[j]? = some r' → rowHit c r'.1 r'.2.1 r'.2.2 = []) : partsS c = l := by
 have hf : (rows8.map fun r => rowHit c r.1 r.2.1 r.2.2).find? (fun l => decide (0 < l.length)) = some l := by
  refine find_first (k := i) (by rw [List.getElem?_map, hr, hl]; rfl) (by simpa using h0) fun j y hj hy => ?_;rw [List.getElem?_map] at hy
  cases hr' : rows8[j]? with
  | none => rw [hr'] at hy; cases hy
  | some r' =>
    rw [hr'] at hy;simp only [Option.map_some, Option.some.injEq] at hy;rw [← hy, hn j r' hj hr']
    rfl
 have hp : pickP c = l := by rw [pickP, hf]
 rw [partsS, hp, if_pos h0]
def NoRow (c : Int) : Prop := ∀ (j : Nat) (r' : List Int × List UInt8 × Int), rows8[j]? = some r' → rowHit c r'.1 r'.2.1 r'.2.2 = []
theorem noRow_pick {c : Int} (h : NoRow c) : (rows8.map fun r => rowHit c r.1 r.2.1 r.2.2).find? (fun l => decide (0 < l.length)) = none := by
 refine find_none fun j y hy => ?_;rw [List.getElem?_map] at hy
 cases hr' : rows8[j]? with
 | none => rw [hr'] at hy; cases hy
 | some r' =>
   rw [hr'] at hy;simp only [Option.map_some, Option.some.injEq] at hy;rw [← hy, h j r' hr']
   rfl
theorem parts_greek {c : Int} {k : Nat} {b : Int} (h : NoRow c) (hk : greekP[k]? = some (c, b)) (hn : ∀ (j : Nat) (p : Int × Int), j < k → greekP[j]? = some p → p.1 ≠ c) : partsS c = [b, 769] := by
 have hf : greekP.find? (fun p => decide (p.1 = c)) = some (c, b) := find_first hk (by simp) fun j y hj hy => by simpa using hn j y hj hy
 have hp : pickP c = [b, 769] := by rw [pickP, noRow_pick h, hf]
 rw [partsS, hp]
 rfl
def NoGreek (c : Int) : Prop := ∀ (j : Nat) (p : Int × Int), greekP[j]? = some p → p.1 ≠ c
theorem noGreek_find {c : Int} (h : NoGreek c) : greekP.find? (fun p => decide (p.1 = c)) = none := find_none fun j y hy => by simpa using h j y hy
theorem parts_case {c : Int} {l : List Int} (h : NoRow c) (hg : NoGreek c) (hl : casesP.find? (fun p => decide (p.1 = c)) = some (c, l)) (h0 : 0 < l.length) : partsS c = l := by
 have hp : pickP c = l := by rw [pickP, noRow_pick h, noGreek_find hg, hl]
 rw [partsS, hp, if_pos h0]
theorem parts_rest {c : Int} (h : NoRow c) (hg : NoGreek c) (hl : casesP.find? (fun p => decide (p.1 = c)) = none) : partsS c = if inB c 44032 55203 then hangulP c else [] := by
 have hp : pickP c = [] := by rw [pickP, noRow_pick h, noGreek_find hg, hl]
 rw [partsS, hp]
 rfl
def pairT : List ((Int × Int) × Int) := rowTbl.flatMap fun r => if 0 < r.2.2 then (r.2.1.zip r.1).map fun x => ((x.1, r.2.2), x.2) else []
def lookT (a b : Int) : Option Int := (pairT.find? fun e => decide (e.1 = (a, b))).map (·.2)
def rowsGood : Bool := rowTbl.all fun r => decide (r.1.length = r.2.1.length) && (decide (¬ 0 < r.2.2) || (r.2.1.zip r.1).all fun x => lookT x.1 r.2.2 == some x.2)
theorem rows_good : rowsGood = true := by decide +kernel
theorem rows_len {i : Nat} {r : List Int × List Int × Int} (hr : rowTbl[i]? = some r) : r.1.length = r.2.1.length := by
 have h1 := List.all_eq_true.1 rows_good r (List.mem_of_getElem? hr);simp only [Bool.and_eq_true, decide_eq_true_eq] at h1;exact h1.1
end Go.Proofs.YtmpldngnkacnmaaGreatDoor
namespace Go.Proofs.YtmpldngnkacnmaaGreatDoor
open Go.RowKit
theorem toB_at' {s : ByteArray} {j : Nat} {b : UInt8} (h : (toB s)[j]? = some b) (hj : j < s.size) : s[j] = b := by
 have h1 : (toB s)[j]? = some (s.data[j]'hj) := by
  rw [toB, Array.getElem?_toList]; exact Array.getElem?_eq_getElem hj
 rw [h] at h1;injection h1 with h1;exact h1.symm
def bI (b : UInt8) : Int := (b.toNat : Int)
def sigL (s : ByteArray) : List Int := (toB s).map bI
theorem sigL_len (s : ByteArray) : (sigL s).length = s.size := by rw [sigL, List.length_map, toB_len]
theorem alloc_size (w : World) (cs : Array Value) (t : TypeId) : (w.alloc (.cells cs t)).heap.size = w.heap.size + 1 := Array.size_push _
set_option maxRecDepth 100000 in
set_option maxHeartbeats 2000000 in
theorem signs_any (s : ByteArray) (w : World) (hs : s.size ≤ 1000) :
 Calls Tryz.prog 142 #[.string s] w (Made w 3 1 s.size ((sigL s).map (Value.int .i64))) := by
 obtain ⟨n, hn⟩ : ∃ n, n = s.size := ⟨_, rfl⟩;have HN := Lib.hid hn;have H0 := (Hp.start w).lit0 3 1;have hn1 : n ≤ 1000 := by omega
 rw [← hn];clear hn;go_enter Tryz.func142, Tryz.ntmps142;go_wp2_with fail
 go_loopw [3, 4] (fun v iv wr => ∃ k : Nat, k ≤ n ∧ iv = .int .i64 k ∧ Hp [] w wr [.row 3 1 v k (((sigL s).take k).map (Value.int .i64))]) (fun _ iv _ => n - (intOf iv).toNat)
 case atStart => exact ⟨0, by omega, rfl, H0⟩
 case round =>
  clear H0;obtain ⟨k, hk, rfl, H⟩ := hrel;obtain ⟨B, d, rfl⟩ := H.shape 0 rfl
  by_cases hlt : k < n
  ·have hks : k < s.size := by rw [← HN.out]; exact hlt
   obtain ⟨b, hb⟩ := some_at (l := toB s) (n := n) (by rw [toB_len, ← HN.out]) hlt;have e1 : s[k] = b := toB_at' hb hks;have hb0 : ((s[k]).toNat : Int) ≤ 255 := by have := (s[k]).toNat_lt; omega
   have hb1 : (0 : Int) ≤ ((s[k]).toNat : Int) := by omega
   have HX := Lib.hid (At.take (l := sigL s) (k := k) (x := bI b) (by rw [At, sigL, List.getElem?_map, hb]; rfl));have HE := Lib.hid (show ((s[k]).toNat : Int) = bI b by rw [e1]; rfl);have hlen : ((sigL s).take k).length = k := by rw [List.length_take, sigL_len, ← HN.out]; omega
   have hx0 : (0 : Int) ≤ (k : Int) := by omega
   have hlt2 : (k : Int) < (s.size : Int) := by omega
   clear hb e1
   generalize (sigL s).take k = o at H HX hlen
   subst hlen;go_wp2_with (at_builtin; refine wp_appM (f := Value.int .i64) (H) rfl _ _ _ rfl Tryz.underlying83 infoInt rfl 0 _ _ rfl rfl _ _ (((s[o.length]'hks).toNat : Int)) rfl (by simp) rfl (by first | (simp only [maxLen]; omega) | (simp [maxLen]; done) | (simp [maxLen]; omega)) (by first | omega | (simp; done) | (simp; omega)) ?_)
   intro v' w' H';rw [HE.out] at H';have H2 : Hp [] w w' [.row 3 1 v' (o.length + 1) (((sigL s).take (o.length + 1)).map (Value.int .i64))] := by
    rw [HX.out, List.map_append];simpa using H'
   clear H';go_wp2_with fail;go_roundw
   case rel => exact ⟨o.length + 1, by omega, by go_num, H2⟩
   case measure => simp [intOf]; omega
  ·have ht : (sigL s).take k = sigL s := List.take_of_length_le (by rw [sigL_len, ← HN.out]; omega)
   have hk2 : k = n := by omega
   subst hk2;rw [ht] at H;have hge : ¬ ((k : Int) < (s.size : Int)) := by rw [← HN.out]; omega
   go_wp2_with fail;go_ret;exact H.toMade 0 rfl
def RowD (w : World) (fs ls : List Int) (m : Int) (e : Ending) (w' : World) : Prop :=
 ∃ A c B d, e = .returned (.tuple #[.slice A fs.length c, .slice B ls.length d, .int .i64 m]) ∧ Hp [] w w' [.row 3 1 (.slice B ls.length d) ls.length (ls.map (Value.int .i64)), .row 3 1 (.slice A fs.length c) fs.length (fs.map (Value.int .i64))]
set_option maxRecDepth 100000 in
set_option maxHeartbeats 1000000 in
theorem row_0 (w : World) : Calls Tryz.prog 140 #[.int .i64 0] w (RowD w [192, 200, 204, 210, 217, 224, 232, 236, 242, 249] [65, 69, 73, 79, 85, 97, 101, 105, 111, 117] 768) := by
 have H1 := (Hp.start w).lit 3 1 10 ([192, 200, 204, 210, 217, 224, 232, 236, 242, 249].map (Value.int .i64)) rfl (by simp [maxLen]);go_enter Tryz.func140, Tryz.ntmps140;go_wp2_with fail;refine (signs_any _ _ (by decide)).mono ?_;rintro e w1 ⟨B, d, rfl, o1, f1⟩;have H2 := H1.made o1 f1;clear H1 o1 f1;go_wp2_with fail;go_ret3;exact ⟨_, _, B, d, rfl, H2⟩
set_option maxRecDepth 100000 in
set_option maxHeartbeats 1000000 in
theorem row_1 (w : World) : Calls Tryz.prog 140 #[.int .i64 1] w (RowD w [193, 201, 205, 211, 218, 221, 225, 233, 237, 243, 250, 253] [65, 69, 73, 79, 85, 89, 97, 101, 105, 111, 117, 121] 769) := by
 have H1 := (Hp.start w).lit 3 1 12 ([193, 201, 205, 211, 218, 221, 225, 233, 237, 243, 250, 253].map (Value.int .i64)) rfl (by simp [maxLen]);go_enter Tryz.func140, Tryz.ntmps140;go_wp2_with fail;refine (signs_any _ _ (by decide)).mono ?_;rintro e w1 ⟨B, d, rfl, o1, f1⟩;have H2 := H1.made o1 f1;clear H1 o1 f1;go_wp2_with fail;go_ret3;exact ⟨_, _, B, d, rfl, H2⟩
set_option maxRecDepth 100000 in
set_option maxHeartbeats 1000000 in
theorem row_2 (w : World) : Calls Tryz.prog 140 #[.int .i64 2] w (RowD w [194, 202, 206, 212, 219, 226, 234, 238, 244, 251] [65, 69, 73, 79, 85, 97, 101, 105, 111, 117] 770) := by
 have H1 := (Hp.start w).lit 3 1 10 ([194, 202, 206, 212, 219, 226, 234, 238, 244, 251].map (Value.int .i64)) rfl (by simp [maxLen]);go_enter Tryz.func140, Tryz.ntmps140;go_wp2_with fail;refine (signs_any _ _ (by decide)).mono ?_;rintro e w1 ⟨B, d, rfl, o1, f1⟩;have H2 := H1.made o1 f1;clear H1 o1 f1;go_wp2_with fail;go_ret3;exact ⟨_, _, B, d, rfl, H2⟩
set_option maxRecDepth 100000 in
set_option maxHeartbeats 1000000 in
theorem row_3 (w : World) : Calls Tryz.prog 140 #[.int .i64 3] w (RowD w [195, 209, 213, 227, 241, 245] [65, 78, 79, 97, 110, 111] 771) := by
 have H1 := (Hp.start w).lit 3 1 6 ([195, 209, 213, 227, 241, 245].map (Value.int .i64)) rfl (by simp [maxLen]);go_enter Tryz.func140, Tryz.ntmps140;go_wp2_with fail;refine (signs_any _ _ (by decide)).mono ?_;rintro e w1 ⟨B, d, rfl, o1, f1⟩;have H2 := H1.made o1 f1;clear H1 o1 f1;go_wp2_with fail;go_ret3;exact ⟨_, _, B, d, rfl, H2⟩
set_option maxRecDepth 100000 in
set_option maxHeartbeats 1000000 in
theorem row_4 (w : World) : Calls Tryz.prog 140 #[.int .i64 4] w (RowD w [196, 203, 207, 214, 220, 228, 235, 239, 246, 252, 255] [65, 69, 73, 79, 85, 97, 101, 105, 111, 117, 121] 776) := by
 have H1 := (Hp.start w).lit 3 1 11 ([196, 203, 207, 214, 220, 228, 235, 239, 246, 252, 255].map (Value.int .i64)) rfl (by simp [maxLen]);go_enter Tryz.func140, Tryz.ntmps140;go_wp2_with fail;refine (signs_any _ _ (by decide)).mono ?_;rintro e w1 ⟨B, d, rfl, o1, f1⟩;have H2 := H1.made o1 f1;clear H1 o1 f1;go_wp2_with fail;go_ret3;exact ⟨_, _, B, d, rfl, H2⟩
set_option maxRecDepth 100000 in
set_option maxHeartbeats 1000000 in
theorem row_5 (w : World) : Calls Tryz.prog 140 #[.int .i64 5] w (RowD w [197, 229] [65, 97] 778) := by
 have H1 := (Hp.start w).lit 3 1 2 ([197, 229].map (Value.int .i64)) rfl (by simp [maxLen]);go_enter Tryz.func140, Tryz.ntmps140;go_wp2_with fail;refine (signs_any _ _ (by decide)).mono ?_;rintro e w1 ⟨B, d, rfl, o1, f1⟩;have H2 := H1.made o1 f1;clear H1 o1 f1;go_wp2_with fail;go_ret3;exact ⟨_, _, B, d, rfl, H2⟩
set_option maxRecDepth 100000 in
set_option maxHeartbeats 1000000 in
theorem row_6 (w : World) : Calls Tryz.prog 140 #[.int .i64 6] w (RowD w [199, 231] [67, 99] 807) := by
 have H1 := (Hp.start w).lit 3 1 2 ([199, 231].map (Value.int .i64)) rfl (by simp [maxLen]);go_enter Tryz.func140, Tryz.ntmps140;go_wp2_with fail;refine (signs_any _ _ (by decide)).mono ?_;rintro e w1 ⟨B, d, rfl, o1, f1⟩;have H2 := H1.made o1 f1;clear H1 o1 f1;go_wp2_with fail;go_ret3;exact ⟨_, _, B, d, rfl, H2⟩
set_option maxRecDepth 100000 in
set_option maxHeartbeats 1000000 in
theorem row_7 (w : World) : Calls Tryz.prog 140 #[.int .i64 7] w (RowD w [902, 904, 905, 906, 908, 910, 911] [913, 917, 919, 921, 927, 933, 937] 769) := by
 have H1 := (Hp.start w).lit 3 1 7 ([902, 904, 905, 906, 908, 910, 911].map (Value.int .i64)) rfl (by simp [maxLen]);have H2 := H1.lit 3 1 7 ([913, 917, 919, 921, 927, 933, 937].map (Value.int .i64)) rfl (by simp [maxLen]);rw [alloc_size] at H2;clear H1;go_enter Tryz.func140, Tryz.ntmps140;go_wp2_with fail;go_ret3;exact ⟨_, _, _, _, rfl, H2⟩
set_option maxRecDepth 100000 in
set_option maxHeartbeats 1000000 in
theorem row_8 (w : World) : Calls Tryz.prog 140 #[.int .i64 8] w (RowD w [940, 941, 942, 943, 972, 973, 974] [945, 949, 951, 953, 959, 965, 969] 769) := by
 have H1 := (Hp.start w).lit 3 1 7 ([940, 941, 942, 943, 972, 973, 974].map (Value.int .i64)) rfl (by simp [maxLen]);have H2 := H1.lit 3 1 7 ([945, 949, 951, 953, 959, 965, 969].map (Value.int .i64)) rfl (by simp [maxLen]);rw [alloc_size] at H2;clear H1;go_enter Tryz.func140, Tryz.ntmps140;go_wp2_with fail;go_ret3;exact ⟨_, _, _, _, rfl, H2⟩
set_option maxRecDepth 100000 in
set_option maxHeartbeats 1000000 in
theorem row_9 (w : World) : Calls Tryz.prog 140 #[.int .i64 9] w (RowD w [469, 470] [220, 252] 772) := by
 have H1 := (Hp.start w).lit 3 1 2 ([469, 470].map (Value.int .i64)) rfl (by simp [maxLen]);have H2 := H1.lit 3 1 2 ([220, 252].map (Value.int .i64)) rfl (by simp [maxLen]);rw [alloc_size] at H2;clear H1;go_enter Tryz.func140, Tryz.ntmps140;go_wp2_with fail;go_ret3;exact ⟨_, _, _, _, rfl, H2⟩
set_option maxRecDepth 100000 in
set_option maxHeartbeats 1000000 in
theorem row_10 (w : World) : Calls Tryz.prog 140 #[.int .i64 10] w (RowD w [7840, 7841] [65, 97] 803) := by
 have H1 := (Hp.start w).lit 3 1 2 ([7840, 7841].map (Value.int .i64)) rfl (by simp [maxLen]);go_enter Tryz.func140, Tryz.ntmps140;go_wp2_with fail;refine (signs_any _ _ (by decide)).mono ?_;rintro e w1 ⟨B, d, rfl, o1, f1⟩;have H2 := H1.made o1 f1;clear H1 o1 f1;go_wp2_with fail;go_ret3;exact ⟨_, _, B, d, rfl, H2⟩
set_option maxRecDepth 100000 in
set_option maxHeartbeats 1000000 in
theorem row_11 (w : World) : Calls Tryz.prog 140 #[.int .i64 11] w (RowD w [7852, 7853] [7840, 7841] 770) := by
 have H1 := (Hp.start w).lit 3 1 2 ([7852, 7853].map (Value.int .i64)) rfl (by simp [maxLen]);have H2 := H1.lit 3 1 2 ([7840, 7841].map (Value.int .i64)) rfl (by simp [maxLen]);rw [alloc_size] at H2;clear H1;go_enter Tryz.func140, Tryz.ntmps140;go_wp2_with fail;go_ret3;exact ⟨_, _, _, _, rfl, H2⟩
set_option maxRecDepth 100000 in
set_option maxHeartbeats 1000000 in
theorem row_12 (w : World) : Calls Tryz.prog 140 #[.int .i64 12] w (RowD w [8486, 8491] [937, 197] 0) := by
 have H1 := (Hp.start w).lit 3 1 2 ([8486, 8491].map (Value.int .i64)) rfl (by simp [maxLen]);have H2 := H1.lit 3 1 2 ([937, 197].map (Value.int .i64)) rfl (by simp [maxLen]);rw [alloc_size] at H2;clear H1;go_enter Tryz.func140, Tryz.ntmps140;go_wp2_with fail;go_ret3;exact ⟨_, _, _, _, rfl, H2⟩
theorem implRow_any (i : Nat) (hi : i < 13) (w : World) : ∃ r, rowTbl[i]? = some r ∧ Calls Tryz.prog 140 #[.int .i64 i] w (RowD w r.1 r.2.1 r.2.2) := by
 match i, hi with
 | 0, _ => exact ⟨_, rfl, row_0 w⟩
 | 1, _ => exact ⟨_, rfl, row_1 w⟩
 | 2, _ => exact ⟨_, rfl, row_2 w⟩
 | 3, _ => exact ⟨_, rfl, row_3 w⟩
 | 4, _ => exact ⟨_, rfl, row_4 w⟩
 | 5, _ => exact ⟨_, rfl, row_5 w⟩
 | 6, _ => exact ⟨_, rfl, row_6 w⟩
 | 7, _ => exact ⟨_, rfl, row_7 w⟩
 | 8, _ => exact ⟨_, rfl, row_8 w⟩
 | 9, _ => exact ⟨_, rfl, row_9 w⟩
 | 10, _ => exact ⟨_, rfl, row_10 w⟩
 | 11, _ => exact ⟨_, rfl, row_11 w⟩
 | 12, _ => exact ⟨_, rfl, row_12 w⟩
set_option maxRecDepth 100000 in
set_option maxHeartbeats 2000000 in
theorem index_any (A : Option Addr) (n c : Nat) (l : List Int) (x : Int) (w : World) (h : Rd w A n 1 (l.map (Value.int .i64))) (hn : n ≤ 1048576) :
 Calls Tryz.prog 107 #[.slice A n c, .int .i64 x] w fun e w' => ∃ r : Int, e = .returned (.int .i64 r) ∧ ((r = -1 ∧ x ∉ l) ∨ ∃ k : Nat, r = k ∧ k < n ∧ l[k]? = some x) ∧ w = w' := by
 have HL := Lib.hid h.len1;have G := Lib.hid h;clear h;go_enter Tryz.func107, Tryz.ntmps107;go_wp2_with fail
 go_loopw [5, 8] (fun jv iv wr => ∃ i : Nat, iv = .int .i64 i ∧ i ≤ n ∧ x ∉ l.take i ∧ wr = w) (fun _ iv _ => n - (intOf iv).toNat)
 case atStart => exact ⟨0, rfl, by omega, by simp, rfl⟩
 case round =>
  obtain ⟨i, rfl, hi, hno, rfl⟩ := hrel
  by_cases hlt : i < n
  ·obtain ⟨y, hy⟩ := some_at HL.out hlt
   obtain ⟨bk, of, rfl, hc⟩ := G.out.get1 hy;have hi0 : (0 : Int) ≤ (i : Int) := by omega
   have hi1 : (i : Int) < (n : Int) := by omega
   have HY := Lib.hid hy;have HO := Lib.hid hno;clear hy hno
   by_cases hxy : x = y
   ·subst hxy
    go_wp2_with fail;go_ret;exact ⟨_, rfl, Or.inr ⟨i, rfl, hlt, HY.out⟩, rfl⟩
   ·go_wp2_with fail
    go_roundw
    case rel => exact ⟨i + 1, by go_num, by omega, by rw [At.take HY.out, List.mem_append, not_or]; exact ⟨HO.out, by simpa using hxy⟩, trivial⟩
    case measure => simp [intOf]; omega
  ·have HO := Lib.hid hno
   clear hno;go_wp2_with fail;go_ret;refine ⟨_, rfl, Or.inl ⟨rfl, ?_⟩, rfl⟩;have := HO.out
   rwa [List.take_of_length_le (by rw [HL.out]; omega)] at this
set_option maxRecDepth 100000 in
set_option maxHeartbeats 2000000 in
theorem l3Row_any (c : Int) (A : Option Addr) (n cc : Nat) (l : List Int) (bs : List UInt8) (s : ByteArray) (m : Int) (w : World) (h : Rd w A n 1 (l.map (Value.int .i64))) (hn : n ≤ 1000) (hs : toB s = bs) (hb : bs.length = n) :
 Calls Tryz.prog 141 #[.int .i64 c, .slice A n cc, .string s, .int .i64 m] w (Made w 3 1 (rowHit c l bs m).length ((rowHit c l bs m).map (Value.int .i64))) := by
 have HL := Lib.hid h.len1;have G := Lib.hid h;have hsz : s.size = n := by rw [← toB_len, hs, hb]
 have HS := Lib.hid hs;have HB := Lib.hid hb;clear h hs hb;go_enter Tryz.func141, Tryz.ntmps141;go_wp2_with fail
 go_loopw [9] (fun iv wr => ∃ i : Nat, iv = .int .i64 i ∧ i ≤ n ∧ (∀ (j : Nat) (x : Int), j < i → l[j]? = some x → x ≠ c) ∧ wr = w) (fun iv _ => n - (intOf iv).toNat)
 case atStart => exact ⟨0, rfl, by omega, fun j x hj => by omega, rfl⟩
 case round =>
  obtain ⟨i, rfl, hi, hno, rfl⟩ := hrel
  by_cases hlt : i < n
  ·obtain ⟨y, hy⟩ := some_at HL.out hlt
   obtain ⟨b, hb⟩ := some_at HB.out hlt;obtain ⟨bk, of, rfl, hc⟩ := G.out.get1 hy;have hi0 : (0 : Int) ≤ (i : Int) := by omega
   have hi1 : (i : Int) < (n : Int) := by omega
   have hks : i < s.size := by omega
   have hi2 : (i : Int) < (s.size : Int) := by omega
   have e1 : s[i] = b := toB_at' (by rw [HS.out]; exact hb) hks;have hb0 : ((s[i]).toNat : Int) ≤ 255 := by have := (s[i]).toNat_lt; omega
   have hb1 : (0 : Int) ≤ ((s[i]).toNat : Int) := by omega
   have HE := Lib.hid (show ((s[i]).toNat : Int) = (b.toNat : Int) by rw [e1]);have HY := Lib.hid hy;have HO := Lib.hid hno;have HBY := Lib.hid hb;clear hy hno hb e1
   by_cases hxy : y = c
   ·subst hxy
    have HR := Lib.hid (rowHit_at (m := m) HY.out HBY.out HO.out);have H2 := (Hp.start wr).lit 3 1 2 [.int .i64 (b.toNat : Int), .int .i64 m] rfl (by simp [maxLen]);go_wp2_with fail;rw [HE.out];go_ret;rw [HR.out];exact H2.toMade 0 rfl
   ·have HR := Lib.hid hxy
    go_wp2_with fail;go_roundw
    case rel =>
     refine ⟨i + 1, by go_num, by omega, fun j x hj hx => ?_, trivial⟩
     by_cases hji : j = i
     ·subst hji
      rw [HY.out] at hx;injection hx with hx;rw [← hx];exact HR.out
     ·exact HO.out j x (by omega) hx
    case measure => simp [intOf]; omega
  ·have HR := Lib.hid (show rowHit c l bs m = [] from rowHit_no fun x hx => by
    obtain ⟨j, hj⟩ := List.mem_iff_getElem?.1 hx;have := (List.getElem?_eq_some_iff.1 hj).1;exact hno j x (by rw [HL.out] at this; omega) hj)
   have H2 := (Hp.start wr).lit0 3 1;clear hno;go_wp2_with fail;go_ret;rw [HR.out];exact H2.toMade 0 rfl
end Go.Proofs.YtmpldngnkacnmaaGreatDoor
namespace Go.Proofs.YtmpldngnkacnmaaGreatDoor
def keysP : List Int := (rows8.flatMap fun r => r.1) ++ greekP.map Prod.fst ++ casesP.map Prod.fst
theorem pick_out {c : Int} (h : c ∉ keysP) : pickP c = [] := by
 simp only [keysP, List.mem_append, not_or, List.mem_flatMap, List.mem_map, not_exists, not_and] at h;have h1 : NoRow c := fun j r hr => rowHit_no fun x hx e => h.1.1 r (List.mem_of_getElem? hr) (e ▸ hx);have h2 : NoGreek c := fun j p hp e => h.1.2 p (List.mem_of_getElem? hp) e;have h3 : casesP.find? (fun p => decide (p.1 = c)) = none := List.find?_eq_none.2 fun p hp => by simpa using h.2 p hp
 rw [pickP, noRow_pick h1, noGreek_find h2, h3]
def keysGood : Bool := keysP.all fun c => inB c 192 8491 && decide (0 < (pickP c).length ∧ (pickP c).length ≤ 2) && rowTbl.any fun r => r.1.contains c
theorem keys_good : keysGood = true := by decide +kernel
theorem keys_at {c : Int} (h : c ∈ keysP) : (192 ≤ c ∧ c ≤ 8491) ∧ (0 < (pickP c).length ∧ (pickP c).length ≤ 2) ∧ ∃ r ∈ rowTbl, c ∈ r.1 := by
 have h1 := List.all_eq_true.1 keys_good c h;simp only [Bool.and_eq_true, decide_eq_true_eq, List.any_eq_true, inB_iff, List.contains_iff_mem] at h1;exact ⟨h1.1.1, h1.1.2, h1.2⟩
theorem parts_key {c : Int} (h : c ∈ keysP) : partsS c = pickP c := by rw [partsS, if_pos (keys_at h).2.1.1]
theorem parts_hangul {c : Int} (h : inB c 44032 55203 = true) : partsS c = hangulP c := by
 have h1 := inB_iff.1 h;have h2 : c ∉ keysP := fun hk => by have := (keys_at hk).1; omega
 rw [partsS, pick_out h2, if_neg (by simp), if_pos h]
theorem parts_none {c : Int} (h : c ∉ keysP) (h2 : inB c 44032 55203 = false) : partsS c = [] := by
 rw [partsS, pick_out h, if_neg (by simp), h2]; rfl
theorem parts_far {c : Int} (h : inB c 192 8491 = false) (h2 : inB c 44032 55203 = false) : partsS c = [] :=
 parts_none (fun hk => by have := (keys_at hk).1; rw [← inB_iff, h] at this; cases this) h2
theorem parts_norow {c : Int} (h : ∀ (i : Nat) (r : List Int × List Int × Int), rowTbl[i]? = some r → c ∉ r.1) (h2 : inB c 44032 55203 = false) : partsS c = [] :=
 parts_none (fun hk => by
  obtain ⟨r, hr, hc⟩ := (keys_at hk).2.2;obtain ⟨i, hi⟩ := List.mem_iff_getElem?.1 hr;exact h i r hi hc) h2
def rowParts : Bool := rowTbl.all fun r => (r.1.zip r.2.1).all fun x => decide (partsS x.1 = if 0 < r.2.2 then [x.2, r.2.2] else [x.2])
theorem row_parts : rowParts = true := by decide +kernel
theorem parts_at_row {c y : Int} {i k : Nat} {r : List Int × List Int × Int} (hr : rowTbl[i]? = some r) (hc : r.1[k]? = some c) (hy : r.2.1[k]? = some y) : partsS c = if 0 < r.2.2 then [y, r.2.2] else [y] := by
 have h1 := List.all_eq_true.1 (List.all_eq_true.1 row_parts r (List.mem_of_getElem? hr)) (c, y) (List.mem_of_getElem? (i := k) (by rw [List.getElem?_zip_eq_some]; exact ⟨hc, hy⟩));simpa using h1
def lvl : Nat → Int → Bool
 | 0, c => decide ((partsS c).length = 0)
 | n + 1, c => (partsS c).all (lvl n)
def takeF : Nat → Int → List Int
 | 0, c => [c]
 | n + 1, c => if (partsS c).length = 0 then [c] else (partsS c).flatMap (takeF n)
def takeS (c : Int) : List Int := takeF 3 c
theorem jamo_good : ((List.range 200).all fun (j : Nat) => decide (partsS (4352 + (j : Int)) = [])) = true := by decide +kernel
theorem jamo {x : Int} (h : 4352 ≤ x ∧ x ≤ 4546) : partsS x = [] := by
 have h1 := List.all_eq_true.1 jamo_good (x - 4352).toNat (by rw [List.mem_range]; omega);rw [show (4352 : Int) + ((x - 4352).toNat : Int) = x by omega] at h1;simpa using h1
theorem hangul_in {c x : Int} (h : inB c 44032 55203 = true) (hx : x ∈ hangulP c) : 4352 ≤ x ∧ x ≤ 4546 := by
 have h1 := inB_iff.1 h;rw [hangulP, List.mem_append] at hx
 rcases hx with hx | hx
 ·simp only [List.mem_cons, List.not_mem_nil, or_false] at hx
  rcases hx with rfl | rfl <;> omega
 ·split at hx
  ·simp only [List.mem_cons, List.not_mem_nil, or_false] at hx
   subst hx; omega
  ·simp at hx
theorem keys_lvl : (keysP.all (lvl 3)) = true := by decide +kernel
theorem lvl_all (c : Int) : lvl 3 c = true := by
 by_cases hk : c ∈ keysP
 ·exact List.all_eq_true.1 keys_lvl c hk
 ·rcases (show inB c 44032 55203 = true ∨ inB c 44032 55203 = false by cases inB c 44032 55203 <;> simp) with h | h
  ·rw [lvl, parts_hangul h, List.all_eq_true]
   intro x hx;rw [lvl, jamo (hangul_in h hx)]
   rfl
  ·rw [lvl, parts_none hk h]
   rfl
theorem hangul_len (c : Int) : (hangulP c).length ≤ 3 := by
 rw [hangulP]; split <;> simp
theorem parts_len (c : Int) : (partsS c).length ≤ 3 := by
 by_cases hk : c ∈ keysP
 ·rw [parts_key hk]; have := (keys_at hk).2.1; omega
 ·rcases (show inB c 44032 55203 = true ∨ inB c 44032 55203 = false by cases inB c 44032 55203 <;> simp) with h | h
  ·rw [parts_hangul h]; exact hangul_len c
  ·rw [parts_none hk h]; simp
theorem flat_le {f : Int → List Int} {m : Nat} (hf : ∀ x, (f x).length ≤ m) : ∀ l : List Int, (l.flatMap f).length ≤ l.length * m
 | [] => by simp
 | x :: l => by
   have := flat_le hf l;have := hf x;rw [List.flatMap_cons, List.length_append, List.length_cons, Nat.add_mul];omega
theorem takeF_len : ∀ (n : Nat) (c : Int), (takeF n c).length ≤ 3 ^ n
 | 0, c => by simp [takeF]
 | n + 1, c => by
   rw [takeF]
   split
   ·have : 0 < 3 ^ (n + 1) := Nat.pow_pos (by omega)
    simp only [List.length_cons, List.length_nil]; omega
   ·have h1 := flat_le (takeF_len n) (partsS c)
    have h2 := Nat.mul_le_mul_right (3 ^ n) (parts_len c);rw [Nat.pow_succ];omega
theorem take_len (c : Int) : (takeS c).length ≤ 27 := takeF_len 3 c
def cls (c : Int) : Int := if (inB c 768 772 || c == 776) || c == 778 then 230 else if c = 803 then 220 else if c = 807 then 202 else 0
theorem cls_bound (c : Int) : 0 ≤ cls c ∧ cls c ≤ 230 := by
 unfold cls
 split
 ·omega
 ·split
  ·omega
  ·split <;> omega
def insF (x : Int) : List Int → List Int
 | [] => [x]
 | y :: r => if cls x < cls y then y :: insF x r else x :: y :: r
def ins (o : List Int) (x : Int) : List Int := if 0 < cls x then (insF x o.reverse).reverse else o ++ [x]
theorem insF_pass {x : Int} {r : List Int} : ∀ {b : List Int}, (∀ y ∈ b, cls x < cls y) → insF x (b ++ r) = b ++ insF x r
 | [], _ => rfl
 | y :: b, h => by
   rw [List.cons_append, insF, if_pos (h y (by simp)), insF_pass fun z hz => h z (by simp [hz])]
   rfl
theorem ins_stop {o : List Int} {x : Int} {k : Nat} (hk : k ≤ o.length) (hd : ∀ y ∈ o.drop k, cls x < cls y) (h0 : k < o.length → 0 < cls x) (hs : k = 0 ∨ ¬ 0 < cls x ∨ ∃ y, o[k - 1]? = some y ∧ ¬ cls x < cls y ∧ 0 < k) :
 ins o x = o.take k ++ x :: o.drop k := by
 rw [ins]
 split
 ·rename_i hx
  have e : o.reverse = (o.drop k).reverse ++ (o.take k).reverse := by rw [← List.reverse_append, List.take_append_drop]
  rw [e, insF_pass (by intro y hy; exact hd y (by simpa using hy))];have h1 : insF x (o.take k).reverse = x :: (o.take k).reverse := by
   rcases hs with rfl | h | ⟨y, hy, hxy, hk0⟩
   ·simp [insF]
   ·exact absurd hx h
   ·obtain ⟨j, rfl⟩ : ∃ j, k = j + 1 := ⟨k - 1, by omega⟩
    simp only [Nat.add_sub_cancel] at hy;rw [List.take_add_one, hy, Option.toList_some, List.reverse_append, List.reverse_singleton, List.singleton_append, insF, if_neg hxy]
  rw [h1, List.reverse_append, List.reverse_reverse, List.reverse_cons, List.reverse_reverse, List.append_assoc, List.singleton_append]
 ·rename_i hx
  have hk2 : k = o.length := by
   rcases Nat.lt_or_ge k o.length with h | h
   ·exact absurd (h0 h) hx
   ·omega
  rw [List.take_of_length_le (by omega), List.drop_of_length_le (by omega)]
theorem insF_len (x : Int) : ∀ l : List Int, (insF x l).length = l.length + 1
 | [] => rfl
 | y :: l => by
   rw [insF]
   split
   ·rw [List.length_cons, insF_len x l, List.length_cons]
   ·rfl
theorem ins_len (o : List Int) (x : Int) : (ins o x).length = o.length + 1 := by
 rw [ins]
 split
 ·rw [List.length_reverse, insF_len, List.length_reverse]
 ·simp
theorem ins_nil (x : Int) : ins [] x = [x] := by rw [ins]; split <;> rfl
theorem ins_swap {o rest : List Int} {k : Nat} {x y : Int} (hy : o[k]? = some y) : ((o.take (k + 1) ++ x :: (o.drop (k + 1) ++ rest)).set (k + 1) y).set k x = o.take k ++ x :: (o.drop k ++ rest) := by
 obtain ⟨hk, rfl⟩ := List.getElem?_eq_some_iff.1 hy;have h1 : o.take (k + 1) = o.take k ++ [o[k]] := by rw [List.take_add_one, hy]; rfl
 have h2 : o.drop k = o[k] :: o.drop (k + 1) := List.drop_eq_getElem_cons hk;have hl : (o.take k).length = k := by rw [List.length_take]; omega
 rw [h1, h2, List.append_assoc, List.singleton_append, List.set_append, if_neg (by omega), hl, show k + 1 - k = 1 from by omega, List.set_cons_succ, List.set_cons_zero, List.set_append, if_neg (by omega), hl, Nat.sub_self, List.set_cons_zero]
 rfl
theorem foldl_len : ∀ (l o : List Int), (l.foldl ins o).length = o.length + l.length
 | [], o => rfl
 | x :: l, o => by rw [List.foldl_cons, foldl_len l, ins_len, List.length_cons]; omega
def apartL (l : List Int) : List Int := (l.flatMap takeS).foldl ins []
theorem apart_len (l : List Int) : (apartL l).length ≤ l.length * 27 := by
 rw [apartL, foldl_len];have := flat_le take_len l;simpa using this
end Go.Proofs.YtmpldngnkacnmaaGreatDoor
namespace Go.Proofs.YtmpldngnkacnmaaGreatDoor
open Go.RowKit
def crcBit (c : Nat) : Nat := if c % 2 = 1 then (c / 2) ^^^ 2197175160 else c / 2
def crcBits : Nat → Nat → Nat
 | 0, c => c
 | k + 1, c => crcBit (crcBits k c)
def crcByte (c : Nat) (b : UInt8) : Nat := crcBits 8 (c ^^^ b.toNat)
def crcL (s : List UInt8) : Nat := s.foldl crcByte 4294967295
theorem xor32 {a b : Nat} (h1 : a < 4294967296) (h2 : b < 4294967296) : a ^^^ b < 4294967296 := Nat.xor_lt_two_pow (n := 32) h1 h2
theorem crcBit_lt {c : Nat} (h : c < 4294967296) : crcBit c < 4294967296 := by
 rw [crcBit]
 split
 ·exact xor32 (by omega) (by decide)
 ·omega
theorem crcBits_lt {c : Nat} (h : c < 4294967296) : ∀ k, crcBits k c < 4294967296
 | 0 => h
 | k + 1 => crcBit_lt (crcBits_lt h k)
theorem crcByte_lt {c : Nat} (h : c < 4294967296) (b : UInt8) : crcByte c b < 4294967296 := crcBits_lt (xor32 h (by have := b.toNat_lt; omega)) 8
theorem crc_fold_lt : ∀ (s : List UInt8) (c : Nat), c < 4294967296 → s.foldl crcByte c < 4294967296
 | [], c, h => h
 | b :: s, c, h => crc_fold_lt s _ (crcByte_lt h b)
theorem crcL_lt (s : List UInt8) : crcL s < 4294967296 := crc_fold_lt s _ (by decide)
def crcZ (s : List UInt8) : Int := 4294967295 - (crcL s : Int)
theorem crcZ_in (s : List UInt8) : 0 ≤ crcZ s ∧ crcZ s ≤ 4294967295 := by
 have := crcL_lt s;rw [crcZ]; omega
theorem bits_xor {a b : Nat} (h1 : a < 4294967296) (h2 : b < 4294967296) : bits .xor .i64 (a : Int) (b : Int) = ((a ^^^ b : Nat) : Int) := by
 have k1 := xor32 h1 h2;have key : (BitVec.ofInt 64 (a : Int) ^^^ BitVec.ofInt 64 (b : Int)).toNat = a ^^^ b := by
  rw [BitVec.toNat_xor, BitVec.toNat_ofInt, BitVec.toNat_ofInt]
  congr 1 <;> omega
 show IntKind.i64.wrap ((BitVec.ofInt 64 (a : Int) ^^^ BitVec.ofInt 64 (b : Int)).toNat : Nat) = _
 rw [key];exact IntWalk.i64_in _ (by omega)
theorem and_1c {c : Int} (h0 : 0 ≤ c) (h1 : c < 9223372036854775808) : bits .and .i64 c 1 = c % 2 := bits_mask .i64 63 (by decide) (fun n h₀ h₁ => IntWalk.i64_in _ (by omega)) 1 (by decide) c h0 (by omega)
theorem crc_take {s : List UInt8} {i : Nat} {b : UInt8} (h : s[i]? = some b) : (s.take (i + 1)).foldl crcByte 4294967295 = crcByte ((s.take i).foldl crcByte 4294967295) b := by
 rw [List.take_add_one, h, Option.toList_some, List.foldl_append]; rfl
theorem toB_getC {s : ByteArray} {i : Nat} {b : UInt8} (h : (toB s)[i]? = some b) (hs : i < s.size) : s[i] = b := by
 have h2 : (toB s)[i]? = some s[i] := by
  rw [List.getElem?_eq_getElem (by rw [toB_len]; exact hs)]
  rfl
 rw [h2] at h;exact Option.some.inj h
end Go.Proofs.YtmpldngnkacnmaaGreatDoor
namespace Go.Proofs.YtmpldngnkacnmaaGreatDoor
open Go.RowKit
theorem fr_cellM {w w' : World} {p : Addr} {u : Value} (f : Fr w w') (h : w.cell? p = some u) : w'.cell? p = some u := (f.cell (World.block_lt_of_cell? w _ h)).trans h
end Go.Proofs.YtmpldngnkacnmaaGreatDoor
namespace Go.Proofs.YtmpldngnkacnmaaGreatDoor
open Go.RowKit
def layW (w : World) (g : Nat) : Nat → List Value → World
 | _, [] => w
 | j, v :: vs => layW (w.setCell ⟨g, j, none⟩ v) g (j + 1) vs
theorem Hp.blays_aux {W : List Nat} {w0 : World} {g : Nat} {t : TypeId} : ∀ (vs pre post : List Value) (w : World) (l : List Ob) (i : Nat), Hp W w0 w l → l[i]? = some (.blk g t (pre ++ post)) → post.length = vs.length → Hp W w0 (layW w g pre.length vs) (l.set i (.blk g t (pre ++ vs)))
 | [], pre, post, w, l, i, h, hi, hl => by
   have e : post = [] := List.eq_nil_of_length_eq_zero hl;subst e;have e2 : l.set i (.blk g t (pre ++ [])) = l := by
    apply List.ext_getElem?;intro j
    by_cases hij : i = j
    ·subst hij; rw [List.getElem?_set_self (List.getElem?_eq_some_iff.1 hi).1, hi]
    ·rw [List.getElem?_set_ne hij]
   rw [e2]; exact h
 | v :: vs, pre, [], w, l, i, h, hi, hl => by simp at hl
 | v :: vs, pre, p :: post, w, l, i, h, hi, hl => by
   have h1 := h.bput i hi pre.length v;rw [List.set_append_right _ _ (Nat.le_refl _), Nat.sub_self, List.set_cons_zero] at h1;have h2 := Hp.blays_aux vs (pre ++ [v]) post _ _ i h1 (by rw [List.getElem?_set_self (List.getElem?_eq_some_iff.1 hi).1, List.append_assoc]; rfl) (by simpa using hl);rw [List.set_set, List.length_append, List.append_assoc] at h2;exact h2
theorem Hp.blays {W : List Nat} {w0 w : World} {l : List Ob} {g : Nat} {t : TypeId} {cs : List Value} (h : Hp W w0 w l) (i : Nat) (hi : l[i]? = some (.blk g t cs)) (vs : List Value) (hl : cs.length = vs.length) : Hp W w0 (layW w g 0 vs) (l.set i (.blk g t vs)) :=
 Hp.blays_aux vs [] cs w l i h hi hl
end Go.Proofs.YtmpldngnkacnmaaGreatDoor