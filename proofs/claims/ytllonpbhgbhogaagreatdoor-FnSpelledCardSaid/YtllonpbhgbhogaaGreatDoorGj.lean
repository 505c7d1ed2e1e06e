/-
  Many texts in one: BegunI, UnlinkI, L5, VCopy, VWord, L6, ToN.
-/
import Derived.Test.YtllonpbhgbhogaaGreatDoorGi
import Derived.Test.YtllonpbhgbhogaaGreatDoorCallOk
import Derived.Test.YtllonpbhgbhogaaGreatDoorGg
import Derived.Test.YtllonpbhgbhogaaGreatDoorDirOkS
import Derived.Test.YtllonpbhgbhogaaGreatDoorGb
import Derived.Test.YtllonpbhgbhogaaGreatDoorGh
import Derived.Test.YtllonpbhgbhogaaGreatDoorGa
set_option linter.unusedVariables false
set_option linter.unusedSimpArgs false
namespace Go.Proofs.YtllonpbhgbhogaaGreatDoor
open Go.RowKit
theorem atZ_n {l : List Nod} {i : Int} (h : atN l i = none) : atZ l i = -1 := by rw [atZ, h]
theorem atZ_s {l : List Nod} {i : Int} {k : Nat} (h : atN l i = some k) : atZ l i = (k : Int) := by rw [atZ, h]
theorem nodes_get {L : List (Value × Nod)} {k : Nat} {x : Nod} (h : (nodes L)[k]? = some x) : ∃ v, L[k]? = some (v, x) := by
 rw [nodes, List.getElem?_map] at h;obtain ⟨q, hq, e⟩ := Option.map_eq_some_iff.1 h;exact ⟨q.1, by rw [← e]; exact hq⟩
set_option maxRecDepth 100000 in
set_option maxHeartbeats 16000000 in
theorem implBegun_any (next : Int) (A : Option Addr) (n c : Nat) (L : List (Value × Nod)) (x0 x1 : Int) (x2 : ByteArray) (x3 : Int) (x4 x5 : ByteArray) (w : World) (h : RdN w A n L) (hn : n ≤ 1048576) (hs2 : x2.size ≤ 16777216) (hs4 : x4.size ≤ 16777216) (hk : KT w) :
 Calls Tryz.prog 74 #[.agg #[.int .i64 next, .slice A n c], .agg #[.int .i64 x0, .int .i64 x1, .string x2, .int .i64 x3, .string x4, .string x5]] w fun e w' => e = .returned (.int .i64 (begunP (nodes L) (x0, x1, x2, x3, x4, x5))) ∧ Fr w w' := by
 have H := ((Hp.start w).lay_ 31 [.int .i64 next, .slice A n c] rfl).lay_ 37 [.int .i64 x0, .int .i64 x1, .string x2, .int .i64 x3, .string x4, .string x5] (g := w.heap.size + 1) (by simp);obtain ⟨q0, hq0⟩ : ∃ q, q = begunP (nodes L) (x0, x1, x2, x3, x4, x5) := ⟨_, rfl⟩;rw [← hq0];have HQ := Lib.hid hq0;have HR := Lib.hid h;clear hq0 h;obtain ⟨tw, htw⟩ : ∃ b, twoB x0 = b := ⟨_, rfl⟩;have HT := Lib.hid htw;clear htw
 cases hdir : atN (nodes L) x1 with
 | none =>
   have HZ := Lib.hid (atZ_n hdir);have HDD := Lib.hid hdir;clear hdir;go_enter Tryz.func74, Tryz.ntmps74;have y1 := H.fa 0 1 rfl rfl;have z0 := H.fa 1 0 rfl rfl;have z1 := H.fa 1 1 rfl rfl;go_wp2_with fail;refine (implAt_any next A n c L x1 _ (HR.out.fr H.fr) hn).mono ?_;rintro e wz ⟨rfl, fz⟩;replace H := H.go fz;clear y1 z0 z1;clear fz;have y0 := H.fa 0 0 rfl rfl;have z0 := H.fa 1 0 rfl rfl;have z1 := H.fa 1 1 rfl rfl;rw [HZ.out];go_wp2_with fail;refine (hasTo_any x0 _).mono ?_;rintro e _ ⟨rfl, rfl⟩;rw [HT.out]
   cases tw with
   | false =>
     have HE := Lib.hid (show q0 = 2 from HQ.out.trans (by simp [begunP, HT.out, HDD.out]));go_wp2_with fail;go_ret;rw [HE.out];exact ⟨rfl, H.fr⟩
   | true =>
     clear y0 z0 z1;have y3 := H.fa 0 3 rfl rfl;have z0 := H.fa 1 0 rfl rfl;have z1 := H.fa 1 1 rfl rfl;go_wp2_with fail;refine (implAt_any next A n c L x3 _ (HR.out.fr H.fr) hn).mono ?_;rintro e wz ⟨rfl, fz⟩;replace H := H.go fz;clear y3 z0 z1;clear fz;have HE := Lib.hid (show q0 = 2 from HQ.out.trans (by simp [begunP, HT.out, HDD.out]));go_wp2_with fail;go_ret;rw [HE.out];exact ⟨rfl, H.fr⟩
 | some k =>
   have HZ := Lib.hid (atZ_s hdir);have HDD := Lib.hid hdir;obtain ⟨⟨a0, a1, a2, a3, a4⟩, hak, _⟩ := at_of hdir;obtain ⟨va, hLa⟩ := nodes_get hak;have HAK := Lib.hid hak;have hkn : k < n := by rw [← HR.out.len]; exact (List.getElem?_eq_some_iff.1 hLa).1
   have HCA := Lib.hid hLa;clear hdir hak hLa;have hk0 : ¬ (k : Int) < 0 := by omega
   go_enter Tryz.func74, Tryz.ntmps74;have y1 := H.fa 0 1 rfl rfl;have z0 := H.fa 1 0 rfl rfl;have z1 := H.fa 1 1 rfl rfl;go_wp2_with fail;refine (implAt_any next A n c L x1 _ (HR.out.fr H.fr) hn).mono ?_;rintro e wz ⟨rfl, fz⟩;replace H := H.go fz;clear y1 z0 z1;clear fz;have y0 := H.fa 0 0 rfl rfl;have z0 := H.fa 1 0 rfl rfl;have z1 := H.fa 1 1 rfl rfl;rw [HZ.out];go_wp2_with fail;refine (hasTo_any x0 _).mono ?_;rintro e _ ⟨rfl, rfl⟩;rw [HT.out]
   cases tw with
   | false =>
     obtain ⟨bk, of, B9, d9, hA, e9, r9, c9⟩ := (HR.out.fr H.fr).elem HCA.out;clear e9 r9;have ck1 := c9 1 _ rfl;clear c9;subst hA;simp only [cNV] at ck1
     by_cases hka : a1 = 2
     rotate_left
     ·have hkb : (a1 != 2) = true := by simpa using hka
      have hkc : (a1 == 2) = false := by simpa using hka
      have HE := Lib.hid (show q0 = 4 from HQ.out.trans (by simp [begunP, HT.out, HDD.out, kindOf_eq HAK.out, hka]));go_wp2_with fail;go_ret;rw [HE.out];exact ⟨rfl, H.fr⟩
     have hkb : (a1 != 2) = false := by simpa using hka
     have hkc : (a1 == 2) = true := by simpa using hka
     have HKA := Lib.hid hka;clear hka;clear y0 z0 z1;have y2 := H.fa 0 2 rfl rfl;have z0 := H.fa 1 0 rfl rfl;have z1 := H.fa 1 1 rfl rfl;obtain ⟨nb, hnb⟩ : ∃ b, nameB (toB x2) = b := ⟨_, rfl⟩;have HN := Lib.hid hnb;clear hnb;go_wp2_with fail;refine (implNameOk_any x2 _ hs2 (hk.fr H.fr)).mono ?_;rintro e wz ⟨rfl, fz⟩;replace H := H.go fz;clear y2 z0 z1;clear fz;have y0 := H.fa 0 0 rfl rfl;rw [HN.out]
     cases nb with
     | false =>
       have HE := Lib.hid (show q0 = 1 from HQ.out.trans (by simp [begunP, HT.out, HDD.out, kindOf_eq HAK.out, HKA.out, HN.out]));go_wp2_with fail;go_ret;rw [HE.out];exact ⟨rfl, H.fr⟩
     | true =>
       go_wp2_with fail;refine (hasTo_any x0 _).mono ?_;rintro e _ ⟨rfl, rfl⟩;rw [HT.out];have HE := Lib.hid (show q0 = 0 from HQ.out.trans (by simp [begunP, HT.out, HDD.out, kindOf_eq HAK.out, HKA.out, HN.out]));go_wp2_with fail;go_ret;rw [HE.out];exact ⟨rfl, H.fr⟩
   | true =>
     clear y0;have y3 := H.fa 0 3 rfl rfl;have z0 := H.fa 1 0 rfl rfl;have z1 := H.fa 1 1 rfl rfl
     cases hto : atN (nodes L) x3 with
     | none =>
       have HZ2 := Lib.hid (atZ_n hto);have HTO := Lib.hid hto;clear hto;go_wp2_with fail;refine (implAt_any next A n c L x3 _ (HR.out.fr H.fr) hn).mono ?_;rintro e wz ⟨rfl, fz⟩;replace H := H.go fz;clear y3 z0 z1;clear fz;rw [HZ2.out];have HE := Lib.hid (show q0 = 2 from HQ.out.trans (by simp [begunP, HT.out, HDD.out, HTO.out]));go_wp2_with fail;go_ret;rw [HE.out];exact ⟨rfl, H.fr⟩
     | some t =>
       have HZ2 := Lib.hid (atZ_s hto);have HTO := Lib.hid hto;obtain ⟨⟨b0, b1, b2, b3, b4⟩, hbk, _⟩ := at_of hto;obtain ⟨vb, hLb⟩ := nodes_get hbk;have HBK := Lib.hid hbk;have htn : t < n := by rw [← HR.out.len]; exact (List.getElem?_eq_some_iff.1 hLb).1
       have HCB := Lib.hid hLb;clear hto hbk hLb;have ht0 : ¬ (t : Int) < 0 := by omega
       go_wp2_with fail;refine (implAt_any next A n c L x3 _ (HR.out.fr H.fr) hn).mono ?_;rintro e wz ⟨rfl, fz⟩;replace H := H.go fz;clear y3 z0 z1;clear fz;have y2 := H.fa 0 2 rfl rfl;have z0 := H.fa 1 0 rfl rfl;have z1 := H.fa 1 1 rfl rfl;rw [HZ2.out];obtain ⟨bk, of, B9, d9, hA, e9, r9, c9⟩ := (HR.out.fr H.fr).elem HCA.out;clear e9 r9;have ck1 := c9 1 _ rfl;clear c9;obtain ⟨bk2, of2, B8, d8, hA2, e8, r8, c8⟩ := (HR.out.fr H.fr).elem HCB.out;clear e8 r8;have ct1 := c8 1 _ rfl;clear c8;rw [hA] at hA2; injection hA2 with hA2; injection hA2 with hA2 hA3;subst hA2 hA3;subst hA;simp only [cNV] at ck1 ct1
       by_cases hka : a1 = 2
       rotate_left
       ·have hkb : (a1 != 2) = true := by simpa using hka
        have hkc : (a1 == 2) = false := by simpa using hka
        have HE := Lib.hid (show q0 = 4 from HQ.out.trans (by simp [begunP, HT.out, HDD.out, HTO.out, kindOf_eq HAK.out, kindOf_eq HBK.out, hka]));go_wp2_with fail;go_ret;rw [HE.out];exact ⟨rfl, H.fr⟩
       have hkb : (a1 != 2) = false := by simpa using hka
       have hkc : (a1 == 2) = true := by simpa using hka
       have HKA := Lib.hid hka;clear hka
       by_cases hta : b1 = 2
       rotate_left
       ·have htb : (b1 != 2) = true := by simpa using hta
        have htc : (b1 == 2) = false := by simpa using hta
        have HE := Lib.hid (show q0 = 4 from HQ.out.trans (by simp [begunP, HT.out, HDD.out, HTO.out, kindOf_eq HAK.out, kindOf_eq HBK.out, HKA.out, hta]));go_wp2_with fail;go_ret;rw [HE.out];exact ⟨rfl, H.fr⟩
       have htb : (b1 != 2) = false := by simpa using hta
       have htc : (b1 == 2) = true := by simpa using hta
       have HTA := Lib.hid hta;clear hta;clear y2 z0 z1;have y2 := H.fa 0 2 rfl rfl;have z0 := H.fa 1 0 rfl rfl;have z1 := H.fa 1 1 rfl rfl;obtain ⟨nb, hnb⟩ : ∃ b, nameB (toB x2) = b := ⟨_, rfl⟩;have HN := Lib.hid hnb;clear hnb;go_wp2_with fail;refine (implNameOk_any x2 _ hs2 (hk.fr H.fr)).mono ?_;rintro e wz ⟨rfl, fz⟩;replace H := H.go fz;clear y2 z0 z1;clear fz;have y0 := H.fa 0 0 rfl rfl;rw [HN.out]
       cases nb with
       | false =>
         have HE := Lib.hid (show q0 = 1 from HQ.out.trans (by simp [begunP, HT.out, HDD.out, HTO.out, kindOf_eq HAK.out, kindOf_eq HBK.out, HKA.out, HTA.out, HN.out]));go_wp2_with fail;go_ret;rw [HE.out];exact ⟨rfl, H.fr⟩
       | true =>
         go_wp2_with fail;refine (hasTo_any x0 _).mono ?_;rintro e _ ⟨rfl, rfl⟩;rw [HT.out];clear y0;have y4 := H.fa 0 4 rfl rfl;obtain ⟨ab, hab⟩ : ∃ b, nameB (toB x4) = b := ⟨_, rfl⟩;have HM := Lib.hid hab;clear hab;go_wp2_with fail;refine (implNameOk_any x4 _ hs4 (hk.fr H.fr)).mono ?_;rintro e wz ⟨rfl, fz⟩;replace H := H.go fz;clear y4;clear fz;rw [HM.out]
         cases ab with
         | false =>
           have HE := Lib.hid (show q0 = 1 from HQ.out.trans (by simp [begunP, HT.out, HDD.out, HTO.out, kindOf_eq HAK.out, kindOf_eq HBK.out, HKA.out, HTA.out, HN.out, HM.out]));go_wp2_with fail;go_ret;rw [HE.out];exact ⟨rfl, H.fr⟩
         | true =>
           have HE := Lib.hid (show q0 = 0 from HQ.out.trans (by simp [begunP, HT.out, HDD.out, HTO.out, kindOf_eq HAK.out, kindOf_eq HBK.out, HKA.out, HTA.out, HN.out, HM.out]));go_wp2_with fail;go_ret;rw [HE.out];exact ⟨rfl, H.fr⟩
end Go.Proofs.YtllonpbhgbhogaaGreatDoor
namespace Go.Proofs.YtllonpbhgbhogaaGreatDoor
open Go.RowKit
set_option maxRecDepth 100000 in
set_option maxHeartbeats 4000000 in
theorem implClashes_any (p q : Value × Nod) (m d m2 d2 : Nat) (B B2 : Option Addr) (w : World) (hp : p.1 = .slice B m d) (hq : q.1 = .slice B2 m2 d2) (hm : m2 = q.2.2.2.2.2.length) (hm2 : m2 ≤ 1048576) :
 Calls Tryz.prog 125 #[.agg (cNV p).toArray, .agg (cNV q).toArray] w fun e w' => e = .returned (.int .i64 (clashP p.2 q.2)) ∧ Fr w w' := by
 obtain ⟨v, x0, x1, x2, x3, es⟩ := p;obtain ⟨v2, y0, y1, y2, y3, es2⟩ := q;simp only at hp hq hm;have HM : m2 ≤ es2.length ∧ es2.length ≤ m2 := by omega
 have HE := Lib.hid (show es2 = [] ↔ m2 = 0 by rw [hm]; exact List.length_eq_zero_iff.symm);clear hm;subst hp hq;have H := ((Hp.start w).lay_ 76 (cNV (.slice B m d, x0, x1, x2, x3, es)) rfl).lay_ 76 (cNV (.slice B2 m2 d2, y0, y1, y2, y3, es2)) (g := w.heap.size + 1) (by simp);have a1 := H.fa 1 1 rfl rfl;have b1 := H.fa 0 1 rfl rfl;have b4 := H.fa 0 4 rfl rfl;have hf := H.fr;clear H
 by_cases hx : x1 = 2
 ·have hxa : (x1 == 2) = true := by simpa using hx
  have hxb : (x1 != 2) = false := by simpa using hx
  have HX := Lib.hid hx;clear hx
  by_cases hy : y1 = 2
  ·have hya : (y1 == 2) = true := by simpa using hy
   have hyb : (y1 != 2) = false := by simpa using hy
   have HY := Lib.hid hy;clear hy
   by_cases hz : m2 = 0
   ·have hza : decide (0 < m2) = false := by simp; omega
    have hzb : ¬ 0 < m2 := by omega
    have HC := Lib.hid (show clashP (x0, x1, x2, x3, es) (y0, y1, y2, y3, es2) = 0 by simp [clashP, HX.out, HY.out, HE.out.2 hz]);clear hz;go_enter Tryz.func125, Tryz.ntmps125;go_wp2_with fail;go_ret;rw [HC.out];exact ⟨rfl, hf⟩
   ·have hza : decide (0 < m2) = true := by simp; omega
    have hzb : 0 < m2 := by omega
    have HC := Lib.hid (show clashP (x0, x1, x2, x3, es) (y0, y1, y2, y3, es2) = 6 by simp [clashP, HX.out, HY.out, show ¬ es2 = [] from fun h => hz (HE.out.1 h)]);clear hz;go_enter Tryz.func125, Tryz.ntmps125;go_wp2_with fail;go_ret;rw [HC.out];exact ⟨rfl, hf⟩
  ·have hya : (y1 == 2) = false := by simpa using hy
   have hyb : (y1 != 2) = true := by simpa using hy
   have HC := Lib.hid (show clashP (x0, x1, x2, x3, es) (y0, y1, y2, y3, es2) = 4 by simp [clashP, HX.out, hy]);clear hy;go_enter Tryz.func125, Tryz.ntmps125;go_wp2_with fail;go_ret;rw [HC.out];exact ⟨rfl, hf⟩
 ·have hxa : (x1 == 2) = false := by simpa using hx
  have hxb : (x1 != 2) = true := by simpa using hx
  have HX := Lib.hid hx;clear hx
  by_cases hy : y1 = 2
  ·have hya : (y1 == 2) = true := by simpa using hy
   have hyb : (y1 != 2) = false := by simpa using hy
   have HC := Lib.hid (show clashP (x0, x1, x2, x3, es) (y0, y1, y2, y3, es2) = 5 by simp [clashP, HX.out, hy]);clear hy;go_enter Tryz.func125, Tryz.ntmps125;go_wp2_with fail;go_ret;rw [HC.out];exact ⟨rfl, hf⟩
  ·have hya : (y1 == 2) = false := by simpa using hy
   have hyb : (y1 != 2) = true := by simpa using hy
   have HC := Lib.hid (show clashP (x0, x1, x2, x3, es) (y0, y1, y2, y3, es2) = 0 by simp [clashP, HX.out, hy]);clear hy;go_enter Tryz.func125, Tryz.ntmps125;go_wp2_with fail;go_ret;rw [HC.out];exact ⟨rfl, hf⟩
set_option maxRecDepth 100000 in
set_option maxHeartbeats 4000000 in
theorem implUnlink_any (gv : Nat) (next : Int) (A : Option Addr) (n c k : Nat) (L : List (Value × Nod)) (v : Value) (x0 x1 x2 : Int) (x3 : ByteArray) (es : List EntT) (id : Int) (w : World) (h : (volOb gv next A n c L).ok w) (hn : n ≤ 1048576) (ha : atN (nodes L) id = some k) (hp : L[k]? = some (v, x0, x1, x2, x3, es)) (hx : 1 ≤ x2) (hx2 : x2 ≤ 1048576) :
 Calls Tryz.prog 79 #[.pointer (some ⟨gv, 0, none⟩), .int .i64 id] w fun e w' => e = .returned (.tuple #[]) ∧ ∃ n' L', Hp (Row.blocks (volRs gv next A n c L)) w w' [volOb gv next A n' c L'] ∧ nodes L' = nLess (nodes L) id := by
 have H := (Hp.start_many h).vopen;have hLn : L.length = n := (H.rdN2 1 2 rfl rfl).len;have hkn : k < n := by rw [← hLn]; exact (List.getElem?_eq_some_iff.1 hp).1
 obtain ⟨g, c9, e9, _⟩ := H.form 1 rfl (by omega);injection e9 with e9a e9b e9c;subst e9a e9c;clear e9b;have HZ := Lib.hid (atZ_s ha);have HP := Lib.hid hp;have HR := Lib.hid (H.rdN2 1 2 rfl rfl);have HL := Lib.hid (show nLess (nodes L) id = if x2 = 1 then (nodes L).eraseIdx k else nLinks (nodes L) k (x2 - 1) by rw [nLess, ha]; simp only [nodes_at hp]);clear h ha hp hLn;have y0 := H.at_ 0 rfl (j := 0) rfl;have y1 := H.at_ 0 rfl (j := 1) rfl;go_enter Tryz.func79, Tryz.ntmps79;go_wp2_with fail;refine (implAt_any next _ n c L id _ HR.out hn).mono ?_;rintro e w1 ⟨rfl, f1⟩;rw [HZ.out];replace H := H.go f1;clear y0 y1 f1;have y1 := H.at_ 0 rfl (j := 1) rfl;have z2 := H.atL 1 rfl cNV_len HP.out (r := 2) rfl;have hw : IntKind.i64.wrap (x2 - 1) = x2 - 1 := IntWalk.i64_in _ (by omega);have e2 := H.free 1 rfl (k * 5 + 2);have H2 := Hp.nset (u := .int .i64 (x2 - 1)) (p' := (v, x0, x1, x2 - 1, x3, es)) H 1 2 rfl rfl (by decide) HP.out (r := 2) (by omega) rfl rfl;have HP2 := Lib.hid (show (L.set k (v, x0, x1, x2 - 1, x3, es))[k]? = some (v, x0, x1, x2 - 1, x3, es) from List.getElem?_set_self (List.getElem?_eq_some_iff.1 HP.out).1);have y1b := H2.at_ 0 rfl (j := 1) rfl;have z2b := H2.atL 1 rfl cNV_len HP2.out (r := 2) rfl
 by_cases hq : x2 = 1
 ·have hqa : (x2 - 1 == 0) = true := by simp; omega
  have HQ := Lib.hid hq;clear hq;go_wp2_with fail;refine (delN_any g n c k _ _ (H2.row 1 rfl) hkn ?_).mono ?_
  ·intro q hq
   obtain ⟨B, d, e, _⟩ := rowE_shape ((H2.ok _ (List.mem_of_getElem? (i := 2) rfl)).1 (rowE q) (List.mem_map_of_mem hq));rw [e]; rfl
  rintro e w5 ⟨rfl, K⟩;have H3 := H2.turn1 1 rfl K;clear K;have e1 := H3.free 0 rfl 1;have y1c := H3.at_ 0 rfl (j := 1) rfl;have H4 := H3.put 0 rfl 1 (.slice (some ⟨g, 0, none⟩) (n - 1) c);go_wp2_with fail;refine bodyPost_end (results_none rfl _ _ _) rfl ?_;have H5 := H4.thin (rs' := ((L.set k (v, x0, x1, x2 - 1, x3, es)).eraseIdx k).map rowE) 2 rfl ((List.eraseIdx_sublist _ _).map _);refine ⟨rfl, n - 1, _, Hp.vshut H5, ?_⟩;rw [HL.out, if_pos HQ.out, nodes_erase, nodes_set, List.eraseIdx_set_eq]
 ·have hqa : (x2 - 1 == 0) = false := by simp; omega
  have HQ := Lib.hid hq;clear hq;go_wp2_with fail;refine bodyPost_end (results_none rfl _ _ _) rfl ?_;refine ⟨rfl, n, _, Hp.vshut H2, ?_⟩;rw [HL.out, if_neg HQ.out, nodes_set, nLinks, nodes_at HP.out]
end Go.Proofs.YtllonpbhgbhogaaGreatDoor
namespace Go.Proofs.YtllonpbhgbhogaaGreatDoor
open Go.RowKit
theorem dirAt_hit {d : List EntT} {s : List UInt8} {k : Nat} {x : EntT} (hno : ∀ y ∈ d.take k, aliB (toB y.2.2.1) s = false) (hx : d[k]? = some x) (he : aliB (toB x.2.2.1) s = true) : dirAt d s = some k := by
 obtain ⟨hk, hxe⟩ := List.getElem?_eq_some_iff.1 hx;refine List.findIdx?_eq_some_iff_getElem.2 ⟨hk, by rw [hxe]; exact he, fun j hj => ?_⟩;have hjm : d[j] ∈ d.take k := by rw [List.mem_take_iff_getElem]; exact ⟨j, by omega, rfl⟩
 simpa using hno _ hjm
set_option maxRecDepth 100000 in
set_option maxHeartbeats 2000000 in
theorem l5At_any (A : Option Addr) (n c : Nat) (d : List EntT) (s : ByteArray) (w : World) (h : Rd w A n 4 (d.flatMap cEnt)) (hn : n ≤ 1048576) (hz : ∀ e ∈ d, e.2.2.1.size ≤ 16777216) (hs : s.size ≤ 16777216) :
 Calls Tryz.prog 109 #[.slice A n c, .string s] w fun e w' => e = .returned (.int .i64 (dirZ d s)) ∧ Fr w w' := by
 have HL := Lib.hid (show d.length = n from h.lenk cEnt_len (by omega));have HR := Lib.hid h;have HZ := Lib.hid hz;obtain ⟨z, ez⟩ : ∃ z, z = dirZ d s := ⟨_, rfl⟩;rw [← ez];have HZZ := Lib.hid ez;clear h hz ez;go_enter Tryz.func109, Tryz.ntmps109;go_wp2_with fail
 go_loopw [5] (fun iv wr => ∃ i : Nat, iv = .int .i64 i ∧ i ≤ n ∧ (∀ y ∈ d.take i, aliB (toB y.2.2.1) (toB s) = false) ∧ Fr w wr) (fun iv _ => n - (intOf iv).toNat)
 case atStart => exact ⟨0, rfl, by omega, by simp, Below.refl _ _⟩
 case round =>
  obtain ⟨i, rfl, hi, hno, hf⟩ := hrel;have HO := Lib.hid hno;have HF := Lib.hid hf;clear hno hf
  by_cases hlt : i < n
  ·obtain ⟨⟨x0, x1, x2, x3⟩, hx⟩ := some_at HL.out hlt
   have hx2 := HZ.out _ (List.mem_of_getElem? hx);simp only at hx2;obtain ⟨bk, of, rfl, hcell⟩ := (HR.out.fr HF.out).elem cEnt_len hx (by omega);have ca2 := hcell 2 _ rfl;have HX := Lib.hid hx;clear hx hcell;obtain ⟨b, hb⟩ : ∃ b, aliB (toB x2) (toB s) = b := ⟨_, rfl⟩;have HB := Lib.hid hb;clear hb;go_wp2_with fail;refine (specAlike_any x2 s _ hx2 hs).mono ?_;rintro e w2 ⟨rfl, f2⟩;rw [HB.out];have HF2 := Lib.hid (HF.out.then f2);clear f2 ca2
   cases b with
   | true =>
     have HE := Lib.hid (show z = (i : Int) from HZZ.out.trans (dirZ_some (dirAt_hit HO.out HX.out HB.out)));go_wp2_with fail;go_ret;rw [HE.out];exact ⟨rfl, HF2.out⟩
   | false =>
     have HO2 := Lib.hid (show ∀ y ∈ d.take (i + 1), aliB (toB y.2.2.1) (toB s) = false from fun y hy => by
      rw [List.take_add_one, HX.out] at hy
      rcases List.mem_append.1 hy with h5 | h5
      ·exact HO.out y h5
      ·simp only [Option.toList_some, List.mem_singleton] at h5; rw [h5]; exact HB.out)
     go_wp2_with fail;go_roundw
     case rel => exact ⟨i + 1, by go_num, by omega, HO2.out, HF2.out⟩
     case measure => simp [intOf]; omega
  ·have HE := Lib.hid (show z = -1 from HZZ.out.trans (dirZ_none (none_of fun e he => HO.out e (by rwa [List.take_of_length_le (by rw [HL.out]; omega)]))))
   go_wp2_with fail;go_ret;rw [HE.out];exact ⟨rfl, HF.out⟩
set_option maxHeartbeats 1000000 in
theorem l5Copy_any (A : Option Addr) (n c : Nat) (L : List EntT) (w : World) (h : Rd w A n 4 (L.flatMap cEnt)) (hn : n ≤ 1048576) (hc : A = none → c = 0) :
 Calls Tryz.prog 70 #[.slice A n c] w fun e w' => ∃ v', e = .returned v' ∧ Hp [] w w' [.row 109 4 v' n (L.flatMap cEnt)] := by
 have H := (Hp.start w).lit0 109 4;have hr := h.fr H.fr;have h1 : ∀ u ∈ L.flatMap cEnt, u.oneCell' = true := fun u hu => by
  obtain ⟨x, _, hx⟩ := List.mem_flatMap.1 hu;exact cEnt_one x u hx
 go_enter Tryz.func70, Tryz.ntmps70;go_wp2_with (at_builtin; refine wp_appRd (H) rfl _ _ _ rfl Tryz.underlying74 infoEnt rfl (by decide) 0 _ _ _ rfl rfl _ _ _ _ rfl (hc) (hr) (h1) (by first | (simp only [maxLen]; omega) | (simp [maxLen]; done) | (simp [maxLen]; omega)) (by first | omega | (simp; done) | (simp; omega)) ?_)
 intro v' w2 H2;have H9 := Lib.hid (H2.recast (l' := [.row 109 4 v' n (L.flatMap cEnt)]) (by simp));clear H2 H hr;go_wp2_with fail;go_ret;exact ⟨v', rfl, H9.out⟩
theorem Rd.take4 {w : World} {A : Option Addr} {n j : Nat} {L : List EntT} (h : Rd w A n 4 (L.flatMap cEnt)) (hj : j ≤ n) : Rd w A j 4 ((L.take j).flatMap cEnt) := by
 have hl : L.length = n := h.lenk cEnt_len (by omega);have e : (L.take j).flatMap cEnt = (L.flatMap cEnt).take (j * 4) := by
  clear h
  induction L generalizing n j with
  | nil => simp
  | cons a L ih =>
    cases j with
    | zero => simp
    | succ j =>
      rw [List.take_succ_cons, List.flatMap_cons, List.flatMap_cons, ih (n := n - 1) (j := j) (by omega) (by simp at hl; omega), show (j + 1) * 4 = (cEnt a).length + j * 4 by rw [cEnt_len]; omega, List.take_length_add_append]
 refine ⟨by rw [flat_len cEnt_len, List.length_take]; omega, fun hj0 => ?_⟩;obtain ⟨b, o, rfl, hc⟩ := h.2 (by omega);refine ⟨b, o, rfl, fun q u hu => hc q u ?_⟩;rw [e, List.getElem?_take] at hu
 split at hu
 ·exact hu
 ·cases hu
theorem Rd.drop4 {w : World} {b o n j : Nat} {L : List EntT} (h : Rd w (some ⟨b, o, none⟩) n 4 (L.flatMap cEnt)) (hj : j ≤ n) : Rd w (some ⟨b, o + j * 4, none⟩) (n - j) 4 ((L.drop j).flatMap cEnt) := by
 have hl : L.length = n := h.lenk cEnt_len (by omega);have e : (L.drop j).flatMap cEnt = (L.flatMap cEnt).drop (j * 4) := by
  clear h
  induction L generalizing n j with
  | nil => simp
  | cons a L ih =>
    cases j with
    | zero => simp
    | succ j =>
      rw [List.drop_succ_cons, List.flatMap_cons, ih (n := n - 1) (j := j) (by omega) (by simp at hl; omega), show (j + 1) * 4 = (cEnt a).length + j * 4 by rw [cEnt_len]; omega, List.drop_length_add_append]
 refine ⟨by rw [flat_len cEnt_len, List.length_drop]; omega, fun hj0 => ?_⟩;obtain ⟨b', o', ea, hc⟩ := h.2 (by omega);injection ea with ea; injection ea with ea eb;subst ea eb;refine ⟨b, o + j * 4, rfl, fun q u hu => ?_⟩;rw [e, List.getElem?_drop] at hu;rw [Nat.add_assoc]; exact hc _ u hu
set_option maxRecDepth 100000 in
set_option maxHeartbeats 2000000 in
theorem l5Drop_any (A : Option Addr) (n c k : Nat) (d : List EntT) (s : ByteArray) (w : World) (h : Rd w A n 4 (d.flatMap cEnt)) (hn : n ≤ 1048576) (hnc : n ≤ c) (hc63 : c ≤ 9223372036854775807) (hz : ∀ e ∈ d, e.2.2.1.size ≤ 16777216) (hs : s.size ≤ 16777216) (hat : dirAt d (toB s) = some k) :
 Calls Tryz.prog 113 #[.slice A n c, .string s] w (GaveD w (dropD d s)) := by
 have HE := Lib.hid (dirZ_some hat);have HD := Lib.hid (show dropD d s = (d.eraseIdx k, true) by rw [dropD, hat]);have HLD := Lib.hid (show d.length = n from h.lenk cEnt_len (by omega));have hkn : k < n := by rw [← HLD.out]; exact (List.getElem?_eq_some_iff.1 (dirAt_some hat).choose_spec.1).1
 rw [HD.out];obtain ⟨bk, of, rfl⟩ : ∃ bk of, A = some ⟨bk, of, none⟩ := by
  obtain ⟨b, o, e, _⟩ := h.2 (by omega);exact ⟨b, o, e⟩
 have HR := Lib.hid h;have HZ := Lib.hid hz;clear h hz hat;have hk0 : ¬ (k : Int) < 0 := by omega
 have h1 : ∀ l : List EntT, ∀ u ∈ l.flatMap cEnt, u.oneCell' = true := fun l u hu => by
  obtain ⟨x, _, hx⟩ := List.mem_flatMap.1 hu;exact cEnt_one x u hx
 go_enter Tryz.func113, Tryz.ntmps113;go_wp2_with fail;refine (l5At_any _ n c d s _ HR.out hn HZ.out hs).mono ?_;rintro e w1 ⟨rfl, f1⟩;rw [HE.out];have H := ((Hp.start w).go f1).lit0 109 4;have hr1 := (HR.out.fr H.fr).take4 (j := k) (by omega);clear f1;have hkc : k ≤ c := by omega
 have hkc1 : k + 1 ≤ c := by omega
 have hki : (k : Int) ≤ (c : Int) := by omega
 have hki1 : (k : Int) + 1 ≤ (n : Int) := by omega
 have hki0 : (0 : Int) ≤ (k : Int) + 1 := by omega
 have h1k := h1 (d.take k);have h1d := h1 (d.drop (k + 1));clear h1;go_wp2_with (at_builtin; refine wp_appRd (H) rfl _ _ _ rfl Tryz.underlying74 infoEnt rfl (by decide) 0 _ _ _ rfl rfl _ _ _ _ rfl (fun hh => by cases hh) (hr1) (h1k) (by first | (simp only [maxLen]; omega) | (simp [maxLen]; done) | (simp [maxLen]; omega)) (by first | omega | (simp; done) | (simp; omega)) ?_)
 intro v2 w2 H2;have H3 := H2.recast (l' := [.row 109 4 v2 k ((d.take k).flatMap cEnt)]) (by simp);have hr2 := (HR.out.fr H3.fr).drop4 (j := k + 1) (by omega);clear H H2 hr1
 by_cases hck : c = k + 1
 ·have hck2 : (c = k + 1) = True := eq_true hck
  have hr3 : Rd w2 (some ⟨bk, of, none⟩) (n - (k + 1)) 4 ((d.drop (k + 1)).flatMap cEnt) := by
   have e0 : n - (k + 1) = 0 := by omega
   rw [e0] at hr2 ⊢;exact ⟨hr2.1, fun hh => absurd hh (by omega)⟩
  clear hr2 hck;obtain ⟨A2, c2, rfl⟩ := H3.shape 0 rfl;go_wp2_with (at_builtin; refine wp_appRd (H3) rfl _ _ _ rfl Tryz.underlying74 infoEnt rfl (by decide) 0 _ _ _ rfl rfl _ _ _ _ rfl (fun hh => by cases hh) (hr3) (h1d) (by first | (simp only [maxLen]; omega) | (simp [maxLen]; done) | (simp [maxLen]; omega)) (by first | omega | (simp; done) | (simp; omega)) ?_)
  intro v4 w4 H4;have H9 := Lib.hid (show GaveD w (d.eraseIdx k, true) (.returned (.tuple #[v4, .bool true])) w4 from ⟨v4, rfl, H4.recast (by
   rw [List.length_eraseIdx_of_lt (by rw [HLD.out]; exact hkn), HLD.out, List.eraseIdx_eq_take_drop_succ, List.flatMap_append, show k + (n - (k + 1)) = n - 1 by omega])⟩)
  clear H3 H4;go_wp2_with fail;go_ret2;exact H9.out
 ·have hck2 : (c = k + 1) = False := eq_false hck
  clear hck;obtain ⟨A2, c2, rfl⟩ := H3.shape 0 rfl;go_wp2_with (at_builtin; refine wp_appRd (H3) rfl _ _ _ rfl Tryz.underlying74 infoEnt rfl (by decide) 0 _ _ _ rfl rfl _ _ _ _ rfl (fun hh => by cases hh) (hr2) (h1d) (by first | (simp only [maxLen]; omega) | (simp [maxLen]; done) | (simp [maxLen]; omega)) (by first | omega | (simp; done) | (simp; omega)) ?_)
  intro v4 w4 H4;have H9 := Lib.hid (show GaveD w (d.eraseIdx k, true) (.returned (.tuple #[v4, .bool true])) w4 from ⟨v4, rfl, H4.recast (by
   rw [List.length_eraseIdx_of_lt (by rw [HLD.out]; exact hkn), HLD.out, List.eraseIdx_eq_take_drop_succ, List.flatMap_append, show k + (n - (k + 1)) = n - 1 by omega])⟩)
  clear H3 H4;go_wp2_with fail;go_ret2;exact H9.out
set_option maxRecDepth 100000 in
set_option maxHeartbeats 2000000 in
theorem l5Respell_any (g n c k : Nat) (d : List EntT) (x : EntT) (s : ByteArray) (id : Int) (w : World) (h : w.ownsRow 0 109 4 (.slice (some ⟨g, 0, none⟩) n c) n (d.flatMap cEnt)) (hn : n ≤ 1048576) (hz : ∀ e ∈ d, e.2.2.1.size ≤ 16777216) (hs : s.size ≤ 16777216) (hat : dirAt d (toB s) = some k) (hx : d[k]? = some x) (hid : inB id 1 100000 = true) :
 Calls Tryz.prog 145 #[.slice (some ⟨g, 0, none⟩) n c, .string s, .int .i64 id] w fun e w' => e = .returned (.tuple #[.slice (some ⟨g, 0, none⟩) n c, .bool true]) ∧ Hp [g] w w' [.row 109 4 (.slice (some ⟨g, 0, none⟩) n c) n ((respD d s id).1.flatMap cEnt)] := by
 have HE := Lib.hid (dirZ_some hat);have HD := Lib.hid (respD_eq hat hx hid);have hl : d.length = n := (Rd.of_own h).lenk cEnt_len (by omega);have HLD := Lib.hid hl;have hkn : k < n := by rw [← hl]; exact (List.getElem?_eq_some_iff.1 hx).1
 rw [HD.out];have HX := Lib.hid hx;have HID := Lib.hid hid;have hk0 : ¬ (k : Int) < 0 := by omega
 have H := Hp.start_row h;have hr := Rd.of_own h;clear hat hx hid hl h;go_enter Tryz.func145, Tryz.ntmps145;go_wp2_with fail;refine (l5At_any _ n c d s _ hr hn hz hs).mono ?_;rintro e w3 ⟨rfl, f3⟩;replace H := H.go f3;clear f3 hr;rw [HE.out];go_wp2_with fail;refine (l1In_any id 1 100000 _).mono ?_;rintro e _ ⟨rfl, rfl⟩;rw [HID.out];have e2 := H.free 0 rfl (k * 4 + 2);have e3 := H.free 0 rfl (k * 4 + 3);have s2 := H.atL 0 rfl cEnt_len HX.out (r := 2) rfl;have s3 := H.atL 0 rfl cEnt_len HX.out (r := 3) rfl;have H2 := H.putL 0 rfl cEnt_len k 2 (x.1, x.2.1, s, x.2.2.2) (.string s) HX.out (by omega) rfl;have H3 := H2.putL 0 rfl cEnt_len k 3 (x.1, x.2.1, s, id) (.int .i64 id) (List.getElem?_set_self (by rw [HLD.out]; exact hkn)) (by omega) rfl;have H9 := Lib.hid (H3.recast (l' := [.row 109 4 (.slice (some ⟨g, 0, none⟩) n c) n ((d.set k (x.1, x.2.1, s, id)).flatMap cEnt)]) (by simp only [List.set_set]; rfl));clear H H2 H3;go_wp2_with fail;go_ret2;exact ⟨rfl, H9.out⟩
end Go.Proofs.YtllonpbhgbhogaaGreatDoor
namespace Go.Proofs.YtllonpbhgbhogaaGreatDoor
open Go.RowKit
theorem results_cells_row {P : Program} {fn : Func} {p q : Tmp} {ty tz : TypeId} (h : fn.results = #[.cell p ty, .cell q tz]) (tmps : Array Value) (w : World) (g g2 : Nat) (t t2 : TypeId) (cs cs2 : Array Value) (fr fr2 : Nat × Nat) (d d2 : TypeDesc)
 (hp : tmps.getD p undef = .pointer (some ⟨g, 0, none⟩)) (hg : w.heap[g]? = some (.cells cs t fr))
 (hu : P.underlying ty = some d) (hd : (match d with | .struct _ | .array _ _ => true | _ => false) = true) (hi : (P.info? ty).map (·.size) = some cs.size)
 (hp2 : tmps.getD q undef = .pointer (some ⟨g2, 0, none⟩)) (hg2 : w.heap[g2]? = some (.cells cs2 t2 fr2))
 (hu2 : P.underlying tz = some d2) (hd2 : (match d2 with | .struct _ | .array _ _ => true | _ => false) = true) (hi2 : (P.info? tz).map (·.size) = some cs2.size) :
 (results fn tmps).run P w = .ok (.tuple #[.agg cs, .agg cs2]) w := by
 have hp' : tmps[p]?.getD undef = .pointer (some ⟨g, 0, none⟩) := by simpa using hp
 have hq' : tmps[q]?.getD undef = .pointer (some ⟨g2, 0, none⟩) := by simpa using hp2
 simp [results, h, hp', hq', asAddr, run_loadVar_row w g t ty cs fr d hg hu hd hi, run_loadVar_row w g2 t2 tz cs2 fr2 d2 hg2 hu2 hd2 hi2]
def NilZ (L : List (Value × Nod)) : Prop := ∀ p ∈ L, ∀ m d, p.1 = .slice none m d → d = 0
def VRd (w : World) (A : Option Addr) (n : Nat) (L : List (Value × Nod)) : Prop := RdN w A n L ∧ NilZ L
theorem VRd.fr {w w' : World} {A : Option Addr} {n : Nat} {L : List (Value × Nod)} (h : VRd w A n L) (f : Fr w w') : VRd w' A n L := ⟨h.1.fr f, h.2⟩
theorem VRd.ofN {w : World} {A : Option Addr} {n c : Nat} {L : List (Value × Nod)} (h : (obN (.slice A n c) n L).ok w) : VRd w A n L :=
 ⟨obN_rd h rfl, fun p hp m d e => rowE_nil (h.1 (rowE p) (List.mem_cons_of_mem _ (List.mem_map_of_mem hp))) e⟩
section
variable {W : List Nat} {w0 w : World} {l : List Ob} {gv g : Nat} {next : Int} {A : Option Addr} {n c : Nat} {L : List (Value × Nod)}
theorem VRd.of (h : Hp W w0 w l) (i : Nat) (hi : l[i]? = some (obN (.slice A n c) n L)) : VRd w A n L := VRd.ofN (h.ok _ (List.mem_of_getElem? hi))
theorem Hp.vnew (h : Hp W w0 w (.blk g TVOL [.int .i64 next, .slice none 0 0] :: l)) : Hp W w0 w (volOb g next none 0 0 [] :: l) := by
 have h1 := h.asRow (q := 2) 0 rfl rfl;have h2 := h1.many0.nil_ TINO 5;have h3 := h2.perm (List.perm_middle (l₁ := [_, _]));exact Hp.vshut h3
theorem Hp.vcore (h : Hp W w0 w (volOb g next A n c L :: l)) : Hp W w0 w (obN (.slice A n c) n L :: l) := Hp.join2 (r := rowN (.slice A n c) n L) h.vopen.tail
theorem Hp.vmake (h : Hp W w0 w (.blk g TVOL [.int .i64 next, .slice A n c] :: obN (.slice A n c) n L :: l)) : Hp W w0 w (volOb g next A n c L :: l) :=
 Hp.join2 (r := rowV g next A n c) (rs := rowN (.slice A n c) n L :: L.map rowE) (h.asRow (q := 2) 0 rfl rfl)
theorem Hp.vgrowE {v' ve : Value} (y : Nod) {A' : Option Addr} {c' m : Nat} (h : Hp W w0 w (.row 109 4 ve y.2.2.2.2.length (y.2.2.2.2.flatMap cEnt) :: .row 31 2 (.slice (some ⟨gv, 0, none⟩) 1 1) 1 [.int .i64 next, .slice A n c] :: .row 76 5 v' m (L.flatMap cNV ++ cNV (ve, y)) :: .many (L.map rowE) :: l)) (hv : v' = .slice A' m c') (hm : m = L.length + 1) :
 Hp W w0 (w.setCell ⟨gv, 1, none⟩ v') (volOb gv next A' m c' (L ++ [((ve, y) : Value × Nod)]) :: l) := by
 subst hv;have h1 := h.put 1 rfl 1 (.slice A' m c');have h2 := Hp.push (r := rowE (ve, y)) (rs := L.map rowE) h1 2 rfl;exact Hp.vshut (h2.recast (by simp))
end
def CopyV (next : Int) (n : Nat) (L : List (Value × Nod)) (w : World) (e : Ending) (w' : World) : Prop := ∃ A' c' L', e = .returned (.agg #[.int .i64 next, .slice A' n c']) ∧ nodes L' = nodes L ∧ Hp [] w w' [obN (.slice A' n c') n L']
set_option maxRecDepth 100000 in
set_option maxHeartbeats 8000000 in
theorem copyVol_any (next : Int) (A : Option Addr) (n c : Nat) (L : List (Value × Nod)) (w : World) (h : VRd w A n L) (hn : n ≤ 1048576) (hE : ∀ p ∈ L, p.2.2.2.2.2.length ≤ 1048576) :
 Calls Tryz.prog 38 #[.agg #[.int .i64 next, .slice A n c]] w (CopyV next n L w) := by
 have HL := Lib.hid h.1.len;have HR := Lib.hid h.1;have HNZ := Lib.hid h.2;have HE := Lib.hid hE;clear h hE;have H1 := ((Hp.start w).lay_ 31 [.int .i64 next, .slice A n c] rfl).lay_ 31 [.int .i64 0, .slice none 0 0] (g := w.heap.size + 1) (by simp);have y0 := H1.fa 1 0 rfl rfl;have H0 := H1.lay_ 31 [.int .i64 next, .slice none 0 0] (g := w.heap.size + 1 + 1) (by simp);have y1 := H0.fa 2 1 rfl rfl;have HS := Lib.hid H0.vnew;clear H0 H1;go_enter Tryz.func38, Tryz.ntmps38;go_wp2_with fail
 go_loopw [12] (fun iv wr => ∃ (i : Nat) (A' : Option Addr) (c' : Nat) (L' : List (Value × Nod)), iv = .int .i64 i ∧ i ≤ n ∧ nodes L' = (nodes L).take i ∧ Hp [] w wr [volOb (w.heap.size + 1 + 1) next A' L'.length c' L', .blk (w.heap.size + 1) 31 [.int .i64 0, .slice none 0 0], .blk w.heap.size 31 [.int .i64 next, .slice A n c]]) (fun iv _ => n - (intOf iv).toNat)
 case atStart => exact ⟨0, _, _, [], rfl, by omega, rfl, HS.out⟩
 case round =>
  clear y0 y1 HS;obtain ⟨i, A', c', L', rfl, hi, hL', H⟩ := hrel;have HLL := Lib.hid hL';have HLI := Lib.hid (show L'.length = i by rw [← nodes_len, hL', List.length_take, nodes_len, HL.out]; omega);have hl1 : L'.length ≤ 1048576 := by rw [HLI.out]; omega
  clear hL';have hi0 : (0 : Int) ≤ (i : Int) := by omega
  by_cases hlt : i < n
  ·have hi1 : (i : Int) < (n : Int) := by omega
   obtain ⟨⟨v, x0, x1, x2, x3, es⟩, hx⟩ := some_at HL.out hlt;have hm := HE.out _ (List.mem_of_getElem? hx);obtain ⟨bk, of, B1, d1, rfl, e1, r1, c1⟩ := (HR.out.fr H.fr).elem hx;simp only at e1 r1 hm;subst e1;have ca0 := c1 0 _ rfl; simp only [Nat.add_zero] at ca0;have ca1 := c1 1 _ rfl;have ca2 := c1 2 _ rfl;have ca3 := c1 3 _ rfl;have ca4 := c1 4 _ rfl;have HX := Lib.hid (nodes_at hx);have HD1 := Lib.hid (show B1 = none → d1 = 0 from fun hB => by subst hB; exact HNZ.out _ (List.mem_of_getElem? hx) _ _ rfl);have H2 := H.lay_ 76 [.int .i64 x0, .int .i64 x1, .int .i64 x2, .string x3, .slice B1 es.length d1] rfl;have b4 := H2.fa 0 4 rfl rfl;have HR1 := Lib.hid (r1.fr (((Hp.start wr).lay_ 76 [.int .i64 x0, .int .i64 x1, .int .i64 x2, .string x3, .slice B1 es.length d1] rfl).fr));clear hx c1 r1 H;obtain ⟨gb, hgb⟩ : ∃ z, z = wr.heap.size := ⟨_, rfl⟩;rw [← hgb] at H2 b4;have HGB := Lib.hid hgb;clear hgb;go_wp2_with fail;rw [← HGB.out];refine (copyEnts_any B1 es.length d1 es _ HR1.out hm HD1.out).mono ?_;rintro e w2 ⟨v', rfl, K⟩;have H3 := H2.join K;clear K H2 b4 ca0 ca1 ca2 ca3 ca4;obtain ⟨A5, q5, e5⟩ := H3.shape 0 rfl;subst e5;have f4 := H3.bfree 1 rfl 4;have s4 := H3.fa 1 4 rfl rfl;have H4 := H3.bput 1 rfl 4 (.slice A5 es.length q5);have H5 := (H4.front 2 rfl).vopen;have z1 := H5.at_ 0 rfl (j := 1) rfl;have n0 := H5.fa 4 0 rfl rfl;have n1 := H5.fa 4 1 rfl rfl;have n2 := H5.fa 4 2 rfl rfl;have n3 := H5.fa 4 3 rfl rfl;have n4 := H5.fa 4 4 rfl rfl;clear H3 H4;go_wp2_with (at_builtin; refine wp_appL (f := cNV) (H5) rfl _ _ _ rfl Tryz.underlying29 infoInode rfl (by decide) 1 _ _ rfl rfl _ _ (((.slice A5 es.length q5, (x0, x1, x2, x3, es)) : Value × Nod)) rfl (by simp) rfl (by simp [cNV, Value.oneCell']) (by first | (simp only [maxLen]; omega) | (simp [maxLen]; done) | (simp [maxLen]; omega)) (by first | omega | (simp; done) | (simp; omega)) ?_)
   intro v2 w6 H6;obtain ⟨C9, q9, hv9⟩ := H6.shape 1 rfl;have p0 := H6.at_ 0 rfl (j := 1) rfl;have p1 := H6.free 0 rfl 1;have H7 := Hp.vgrowE (L := L') (ve := .slice A5 es.length q5) (x0, x1, x2, x3, es) (H6.front 3 rfl) hv9 (by simp);have H8 := Lib.hid (H7.sub (List.Sublist.cons_cons _ (List.Sublist.cons _ (List.Sublist.refl _))));clear H5 H6 H7 z1 n0 n1 n2 n3 n4 f4 s4;subst hv9;go_wp2_with fail;go_roundw
   case rel => exact ⟨i + 1, C9, q9, L' ++ [((.slice A5 es.length q5, (x0, x1, x2, x3, es)) : Value × Nod)], by go_num, by omega, by rw [nodes_app, HLL.out, List.take_add_one, HX.out]; rfl, by have h9 := H8.out; simpa using h9⟩
   case measure => simp [intOf]; omega
  ·have hi1 : ¬ (i : Int) < (n : Int) := by omega
   have HN := Lib.hid (show nodes L' = nodes L by rw [HLL.out, List.take_of_length_le (by rw [nodes_len, HL.out]; omega)]);have HM := Lib.hid (show L'.length = n by rw [HLI.out]; omega);have v0 := H.vc0 0 rfl;have v1 := H.vc1 0 rfl;have s0 := H.fa 1 0 rfl rfl;have s1 := H.fa 1 1 rfl rfl;have fs0 := H.bfree 1 rfl 0;have fs1 := H.bfree 1 rfl 1;have H9 := H.blays 1 rfl [.int .i64 next, .slice A' L'.length c'] rfl;simp only [layW] at H9;clear H;go_wp2_with fail
   ((try simp only [Exit.inBlock, Exit.then]); refine bodyPost_ret (results_cell_row rfl _ _ (w.heap.size + 1) 31 #[.int .i64 next, .slice A' L'.length c'] (0, 0) _ rfl (H9.blk 1 rfl) Tryz.underlying31 rfl (by kernel_rfl)) rfl ?_)
   rw [HM.out] at H9 ⊢;exact ⟨A', c', L', rfl, HN.out, (H9.sub (l' := [volOb (w.heap.size + 1 + 1) next A' n c' L']) (by simp)).vcore⟩
set_option maxRecDepth 100000 in
set_option maxHeartbeats 8000000 in
theorem l6Copy_any (next : Int) (A : Option Addr) (n c : Nat) (L : List (Value × Nod)) (w : World) (h : VRd w A n L) (hn : n ≤ 1048576) (hE : ∀ p ∈ L, p.2.2.2.2.2.length ≤ 1048576) :
 Calls Tryz.prog 35 #[.agg #[.int .i64 next, .slice A n c]] w (CopyV next n L w) := by
 have HL := Lib.hid h.1.len;have HR := Lib.hid h.1;have HNZ := Lib.hid h.2;have HE := Lib.hid hE;clear h hE;have H1 := ((Hp.start w).lay_ 31 [.int .i64 next, .slice A n c] rfl).lay_ 31 [.int .i64 0, .slice none 0 0] (g := w.heap.size + 1) (by simp);have y0 := H1.fa 1 0 rfl rfl;have H0 := H1.lay_ 31 [.int .i64 next, .slice none 0 0] (g := w.heap.size + 1 + 1) (by simp);have y1 := H0.fa 2 1 rfl rfl;have HS := Lib.hid H0.vnew;clear H0 H1;go_enter Tryz.func35, Tryz.ntmps35;go_wp2_with fail
 go_loopw [4] (fun iv wr => ∃ (i : Nat) (A' : Option Addr) (c' : Nat) (L' : List (Value × Nod)), iv = .int .i64 i ∧ i ≤ n ∧ nodes L' = (nodes L).take i ∧ Hp [] w wr [volOb (w.heap.size + 1 + 1) next A' L'.length c' L', .blk (w.heap.size + 1) 31 [.int .i64 0, .slice none 0 0], .blk w.heap.size 31 [.int .i64 next, .slice A n c]]) (fun iv _ => n - (intOf iv).toNat)
 case atStart => exact ⟨0, _, _, [], rfl, by omega, rfl, HS.out⟩
 case round =>
  clear y0 y1 HS;obtain ⟨i, A', c', L', rfl, hi, hL', H⟩ := hrel;have HLL := Lib.hid hL';have HLI := Lib.hid (show L'.length = i by rw [← nodes_len, hL', List.length_take, nodes_len, HL.out]; omega);have hl1 : L'.length ≤ 1048576 := by rw [HLI.out]; omega
  clear hL';have hi0 : (0 : Int) ≤ (i : Int) := by omega
  have y1 := H.fa 2 1 rfl rfl
  by_cases hlt : i < n
  ·have hi1 : (i : Int) < (n : Int) := by omega
   obtain ⟨⟨v, x0, x1, x2, x3, es⟩, hx⟩ := some_at HL.out hlt;have hm := HE.out _ (List.mem_of_getElem? hx);obtain ⟨bk, of, B1, d1, rfl, e1, r1, c1⟩ := (HR.out.fr H.fr).elem hx;simp only at e1 r1 hm;subst e1;have ca0 := c1 0 _ rfl; simp only [Nat.add_zero] at ca0;have ca1 := c1 1 _ rfl;have ca2 := c1 2 _ rfl;have ca3 := c1 3 _ rfl;have ca4 := c1 4 _ rfl;have HX := Lib.hid (nodes_at hx);have HD1 := Lib.hid (show B1 = none → d1 = 0 from fun hB => by subst hB; exact HNZ.out _ (List.mem_of_getElem? hx) _ _ rfl);have H2 := H.lay_ 76 [.int .i64 x0, .int .i64 x1, .int .i64 x2, .string x3, .slice B1 es.length d1] rfl;have b4 := H2.fa 0 4 rfl rfl;have HR1 := Lib.hid (r1.fr (((Hp.start wr).lay_ 76 [.int .i64 x0, .int .i64 x1, .int .i64 x2, .string x3, .slice B1 es.length d1] rfl).fr));clear hx c1 r1 H;obtain ⟨gb, hgb⟩ : ∃ z, z = wr.heap.size := ⟨_, rfl⟩;rw [← hgb] at H2 b4;have HGB := Lib.hid hgb;clear hgb;go_wp2_with fail;rw [← HGB.out];refine (l5Copy_any B1 es.length d1 es _ HR1.out hm HD1.out).mono ?_;rintro e w2 ⟨v', rfl, K⟩;have H3 := H2.join K;clear K H2 b4 ca0 ca1 ca2 ca3 ca4 y1;obtain ⟨A5, q5, e5⟩ := H3.shape 0 rfl;subst e5;have f4 := H3.bfree 1 rfl 4;have s4 := H3.fa 1 4 rfl rfl;have H4 := H3.bput 1 rfl 4 (.slice A5 es.length q5);have H5 := (H4.front 2 rfl).vopen;have z1 := H5.at_ 0 rfl (j := 1) rfl;have n0 := H5.fa 4 0 rfl rfl;have n1 := H5.fa 4 1 rfl rfl;have n2 := H5.fa 4 2 rfl rfl;have n3 := H5.fa 4 3 rfl rfl;have n4 := H5.fa 4 4 rfl rfl;clear H3 H4;go_wp2_with (at_builtin; refine wp_appL (f := cNV) (H5) rfl _ _ _ rfl Tryz.underlying29 infoInode rfl (by decide) 1 _ _ rfl rfl _ _ (((.slice A5 es.length q5, (x0, x1, x2, x3, es)) : Value × Nod)) rfl (by simp) rfl (by simp [cNV, Value.oneCell']) (by first | (simp only [maxLen]; omega) | (simp [maxLen]; done) | (simp [maxLen]; omega)) (by first | omega | (simp; done) | (simp; omega)) ?_)
   intro v2 w6 H6;obtain ⟨C9, q9, hv9⟩ := H6.shape 1 rfl;have p0 := H6.at_ 0 rfl (j := 1) rfl;have p1 := H6.free 0 rfl 1;have H7 := Hp.vgrowE (L := L') (ve := .slice A5 es.length q5) (x0, x1, x2, x3, es) (H6.front 3 rfl) hv9 (by simp);have H8 := Lib.hid (H7.sub (List.Sublist.cons_cons _ (List.Sublist.cons _ (List.Sublist.refl _))));clear H5 H6 H7 z1 n0 n1 n2 n3 n4 f4 s4;subst hv9;go_wp2_with fail;go_roundw
   case rel => exact ⟨i + 1, C9, q9, L' ++ [((.slice A5 es.length q5, (x0, x1, x2, x3, es)) : Value × Nod)], by go_num, by omega, by rw [nodes_app, HLL.out, List.take_add_one, HX.out]; rfl, by have h9 := H8.out; simpa using h9⟩
   case measure => simp [intOf]; omega
  ·have hi1 : ¬ (i : Int) < (n : Int) := by omega
   have HN := Lib.hid (show nodes L' = nodes L by rw [HLL.out, List.take_of_length_le (by rw [nodes_len, HL.out]; omega)]);have HM := Lib.hid (show L'.length = n by rw [HLI.out]; omega);have v0 := H.vc0 0 rfl;have v1 := H.vc1 0 rfl;have s0 := H.fa 1 0 rfl rfl;have s1 := H.fa 1 1 rfl rfl;have fs0 := H.bfree 1 rfl 0;have fs1 := H.bfree 1 rfl 1;have H9 := H.blays 1 rfl [.int .i64 next, .slice A' L'.length c'] rfl;simp only [layW] at H9;clear H;go_wp2_with fail
   ((try simp only [Exit.inBlock, Exit.then]); refine bodyPost_ret (results_cell_row rfl _ _ (w.heap.size + 1) 31 #[.int .i64 next, .slice A' L'.length c'] (0, 0) _ rfl (H9.blk 1 rfl) Tryz.underlying31 rfl (by kernel_rfl)) rfl ?_)
   rw [HM.out] at H9 ⊢;exact ⟨A', c', L', rfl, HN.out, (H9.sub (l' := [volOb (w.heap.size + 1 + 1) next A' n c' L']) (by simp)).vcore⟩
end Go.Proofs.YtllonpbhgbhogaaGreatDoor
namespace Go.Proofs.YtllonpbhgbhogaaGreatDoor
open Go.RowKit
noncomputable def volAll (next : Int) (l : List Nod) (c : CallT) : OutT := if volB next l = true then volDoP next l c else ((0, []), resC 1)
theorem makeP_no {next : Int} {l : List Nod} {k : Nat} {c : CallT} (h : (makeP next l k c).2.1 ≠ 0) : (makeP next l k c).1 = (next, l) := by
 revert h; unfold makeP; repeat' split
 all_goals simp [resC]
theorem linkP_no {next : Int} {l : List Nod} {t xi : Nat} {x : Nod} {c : CallT} (h : (linkP next l t xi x c).2.1 ≠ 0) : (linkP next l t xi x c).1 = (next, l) := by
 revert h; unfold linkP; repeat' split
 all_goals simp [resC]
theorem renP_no {next : Int} {l : List Nod} {k t : Nat} {x : Nod} {c : CallT} (h : (renP next l k t x c).2.1 ≠ 0) : (renP next l k t x c).1 = (next, l) := by
 revert h; unfold renP; repeat' split
 all_goals simp [resC]
theorem onP_no {next : Int} {l : List Nod} {k t : Nat} {c : CallT} (h : (onP next l k t c).2.1 ≠ 0) : (onP next l k t c).1 = (next, l) := by
 revert h; unfold onP; repeat' split
 all_goals first
  | exact linkP_no
  | exact renP_no
  | simp [resC]
theorem volDo_no {next : Int} {l : List Nod} {c : CallT} (h : (volDoP next l c).2.1 ≠ 0) : (volDoP next l c).1 = (next, l) := by
 revert h; unfold volDoP; repeat' split
 all_goals first
  | exact makeP_no
  | exact onP_no
  | simp [resC]
theorem own_nc {b n : Nat} {E : TypeId} {k : Nat} {A : Option Addr} {m c : Nat} {xs : List Value} {w : World} (h : w.ownsRow b E k (.slice A m c) n xs) : m ≤ c := by
 rcases h.2 with ⟨e2, _⟩ | ⟨g2, cap, cur, e2, _, _, hle, _⟩
 ·injection e2 with _ e3 e4; omega
 ·injection e2 with _ e3 e4; omega
section
variable {W : List Nat} {w0 w : World} {l : List Ob} {gv g : Nat} {next : Int} {A : Option Addr} {n c : Nat} {L : List (Value × Nod)}
theorem Hp.vnc2 (h : Hp W w0 w l) (i : Nat) (hi : l[i]? = some (volOb gv next A n c L)) : n ≤ c :=
 own_nc (show w.ownsRow 0 TINO 5 (.slice A n c) n (L.flatMap cNV) from (h.ok _ (List.mem_of_getElem? hi)).1 _ (List.mem_cons_of_mem _ List.mem_cons_self))
theorem Hp.nnc (h : Hp W w0 w l) (i : Nat) (hi : l[i]? = some (obN (.slice A n c) n L)) : n ≤ c :=
 own_nc (show w.ownsRow 0 TINO 5 (.slice A n c) n (L.flatMap cNV) from (h.ok _ (List.mem_of_getElem? hi)).1 _ List.mem_cons_self)
end
def NewV (w : World) (out : OutT) (e : Ending) (w' : World) : Prop := ∃ A n c L, e = .returned (.tuple #[.agg #[.int .i64 out.1.1, .slice A n c], .agg (resL out.2).toArray]) ∧ nodes L = out.1.2 ∧ Hp [] w w' [obN (.slice A n c) n L]
def GotV (w : World) (A0 : Option Addr) (n0 c0 : Nat) (L0 : List (Value × Nod)) (out : OutT) (e : Ending) (w' : World) : Prop := ∃ A n c L, e = .returned (.tuple #[.agg #[.int .i64 out.1.1, .slice A n c], .agg (resL out.2).toArray]) ∧ nodes L = out.1.2 ∧ ((A = A0 ∧ n = n0 ∧ c = c0 ∧ L = L0 ∧ Fr w w') ∨ Hp [] w w' [obN (.slice A n c) n L])
section
variable {w w' : World} {A0 : Option Addr} {n0 c0 : Nat} {L0 : List (Value × Nod)} {out : OutT} {next' : Int} {A' : Option Addr} {n' c' gv : Nat} {L' : List (Value × Nod)} {r : ResT} {l : List Ob}
theorem GotV.same (h : out = ((next', nodes L0), r)) (f : Fr w w') : GotV w A0 n0 c0 L0 out (.returned (.tuple #[.agg #[.int .i64 next', .slice A0 n0 c0], .agg (resL r).toArray])) w' := by
 subst h;exact ⟨A0, n0, c0, L0, rfl, rfl, .inl ⟨rfl, rfl, rfl, rfl, f⟩⟩
theorem GotV.newN (h : out = ((next', nodes L'), r)) (H : Hp [] w w' l) (i : Nat) (hi : l[i]? = some (obN (.slice A' n' c') n' L')) : GotV w A0 n0 c0 L0 out (.returned (.tuple #[.agg #[.int .i64 next', .slice A' n' c'], .agg (resL r).toArray])) w' := by
 subst h;exact ⟨A', n', c', L', rfl, rfl, .inr ((H.front i hi).sub (List.singleton_sublist.2 List.mem_cons_self))⟩
theorem GotV.newV (h : out = ((next', nodes L'), r)) (H : Hp [] w w' l) (i : Nat) (hi : l[i]? = some (volOb gv next' A' n' c' L')) : GotV w A0 n0 c0 L0 out (.returned (.tuple #[.agg #[.int .i64 next', .slice A' n' c'], .agg (resL r).toArray])) w' := by
 subst h;exact ⟨A', n', c', L', rfl, rfl, .inr (((H.front i hi).vcore).sub (List.singleton_sublist.2 List.mem_cons_self))⟩
theorem NewV.newN (h : out = ((next', nodes L'), r)) (H : Hp [] w w' l) (i : Nat) (hi : l[i]? = some (obN (.slice A' n' c') n' L')) : NewV w out (.returned (.tuple #[.agg #[.int .i64 next', .slice A' n' c'], .agg (resL r).toArray])) w' := by
 subst h;exact ⟨A', n', c', L', rfl, rfl, (H.front i hi).sub (List.singleton_sublist.2 List.mem_cons_self)⟩
theorem NewV.newV (h : out = ((next', nodes L'), r)) (H : Hp [] w w' l) (i : Nat) (hi : l[i]? = some (volOb gv next' A' n' c' L')) : NewV w out (.returned (.tuple #[.agg #[.int .i64 next', .slice A' n' c'], .agg (resL r).toArray])) w' := by
 subst h;exact ⟨A', n', c', L', rfl, rfl, ((H.front i hi).vcore).sub (List.singleton_sublist.2 List.mem_cons_self)⟩
theorem NewV.zero (h : out = ((0, []), r)) (H : Hp [] w w' l) : NewV w out (.returned (.tuple #[.agg #[.int .i64 0, .slice none 0 0], .agg (resL r).toArray])) w' := by
 subst h;exact ⟨none, 0, 0, [], rfl, rfl, Hp.join2 (r := rowN (.slice none 0 0) 0 []) (((H.sub (List.nil_sublist _)).many0).nil_ TINO 5)⟩
end
end Go.Proofs.YtllonpbhgbhogaaGreatDoor
namespace Go.Proofs.YtllonpbhgbhogaaGreatDoor
open Go.RowKit
theorem own_c63 {b n : Nat} {E : TypeId} {k : Nat} {A : Option Addr} {m c : Nat} {xs : List Value} {w : World} (h : w.ownsRow b E k (.slice A m c) n xs) : c ≤ 9223372036854775807 := by
 rcases h.2 with ⟨e2, _⟩ | ⟨g2, cap, cur, e2, _, _, _, hle, _⟩
 ·injection e2 with _ e3 e4; omega
 ·injection e2 with _ e3 e4; simp only [maxLen] at hle; omega
theorem filter_erase {l : List Nod} (hs : Srt l) : ∀ {k : Nat} {x : Nod}, l[k]? = some x → l.filter (fun y => y.1 != x.1) = l.eraseIdx k := by
 induction l with
 | nil => intro k x h; simp at h
 | cons a l ih =>
   intro k x h;have hs2 := List.pairwise_cons.1 hs
   cases k with
   | zero =>
     injection h with h; subst h;rw [List.eraseIdx_cons_zero, List.filter_cons_of_neg (by simp)];exact List.filter_eq_self.2 fun y hy => by have := hs2.1 y hy; simp; omega
   | succ k =>
     rw [List.getElem?_cons_succ] at h;have := hs2.1 x (List.mem_of_getElem? h);rw [List.eraseIdx_cons_succ, List.filter_cons_of_pos (by simp; omega), ih hs2.2 h]
theorem nodes_filter (L : List (Value × Nod)) (f : Nod → Bool) : nodes (L.filter fun q => f q.2) = (nodes L).filter f := by
 simp only [nodes, List.filter_map]; rfl
section
variable {W : List Nat} {w0 w w' : World} {l : List Ob} {gv g : Nat} {next : Int} {A : Option Addr} {n c : Nat} {L : List (Value × Nod)}
theorem Hp.vwith {k m : Nat} {v' : Value} {x : Nod} {es : List EntT} (h : Hp W w0 w (.row 109 4 v' m (es.flatMap cEnt) :: l)) (i : Nat) (hi : l[i]? = some (volOb gv next (some ⟨g, 0, none⟩) n c L)) (hm : m = es.length)
 (K : Hp [g] w w' [.row 76 5 (.slice (some ⟨g, 0, none⟩) n c) n ((L.set k (v', x.1, x.2.1, x.2.2.1, x.2.2.2.1, es)).flatMap cNV)]) :
 Hp W w0 w' (l.set i (volOb gv next (some ⟨g, 0, none⟩) n c (L.set k (v', x.1, x.2.1, x.2.2.1, x.2.2.2.1, es)))) := by
 subst hm;have h1 := ((h.front (i + 1) (o := volOb gv next (some ⟨g, 0, none⟩) n c L) hi).vopen).turn1 1 rfl K;have h2 := h1.perm (l' := .row 109 4 v' es.length (es.flatMap cEnt) :: .row 31 2 (.slice (some ⟨gv, 0, none⟩) 1 1) 1 [.int .i64 next, .slice (some ⟨g, 0, none⟩) n c] :: .row 76 5 (.slice (some ⟨g, 0, none⟩) n c) n ((L.set k (v', x.1, x.2.1, x.2.2.1, x.2.2.2.1, es)).flatMap cNV) :: .many (L.map rowE) :: l.eraseIdx i) (by
  exact ((List.Perm.cons _ (List.Perm.cons _ (List.Perm.swap _ _ _))).trans ((List.Perm.cons _ (List.Perm.swap _ _ _)).trans (List.Perm.swap _ _ _))))
 have h3 := Hp.into (r := rowE (v', x.1, x.2.1, x.2.2.1, x.2.2.2.1, es)) h2 2 rfl k;rw [← List.map_set] at h3;exact Hp.back i (Hp.vlt i hi) (Hp.vshut h3)
theorem Hp.vwith2 {k : Nat} {q : Value × Nod} (h : Hp W w0 w l) (i : Nat) (hi : l[i]? = some (volOb gv next (some ⟨g, 0, none⟩) n c L)) (hq : L[k]? = some q)
 (K : Hp [g] w w' [.row 76 5 (.slice (some ⟨g, 0, none⟩) n c) n ((L.set k q).flatMap cNV)]) : Hp W w0 w' (l.set i (volOb gv next (some ⟨g, 0, none⟩) n c L)) := by
 rw [set_self' L k q hq] at K;have h1 := ((h.front i hi).vopen).turn1 1 rfl K;exact Hp.back i (Hp.vlt i hi) (Hp.vshut h1)
theorem Hp.vrow {k m d e : Nat} {x : Nod} {es : List EntT} (h : Hp W w0 w l) (i : Nat) (hi : l[i]? = some (volOb gv next (some ⟨g, 0, none⟩) n c L)) (hp : L[k]? = some (.slice (some ⟨e, 0, none⟩) m d, x)) (hm : m = es.length)
 (K : Hp [e] w w' [.row 109 4 (.slice (some ⟨e, 0, none⟩) m d) m (es.flatMap cEnt)]) :
 Hp W w0 w' (l.set i (volOb gv next (some ⟨g, 0, none⟩) n c (L.set k (.slice (some ⟨e, 0, none⟩) m d, x.1, x.2.1, x.2.2.1, x.2.2.2.1, es)))) := by
 subst hm;have h1 := ((h.front i hi).vopen).turnIn (r := rowE (.slice (some ⟨e, 0, none⟩) es.length d, x)) (r' := rowE (.slice (some ⟨e, 0, none⟩) es.length d, x.1, x.2.1, x.2.2.1, x.2.2.2.1, es)) 2 rfl k (by rw [List.getElem?_map, hp]; rfl) K.gr (K.row 0 rfl) (.inl rfl);have e1 : (L.set k (.slice (some ⟨e, 0, none⟩) es.length d, x.1, x.2.1, x.2.2.1, x.2.2.2.1, es)).flatMap cNV = L.flatMap cNV := by
  rw [List.flatMap_def, List.flatMap_def, List.map_set];rw [set_self' _ _ _ (by rw [List.getElem?_map, hp]; rfl)]
 refine Hp.back i (Hp.vlt i hi) (Hp.vshut ?_);rw [e1, List.map_set];exact h1
theorem Hp.vown {k : Nat} {q : Value × Nod} (h : Hp W w0 w l) (i : Nat) (hi : l[i]? = some (volOb gv next A n c L)) (hp : L[k]? = some q) : w.ownsRow 0 109 4 q.1 q.2.2.2.2.2.length (q.2.2.2.2.2.flatMap cEnt) :=
 ((h.front i hi).vopen.ok _ (List.mem_of_getElem? (i := 2) rfl)).1 (rowE q) (List.mem_map_of_mem (List.mem_of_getElem? hp))
end
set_option maxRecDepth 100000 in
set_option maxHeartbeats 8000000 in
theorem l6Ents_any (next : Int) (A : Option Addr) (n c : Nat) (L : List (Value × Nod)) (id : Int) (k : Nat) (B : Option Addr) (m d : Nat) (x : Nod) (w : World) (h : RdN w A n L) (hn : n ≤ 1048576) (hat : atN (nodes L) id = some k) (hp : L[k]? = some (.slice B m d, x)) :
 Calls Tryz.prog 110 #[.agg #[.int .i64 next, .slice A n c], .int .i64 id] w fun e w' => e = .returned (.slice B m d) ∧ Fr w w' := by
 have hL := h.len;have hkn : k < n := by rw [← hL]; exact (List.getElem?_eq_some_iff.1 hp).1
 obtain ⟨bk, of, B1, d1, rfl, e1, r1, cc⟩ := h.elem hp;have HZ := Lib.hid (show atZ (nodes L) id = (k : Int) by rw [atZ, hat]);have HR := Lib.hid h;have HC4 := Lib.hid (cc 4 _ rfl);clear cc r1 e1 hL hat hp h;have H := ((Hp.start w).lay_ 31 [.int .i64 next, .slice (some ⟨bk, of, none⟩) n c] rfl).drew;have b0 := H.fa 0 0 rfl rfl;have b1 := H.fa 0 1 rfl rfl;have c4 := fr_cellM H.fr HC4.out;go_enter Tryz.func110, Tryz.ntmps110;go_wp2_with fail;refine wp_region_held_drew (S := fun w' => w'.cell? ⟨w.heap.size, 0, none⟩ = some (.int .i64 next) ∧ w'.cell? ⟨w.heap.size, 1, none⟩ = some (.slice (some ⟨bk, of, none⟩) n c) ∧ w'.cell? ⟨bk, of + k * 5 + 4, none⟩ = some (.slice B m d)) (by kernel_rfl) ?_ (fun hHeld => ?_)
 ·exact ⟨b0, b1, c4⟩
 obtain ⟨u0, hu0⟩ : ∃ uu : World, uu = (w.alloc (.cells #[.int .i64 next, .slice (some ⟨bk, of, none⟩) n c] 31)).drew := ⟨_, rfl⟩;rw [← hu0] at H hHeld ⊢;clear hu0;refine wpT 0 ?_;refine wpT 1 ?_;refine wpT 2 ?_;refine wpT 3 ?_;refine wpC 4 fun K hK => ?_;go_simp;refine (specAt_any next _ n c L id _ (HR.out.fr H.fr) hn).mono ?_;rintro e u1 ⟨rfl, f5⟩;rw [HZ.out];replace H := H.go f5;clear f5;go_wp2_with fail;refine hK.out _ _ ?_ fun hHeld => ?_
 ·exact ⟨H.fa 0 0 rfl rfl, H.fa 0 1 rfl rfl, fr_cellM H.fr HC4.out⟩
 clear hK K;(try simp only [sX, Act.put]);refine wpT 5 ?_;refine wpT 6 ?_;refine wpT 7 ?_;refine wpT 8 ?_;refine wpAnyH_done (by kernel_rfl) ?_ _;clear b0 b1 c4;have HF := Lib.hid H.fr;clear H;go_wp2_with fail;go_ret;exact ⟨rfl, HF.out⟩
set_option maxRecDepth 100000 in
set_option maxHeartbeats 8000000 in
theorem l6Dir_any (next : Int) (A : Option Addr) (n c : Nat) (L : List (Value × Nod)) (id : Int) (k : Nat) (v : Value) (x0 x1 x2 : Int) (x3 : ByteArray) (xs : List EntT) (w : World) (h : RdN w A n L) (hn : n ≤ 1048576) (hat : atN (nodes L) id = some k) (hp : L[k]? = some (v, x0, x1, x2, x3, xs)) :
 Calls Tryz.prog 66 #[.agg #[.int .i64 next, .slice A n c], .int .i64 id] w fun e w' => e = .returned (.bool (x1 == 2)) ∧ Fr w w' := by
 have hL := h.len;have hkn : k < n := by rw [← hL]; exact (List.getElem?_eq_some_iff.1 hp).1
 obtain ⟨bk, of, B1, d1, rfl, e1, r1, cc⟩ := h.elem hp;have HZ := Lib.hid (show atZ (nodes L) id = (k : Int) by rw [atZ, hat]);have HR := Lib.hid h;have HC1 := Lib.hid (cc 1 _ rfl);clear cc r1 e1 hL hat hp h;have H := (Hp.start w).lay_ 31 [.int .i64 next, .slice (some ⟨bk, of, none⟩) n c] rfl;have b0 := H.fa 0 0 rfl rfl;have b1 := H.fa 0 1 rfl rfl;have hk0 : decide ((k : Int) ≥ 0) = true := by simp
 go_enter Tryz.func66, Tryz.ntmps66;go_wp2_with fail;refine (specAt_any next _ n c L id _ (HR.out.fr H.fr) hn).mono ?_;rintro e w5 ⟨rfl, f5⟩;rw [HZ.out];replace H := H.go f5;clear f5 b0 b1;have b1 := H.fa 0 1 rfl rfl;have c1 := fr_cellM H.fr HC1.out;have HF := Lib.hid H.fr;clear H;go_wp2_with fail;go_ret;exact ⟨rfl, HF.out⟩
set_option maxRecDepth 100000 in
set_option maxHeartbeats 8000000 in
theorem l6With_any (g : Nat) (next : Int) (n c k : Nat) (L : List (Value × Nod)) (v : Value) (x0 x1 x2 : Int) (x3 : ByteArray) (xs : List EntT) (B : Option Addr) (m d : Nat) (ds : List EntT) (id : Int) (w : World) (h : w.ownsRow 0 76 5 (.slice (some ⟨g, 0, none⟩) n c) n (L.flatMap cNV)) (hr : RdN w (some ⟨g, 0, none⟩) n L) (hn : n ≤ 1048576) (hat : atN (nodes L) id = some k) (hp : L[k]? = some (v, x0, x1, x2, x3, xs)) :
 Calls Tryz.prog 112 #[.agg #[.int .i64 next, .slice (some ⟨g, 0, none⟩) n c], .int .i64 id, .slice B m d] w fun e w' => e = .returned (.agg #[.int .i64 next, .slice (some ⟨g, 0, none⟩) n c]) ∧ Hp [g] w w' [.row 76 5 (.slice (some ⟨g, 0, none⟩) n c) n ((L.set k (.slice B m d, x0, x1, x2, x3, ds)).flatMap cNV)] := by
 have hL := hr.len;have hkn : k < n := by rw [← hL]; exact (List.getElem?_eq_some_iff.1 hp).1
 have HZ := Lib.hid (show atZ (nodes L) id = (k : Int) by rw [atZ, hat]);have HR := Lib.hid hr;have HP := Lib.hid hp;have H1 : Hp [g] w w _ := Hp.start_row h;have H2 := ((H1.lay_ 31 [.int .i64 next, .slice (some ⟨g, 0, none⟩) n c] rfl).lay_ 31 [.int .i64 0, .slice none 0 0] (g := w.heap.size + 1) (by simp)).drew;have H0 := ((((Hp.start w).lay_ 31 [.int .i64 next, .slice (some ⟨g, 0, none⟩) n c] rfl).lay_ 31 [.int .i64 0, .slice none 0 0] (g := w.heap.size + 1) (by simp)).drew).fr;have HR0 := Lib.hid (HR.out.fr H0);have H := H2;clear H1 H2 H0 h hr hL hat hp;have b0 := H.fa 1 0 rfl rfl;have b1 := H.fa 1 1 rfl rfl;go_enter Tryz.func112, Tryz.ntmps112;go_wp2_with fail;refine wp_region_held_drew (S := fun w' => w'.cell? ⟨w.heap.size, 0, none⟩ = some (.int .i64 next) ∧ w'.cell? ⟨w.heap.size, 1, none⟩ = some (.slice (some ⟨g, 0, none⟩) n c)) (by kernel_rfl) ?_ (fun hHeld => ?_)
 ·exact ⟨b0, b1⟩
 refine wpT 0 ?_;refine wpT 1 ?_;refine wpT 2 ?_;refine wpT 3 ?_;refine wpT 5 ?_;refine wpC 4 fun K hK => ?_;go_simp;refine (specAt_any next _ n c L id _ HR0.out hn).mono ?_;rintro e u1 ⟨rfl, f5⟩;rw [HZ.out];replace H := H.go f5;clear f5;go_wp2_with fail;refine hK.out _ _ ?_ fun hHeld => ?_
 ·exact ⟨H.fa 1 0 rfl rfl, H.fa 1 1 rfl rfl⟩
 clear hK K;(try simp only [sX, Act.put]);refine wpT 6 ?_;refine wpT 7 ?_;refine wpC 8 fun K hK => ?_;have e4 := H.free 2 rfl (k * 5 + 4);have s4 := H.atL 2 rfl cNV_len HP.out (r := 4) rfl;replace H := H.putL 2 rfl cNV_len k 4 (.slice B m d, x0, x1, x2, x3, ds) (.slice B m d) HP.out (by omega) rfl;go_simp;refine hK.out _ _ ?_ fun hHeld => ?_
 ·exact ⟨H.fa 1 0 rfl rfl, H.fa 1 1 rfl rfl⟩
 clear hK K;(try simp only [sX, Act.put]);refine wpAnyH_done (by kernel_rfl) ?_ _;clear b0 b1;have b0 := H.fa 1 0 rfl rfl;have b1 := H.fa 1 1 rfl rfl;have s0 := H.fa 0 0 rfl rfl;have s1 := H.fa 0 1 rfl rfl;have fs0 := H.bfree 0 rfl 0;have fs1 := H.bfree 0 rfl 1;have H9 := H.blays 0 rfl [.int .i64 next, .slice (some ⟨g, 0, none⟩) n c] rfl;simp only [layW] at H9;clear H;go_wp2_with fail
 ((try simp only [Exit.inBlock, Exit.then]); refine bodyPost_ret (results_cell_row rfl _ _ (w.heap.size + 1) 31 #[.int .i64 next, .slice (some ⟨g, 0, none⟩) n c] (0, 0) _ rfl (H9.blk 0 rfl) Tryz.underlying31 rfl (by kernel_rfl)) rfl ?_)
 exact ⟨rfl, H9.tail.tail⟩
set_option maxRecDepth 100000 in
set_option maxHeartbeats 8000000 in
theorem l6Gone_any (next : Int) (A : Option Addr) (n c : Nat) (L : List (Value × Nod)) (id : Int) (w : World) (h : RdN w A n L) (hn : n ≤ 1048576) :
 Calls Tryz.prog 144 #[.agg #[.int .i64 next, .slice A n c], .int .i64 id] w fun e w' => ∃ A' m c', e = .returned (.agg #[.int .i64 next, .slice A' m c']) ∧ Hp [] w w' [.row 76 5 (.slice A' m c') m ((L.filter fun q => q.2.1 != id).flatMap cNV)] := by
 have HL := Lib.hid h.len;have HR := Lib.hid h;clear h;have H1 := (((Hp.start w).lay_ 31 [.int .i64 next, .slice A n c] rfl).lay_ 31 [.int .i64 0, .slice none 0 0] (g := w.heap.size + 1) (by simp)).lit0 76 5;obtain ⟨f, hf⟩ : ∃ f : Value × Nod → Bool, f = fun q => q.2.1 != id := ⟨_, rfl⟩;rw [← hf];have HFF := Lib.hid hf;clear hf;go_enter Tryz.func144, Tryz.ntmps144;go_wp2_with fail
 go_loopw [5, 6] (fun ov iv wr => ∃ (i : Nat) (M : List (Value × Nod)), iv = .int .i64 i ∧ i ≤ n ∧ M = (L.take i).filter f ∧ Hp [] w wr [.row 76 5 ov M.length (M.flatMap cNV), .blk (w.heap.size + 1) 31 [.int .i64 0, .slice none 0 0], .blk w.heap.size 31 [.int .i64 next, .slice A n c]]) (fun _ iv _ => n - (intOf iv).toNat)
 case atStart => exact ⟨0, [], rfl, by omega, rfl, by simpa using H1⟩
 case round =>
  clear H1;obtain ⟨i, M, rfl, hi, hM, H⟩ := hrel;have HM := Lib.hid hM;have hml : M.length ≤ i := by rw [hM]; exact Nat.le_trans (List.length_filter_le _ _) (by rw [List.length_take]; omega)
  clear hM;obtain ⟨A5, q5, e5⟩ := H.shape 0 rfl;subst e5;have hi0 : (0 : Int) ≤ (i : Int) := by omega
  have y1 := H.fa 2 1 rfl rfl
  by_cases hlt : i < n
  ·have hi1 : (i : Int) < (n : Int) := by omega
   obtain ⟨⟨v, x0, x1, x2, x3, es⟩, hx⟩ := some_at HL.out hlt;obtain ⟨bk, of, B1, d1, rfl, e1, r1, c1⟩ := (HR.out.fr H.fr).elem hx;simp only at e1;subst e1;have ca0 := c1 0 _ rfl; simp only [Nat.add_zero] at ca0;have ca1 := c1 1 _ rfl;have ca2 := c1 2 _ rfl;have ca3 := c1 3 _ rfl;have ca4 := c1 4 _ rfl;have HX := Lib.hid hx;clear hx c1 r1
   by_cases hq : x0 = id
   ·have hqa : (x0 != id) = false := by simpa using hq
    have HM2 := Lib.hid (show M = (L.take (i + 1)).filter f by
     rw [List.take_add_one, HX.out, List.filter_append, ← HM.out, HFF.out]; simp [hq])
    have HH := Lib.hid H;clear H hq;go_wp2_with fail;go_roundw
    case rel => exact ⟨i + 1, M, by go_num, by omega, HM2.out, HH.out⟩
    case measure => simp [intOf]; omega
   ·have hqa : (x0 != id) = true := by simpa using hq
    have HM2 := Lib.hid (show M ++ [((.slice B1 es.length d1, x0, x1, x2, x3, es) : Value × Nod)] = (L.take (i + 1)).filter f by
     rw [List.take_add_one, HX.out, List.filter_append, ← HM.out, HFF.out]; simp [hq])
    clear hq;go_wp2_with (at_builtin; refine wp_appL (f := cNV) (H) rfl _ _ _ rfl Tryz.underlying29 infoInode rfl (by decide) 0 _ _ rfl rfl _ _ (((.slice B1 es.length d1, (x0, x1, x2, x3, es)) : Value × Nod)) rfl (by simp) rfl (by simp [cNV, Value.oneCell']) (by first | (simp only [maxLen]; omega) | (simp [maxLen]; done) | (simp [maxLen]; omega)) (by first | omega | (simp; done) | (simp; omega)) ?_)
    intro v2 w6 H6;have HH := Lib.hid H6;clear H H6 y1 ca0 ca1 ca2 ca3 ca4;go_wp2_with fail;go_roundw
    case rel => exact ⟨i + 1, _, by go_num, by omega, HM2.out, by have h9 := HH.out; simpa using h9⟩
    case measure => simp [intOf]; omega
  ·have hi1 : ¬ (i : Int) < (n : Int) := by omega
   have HN := Lib.hid (show M = L.filter f by rw [HM.out, List.take_of_length_le (by rw [HL.out]; omega)]);have y0 := H.fa 2 0 rfl rfl;have fy1 := H.bfree 2 rfl 1;have H2 := H.bput 2 rfl 1 (.slice A5 M.length q5);have z0 := H2.fa 2 0 rfl rfl;have z1 := H2.fa 2 1 rfl rfl;have s0 := H2.fa 1 0 rfl rfl;have s1 := H2.fa 1 1 rfl rfl;have fs0 := H2.bfree 1 rfl 0;have fs1 := H2.bfree 1 rfl 1;have H9 := H2.blays 1 rfl [.int .i64 next, .slice A5 M.length q5] rfl;simp only [layW] at H9;clear H H2;go_wp2_with fail
   ((try simp only [Exit.inBlock, Exit.then]); refine bodyPost_ret (results_cell_row rfl _ _ (w.heap.size + 1) 31 #[.int .i64 next, .slice A5 M.length q5] (0, 0) _ rfl (H9.blk 1 rfl) Tryz.underlying31 rfl (by kernel_rfl)) rfl ?_)
   rw [← HN.out];exact ⟨A5, M.length, q5, rfl, H9.sub (by simp)⟩
set_option maxRecDepth 100000 in
set_option maxHeartbeats 8000000 in
theorem l6Less_any (g : Nat) (next : Int) (n c k : Nat) (L : List (Value × Nod)) (v : Value) (x0 x1 x2 : Int) (x3 : ByteArray) (xs : List EntT) (id : Int) (w : World) (h : (obN (.slice (some ⟨g, 0, none⟩) n c) n L).ok w) (hn : n ≤ 1048576) (hs : Srt (nodes L)) (hat : atN (nodes L) id = some k) (hp : L[k]? = some (v, x0, x1, x2, x3, xs)) (hx : 1 ≤ x2) (hx2 : x2 ≤ 1048576) :
 Calls Tryz.prog 114 #[.agg #[.int .i64 next, .slice (some ⟨g, 0, none⟩) n c], .int .i64 id] w fun e w' => ∃ A' n' c' L', e = .returned (.agg #[.int .i64 next, .slice A' n' c']) ∧ nodes L' = nLess (nodes L) id ∧ Hp (Row.blocks (rowN (.slice (some ⟨g, 0, none⟩) n c) n L :: L.map rowE)) w w' [obN (.slice A' n' c') n' L'] := by
 have hnk := nodes_at hp;have hid : x0 = id := by obtain ⟨y, h1, h2⟩ := at_of hat; rw [hnk] at h1; injection h1 with h1; rw [← h1] at h2; exact h2
 have hr := obN_rd h rfl;have hL := hr.len;have hkn : k < n := by rw [← hL]; exact (List.getElem?_eq_some_iff.1 hp).1
 have HZ := Lib.hid (show atZ (nodes L) id = (k : Int) by rw [atZ, hat]);have HP := Lib.hid hp;have HS := Lib.hid hs;have HIDE := Lib.hid hid;have HNK := Lib.hid hnk;have HNL := Lib.hid (show nLess (nodes L) id = if x2 = 1 then (nodes L).eraseIdx k else nLinks (nodes L) k (x2 - 1) by rw [nLess, hat]; simp only [hnk]);have H0 : Hp (Row.blocks (rowN (.slice (some ⟨g, 0, none⟩) n c) n L :: L.map rowE)) w w [.row 76 5 (.slice (some ⟨g, 0, none⟩) n c) n (L.flatMap cNV), .many (L.map rowE)] := (Hp.start_many h).split2;have H := (H0.lay_ 31 [.int .i64 next, .slice (some ⟨g, 0, none⟩) n c] rfl).lay_ 31 [.int .i64 0, .slice none 0 0] (g := w.heap.size + 1) (by simp);clear h H0 hnk hid hr hL hat hp hs;have b0 := H.fa 1 0 rfl rfl;have b1 := H.fa 1 1 rfl rfl;go_enter Tryz.func114, Tryz.ntmps114;go_wp2_with fail;refine (specAt_any next _ n c L id _ (H.rdN2 2 3 rfl rfl) hn).mono ?_;rintro e w5 ⟨rfl, f5⟩;rw [HZ.out];replace H := (H.go f5).drew;clear f5 b0 b1;have hw : IntKind.i64.wrap (x2 - 1) = x2 - 1 := IntWalk.i64_in _ (by omega);have b0 := H.fa 1 0 rfl rfl;have b1 := H.fa 1 1 rfl rfl;have HP2 := Lib.hid (show (L.set k (v, x0, x1, x2 - 1, x3, xs))[k]? = some (v, x0, x1, x2 - 1, x3, xs) from List.getElem?_set_self (List.getElem?_eq_some_iff.1 HP.out).1);go_wp2_with fail;refine wp_region_held_drew (S := fun w' => w'.cell? ⟨w.heap.size, 0, none⟩ = some (.int .i64 next) ∧ w'.cell? ⟨w.heap.size, 1, none⟩ = some (.slice (some ⟨g, 0, none⟩) n c)) (by kernel_rfl) ?_ (fun hHeld => ?_)
 ·exact ⟨b0, b1⟩
 obtain ⟨u0, hu0⟩ : ∃ uu : World, uu = w5.drew := ⟨_, rfl⟩;rw [← hu0] at H hHeld ⊢;clear hu0;refine wpT 0 ?_;refine wpT 1 ?_;refine wpT 2 ?_;refine wpT 3 ?_;refine wpT 4 ?_;refine wpT 5 ?_;refine wpT 6 ?_;refine wpT 7 ?_;refine wpC 8 fun K hK => ?_;have z2 := H.atL 2 rfl cNV_len HP.out (r := 2) rfl;go_simp;clear z2;refine hK.out _ _ ?_ fun hHeld => ?_
 ·exact ⟨H.fa 1 0 rfl rfl, H.fa 1 1 rfl rfl⟩
 clear hK K;(try simp only [sX, Act.put]);refine wpT 9 ?_;refine wpT 10 ?_;refine wpT 11 ?_;refine wpC 12 fun K hK => ?_;have e2 := H.free 2 rfl (k * 5 + 2);have s2 := H.atL 2 rfl cNV_len HP.out (r := 2) rfl;replace H := Hp.nset (u := .int .i64 (x2 - 1)) (p' := (v, x0, x1, x2 - 1, x3, xs)) H 2 3 rfl rfl (by decide) HP.out (r := 2) (by omega) rfl rfl;go_simp;refine hK.out _ _ ?_ fun hHeld => ?_
 ·exact ⟨H.fa 1 0 rfl rfl, H.fa 1 1 rfl rfl⟩
 clear hK K;(try simp only [sX, Act.put]);refine wpAnyH_done (by kernel_rfl) ?_ _;clear b0 b1 e2 s2;have b0 := H.fa 1 0 rfl rfl;have b1 := H.fa 1 1 rfl rfl;have z2 := H.atL 2 rfl cNV_len HP2.out (r := 2) rfl
 by_cases hq : x2 = 1
 ·have hqa : (x2 - 1 == 0) = true := by simp; omega
  have HQ := Lib.hid hq;clear hq;go_wp2_with fail;refine (l6Gone_any next _ n c _ id _ (H.rdN2 2 3 rfl rfl) hn).mono ?_;rintro e w7 ⟨A', m, c', rfl, K⟩;replace H := H.join K;clear K b0 b1 z2;have s0 := H.fa 1 0 rfl rfl;have s1 := H.fa 1 1 rfl rfl;have fs0 := H.bfree 1 rfl 0;have fs1 := H.bfree 1 rfl 1;have H9 := H.blays 1 rfl [.int .i64 next, .slice A' m c'] rfl;simp only [layW] at H9;clear H;go_wp2_with fail
  ((try simp only [Exit.inBlock, Exit.then]); refine bodyPost_ret (results_cell_row rfl _ _ (w.heap.size + 1) 31 #[.int .i64 next, .slice A' m c'] (0, 0) _ rfl (H9.blk 1 rfl) Tryz.underlying31 rfl (by kernel_rfl)) rfl ?_)
  have H10 := (H9.thin (rs' := ((L.set k (v, x0, x1, x2 - 1, x3, xs)).filter fun q => q.2.1 != id).map rowE) 4 rfl (List.filter_sublist.map _));have H11 := (H10.front 4 rfl).swap;refine ⟨A', m, c', (L.set k (v, x0, x1, x2 - 1, x3, xs)).filter fun q => q.2.1 != id, rfl, ?_, (Hp.join2 (r := rowN (.slice A' m c') m ((L.set k (v, x0, x1, x2 - 1, x3, xs)).filter fun q => q.2.1 != id)) H11).sub (List.singleton_sublist.2 List.mem_cons_self)⟩;rw [HNL.out, if_pos HQ.out, nodes_filter _ (fun y => y.1 != id), nodes_set];have h1 := filter_erase (l := (nodes L).set k (x0, x1, x2 - 1, x3, xs)) (set_srt HS.out HNK.out rfl) (k := k) (x := (x0, x1, x2 - 1, x3, xs)) (List.getElem?_set_self (List.getElem?_eq_some_iff.1 HNK.out).1);rw [HIDE.out] at h1;rw [HIDE.out, h1, List.eraseIdx_set_eq]
 ·have hqa : (x2 - 1 == 0) = false := by simp; omega
  have HQ := Lib.hid hq;clear hq;have s0 := H.fa 0 0 rfl rfl;have s1 := H.fa 0 1 rfl rfl;have fs0 := H.bfree 0 rfl 0;have fs1 := H.bfree 0 rfl 1;have H9 := H.blays 0 rfl [.int .i64 next, .slice (some ⟨g, 0, none⟩) n c] rfl;simp only [layW] at H9;clear H;go_wp2_with fail
  ((try simp only [Exit.inBlock, Exit.then]); refine bodyPost_ret (results_cell_row rfl _ _ (w.heap.size + 1) 31 #[.int .i64 next, .slice (some ⟨g, 0, none⟩) n c] (0, 0) _ rfl (H9.blk 0 rfl) Tryz.underlying31 rfl (by kernel_rfl)) rfl ?_)
  refine ⟨(some ⟨g, 0, none⟩), n, c, rfl, L.set k (v, x0, x1, x2 - 1, x3, xs), ?_, Hp.join2 (r := rowN (.slice (some ⟨g, 0, none⟩) n c) n (L.set k (v, x0, x1, x2 - 1, x3, xs))) H9.tail.tail⟩;rw [HNL.out, if_neg HQ.out, nodes_set, nLinks, HNK.out]
end Go.Proofs.YtllonpbhgbhogaaGreatDoor
namespace Go.Proofs.YtllonpbhgbhogaaGreatDoor
open Go.RowKit
end Go.Proofs.YtllonpbhgbhogaaGreatDoor