/-
  Many texts in one: Bytes, Str, Var, MText, Bools.
-/
import Derived.Test.YtaogikhpglcmjaaGreatDoorGb
import Derived.Laws.IdiomStrings
import Derived.Test.YtaogikhpglcmjaaGreatDoorGa
import Derived.Laws.BitsLemmas
namespace Go.Proofs.YtaogikhpglcmjaaGreatDoor
open Go.RowKit

/-- Bytes as a text. -/
def ofB (l : List UInt8) : ByteArray := ⟨l.toArray⟩
def toB (s : ByteArray) : List UInt8 := s.data.toList
theorem toB_ofB (l : List UInt8) : toB (ofB l) = l := by simp [toB, ofB]
theorem ofB_toB (s : ByteArray) : ofB (toB s) = s := by simp [toB, ofB]
theorem toB_len (s : ByteArray) : (toB s).length = s.size := by simp [toB]
theorem ofB_size (l : List UInt8) : (ofB l).size = l.length := by simp [ofB, ByteArray.size]
theorem ofB_inj {l l' : List UInt8} (h : ofB l = ofB l') : l = l' := by rw [← toB_ofB l, ← toB_ofB l', h]
theorem toList_B (s : ByteArray) : s.toList = toB s := by simp [ByteArray.toList_eq, toB]
theorem cmpB (s t : ByteArray) : (s.toList == t.toList) = decide (toB s = toB t) := by
  rw [toList_B, toList_B, Bool.eq_iff_iff]; simp
theorem toB_extract (s : ByteArray) (k m : Nat) : toB (s.extract k m) = ((toB s).drop k).take (m - k) := by
  simp [toB, ByteArray.data_extract]
theorem toB_append (s t : ByteArray) : toB (s ++ t) = toB s ++ toB t := by simp [toB, ByteArray.data_append]
theorem ofB_append (a b : List UInt8) : ofB a ++ ofB b = ofB (a ++ b) := by
  have h := toB_append (ofB a) (ofB b)
  rw [toB_ofB, toB_ofB] at h
  rw [← h, ofB_toB]
theorem extract_ofB (l : List UInt8) (a b : Nat) : (ofB l).extract a b = ofB ((l.drop a).take (b - a)) := by
  have h := toB_extract (ofB l) a b
  rw [toB_ofB] at h
  rw [← h, ofB_toB]
/-- 'string(b)'. -/
theorem run_str {P : Program} {w : World} (src dst e : TypeId) {A : Option Addr} {n c : Nat} {l : List UInt8} (hs : P.underlying src = some (.slice e)) (he : P.underlying e = some (.int .u8)) (hd : P.underlying dst = some .string)
    (hr : Rd w A n 1 (l.map cU8)) : (convert src dst (.slice A n c)).run P w = .ok (.string (ofB l)) w := by
  have hl := hr.len1
  cases A with
  | none =>
    have h0 : n = 0 := by
      rcases Nat.eq_zero_or_pos n with h0 | h0
      · exact h0
      · obtain ⟨b, o, e, _⟩ := hr.2 h0; cases e
    subst h0
    have : l = [] := List.eq_nil_of_length_eq_zero hl
    subst this
    rw [run_convert_bytes_string w src dst e none 0 c hs he hd]
    simp [Conv.bytesToString, Sem.run_pure, ofB]
    rfl
  | some a =>
    subst hl
    refine run_convert_bytes_back w src dst e a c l hs he hd fun j hj => ?_
    obtain ⟨b, o, e, hc⟩ := hr.get1 (List.getElem?_eq_getElem hj)
    injection e with e
    subst e
    rw [Addr.add_lit]
    exact hc

section
variable {W : List Nat} {w0 w w' : World} {l : List Ob}
theorem Hp.lay_ (h : Hp W w0 w l) (t : TypeId) (cs : List Value) {g : Nat} (hg : g = w.heap.size) : Hp W w0 (w.alloc (.cells cs.toArray t)) (.blk g t cs :: l) := by subst hg; exact h.lay t cs
/-- rows of elements of different types lie apart -/
theorem rows_apart {E E2 : TypeId} {k n k2 n2 : Nat} {v v2 : Value} {xs ys : List Value} {b b2 : Nat} (h : w.ownsRow b E k v n xs) (h2 : w.ownsRow b2 E2 k2 v2 n2 ys) (hne : E ≠ E2) : (Ob.row E k v n xs).apart (.row E2 k2 v2 n2 ys) := by
  intro g hg hg2
  rcases h.2 with ⟨rfl, _⟩ | ⟨g1, cap, cur, rfl, _, hh, _⟩
  · simp [Ob.has, Value.ownBlock] at hg
  · rcases h2.2 with ⟨rfl, _⟩ | ⟨g3, cap2, cur2, rfl, _, hh2, _⟩
    · simp [Ob.has, Value.ownBlock] at hg2
    · simp only [Ob.has, Value.ownBlock, Option.some.injEq] at hg hg2
      subst hg
      subst hg2
      rw [hh] at hh2
      injection hh2 with hh2
      injection hh2 with _ ht
      exact hne ht
theorem Hp.cons_row {E : TypeId} {k n : Nat} {v : Value} {xs : List Value} {l' : List Ob} (h : Hp [] w w' l') (o : w'.ownsRow w.heap.size E k v n xs) (ha : ∀ x ∈ l', (Ob.row E k v n xs).apart x) : Hp [] w w' (.row E k v n xs :: l') := by
  refine ⟨h.gr, ?_, ?_, List.pairwise_cons.2 ⟨ha, h.ap⟩⟩
  · intro x hx
    rcases List.mem_cons.1 hx with rfl | h1
    · exact own_base o (Nat.zero_le _)
    · exact h.ok x h1
  · intro x hx g hg
    rcases List.mem_cons.1 hx with rfl | h1
    · exact .inl (o.lt g hg).1
    · exact h.own x h1 g hg
variable {E E2 E3 : TypeId} {k n k2 n2 k3 n3 : Nat} {v v2 v3 : Value} {xs ys zs : List Value}
theorem Hp.made2 (h : Hp W w0 w l) (o : w'.ownsRow w.heap.size E k v n xs) (o2 : w'.ownsRow w.heap.size E2 k2 v2 n2 ys) (f : Fr w w') (hne : E ≠ E2) : Hp W w0 w' (.row E k v n xs :: .row E2 k2 v2 n2 ys :: l) :=
  h.join ((Hp.one_row o2 f).cons_row o (by simpa using rows_apart o o2 hne))
theorem Hp.made3 (h : Hp W w0 w l) (o : w'.ownsRow w.heap.size E k v n xs) (o2 : w'.ownsRow w.heap.size E2 k2 v2 n2 ys) (o3 : w'.ownsRow w.heap.size E3 k3 v3 n3 zs) (f : Fr w w') (h12 : E ≠ E2) (h13 : E ≠ E3) (h23 : E2 ≠ E3) :
    Hp W w0 w' (.row E k v n xs :: .row E2 k2 v2 n2 ys :: .row E3 k3 v3 n3 zs :: l) :=
  h.join (((Hp.one_row o3 f).cons_row o2 (by simpa using rows_apart o2 o3 h23)).cons_row o (by simpa using ⟨rows_apart o o2 h12, rows_apart o o3 h13⟩))
end
end Go.Proofs.YtaogikhpglcmjaaGreatDoor

namespace Go.Proofs.YtaogikhpglcmjaaGreatDoor
open Go.RowKit

def zB (n : Nat) : List UInt8 := List.replicate n 0

end Go.Proofs.YtaogikhpglcmjaaGreatDoor

namespace Go.Proofs.YtaogikhpglcmjaaGreatDoor
open Go.RowKit

set_option linter.unusedVariables false
set_option linter.unusedSimpArgs false
/-- A number in groups of seven bits, the lowest first. -/
def varT (n : Nat) : List UInt8 := if _h : n < 128 then [UInt8.ofNat n] else UInt8.ofNat (n % 128 + 128) :: varT (n / 128)
termination_by n
decreasing_by omega
theorem varT_lo {n : Nat} (h : n < 128) : varT n = [UInt8.ofNat n] := by rw [varT, dif_pos h]
theorem varT_hi {n : Nat} (h : ¬ n < 128) : varT n = UInt8.ofNat (n % 128 + 128) :: varT (n / 128) := by rw [varT, dif_neg h]
theorem varT_len : ∀ (k n : Nat), n < 128 ^ (k + 1) → (varT n).length ≤ k + 1
  | 0, n, h => by rw [varT_lo (by simpa using h)]; simp
  | k + 1, n, h => by
    by_cases hn : n < 128
    · rw [varT_lo hn]; simp
    · rw [varT_hi hn, List.length_cons]
      have := varT_len k (n / 128) (by rw [Nat.div_lt_iff_lt_mul (by decide)]; rw [Nat.pow_succ] at h; omega)
      omega
def varB (n : Int) : List UInt8 := if 0 ≤ n ∧ n ≤ 562949953421311 then varT n.toNat else []
def varS (n : Int) : ByteArray := ofB (varB n)
theorem varB_len (n : Int) : (varB n).length ≤ 7 := by
  rw [varB]
  split
  · exact varT_len 6 n.toNat (by rename_i h; show n.toNat < 562949953421312; omega)
  · simp
theorem varS_size (n : Int) : (varS n).size ≤ 7 := by rw [varS, ofB_size]; exact varB_len n
theorem and_127 {c : Int} (h0 : 0 ≤ c) (h1 : c < 9223372036854775808) : bits .and .i64 c 127 = c % 128 := bits_mask .i64 63 (by decide) (fun n h₀ h₁ => IntWalk.i64_in _ (by omega)) 7 (by decide) c h0 (by omega)
theorem or_128 {c : Int} (h0 : 0 ≤ c) (h1 : c < 128) : bits .or .i64 c 128 = c + 128 := by
  obtain ⟨k, rfl⟩ : ∃ k : Nat, c = k := ⟨c.toNat, by omega⟩
  have h : ((List.range 128).all fun (n : Nat) => bits .or .i64 (n : Int) 128 == (n : Int) + 128) = true := by decide +kernel
  have := List.all_eq_true.1 h k (List.mem_range.2 (by omega))
  simpa using this
theorem u8_of {c : Int} (h0 : 0 ≤ c) (h1 : c < 256) : ∃ u : UInt8, UInt8.ofNat c.toNat = u ∧ cU8 u = .int .u8 c := by
  refine ⟨_, rfl, ?_⟩
  simp only [cU8]
  congr 1
  rw [UInt8.toNat_ofNat_of_lt' (by simp [UInt8.size]; omega)]
  omega
theorem byte_ofV {y : Int} (h0 : 0 ≤ y) (h1 : y ≤ 255) : ∃ u : UInt8, y = (u.toNat : Int) := by
  refine ⟨UInt8.ofNat y.toNat, ?_⟩
  rw [UInt8.toNat_ofNat_of_lt' (by simp [UInt8.size]; omega)]
  omega
set_option maxRecDepth 100000 in
set_option maxHeartbeats 4000000 in
theorem implVar_any (n : Int) (w : World) :
    Calls Tryz.prog 94 #[.int .i64 n] w fun e w' => e = .returned (.string (varS n)) ∧ Fr w w' := by
  by_cases hb : 0 ≤ n ∧ n ≤ 562949953421311
  · obtain ⟨k, rfl⟩ : ∃ k : Nat, n = k := ⟨n.toNat, by omega⟩
    have H := (Hp.start w).lit0 5 1
    have hlen : (varT k).length ≤ 7 := by
      have := varB_len (k : Int)
      rwa [varB, if_pos hb, Int.toNat_natCast] at this
    have HV := Lib.hid (show varS (k : Int) = ofB (varT k) by rw [varS, varB, if_pos hb, Int.toNat_natCast])
    rw [HV.out]
    have hk : k ≤ 562949953421311 := by omega
    clear HV
    go_enter Tryz.func94, Tryz.ntmps94
    go_wp2_with fail
    refine (within_any _ _ _ _).mono ?_
    rintro e wq ⟨rfl, hwq⟩
    rw [hwq]
    clear hwq
    have hd : inB (k : Int) 0 562949953421311 = true := inB_iff.2 hb
    rw [hd]
    clear hd hb
    go_wp2_with fail
    go_loopw [0, 3] (fun nv ov wr => ∃ (m : Nat) (l : List UInt8), nv = .int .i64 m ∧ m ≤ 562949953421311 ∧ l ++ varT m = varT k ∧ Hp [] w wr [.row 5 1 ov l.length (l.map cU8)]) (fun nv _ _ => (intOf nv).toNat)
    case atStart => exact ⟨k, [], rfl, hk, rfl, H⟩
    case round =>
      clear H
      obtain ⟨m, l, rfl, hm, hl, H⟩ := hrel
      have HL := Lib.hid hl
      have hll : l.length ≤ 7 := by have := congrArg List.length hl; rw [List.length_append] at this; omega
      clear hl
      by_cases hlt : 127 < m
      · obtain ⟨r, hr⟩ : ∃ r : Nat, (m : Int) % 128 = (r : Int) := ⟨m % 128, by omega⟩
        obtain ⟨q, hq⟩ : ∃ q : Nat, (m : Int) / 128 = (q : Int) := ⟨m / 128, by omega⟩
        have hrb : r < 128 := by omega
        obtain ⟨u, hu⟩ := byte_ofV (y := (r : Int) + 128) (by omega) (by omega)
        have HS := Lib.hid (show varT m = u :: varT q by
          rw [varT_hi (by omega), show m / 128 = q by omega, show m % 128 + 128 = u.toNat by omega, UInt8.ofNat_toNat])
        have hqm : q < m := by omega
        have hlt1 : 127 < (m : Int) := by omega
        have hur : (r : Int) + 128 = (u.toNat : Int) := by omega
        have a1 : bits .and .i64 (m : Int) 127 = (r : Int) := by rw [and_127 (by omega) (by omega)]; exact hr
        have a2 : bits .or .i64 (r : Int) 128 = (u.toNat : Int) := by rw [or_128 (by omega) (by omega)]; exact hur
        have a4 : IntKind.u8.wrap (u.toNat : Int) = (u.toNat : Int) := wraps_u8 _ (by have := u.toNat_lt; omega) (by have := u.toNat_lt; omega)
        have a5 : (m : Int) / 128 = (q : Int) := hq
        clear hr hq hu
        go_wp2_with (at_builtin; refine wp_appM (f := cU8) (H) rfl _ _ _ rfl Tryz.underlying101 infoU8 rfl 0 _ _ rfl rfl _ _ (u) rfl (by simp) rfl (by first | (simp only [maxLen]; omega) | (simp [maxLen]; done) | (simp [maxLen]; omega)) (by first | omega | (simp; done) | (simp; omega)) ?_)
        intro v' w5 H5
        have H6 := Lib.hid (show Hp [] w w5 [.row 5 1 v' (l ++ [u]).length ((l ++ [u]).map cU8)] by
          rw [List.map_append, List.length_append]; exact H5)
        clear H H5
        go_wp2_with fail
        go_roundw
        case rel => exact ⟨q, l ++ [u], rfl, by omega, by rw [List.append_assoc, ← HL.out, HS.out]; rfl, H6.out⟩
        case measure => simp [intOf]; omega
      · obtain ⟨u, hu⟩ := byte_ofV (y := (m : Int)) (by omega) (by omega)
        have HS := Lib.hid (show varT m = [u] by rw [varT_lo (by omega), show m = u.toNat by omega, UInt8.ofNat_toNat])
        have hmu : m = u.toNat := by omega
        subst hmu
        have hub := u.toNat_lt
        have hlt1 : ¬ (127 < (u.toNat : Int)) := by omega
        have hlt2 : ¬ (128 ≤ (u.toNat : Int)) := by omega
        have hw8 : IntKind.u8.wrap (u.toNat : Int) = (u.toNat : Int) := wraps_u8 _ (by omega) (by omega)
        clear hu
        go_wp2_with (at_builtin; refine wp_appM (f := cU8) (H) rfl _ _ _ rfl Tryz.underlying101 infoU8 rfl 0 _ _ rfl rfl _ _ (u) rfl (by simp) rfl (by first | (simp only [maxLen]; omega) | (simp [maxLen]; done) | (simp [maxLen]; omega)) (by first | omega | (simp; done) | (simp; omega)) ?_)
        intro v' w5 H5
        have H6 : Hp [] w w5 [.row 5 1 v' (l.length + 1) ((l ++ [u]).map cU8)] := by
          rw [List.map_append]; exact H5.recast (by simp)
        obtain ⟨B, d, rfl⟩ := H6.shape 0 rfl
        have hks := run_str (c := d) 101 9 5 Tryz.underlying101 Tryz.underlying5 Tryz.underlying9 (H6.rd 0 rfl)
        have HF := Lib.hid H6
        clear H H5 H6
        go_wp2_with fail
        go_ret
        have hE := HL.out
        rw [HS.out] at hE
        exact ⟨congrArg (fun b => Ending.returned (.string (ofB b))) hE, HF.out.fr⟩
  ·
    have hd : inB n 0 562949953421311 = false := by rw [← Bool.not_eq_true, inB_iff]; exact hb
    have hv : varS n = ByteArray.mk #[] := by rw [varS, varB, if_neg hb]; rfl
    rw [hv]
    go_enter Tryz.func94, Tryz.ntmps94
    go_wp2_with fail
    refine (within_any _ _ _ _).mono ?_
    rintro e wq ⟨rfl, hwq⟩
    rw [hwq, hd]
    clear hwq
    go_wp2_with fail
    go_ret
    exact ⟨rfl, Below.refl _ _⟩
set_option maxRecDepth 100000 in
set_option maxHeartbeats 4000000 in
theorem specVar_any (n : Int) (w : World) :
    Calls Tryz.prog 86 #[.int .i64 n] w fun e w' => e = .returned (.string (varS n)) ∧ Fr w w' := by
  by_cases hb : 0 ≤ n ∧ n ≤ 562949953421311
  · obtain ⟨k, rfl⟩ : ∃ k : Nat, n = k := ⟨n.toNat, by omega⟩
    have H := (Hp.start w).lit0 5 1
    have hlen : (varT k).length ≤ 7 := by
      have := varB_len (k : Int)
      rwa [varB, if_pos hb, Int.toNat_natCast] at this
    have HV := Lib.hid (show varS (k : Int) = ofB (varT k) by rw [varS, varB, if_pos hb, Int.toNat_natCast])
    rw [HV.out]
    have hk : k ≤ 562949953421311 := by omega
    clear HV
    go_enter Tryz.func86, Tryz.ntmps86
    go_wp2_with fail
    refine (l1In_any _ _ _ _).mono ?_
    rintro e wq ⟨rfl, hwq⟩
    rw [hwq]
    clear hwq
    have hd : inB (k : Int) 0 562949953421311 = true := inB_iff.2 hb
    rw [hd]
    clear hd hb
    go_wp2_with fail
    go_loopw [0, 3] (fun nv ov wr => ∃ (m : Nat) (l : List UInt8), nv = .int .i64 m ∧ m ≤ 562949953421311 ∧ l ++ varT m = varT k ∧ Hp [] w wr [.row 5 1 ov l.length (l.map cU8)]) (fun nv _ _ => (intOf nv).toNat)
    case atStart => exact ⟨k, [], rfl, hk, rfl, H⟩
    case round =>
      clear H
      obtain ⟨m, l, rfl, hm, hl, H⟩ := hrel
      have HL := Lib.hid hl
      have hll : l.length ≤ 7 := by have := congrArg List.length hl; rw [List.length_append] at this; omega
      clear hl
      by_cases hlt : 127 < m
      · obtain ⟨r, hr⟩ : ∃ r : Nat, (m : Int) % 128 = (r : Int) := ⟨m % 128, by omega⟩
        obtain ⟨q, hq⟩ : ∃ q : Nat, (m : Int) / 128 = (q : Int) := ⟨m / 128, by omega⟩
        have hrb : r < 128 := by omega
        obtain ⟨u, hu⟩ := byte_ofV (y := (r : Int) + 128) (by omega) (by omega)
        have HS := Lib.hid (show varT m = u :: varT q by
          rw [varT_hi (by omega), show m / 128 = q by omega, show m % 128 + 128 = u.toNat by omega, UInt8.ofNat_toNat])
        have hqm : q < m := by omega
        have hlt1 : 128 ≤ (m : Int) := by omega
        have hub := u.toNat_lt
        have hur : 128 + (r : Int) = (u.toNat : Int) := by omega
        have a1 : (m : Int).tmod 128 = (r : Int) := by rw [Int.tmod_eq_emod_of_nonneg (by omega)]; omega
        have a2 : (m : Int).tdiv 128 = (q : Int) := by rw [Int.tdiv_eq_ediv_of_nonneg (by omega)]; omega
        have a3 : IntKind.i64.wrap (r : Int) = (r : Int) := IntWalk.i64_in _ (by omega)
        have a4 : IntKind.u8.wrap (u.toNat : Int) = (u.toNat : Int) := wraps_u8 _ (by omega) (by omega)
        have a5 : IntKind.i64.wrap (128 + (r : Int)) = (u.toNat : Int) := by rw [hur]; exact IntWalk.i64_in _ (by omega)
        clear hr hq hu
        go_wp2_with (at_builtin; refine wp_appM (f := cU8) (H) rfl _ _ _ rfl Tryz.underlying101 infoU8 rfl 0 _ _ rfl rfl _ _ (u) rfl (by simp) rfl (by first | (simp only [maxLen]; omega) | (simp [maxLen]; done) | (simp [maxLen]; omega)) (by first | omega | (simp; done) | (simp; omega)) ?_)
        intro v' w5 H5
        have H6 := Lib.hid (show Hp [] w w5 [.row 5 1 v' (l ++ [u]).length ((l ++ [u]).map cU8)] by
          rw [List.map_append, List.length_append]; exact H5)
        clear H H5
        go_wp2_with fail
        go_roundw
        case rel => exact ⟨q, l ++ [u], rfl, by omega, by rw [List.append_assoc, ← HL.out, HS.out]; rfl, H6.out⟩
        case measure => simp [intOf]; omega
      · obtain ⟨u, hu⟩ := byte_ofV (y := (m : Int)) (by omega) (by omega)
        have HS := Lib.hid (show varT m = [u] by rw [varT_lo (by omega), show m = u.toNat by omega, UInt8.ofNat_toNat])
        have hmu : m = u.toNat := by omega
        subst hmu
        have hub := u.toNat_lt
        have hlt1 : ¬ (127 < (u.toNat : Int)) := by omega
        have hlt2 : ¬ (128 ≤ (u.toNat : Int)) := by omega
        have hw8 : IntKind.u8.wrap (u.toNat : Int) = (u.toNat : Int) := wraps_u8 _ (by omega) (by omega)
        clear hu
        go_wp2_with (at_builtin; refine wp_appM (f := cU8) (H) rfl _ _ _ rfl Tryz.underlying101 infoU8 rfl 0 _ _ rfl rfl _ _ (u) rfl (by simp) rfl (by first | (simp only [maxLen]; omega) | (simp [maxLen]; done) | (simp [maxLen]; omega)) (by first | omega | (simp; done) | (simp; omega)) ?_)
        intro v' w5 H5
        have H6 : Hp [] w w5 [.row 5 1 v' (l.length + 1) ((l ++ [u]).map cU8)] := by
          rw [List.map_append]; exact H5.recast (by simp)
        obtain ⟨B, d, rfl⟩ := H6.shape 0 rfl
        have hks := run_str (c := d) 101 9 5 Tryz.underlying101 Tryz.underlying5 Tryz.underlying9 (H6.rd 0 rfl)
        have HF := Lib.hid H6
        clear H H5 H6
        go_wp2_with fail
        go_ret
        have hE := HL.out
        rw [HS.out] at hE
        exact ⟨congrArg (fun b => Ending.returned (.string (ofB b))) hE, HF.out.fr⟩
  ·
    have hd : inB n 0 562949953421311 = false := by rw [← Bool.not_eq_true, inB_iff]; exact hb
    have hv : varS n = ByteArray.mk #[] := by rw [varS, varB, if_neg hb]; rfl
    rw [hv]
    go_enter Tryz.func86, Tryz.ntmps86
    go_wp2_with fail
    refine (l1In_any _ _ _ _).mono ?_
    rintro e wq ⟨rfl, hwq⟩
    rw [hwq, hd]
    clear hwq
    go_wp2_with fail
    go_ret
    exact ⟨rfl, Below.refl _ _⟩
end Go.Proofs.YtaogikhpglcmjaaGreatDoor

namespace Go.Proofs.YtaogikhpglcmjaaGreatDoor
open Go.RowKit

/-- May a number be written? -/
def sgnB (c : Int) : Bool := inB c 0 1114111 && !inB c 55296 57343
theorem sgn_bounds {c : Int} (h : sgnB c = true) : 0 ≤ c ∧ c ≤ 1114111 := by
  simp only [sgnB, Bool.and_eq_true, inB_iff] at h; exact h.1
def contF (c : Int) (b : UInt8) : Option Int := if 128 ≤ b.toNat ∧ b.toNat ≤ 191 then some (c * 64 + (b.toNat : Int) % 64) else none
def accC : Int → List UInt8 → Option Int
  | c, [] => some c
  | c, b :: r => (contF c b).bind fun d => accC d r
theorem accC_snoc : ∀ (l : List UInt8) (c : Int) (b : UInt8), accC c (l ++ [b]) = (accC c l).bind fun d => contF d b
  | [], c, b => by simp only [List.nil_append, accC, Option.bind_some]; cases contF c b <;> rfl
  | a :: l, c, b => by
    simp only [List.cons_append, accC]
    cases contF c a with
    | none => rfl
    | some d => simp only [Option.bind_some]; exact accC_snoc l d b
theorem accC_top : ∀ (l : List UInt8) (c m d : Int), 0 ≤ c → c < m → accC c l = some d → 0 ≤ d ∧ d < m * 64 ^ l.length
  | [], c, m, d, h0, h1, h => by simp only [accC, Option.some.injEq] at h; subst h; simpa using ⟨h0, h1⟩
  | b :: l, c, m, d, h0, h1, h => by
    simp only [accC] at h
    rcases hc : contF c b with _ | e
    · rw [hc] at h; cases h
    · rw [hc, Option.bind_some] at h
      have he : 0 ≤ e ∧ e < m * 64 := by
        unfold contF at hc
        split at hc
        · injection hc with hc; omega
        · cases hc
      have := accC_top l e (m * 64) d he.1 he.2 h
      rw [List.length_cons, Int.pow_succ]
      rwa [Int.mul_assoc, Int.mul_comm 64] at this

def leadF (b : UInt8) : Int := if b.toNat < 128 then b.toNat else if b.toNat ≤ 223 then (b.toNat : Int) % 32 else if b.toNat ≤ 239 then (b.toNat : Int) % 16 else (b.toNat : Int) % 8
def sizeF (b : UInt8) : Nat := if b.toNat < 128 then 1 else if b.toNat < 192 then 0 else if b.toNat ≤ 223 then 2 else if b.toNat ≤ 239 then 3 else if b.toNat ≤ 247 then 4 else 0
def leastC : Nat → Int
  | 2 => 128
  | 3 => 2048
  | 4 => 65536
  | _ => 0
theorem sizeF_cases (b : UInt8) : (sizeF b = 1 ∧ b.toNat < 128) ∨ (sizeF b = 0 ∧ 128 ≤ b.toNat ∧ (b.toNat < 192 ∨ 247 < b.toNat)) ∨ (sizeF b = 2 ∧ 192 ≤ b.toNat ∧ b.toNat ≤ 223) ∨ (sizeF b = 3 ∧ 224 ≤ b.toNat ∧ b.toNat ≤ 239) ∨ (sizeF b = 4 ∧ 240 ≤ b.toNat ∧ b.toNat ≤ 247) := by
  unfold sizeF
  split
  · left; exact ⟨rfl, by assumption⟩
  · split
    · right; left; exact ⟨rfl, by omega, by omega⟩
    · split
      · right; right; left; exact ⟨rfl, by omega, by omega⟩
      · split
        · right; right; right; left; exact ⟨rfl, by omega, by omega⟩
        · split
          · right; right; right; right; exact ⟨rfl, by omega, by omega⟩
          · right; left; exact ⟨rfl, by omega, by omega⟩
/-- The sign at the beginning, and how many bytes it has; 0 where there is none. -/
def oneT (b : UInt8) (r : List UInt8) : Int × Nat :=
  if sizeF b = 0 ∨ r.length + 1 < sizeF b then (0, 0) else
    match accC (leadF b) (r.take (sizeF b - 1)) with
    | none => (0, 0)
    | some c => if c < leastC (sizeF b) ∨ sgnB c = false then (0, 0) else (c, sizeF b)
def oneF : List UInt8 → Int × Nat
  | [] => (0, 0)
  | b :: r => oneT b r
theorem oneT_none {b : UInt8} {r : List UInt8} (h : sizeF b = 0 ∨ r.length + 1 < sizeF b) : oneT b r = (0, 0) := by rw [oneT, if_pos h]
theorem oneT_broken {b : UInt8} {r : List UInt8} (h : accC (leadF b) (r.take (sizeF b - 1)) = none) : oneT b r = (0, 0) := by
  rw [oneT]; split
  · rfl
  · rw [h]
theorem oneT_some {b : UInt8} {r : List UInt8} {c : Int} (h0 : sizeF b ≠ 0) (h1 : sizeF b ≤ r.length + 1) (h : accC (leadF b) (r.take (sizeF b - 1)) = some c) : oneT b r = if c < leastC (sizeF b) ∨ sgnB c = false then (0, 0) else (c, sizeF b) := by
  rw [oneT, if_neg (by omega), h]
theorem oneT_small {b : UInt8} {r : List UInt8} (h : b.toNat < 128) : oneT b r = ((b.toNat : Int), 1) := by
  have h1 : sizeF b = 1 := by rw [sizeF, if_pos h]
  have h2 : leadF b = b.toNat := by rw [leadF, if_pos h]
  rw [oneT_some (by omega) (by omega) (c := b.toNat) (by rw [h1, h2]; rfl), h1, if_neg]
  simp only [leastC, sgnB, inB]
  rintro (h3 | h3)
  · omega
  · simp at h3; omega
theorem oneT_good (b : UInt8) (r : List UInt8) : oneT b r = (0, 0) ∨ ((oneT b r).2 = sizeF b ∧ 0 < sizeF b ∧ sizeF b ≤ r.length + 1 ∧ sgnB (oneT b r).1 = true) := by
  rw [oneT]
  split
  · exact .inl rfl
  · split
    · exact .inl rfl
    · split
      · exact .inl rfl
      · rename_i h1 _ c _ h2
        right
        refine ⟨rfl, by omega, by omega, ?_⟩
        simp only [not_or, Bool.not_eq_false] at h2
        exact h2.2
theorem sizeF_le (b : UInt8) : sizeF b ≤ 4 := by rcases sizeF_cases b with h | h | h | h | h <;> omega
theorem oneF_le (s : List UInt8) : (oneF s).2 ≤ s.length := by
  cases s with
  | nil => simp [oneF]
  | cons b r =>
    rcases oneT_good b r with h | h
    · rw [oneF, h]; simp
    · rw [oneF, h.1, List.length_cons]; omega
theorem oneF_sgn {s : List UInt8} (h : (oneF s).2 ≠ 0) : sgnB (oneF s).1 = true := by
  cases s with
  | nil => simp [oneF] at h
  | cons b r =>
    rcases oneT_good b r with h1 | h1
    · rw [oneF, h1] at h; simp at h
    · exact h1.2.2.2

def decF : Nat → List UInt8 → Option (List Int)
  | 0, s => if s = [] then some [] else none
  | f + 1, s => if s = [] then some [] else if (oneF s).2 = 0 then none else (decF f (s.drop (oneF s).2)).map ((oneF s).1 :: ·)
theorem decF_fuel : ∀ (f : Nat) (s : List UInt8), s.length ≤ f → decF f s = decF s.length s
  | 0, s, h => by
    have : s = [] := List.eq_nil_of_length_eq_zero (by omega)
    subst this; rfl
  | f + 1, [], _ => by simp [decF]
  | f + 1, b :: r, h => by
    simp only [List.length_cons] at h
    rw [List.length_cons, decF, decF]
    by_cases h0 : (oneF (b :: r)).2 = 0
    · simp [h0]
    · have h1 : ((b :: r).drop (oneF (b :: r)).2).length ≤ r.length := by rw [List.length_drop, List.length_cons]; omega
      rw [decF_fuel f _ (by omega), decF_fuel r.length _ h1]
def decL (s : List UInt8) : Option (List Int) := decF s.length s
theorem decL_nil : decL [] = some [] := rfl
theorem decL_stop {s : List UInt8} (hs : s ≠ []) (h : (oneF s).2 = 0) : decL s = none := by
  cases s with
  | nil => exact absurd rfl hs
  | cons b r => rw [decL, List.length_cons, decF]; simp [h]
theorem decL_step {s : List UInt8} (hs : s ≠ []) (h : (oneF s).2 ≠ 0) : decL s = (decL (s.drop (oneF s).2)).map ((oneF s).1 :: ·) := by
  cases s with
  | nil => exact absurd rfl hs
  | cons b r =>
    rw [decL, List.length_cons, decF, if_neg hs, if_neg h, decF_fuel _ _ (by rw [List.length_drop, List.length_cons]; omega)]; rfl
def decR (s : List UInt8) : List Int × Bool := match decL s with
  | some l => (l, true)
  | none => ([], false)
/-- Where a walk through a text stands. -/
structure DSt (s : List UInt8) (a : Nat) (o : List Int) : Prop where
  st : decL s = (decL (s.drop a)).map (o ++ ·)
  le : a ≤ s.length
  len : o.length ≤ a
  sg : ∀ x ∈ o, sgnB x = true
theorem DSt.start (s : List UInt8) : DSt s 0 [] := ⟨by simp, by omega, by simp, by simp⟩
theorem DSt.next {s : List UInt8} {a k : Nat} {o : List Int} {c : Int} (h : DSt s a o) (ha : a < s.length) (hp : oneF (s.drop a) = (c, k)) (hk : k ≠ 0) : DSt s (a + k) (o ++ [c]) := by
  have hne : s.drop a ≠ [] := by intro e; have := congrArg List.length e; simp at this; omega
  have h1 := decL_step hne (by rw [hp]; exact hk)
  have h2 := oneF_le (s.drop a)
  have h3 := oneF_sgn (s := s.drop a) (by rw [hp]; exact hk)
  rw [hp] at h1 h2 h3
  simp only [List.drop_drop] at h1
  refine ⟨?_, by simp only [List.length_drop] at h2; omega, by have := h.len; rw [List.length_append, List.length_singleton]; omega, ?_⟩
  · rw [h.st, h1]
    cases decL (s.drop (a + k)) <;> simp
  · intro x hx
    rcases List.mem_append.1 hx with h4 | h4
    · exact h.sg x h4
    · rw [List.mem_singleton.1 h4]; exact h3
theorem DSt.stop {s : List UInt8} {a : Nat} {o : List Int} {c : Int} (h : DSt s a o) (ha : a < s.length) (hp : oneF (s.drop a) = (c, 0)) : decR s = ([], false) := by
  have hne : s.drop a ≠ [] := by intro e; have := congrArg List.length e; simp at this; omega
  rw [decR, h.st, decL_stop hne (by rw [hp])]; rfl
theorem DSt.done {s : List UInt8} {a : Nat} {o : List Int} (h : DSt s a o) (ha : s.length ≤ a) : decR s = (o, true) := by
  rw [decR, h.st, List.drop_of_length_le ha, decL_nil]; simp
theorem decF_good : ∀ (f : Nat) (s : List UInt8) (l : List Int), decF f s = some l → l.length ≤ s.length ∧ ∀ x ∈ l, sgnB x = true
  | 0, s, l, h => by
    rw [decF] at h
    split at h
    · injection h with h; subst h; simp
    · cases h
  | f + 1, s, l, h => by
    rw [decF] at h
    split at h
    · injection h with h; subst h; simp
    · split at h
      · cases h
      · rename_i h0
        rcases hd : decF f (s.drop (oneF s).2) with _ | l'
        · rw [hd] at h; cases h
        · rw [hd] at h
          simp only [Option.map_some, Option.some.injEq] at h
          subst h
          have h1 := decF_good f _ _ hd
          have h2 := oneF_le s
          rw [List.length_drop] at h1
          refine ⟨by rw [List.length_cons]; omega, fun x hx => ?_⟩
          rcases List.mem_cons.1 hx with rfl | hx
          · exact oneF_sgn h0
          · exact h1.2 x hx
theorem decR_good (s : List UInt8) : (decR s).1.length ≤ s.length ∧ ∀ x ∈ (decR s).1, sgnB x = true := by
  rw [decR]
  rcases h : decL s with _ | l
  · simp
  · exact decF_good _ _ _ h

/-- A byte of a small number. -/
def u8 (x : Int) : UInt8 := UInt8.ofNat x.toNat
theorem u8_val {x : Int} (h0 : 0 ≤ x) (h1 : x < 256) : ((u8 x).toNat : Int) = x := by
  rw [u8, UInt8.toNat_ofNat_of_lt' (by simp [UInt8.size]; omega)]
  omega
def szC (c : Int) : Nat := if c < 128 then 1 else if c < 2048 then 2 else if c < 65536 then 3 else 4
def enc1 (c : Int) : List UInt8 :=
  if c < 128 then [u8 c] else if c < 2048 then [u8 (192 + c / 64), u8 (128 + c % 64)]
  else if c < 65536 then [u8 (224 + c / 4096), u8 (128 + c / 64 % 64), u8 (128 + c % 64)]
  else [u8 (240 + c / 262144), u8 (128 + c / 4096 % 64), u8 (128 + c / 64 % 64), u8 (128 + c % 64)]
theorem enc1_len (c : Int) : (enc1 c).length = szC c := by
  unfold enc1 szC
  split
  · rfl
  · split
    · rfl
    · split <;> rfl
theorem szC_le (c : Int) : szC c ≤ 4 := by unfold szC; split <;> (try omega); split <;> (try omega); split <;> omega
def encL (l : List Int) : List UInt8 := if l.all sgnB = true then l.flatMap enc1 else []
theorem encL_bad {l : List Int} {c : Int} {i : Nat} (hx : l[i]? = some c) (h : sgnB c = false) : encL l = [] := by
  rw [encL, if_neg]
  intro h1
  rw [List.all_eq_true.1 h1 c (List.mem_of_getElem? hx)] at h
  cases h
theorem encL_good {l : List Int} (h : ∀ x ∈ l, sgnB x = true) : encL l = l.flatMap enc1 := by rw [encL, if_pos (List.all_eq_true.2 h)]
theorem flat1_le : ∀ l : List Int, (l.flatMap enc1).length ≤ 4 * l.length
  | [] => by simp
  | c :: l => by
    have := flat1_le l
    have h2 := szC_le c
    rw [List.flatMap_cons, List.length_append, enc1_len, List.length_cons]; omega
theorem encL_le (l : List Int) : (encL l).length ≤ 4 * l.length := by
  rw [encL]; split
  · exact flat1_le l
  · simp
/-- The reference asks for the length of what is written anew. -/
theorem size_least {b : UInt8} {r : List UInt8} {c : Int} (h0 : sizeF b ≠ 0) (h1 : sizeF b ≤ r.length + 1) (h : accC (leadF b) (r.take (sizeF b - 1)) = some c) (hs : sgnB c = true) : (c < leastC (sizeF b)) ↔ szC c ≠ sizeF b := by
  have hb := sgn_bounds hs
  have hlen : (r.take (sizeF b - 1)).length = sizeF b - 1 := by rw [List.length_take]; omega
  rcases sizeF_cases b with ⟨h2, h3⟩ | ⟨h2, _⟩ | ⟨h2, h3⟩ | ⟨h2, h3⟩ | ⟨h2, h3⟩
  · rw [h2] at h ⊢
    simp only [Nat.sub_self, List.take_zero, accC, Option.some.injEq] at h
    rw [leadF, if_pos h3] at h
    subst h
    simp only [leastC, szC]
    rw [if_pos (by omega)]
    constructor <;> intro h4 <;> omega
  · exact absurd h2 h0
  · have h5 := accC_top _ _ 32 _ (by rw [leadF, if_neg (by omega), if_pos (by omega)]; omega) (by rw [leadF, if_neg (by omega), if_pos (by omega)]; omega) h
    rw [hlen, h2] at h5
    rw [h2]
    simp only [leastC, szC]
    rw [show (32 : Int) * 64 ^ (2 - 1) = 2048 from by decide] at h5
    constructor
    · intro h4; rw [if_pos h4]; omega
    · intro h4
      by_cases h6 : c < 128
      · exact h6
      · rw [if_neg h6, if_pos (by omega)] at h4; exact absurd rfl h4
  · have h5 := accC_top _ _ 16 _ (by rw [leadF, if_neg (by omega), if_neg (by omega), if_pos (by omega)]; omega) (by rw [leadF, if_neg (by omega), if_neg (by omega), if_pos (by omega)]; omega) h
    rw [hlen, h2] at h5
    rw [h2]
    simp only [leastC, szC]
    rw [show (16 : Int) * 64 ^ (3 - 1) = 65536 from by decide] at h5
    constructor
    · intro h4
      split
      · omega
      · omega
    · intro h4
      by_cases h6 : c < 2048
      · exact h6
      · rw [if_neg (by omega), if_neg h6, if_pos (by omega)] at h4; exact absurd rfl h4
  · rw [h2]
    simp only [leastC, szC]
    constructor
    · intro h4
      split
      · omega
      · split
        · omega
        · omega
    · intro h4
      by_cases h6 : c < 65536
      · exact h6
      · rw [if_neg (by omega), if_neg (by omega), if_neg h6] at h4; exact absurd rfl h4
theorem lead_bounds (b : UInt8) : 0 ≤ leadF b ∧ (sizeF b ≠ 1 → sizeF b ≠ 0 → leadF b < 32) := by
  rcases sizeF_cases b with ⟨h2, h3⟩ | ⟨h2, h3⟩ | ⟨h2, h3⟩ | ⟨h2, h3⟩ | ⟨h2, h3⟩
  · exact ⟨by rw [leadF, if_pos h3]; omega, fun h => absurd h2 h⟩
  · refine ⟨?_, fun _ h => absurd h2 h⟩
    unfold leadF; split
    · omega
    · split
      · omega
      · split <;> omega
  · rw [leadF, if_neg (by omega), if_pos (by omega)]; exact ⟨by omega, fun _ _ => by omega⟩
  · rw [leadF, if_neg (by omega), if_neg (by omega), if_pos (by omega)]; exact ⟨by omega, fun _ _ => by omega⟩
  · rw [leadF, if_neg (by omega), if_neg (by omega), if_neg (by omega)]; exact ⟨by omega, fun _ _ => by omega⟩

/-- bits as numbers -/
theorem wraps_i64 (n : Int) (h₀ : 0 ≤ n) (h₁ : n < 2 ^ 63) : IntKind.i64.wrap n = n := IntWalk.i64_in _ (by omega)
theorem and_63 {c : Int} (h0 : 0 ≤ c) (h1 : c < 9223372036854775808) : bits .and .i64 c 63 = c % 64 := bits_mask .i64 63 (by decide) wraps_i64 6 (by decide) c h0 (by omega)
theorem and_31 {c : Int} (h0 : 0 ≤ c) (h1 : c < 9223372036854775808) : bits .and .i64 c 31 = c % 32 := bits_mask .i64 63 (by decide) wraps_i64 5 (by decide) c h0 (by omega)
theorem and_15 {c : Int} (h0 : 0 ≤ c) (h1 : c < 9223372036854775808) : bits .and .i64 c 15 = c % 16 := bits_mask .i64 63 (by decide) wraps_i64 4 (by decide) c h0 (by omega)
theorem and_7 {c : Int} (h0 : 0 ≤ c) (h1 : c < 9223372036854775808) : bits .and .i64 c 7 = c % 8 := bits_mask .i64 63 (by decide) wraps_i64 3 (by decide) c h0 (by omega)
theorem and8_63 {c : Int} (h0 : 0 ≤ c) (h1 : c < 256) : bits .and .u8 c 63 = c % 64 := bits_mask .u8 8 (by decide) wraps_u8 6 (by decide) c h0 (by omega)
theorem or_join (i : Nat) {x y : Int} (hx0 : 0 ≤ x) (hx : x % 2 ^ i = 0) (hx1 : x < 9223372036854775808) (hy0 : 0 ≤ y) (hy : y < 2 ^ i) (hy1 : y < 9223372036854775808) : bits .or .i64 x y = x + y :=
  bits_join .i64 63 (by decide) wraps_i64 i x y hx0 hx (by omega) hy0 hy (by omega)
theorem and_192 : ((List.range 256).all fun (n : Nat) => (bits .and .u8 (n : Int) 192 == 128) == (decide (128 ≤ n) && decide (n ≤ 191))) = true := by decide +kernel
theorem cont_byte (b : UInt8) : (bits .and .u8 (b.toNat : Int) 192 == 128) = (decide (128 ≤ b.toNat) && decide (b.toNat ≤ 191)) := by
  have h := List.all_eq_true.1 and_192 b.toNat (List.mem_range.2 b.toNat_lt)
  simpa using h
end Go.Proofs.YtaogikhpglcmjaaGreatDoor

namespace Go.Proofs.YtaogikhpglcmjaaGreatDoor
open Go.RowKit


/-- The marks of n elements, from the number k on. -/
def marksBool (n k : Nat) : List Bool := (List.range n).map fun (i : Nat) => (((k : Int) + (i : Int)) % 3 == 0)
theorem marksBool_at {n k i : Nat} (h : i < n) : (marksBool n k)[i]? = some ((((k : Int) + (i : Int)) % 3 == 0)) := by simp [marksBool, h]
theorem marksBool_take (n k i : Nat) (h : i ≤ n) : (marksBool n k).take i = marksBool i k := by
  rw [marksBool, marksBool, ← List.map_take, List.take_range, Nat.min_eq_left h]

end Go.Proofs.YtaogikhpglcmjaaGreatDoor

