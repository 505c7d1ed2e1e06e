/-
  Many texts in one: Str, Var, MText, TextW, Encode, AppS, MKn, KnownW.
-/
import Derived.Test.YtmpldngnkacnmaaGreatDoorGa
import Derived.Laws.BitsLemmas
set_option linter.unusedVariables false
set_option linter.unusedSimpArgs false
namespace Go.Proofs.YtmpldngnkacnmaaGreatDoor
open Go.RowKit
end Go.Proofs.YtmpldngnkacnmaaGreatDoor
namespace Go.Proofs.YtmpldngnkacnmaaGreatDoor
open Go.RowKit
def varT (n : Nat) : List UInt8 := if _h : n < 128 then [UInt8.ofNat n] else UInt8.ofNat (n % 128 + 128) :: varT (n / 128)
termination_by n
decreasing_by omega
theorem varT_lo {n : Nat} (h : n < 128) : varT n = [UInt8.ofNat n] := by rw [varT, dif_pos h]
theorem varT_hi {n : Nat} (h : ¬ n < 128) : varT n = UInt8.ofNat (n % 128 + 128) :: varT (n / 128) := by rw [varT, dif_neg h]
theorem varT_len : ∀ (k n : Nat), n < 128 ^ (k + 1) → (varT n).length ≤ k + 1
 | 0, n, h => by rw [varT_lo (by simpa using h)]; simp
 | k + 1, n, h => by
   by_cases hn : n < 128
   ·rw [varT_lo hn]; simp
   ·rw [varT_hi hn, List.length_cons]
    have := varT_len k (n / 128) (by rw [Nat.div_lt_iff_lt_mul (by decide)]; rw [Nat.pow_succ] at h; omega);omega
def varB (n : Int) : List UInt8 := if 0 ≤ n ∧ n ≤ 562949953421311 then varT n.toNat else []
def varS (n : Int) : ByteArray := ofB (varB n)
theorem varB_len (n : Int) : (varB n).length ≤ 7 := by
 rw [varB]
 split
 ·exact varT_len 6 n.toNat (by rename_i h; show n.toNat < 562949953421312; omega)
 ·simp
theorem varS_size (n : Int) : (varS n).size ≤ 7 := by rw [varS, ofB_size]; exact varB_len n
theorem and_127 {c : Int} (h0 : 0 ≤ c) (h1 : c < 9223372036854775808) : bits .and .i64 c 127 = c % 128 := bits_mask .i64 63 (by decide) (fun n h₀ h₁ => IntWalk.i64_in _ (by omega)) 7 (by decide) c h0 (by omega)
theorem or_128 {c : Int} (h0 : 0 ≤ c) (h1 : c < 128) : bits .or .i64 c 128 = c + 128 := by
 obtain ⟨k, rfl⟩ : ∃ k : Nat, c = k := ⟨c.toNat, by omega⟩;have h : ((List.range 128).all fun (n : Nat) => bits .or .i64 (n : Int) 128 == (n : Int) + 128) = true := by decide +kernel
 have := List.all_eq_true.1 h k (List.mem_range.2 (by omega));simpa using this
theorem byte_ofV {y : Int} (h0 : 0 ≤ y) (h1 : y ≤ 255) : ∃ u : UInt8, y = (u.toNat : Int) := by
 refine ⟨UInt8.ofNat y.toNat, ?_⟩;rw [UInt8.toNat_ofNat_of_lt' (by simp [UInt8.size]; omega)];omega
set_option maxRecDepth 100000 in
set_option maxHeartbeats 4000000 in
theorem implVar_any (n : Int) (w : World) :
 Calls Tryz.prog 49 #[.int .i64 n] w fun e w' => e = .returned (.string (varS n)) ∧ Fr w w' := by
 by_cases hb : 0 ≤ n ∧ n ≤ 562949953421311
 ·obtain ⟨k, rfl⟩ : ∃ k : Nat, n = k := ⟨n.toNat, by omega⟩
  have H := (Hp.start w).lit0 5 1;have hlen : (varT k).length ≤ 7 := by
   have := varB_len (k : Int)
   rwa [varB, if_pos hb, Int.toNat_natCast] at this
  have HV := Lib.hid (show varS (k : Int) = ofB (varT k) by rw [varS, varB, if_pos hb, Int.toNat_natCast]);rw [HV.out];have hk : k ≤ 562949953421311 := by omega
  clear HV;go_enter Tryz.func49, Tryz.ntmps49;go_wp2_with fail;refine (within_any _ _ _ _).mono ?_;rintro e wq ⟨rfl, hwq⟩;rw [hwq];clear hwq;have hd : inB (k : Int) 0 562949953421311 = true := inB_iff.2 hb;rw [hd];clear hd hb;go_wp2_with fail
  go_loopw [0, 3] (fun nv ov wr => ∃ (m : Nat) (l : List UInt8), nv = .int .i64 m ∧ m ≤ 562949953421311 ∧ l ++ varT m = varT k ∧ Hp [] w wr [.row 5 1 ov l.length (l.map cU8)]) (fun nv _ _ => (intOf nv).toNat)
  case atStart => exact ⟨k, [], rfl, hk, rfl, H⟩
  case round =>
   clear H;obtain ⟨m, l, rfl, hm, hl, H⟩ := hrel;have HL := Lib.hid hl;have hll : l.length ≤ 7 := by have := congrArg List.length hl; rw [List.length_append] at this; omega
   clear hl
   by_cases hlt : 127 < m
   ·obtain ⟨r, hr⟩ : ∃ r : Nat, (m : Int) % 128 = (r : Int) := ⟨m % 128, by omega⟩
    obtain ⟨q, hq⟩ : ∃ q : Nat, (m : Int) / 128 = (q : Int) := ⟨m / 128, by omega⟩;have hrb : r < 128 := by omega
    obtain ⟨u, hu⟩ := byte_ofV (y := (r : Int) + 128) (by omega) (by omega);have HS := Lib.hid (show varT m = u :: varT q by
     rw [varT_hi (by omega), show m / 128 = q by omega, show m % 128 + 128 = u.toNat by omega, UInt8.ofNat_toNat])
    have hqm : q < m := by omega
    have hlt1 : 127 < (m : Int) := by omega
    have hur : (r : Int) + 128 = (u.toNat : Int) := by omega
    have a1 : bits .and .i64 (m : Int) 127 = (r : Int) := by rw [and_127 (by omega) (by omega)]; exact hr
    have a2 : bits .or .i64 (r : Int) 128 = (u.toNat : Int) := by rw [or_128 (by omega) (by omega)]; exact hur
    have a4 : IntKind.u8.wrap (u.toNat : Int) = (u.toNat : Int) := wraps_u8 _ (by have := u.toNat_lt; omega) (by have := u.toNat_lt; omega);have a5 : (m : Int) / 128 = (q : Int) := hq;clear hr hq hu;go_wp2_with (at_builtin; refine wp_appM (f := cU8) (H) rfl _ _ _ rfl Tryz.underlying22 infoU8 rfl 0 _ _ rfl rfl _ _ (u) rfl (by simp) rfl (by first | (simp only [maxLen]; omega) | (simp [maxLen]; done) | (simp [maxLen]; omega)) (by first | omega | (simp; done) | (simp; omega)) ?_)
    intro v' w5 H5;have H6 := Lib.hid (show Hp [] w w5 [.row 5 1 v' (l ++ [u]).length ((l ++ [u]).map cU8)] by
     rw [List.map_append, List.length_append]; exact H5)
    clear H H5;go_wp2_with fail;go_roundw
    case rel => exact ⟨q, l ++ [u], rfl, by omega, by rw [List.append_assoc, ← HL.out, HS.out]; rfl, H6.out⟩
    case measure => simp [intOf]; omega
   ·obtain ⟨u, hu⟩ := byte_ofV (y := (m : Int)) (by omega) (by omega)
    have HS := Lib.hid (show varT m = [u] by rw [varT_lo (by omega), show m = u.toNat by omega, UInt8.ofNat_toNat]);have hmu : m = u.toNat := by omega
    subst hmu;have hub := u.toNat_lt;have hlt1 : ¬ (127 < (u.toNat : Int)) := by omega
    have hlt2 : ¬ (128 ≤ (u.toNat : Int)) := by omega
    have hw8 : IntKind.u8.wrap (u.toNat : Int) = (u.toNat : Int) := wraps_u8 _ (by omega) (by omega);clear hu;go_wp2_with (at_builtin; refine wp_appM (f := cU8) (H) rfl _ _ _ rfl Tryz.underlying22 infoU8 rfl 0 _ _ rfl rfl _ _ (u) rfl (by simp) rfl (by first | (simp only [maxLen]; omega) | (simp [maxLen]; done) | (simp [maxLen]; omega)) (by first | omega | (simp; done) | (simp; omega)) ?_)
    intro v' w5 H5;have H6 : Hp [] w w5 [.row 5 1 v' (l.length + 1) ((l ++ [u]).map cU8)] := by
     rw [List.map_append]; exact H5.recast (by simp)
    obtain ⟨B, d, rfl⟩ := H6.shape 0 rfl;have hks := run_str (c := d) 22 9 5 Tryz.underlying22 Tryz.underlying5 Tryz.underlying9 (H6.rd 0 rfl);have HF := Lib.hid H6;clear H H5 H6;go_wp2_with fail;go_ret;have hE := HL.out;rw [HS.out] at hE;exact ⟨congrArg (fun b => Ending.returned (.string (ofB b))) hE, HF.out.fr⟩
 ·
  have hd : inB n 0 562949953421311 = false := by rw [← Bool.not_eq_true, inB_iff]; exact hb
  have hv : varS n = ByteArray.mk #[] := by rw [varS, varB, if_neg hb]; rfl
  rw [hv];go_enter Tryz.func49, Tryz.ntmps49;go_wp2_with fail;refine (within_any _ _ _ _).mono ?_;rintro e wq ⟨rfl, hwq⟩;rw [hwq, hd];clear hwq;go_wp2_with fail;go_ret;exact ⟨rfl, Below.refl _ _⟩
set_option maxRecDepth 100000 in
set_option maxHeartbeats 4000000 in
theorem specVar_any (n : Int) (w : World) :
 Calls Tryz.prog 65 #[.int .i64 n] w fun e w' => e = .returned (.string (varS n)) ∧ Fr w w' := by
 by_cases hb : 0 ≤ n ∧ n ≤ 562949953421311
 ·obtain ⟨k, rfl⟩ : ∃ k : Nat, n = k := ⟨n.toNat, by omega⟩
  have H := (Hp.start w).lit0 5 1;have hlen : (varT k).length ≤ 7 := by
   have := varB_len (k : Int)
   rwa [varB, if_pos hb, Int.toNat_natCast] at this
  have HV := Lib.hid (show varS (k : Int) = ofB (varT k) by rw [varS, varB, if_pos hb, Int.toNat_natCast]);rw [HV.out];have hk : k ≤ 562949953421311 := by omega
  clear HV;go_enter Tryz.func65, Tryz.ntmps65;go_wp2_with fail;refine (l1In_any _ _ _ _).mono ?_;rintro e wq ⟨rfl, hwq⟩;rw [hwq];clear hwq;have hd : inB (k : Int) 0 562949953421311 = true := inB_iff.2 hb;rw [hd];clear hd hb;go_wp2_with fail
  go_loopw [0, 3] (fun nv ov wr => ∃ (m : Nat) (l : List UInt8), nv = .int .i64 m ∧ m ≤ 562949953421311 ∧ l ++ varT m = varT k ∧ Hp [] w wr [.row 5 1 ov l.length (l.map cU8)]) (fun nv _ _ => (intOf nv).toNat)
  case atStart => exact ⟨k, [], rfl, hk, rfl, H⟩
  case round =>
   clear H;obtain ⟨m, l, rfl, hm, hl, H⟩ := hrel;have HL := Lib.hid hl;have hll : l.length ≤ 7 := by have := congrArg List.length hl; rw [List.length_append] at this; omega
   clear hl
   by_cases hlt : 127 < m
   ·obtain ⟨r, hr⟩ : ∃ r : Nat, (m : Int) % 128 = (r : Int) := ⟨m % 128, by omega⟩
    obtain ⟨q, hq⟩ : ∃ q : Nat, (m : Int) / 128 = (q : Int) := ⟨m / 128, by omega⟩;have hrb : r < 128 := by omega
    obtain ⟨u, hu⟩ := byte_ofV (y := (r : Int) + 128) (by omega) (by omega);have HS := Lib.hid (show varT m = u :: varT q by
     rw [varT_hi (by omega), show m / 128 = q by omega, show m % 128 + 128 = u.toNat by omega, UInt8.ofNat_toNat])
    have hqm : q < m := by omega
    have hlt1 : 128 ≤ (m : Int) := by omega
    have hub := u.toNat_lt;have hur : 128 + (r : Int) = (u.toNat : Int) := by omega
    have a1 : (m : Int).tmod 128 = (r : Int) := by rw [Int.tmod_eq_emod_of_nonneg (by omega)]; omega
    have a2 : (m : Int).tdiv 128 = (q : Int) := by rw [Int.tdiv_eq_ediv_of_nonneg (by omega)]; omega
    have a3 : IntKind.i64.wrap (r : Int) = (r : Int) := IntWalk.i64_in _ (by omega);have a4 : IntKind.u8.wrap (u.toNat : Int) = (u.toNat : Int) := wraps_u8 _ (by omega) (by omega);have a5 : IntKind.i64.wrap (128 + (r : Int)) = (u.toNat : Int) := by rw [hur]; exact IntWalk.i64_in _ (by omega)
    clear hr hq hu;go_wp2_with (at_builtin; refine wp_appM (f := cU8) (H) rfl _ _ _ rfl Tryz.underlying22 infoU8 rfl 0 _ _ rfl rfl _ _ (u) rfl (by simp) rfl (by first | (simp only [maxLen]; omega) | (simp [maxLen]; done) | (simp [maxLen]; omega)) (by first | omega | (simp; done) | (simp; omega)) ?_)
    intro v' w5 H5;have H6 := Lib.hid (show Hp [] w w5 [.row 5 1 v' (l ++ [u]).length ((l ++ [u]).map cU8)] by
     rw [List.map_append, List.length_append]; exact H5)
    clear H H5;go_wp2_with fail;go_roundw
    case rel => exact ⟨q, l ++ [u], rfl, by omega, by rw [List.append_assoc, ← HL.out, HS.out]; rfl, H6.out⟩
    case measure => simp [intOf]; omega
   ·obtain ⟨u, hu⟩ := byte_ofV (y := (m : Int)) (by omega) (by omega)
    have HS := Lib.hid (show varT m = [u] by rw [varT_lo (by omega), show m = u.toNat by omega, UInt8.ofNat_toNat]);have hmu : m = u.toNat := by omega
    subst hmu;have hub := u.toNat_lt;have hlt1 : ¬ (127 < (u.toNat : Int)) := by omega
    have hlt2 : ¬ (128 ≤ (u.toNat : Int)) := by omega
    have hw8 : IntKind.u8.wrap (u.toNat : Int) = (u.toNat : Int) := wraps_u8 _ (by omega) (by omega);clear hu;go_wp2_with (at_builtin; refine wp_appM (f := cU8) (H) rfl _ _ _ rfl Tryz.underlying22 infoU8 rfl 0 _ _ rfl rfl _ _ (u) rfl (by simp) rfl (by first | (simp only [maxLen]; omega) | (simp [maxLen]; done) | (simp [maxLen]; omega)) (by first | omega | (simp; done) | (simp; omega)) ?_)
    intro v' w5 H5;have H6 : Hp [] w w5 [.row 5 1 v' (l.length + 1) ((l ++ [u]).map cU8)] := by
     rw [List.map_append]; exact H5.recast (by simp)
    obtain ⟨B, d, rfl⟩ := H6.shape 0 rfl;have hks := run_str (c := d) 22 9 5 Tryz.underlying22 Tryz.underlying5 Tryz.underlying9 (H6.rd 0 rfl);have HF := Lib.hid H6;clear H H5 H6;go_wp2_with fail;go_ret;have hE := HL.out;rw [HS.out] at hE;exact ⟨congrArg (fun b => Ending.returned (.string (ofB b))) hE, HF.out.fr⟩
 ·
  have hd : inB n 0 562949953421311 = false := by rw [← Bool.not_eq_true, inB_iff]; exact hb
  have hv : varS n = ByteArray.mk #[] := by rw [varS, varB, if_neg hb]; rfl
  rw [hv];go_enter Tryz.func65, Tryz.ntmps65;go_wp2_with fail;refine (l1In_any _ _ _ _).mono ?_;rintro e wq ⟨rfl, hwq⟩;rw [hwq, hd];clear hwq;go_wp2_with fail;go_ret;exact ⟨rfl, Below.refl _ _⟩
end Go.Proofs.YtmpldngnkacnmaaGreatDoor
namespace Go.Proofs.YtmpldngnkacnmaaGreatDoor
open Go.RowKit
def sgnB (c : Int) : Bool := inB c 0 1114111 && !inB c 55296 57343
theorem sgn_bounds {c : Int} (h : sgnB c = true) : 0 ≤ c ∧ c ≤ 1114111 := by
 simp only [sgnB, Bool.and_eq_true, inB_iff] at h; exact h.1
def contF (c : Int) (b : UInt8) : Option Int := if 128 ≤ b.toNat ∧ b.toNat ≤ 191 then some (c * 64 + (b.toNat : Int) % 64) else none
def accC : Int → List UInt8 → Option Int
 | c, [] => some c
 | c, b :: r => (contF c b).bind fun d => accC d r
theorem accC_snoc : ∀ (l : List UInt8) (c : Int) (b : UInt8), accC c (l ++ [b]) = (accC c l).bind fun d => contF d b
 | [], c, b => by simp only [List.nil_append, accC, Option.bind_some]; cases contF c b <;> rfl
 | a :: l, c, b => by
   simp only [List.cons_append, accC]
   cases contF c a with
   | none => rfl
   | some d => simp only [Option.bind_some]; exact accC_snoc l d b
theorem accC_top : ∀ (l : List UInt8) (c m d : Int), 0 ≤ c → c < m → accC c l = some d → 0 ≤ d ∧ d < m * 64 ^ l.length
 | [], c, m, d, h0, h1, h => by simp only [accC, Option.some.injEq] at h; subst h; simpa using ⟨h0, h1⟩
 | b :: l, c, m, d, h0, h1, h => by
   simp only [accC] at h
   rcases hc : contF c b with _ | e
   ·rw [hc] at h; cases h
   ·rw [hc, Option.bind_some] at h
    have he : 0 ≤ e ∧ e < m * 64 := by
     unfold contF at hc
     split at hc
     ·injection hc with hc; omega
     ·cases hc
    have := accC_top l e (m * 64) d he.1 he.2 h;rw [List.length_cons, Int.pow_succ]
    rwa [Int.mul_assoc, Int.mul_comm 64] at this
def leadF (b : UInt8) : Int := if b.toNat < 128 then b.toNat else if b.toNat ≤ 223 then (b.toNat : Int) % 32 else if b.toNat ≤ 239 then (b.toNat : Int) % 16 else (b.toNat : Int) % 8
def sizeF (b : UInt8) : Nat := if b.toNat < 128 then 1 else if b.toNat < 192 then 0 else if b.toNat ≤ 223 then 2 else if b.toNat ≤ 239 then 3 else if b.toNat ≤ 247 then 4 else 0
def leastC : Nat → Int
 | 2 => 128
 | 3 => 2048
 | 4 => 65536
 | _ => 0
theorem sizeF_cases (b : UInt8) : (sizeF b = 1 ∧ b.toNat < 128) ∨ (sizeF b = 0 ∧ 128 ≤ b.toNat ∧ (b.toNat < 192 ∨ 247 < b.toNat)) ∨ (sizeF b = 2 ∧ 192 ≤ b.toNat ∧ b.toNat ≤ 223) ∨ (sizeF b = 3 ∧ 224 ≤ b.toNat ∧ b.toNat ≤ 239) ∨ (sizeF b = 4 ∧ 240 ≤ b.toNat ∧ b.toNat ≤ 247) := by
 unfold sizeF
 split
 ·left; exact ⟨rfl, by assumption⟩
 ·split
  ·right; left; exact ⟨rfl, by omega, by omega⟩
  ·split
   ·right; right; left; exact ⟨rfl, by omega, by omega⟩
   ·split
    ·right; right; right; left; exact ⟨rfl, by omega, by omega⟩
    ·split
     ·right; right; right; right; exact ⟨rfl, by omega, by omega⟩
     ·right; left; exact ⟨rfl, by omega, by omega⟩
def oneT (b : UInt8) (r : List UInt8) : Int × Nat :=
 if sizeF b = 0 ∨ r.length + 1 < sizeF b then (0, 0) else
  match accC (leadF b) (r.take (sizeF b - 1)) with
  | none => (0, 0)
  | some c => if c < leastC (sizeF b) ∨ sgnB c = false then (0, 0) else (c, sizeF b)
def oneF : List UInt8 → Int × Nat
 | [] => (0, 0)
 | b :: r => oneT b r
theorem oneT_none {b : UInt8} {r : List UInt8} (h : sizeF b = 0 ∨ r.length + 1 < sizeF b) : oneT b r = (0, 0) := by rw [oneT, if_pos h]
theorem oneT_broken {b : UInt8} {r : List UInt8} (h : accC (leadF b) (r.take (sizeF b - 1)) = none) : oneT b r = (0, 0) := by
 rw [oneT]; split
 ·rfl
 ·rw [h]
theorem oneT_some {b : UInt8} {r : List UInt8} {c : Int} (h0 : sizeF b ≠ 0) (h1 : sizeF b ≤ r.length + 1) (h : accC (leadF b) (r.take (sizeF b - 1)) = some c) : oneT b r = if c < leastC (sizeF b) ∨ sgnB c = false then (0, 0) else (c, sizeF b) := by
 rw [oneT, if_neg (by omega), h]
theorem oneT_small {b : UInt8} {r : List UInt8} (h : b.toNat < 128) : oneT b r = ((b.toNat : Int), 1) := by
 have h1 : sizeF b = 1 := by rw [sizeF, if_pos h]
 have h2 : leadF b = b.toNat := by rw [leadF, if_pos h]
 rw [oneT_some (by omega) (by omega) (c := b.toNat) (by rw [h1, h2]; rfl), h1, if_neg];simp only [leastC, sgnB, inB];rintro (h3 | h3)
 ·omega
 ·simp at h3; omega
theorem oneT_good (b : UInt8) (r : List UInt8) : oneT b r = (0, 0) ∨ ((oneT b r).2 = sizeF b ∧ 0 < sizeF b ∧ sizeF b ≤ r.length + 1 ∧ sgnB (oneT b r).1 = true) := by
 rw [oneT]
 split
 ·exact .inl rfl
 ·split
  ·exact .inl rfl
  ·split
   ·exact .inl rfl
   ·rename_i h1 _ c _ h2
    right
    refine ⟨rfl, by omega, by omega, ?_⟩;simp only [not_or, Bool.not_eq_false] at h2;exact h2.2
theorem oneF_le (s : List UInt8) : (oneF s).2 ≤ s.length := by
 cases s with
 | nil => simp [oneF]
 | cons b r =>
   rcases oneT_good b r with h | h
   ·rw [oneF, h]; simp
   ·rw [oneF, h.1, List.length_cons]; omega
theorem oneF_sgn {s : List UInt8} (h : (oneF s).2 ≠ 0) : sgnB (oneF s).1 = true := by
 cases s with
 | nil => simp [oneF] at h
 | cons b r =>
   rcases oneT_good b r with h1 | h1
   ·rw [oneF, h1] at h; simp at h
   ·exact h1.2.2.2
def decF : Nat → List UInt8 → Option (List Int)
 | 0, s => if s = [] then some [] else none
 | f + 1, s => if s = [] then some [] else if (oneF s).2 = 0 then none else (decF f (s.drop (oneF s).2)).map ((oneF s).1 :: ·)
theorem decF_fuel : ∀ (f : Nat) (s : List UInt8), s.length ≤ f → decF f s = decF s.length s
 | 0, s, h => by
   have : s = [] := List.eq_nil_of_length_eq_zero (by omega);subst this; rfl
 | f + 1, [], _ => by simp [decF]
 | f + 1, b :: r, h => by
   simp only [List.length_cons] at h;rw [List.length_cons, decF, decF]
   by_cases h0 : (oneF (b :: r)).2 = 0
   ·simp [h0]
   ·have h1 : ((b :: r).drop (oneF (b :: r)).2).length ≤ r.length := by rw [List.length_drop, List.length_cons]; omega
    rw [decF_fuel f _ (by omega), decF_fuel r.length _ h1]
def decL (s : List UInt8) : Option (List Int) := decF s.length s
theorem decL_nil : decL [] = some [] := rfl
theorem decL_stop {s : List UInt8} (hs : s ≠ []) (h : (oneF s).2 = 0) : decL s = none := by
 cases s with
 | nil => exact absurd rfl hs
 | cons b r => rw [decL, List.length_cons, decF]; simp [h]
theorem decL_step {s : List UInt8} (hs : s ≠ []) (h : (oneF s).2 ≠ 0) : decL s = (decL (s.drop (oneF s).2)).map ((oneF s).1 :: ·) := by
 cases s with
 | nil => exact absurd rfl hs
 | cons b r =>
   rw [decL, List.length_cons, decF, if_neg hs, if_neg h, decF_fuel _ _ (by rw [List.length_drop, List.length_cons]; omega)]; rfl
def decR (s : List UInt8) : List Int × Bool := match decL s with
 | some l => (l, true)
 | none => ([], false)
structure DSt (s : List UInt8) (a : Nat) (o : List Int) : Prop where
 st : decL s = (decL (s.drop a)).map (o ++ ·)
 le : a ≤ s.length
 len : o.length ≤ a
 sg : ∀ x ∈ o, sgnB x = true
theorem DSt.start (s : List UInt8) : DSt s 0 [] := ⟨by simp, by omega, by simp, by simp⟩
theorem DSt.next {s : List UInt8} {a k : Nat} {o : List Int} {c : Int} (h : DSt s a o) (ha : a < s.length) (hp : oneF (s.drop a) = (c, k)) (hk : k ≠ 0) : DSt s (a + k) (o ++ [c]) := by
 have hne : s.drop a ≠ [] := by intro e; have := congrArg List.length e; simp at this; omega
 have h1 := decL_step hne (by rw [hp]; exact hk);have h2 := oneF_le (s.drop a);have h3 := oneF_sgn (s := s.drop a) (by rw [hp]; exact hk);rw [hp] at h1 h2 h3;simp only [List.drop_drop] at h1;refine ⟨?_, by simp only [List.length_drop] at h2; omega, by have := h.len; rw [List.length_append, List.length_singleton]; omega, ?_⟩
 ·rw [h.st, h1]
  cases decL (s.drop (a + k)) <;> simp
 ·intro x hx
  rcases List.mem_append.1 hx with h4 | h4
  ·exact h.sg x h4
  ·rw [List.mem_singleton.1 h4]; exact h3
theorem DSt.stop {s : List UInt8} {a : Nat} {o : List Int} {c : Int} (h : DSt s a o) (ha : a < s.length) (hp : oneF (s.drop a) = (c, 0)) : decR s = ([], false) := by
 have hne : s.drop a ≠ [] := by intro e; have := congrArg List.length e; simp at this; omega
 rw [decR, h.st, decL_stop hne (by rw [hp])]; rfl
theorem DSt.done {s : List UInt8} {a : Nat} {o : List Int} (h : DSt s a o) (ha : s.length ≤ a) : decR s = (o, true) := by
 rw [decR, h.st, List.drop_of_length_le ha, decL_nil]; simp
theorem decF_good : ∀ (f : Nat) (s : List UInt8) (l : List Int), decF f s = some l → l.length ≤ s.length ∧ ∀ x ∈ l, sgnB x = true
 | 0, s, l, h => by
   rw [decF] at h
   split at h
   ·injection h with h; subst h; simp
   ·cases h
 | f + 1, s, l, h => by
   rw [decF] at h
   split at h
   ·injection h with h; subst h; simp
   ·split at h
    ·cases h
    ·rename_i h0
     rcases hd : decF f (s.drop (oneF s).2) with _ | l'
     ·rw [hd] at h; cases h
     ·rw [hd] at h
      simp only [Option.map_some, Option.some.injEq] at h;subst h;have h1 := decF_good f _ _ hd;have h2 := oneF_le s;rw [List.length_drop] at h1;refine ⟨by rw [List.length_cons]; omega, fun x hx => ?_⟩
      rcases List.mem_cons.1 hx with rfl | hx
      ·exact oneF_sgn h0
      ·exact h1.2 x hx
theorem decR_good (s : List UInt8) : (decR s).1.length ≤ s.length ∧ ∀ x ∈ (decR s).1, sgnB x = true := by
 rw [decR]
 rcases h : decL s with _ | l
 ·simp
 ·exact decF_good _ _ _ h
def u8 (x : Int) : UInt8 := UInt8.ofNat x.toNat
theorem u8_val {x : Int} (h0 : 0 ≤ x) (h1 : x < 256) : ((u8 x).toNat : Int) = x := by
 rw [u8, UInt8.toNat_ofNat_of_lt' (by simp [UInt8.size]; omega)];omega
def szC (c : Int) : Nat := if c < 128 then 1 else if c < 2048 then 2 else if c < 65536 then 3 else 4
def enc1 (c : Int) : List UInt8 :=
 if c < 128 then [u8 c] else if c < 2048 then [u8 (192 + c / 64), u8 (128 + c % 64)]
 else if c < 65536 then [u8 (224 + c / 4096), u8 (128 + c / 64 % 64), u8 (128 + c % 64)]
 else [u8 (240 + c / 262144), u8 (128 + c / 4096 % 64), u8 (128 + c / 64 % 64), u8 (128 + c % 64)]
theorem enc1_len (c : Int) : (enc1 c).length = szC c := by
 unfold enc1 szC
 split
 ·rfl
 ·split
  ·rfl
  ·split <;> rfl
theorem szC_le (c : Int) : szC c ≤ 4 := by unfold szC; split <;> (try omega); split <;> (try omega); split <;> omega
def encL (l : List Int) : List UInt8 := if l.all sgnB = true then l.flatMap enc1 else []
theorem encL_bad {l : List Int} {c : Int} {i : Nat} (hx : l[i]? = some c) (h : sgnB c = false) : encL l = [] := by
 rw [encL, if_neg];intro h1;rw [List.all_eq_true.1 h1 c (List.mem_of_getElem? hx)] at h
 cases h
theorem encL_good {l : List Int} (h : ∀ x ∈ l, sgnB x = true) : encL l = l.flatMap enc1 := by rw [encL, if_pos (List.all_eq_true.2 h)]
theorem flat1_le : ∀ l : List Int, (l.flatMap enc1).length ≤ 4 * l.length
 | [] => by simp
 | c :: l => by
   have := flat1_le l;have h2 := szC_le c;rw [List.flatMap_cons, List.length_append, enc1_len, List.length_cons]; omega
theorem encL_le (l : List Int) : (encL l).length ≤ 4 * l.length := by
 rw [encL]; split
 ·exact flat1_le l
 ·simp
theorem size_least {b : UInt8} {r : List UInt8} {c : Int} (h0 : sizeF b ≠ 0) (h1 : sizeF b ≤ r.length + 1) (h : accC (leadF b) (r.take (sizeF b - 1)) = some c) (hs : sgnB c = true) : (c < leastC (sizeF b)) ↔ szC c ≠ sizeF b := by
 have hb := sgn_bounds hs;have hlen : (r.take (sizeF b - 1)).length = sizeF b - 1 := by rw [List.length_take]; omega
 rcases sizeF_cases b with ⟨h2, h3⟩ | ⟨h2, _⟩ | ⟨h2, h3⟩ | ⟨h2, h3⟩ | ⟨h2, h3⟩
 ·rw [h2] at h ⊢
  simp only [Nat.sub_self, List.take_zero, accC, Option.some.injEq] at h;rw [leadF, if_pos h3] at h;subst h;simp only [leastC, szC];rw [if_pos (by omega)];constructor <;> intro h4 <;> omega
 ·exact absurd h2 h0
 ·have h5 := accC_top _ _ 32 _ (by rw [leadF, if_neg (by omega), if_pos (by omega)]; omega) (by rw [leadF, if_neg (by omega), if_pos (by omega)]; omega) h
  rw [hlen, h2] at h5;rw [h2];simp only [leastC, szC];rw [show (32 : Int) * 64 ^ (2 - 1) = 2048 from by decide] at h5;constructor
  ·intro h4; rw [if_pos h4]; omega
  ·intro h4
   by_cases h6 : c < 128
   ·exact h6
   ·rw [if_neg h6, if_pos (by omega)] at h4; exact absurd rfl h4
 ·have h5 := accC_top _ _ 16 _ (by rw [leadF, if_neg (by omega), if_neg (by omega), if_pos (by omega)]; omega) (by rw [leadF, if_neg (by omega), if_neg (by omega), if_pos (by omega)]; omega) h
  rw [hlen, h2] at h5;rw [h2];simp only [leastC, szC];rw [show (16 : Int) * 64 ^ (3 - 1) = 65536 from by decide] at h5;constructor
  ·intro h4
   split
   ·omega
   ·omega
  ·intro h4
   by_cases h6 : c < 2048
   ·exact h6
   ·rw [if_neg (by omega), if_neg h6, if_pos (by omega)] at h4; exact absurd rfl h4
 ·rw [h2]
  simp only [leastC, szC];constructor
  ·intro h4
   split
   ·omega
   ·split
    ·omega
    ·omega
  ·intro h4
   by_cases h6 : c < 65536
   ·exact h6
   ·rw [if_neg (by omega), if_neg (by omega), if_neg h6] at h4; exact absurd rfl h4
theorem lead_bounds (b : UInt8) : 0 ≤ leadF b ∧ (sizeF b ≠ 1 → sizeF b ≠ 0 → leadF b < 32) := by
 rcases sizeF_cases b with ⟨h2, h3⟩ | ⟨h2, h3⟩ | ⟨h2, h3⟩ | ⟨h2, h3⟩ | ⟨h2, h3⟩
 ·exact ⟨by rw [leadF, if_pos h3]; omega, fun h => absurd h2 h⟩
 ·refine ⟨?_, fun _ h => absurd h2 h⟩
  unfold leadF; split
  ·omega
  ·split
   ·omega
   ·split <;> omega
 ·rw [leadF, if_neg (by omega), if_pos (by omega)]; exact ⟨by omega, fun _ _ => by omega⟩
 ·rw [leadF, if_neg (by omega), if_neg (by omega), if_pos (by omega)]; exact ⟨by omega, fun _ _ => by omega⟩
 ·rw [leadF, if_neg (by omega), if_neg (by omega), if_neg (by omega)]; exact ⟨by omega, fun _ _ => by omega⟩
theorem wraps_i64 (n : Int) (h₀ : 0 ≤ n) (h₁ : n < 2 ^ 63) : IntKind.i64.wrap n = n := IntWalk.i64_in _ (by omega)
theorem and_63 {c : Int} (h0 : 0 ≤ c) (h1 : c < 9223372036854775808) : bits .and .i64 c 63 = c % 64 := bits_mask .i64 63 (by decide) wraps_i64 6 (by decide) c h0 (by omega)
theorem and_31 {c : Int} (h0 : 0 ≤ c) (h1 : c < 9223372036854775808) : bits .and .i64 c 31 = c % 32 := bits_mask .i64 63 (by decide) wraps_i64 5 (by decide) c h0 (by omega)
theorem and_15 {c : Int} (h0 : 0 ≤ c) (h1 : c < 9223372036854775808) : bits .and .i64 c 15 = c % 16 := bits_mask .i64 63 (by decide) wraps_i64 4 (by decide) c h0 (by omega)
theorem and_7 {c : Int} (h0 : 0 ≤ c) (h1 : c < 9223372036854775808) : bits .and .i64 c 7 = c % 8 := bits_mask .i64 63 (by decide) wraps_i64 3 (by decide) c h0 (by omega)
theorem and8_63 {c : Int} (h0 : 0 ≤ c) (h1 : c < 256) : bits .and .u8 c 63 = c % 64 := bits_mask .u8 8 (by decide) wraps_u8 6 (by decide) c h0 (by omega)
theorem or_join (i : Nat) {x y : Int} (hx0 : 0 ≤ x) (hx : x % 2 ^ i = 0) (hx1 : x < 9223372036854775808) (hy0 : 0 ≤ y) (hy : y < 2 ^ i) (hy1 : y < 9223372036854775808) : bits .or .i64 x y = x + y :=
 bits_join .i64 63 (by decide) wraps_i64 i x y hx0 hx (by omega) hy0 hy (by omega)
theorem and_192 : ((List.range 256).all fun (n : Nat) => (bits .and .u8 (n : Int) 192 == 128) == (decide (128 ≤ n) && decide (n ≤ 191))) = true := by decide +kernel
theorem cont_byte (b : UInt8) : (bits .and .u8 (b.toNat : Int) 192 == 128) = (decide (128 ≤ b.toNat) && decide (b.toNat ≤ 191)) := by
 have h := List.all_eq_true.1 and_192 b.toNat (List.mem_range.2 b.toNat_lt);simpa using h
end Go.Proofs.YtmpldngnkacnmaaGreatDoor
namespace Go.Proofs.YtmpldngnkacnmaaGreatDoor
open Go.RowKit
theorem toB_get {s : ByteArray} {i : Nat} {b : UInt8} (h : (toB s)[i]? = some b) (hs : i < s.size) : s[i] = b := by
 have : s[i] = (toB s)[i]'(by rw [toB_len]; exact hs) := by
  simp only [toB, Array.getElem_toList]; rfl
 rw [this];exact (List.getElem?_eq_some_iff.1 h).2
theorem implSign_any (c : Int) (w : World) :
 Calls Tryz.prog 128 #[.int .i64 c] w fun e w' => e = .returned (.bool (sgnB c)) ∧ w' = w := by
 obtain ⟨q, hq⟩ : ∃ q, q = sgnB c := ⟨_, rfl⟩;have HQ := Lib.hid hq;rw [← hq];clear hq;go_enter Tryz.func128, Tryz.ntmps128;go_wp2_with fail;refine (within_any _ _ _ _).mono ?_;rintro e w ⟨rfl, rfl⟩
 rcases (show inB c 0 1114111 = true ∨ inB c 0 1114111 = false by cases inB c 0 1114111 <;> simp) with h1 | h1
 ·rw [h1]
  go_wp2_with fail;refine (within_any _ _ _ _).mono ?_;rintro e w ⟨rfl, rfl⟩;go_wp2_with fail;go_ret;rw [HQ.out, sgnB, h1];exact ⟨rfl, rfl⟩
 ·rw [h1]
  go_wp2_with fail;go_ret;rw [HQ.out, sgnB, h1];exact ⟨rfl, rfl⟩
theorem specSign_any (c : Int) (w : World) :
 Calls Tryz.prog 112 #[.int .i64 c] w fun e w' => e = .returned (.bool (sgnB c)) ∧ w' = w := by
 obtain ⟨q, hq⟩ : ∃ q, q = sgnB c := ⟨_, rfl⟩;have HQ := Lib.hid hq;rw [← hq];clear hq;go_enter Tryz.func112, Tryz.ntmps112;go_wp2_with fail;refine (l1In_any _ _ _ _).mono ?_;rintro e w ⟨rfl, rfl⟩
 rcases (show inB c 0 1114111 = true ∨ inB c 0 1114111 = false by cases inB c 0 1114111 <;> simp) with h1 | h1
 ·rw [h1]
  go_wp2_with fail;refine (l1In_any _ _ _ _).mono ?_;rintro e w ⟨rfl, rfl⟩;go_wp2_with fail;go_ret;rw [HQ.out, sgnB, h1];exact ⟨rfl, rfl⟩
 ·rw [h1]
  go_wp2_with fail;go_ret;rw [HQ.out, sgnB, h1];exact ⟨rfl, rfl⟩
theorem implLeast_any (n : Nat) (w : World) (hn : n ≤ 4) :
 Calls Tryz.prog 136 #[.int .i64 n] w fun e w' => e = .returned (.int .i64 (leastC n)) ∧ Fr w w' := by
 have HF := Lib.hid (((Hp.start w).lit 3 1 5 [.int .i64 0, .int .i64 0, .int .i64 128, .int .i64 2048, .int .i64 65536] rfl (by simp [maxLen])).fr)
 rcases (show n = 0 ∨ n = 1 ∨ n = 2 ∨ n = 3 ∨ n = 4 by omega) with rfl | rfl | rfl | rfl | rfl
 all_goals
  go_enter Tryz.func136, Tryz.ntmps136;go_wp2_with fail;go_ret;exact ⟨rfl, HF.out⟩
theorem accC_app : ∀ (l m : List UInt8) (c : Int), accC c (l ++ m) = (accC c l).bind fun d => accC d m
 | [], m, c => rfl
 | a :: l, m, c => by
   simp only [List.cons_append, accC]
   cases contF c a with
   | none => rfl
   | some d => simp only [Option.bind_some]; exact accC_app l m d
theorem accC_take_none {r : List UInt8} {c0 c : Int} {i k : Nat} {x : UInt8} (h : accC c0 (r.take i) = some c) (hx : r[i]? = some x) (hc : contF c x = none) (hk : i < k) : accC c0 (r.take k) = none := by
 have e : r.take k = r.take i ++ x :: (r.drop (i + 1)).take (k - i - 1) := by
  obtain ⟨hi, e⟩ := List.getElem?_eq_some_iff.1 hx;have h1 : r.take k = (r.take k).take i ++ (r.take k).drop i := (List.take_append_drop _ _).symm;rw [List.take_take, Nat.min_eq_left (by omega), List.drop_take, List.drop_eq_getElem_cons hi, e, show k - i = (k - i - 1) + 1 by omega, List.take_succ_cons] at h1;exact h1
 rw [e, accC_app, h, Option.bind_some, accC, hc]; rfl
theorem accC_take_some {r : List UInt8} {c0 c d : Int} {i : Nat} {x : UInt8} (h : accC c0 (r.take i) = some c) (hx : r[i]? = some x) (hc : contF c x = some d) : accC c0 (r.take (i + 1)) = some d := by
 rw [List.take_add_one, hx, Option.toList_some, accC_snoc, h, Option.bind_some, hc]
theorem acc_bound {b : UInt8} {r : List UInt8} {i : Nat} {c : Int} (h0 : sizeF b ≠ 0) (h1 : sizeF b ≠ 1) (hi : i ≤ 3) (h : accC (leadF b) (r.take i) = some c) : 0 ≤ c ∧ c < 8388608 := by
 have hl := (lead_bounds b);have h2 := accC_top _ _ 32 _ hl.1 (hl.2 h1 h0) h;have h3 : (r.take i).length ≤ 3 := by rw [List.length_take]; omega
 refine ⟨h2.1, Int.lt_of_lt_of_le h2.2 ?_⟩
 rcases (show (r.take i).length = 0 ∨ (r.take i).length = 1 ∨ (r.take i).length = 2 ∨ (r.take i).length = 3 by omega) with e | e | e | e <;> rw [e] <;> decide
set_option maxRecDepth 100000 in
set_option maxHeartbeats 4000000 in
theorem implSignAt_any (s : ByteArray) (b : UInt8) (r : List UInt8) (w : World) (hs : toB s = b :: r) (hz : s.size ≤ 1000000000) :
 Calls Tryz.prog 127 #[.string s] w fun e w' => e = .returned (.tuple #[.int .i64 (oneT b r).1, .int .i64 ((oneT b r).2 : Nat)]) ∧ Fr w w' := by
 obtain ⟨p, hp⟩ : ∃ p, p = oneT b r := ⟨_, rfl⟩;have HP := Lib.hid hp;rw [← hp];clear hp;have HS := Lib.hid hs;have hsz : s.size = r.length + 1 := by rw [← toB_len, hs]; rfl
 have hks : 0 < s.size := by omega
 have e1 : s[0] = b := toB_get (by rw [hs]; rfl) hks;have hb0 : ((s[0]).toNat : Int) ≤ 255 := by have := (s[0]).toNat_lt; omega
 have hb1 : (0 : Int) ≤ ((s[0]).toNat : Int) := by omega
 have hlt2 : (0 : Int) < (s.size : Int) := by omega
 have HB := Lib.hid (show (s[0]).toNat = b.toNat by rw [e1]);have HSIZE := Lib.hid hsz;clear hs e1 hsz;go_enter Tryz.func127, Tryz.ntmps127
 rcases sizeF_cases b with ⟨hb, hbb⟩ | ⟨hb, hbb⟩ | ⟨hb, hbb⟩ | ⟨hb, hbb⟩ | ⟨hb, hbb⟩
 ·have hd : decide (((s[0]).toNat : Int) < 128) = true := by rw [HB.out]; simp; omega
  have HE := Lib.hid (HP.out.trans (oneT_small hbb));go_wp2_with fail;go_ret2;rw [HE.out, HB.out];exact ⟨rfl, Below.refl _ _⟩
 ·have hd : decide (((s[0]).toNat : Int) < 128) = false := by rw [HB.out]; simp; omega
  have HE := Lib.hid (HP.out.trans (oneT_none (.inl hb)));go_wp2_with fail;refine (within_any _ _ _ _).mono ?_;rintro e w ⟨rfl, rfl⟩;have h1 : inB ((s[0]).toNat : Int) 192 223 = false := by rw [HB.out]; simp [inB]; omega
  rw [h1];go_wp2_with fail;refine (within_any _ _ _ _).mono ?_;rintro e w ⟨rfl, rfl⟩;have h2 : inB ((s[0]).toNat : Int) 224 239 = false := by rw [HB.out]; simp [inB]; omega
  rw [h2];go_wp2_with fail;refine (within_any _ _ _ _).mono ?_;rintro e w ⟨rfl, rfl⟩;have h3 : inB ((s[0]).toNat : Int) 240 247 = false := by rw [HB.out]; simp [inB]; omega
  rw [h3];go_wp2_with fail;go_ret2;rw [HE.out];exact ⟨rfl, Below.refl _ _⟩
 ·have hd : decide (((s[0]).toNat : Int) < 128) = false := by rw [HB.out]; simp; omega
  go_wp2_with fail;refine (within_any _ _ _ _).mono ?_;rintro e w ⟨rfl, rfl⟩;have h1 : inB ((s[0]).toNat : Int) 192 223 = true := by rw [HB.out]; simp [inB]; omega
  rw [h1];obtain ⟨c0, hc0⟩ : ∃ q, q = leadF b := ⟨_, rfl⟩;have ha : bits .and .i64 ((s[0]).toNat : Int) 31 = c0 := by
   rw [and_31 (by omega) (by omega), HB.out, hc0, leadF, if_neg (by omega), if_pos (by omega)]
  have HC0 := Lib.hid hc0;clear hc0;have HSZ := Lib.hid hb;have hl := lead_bounds b
  by_cases hlen : s.size < 2
  ·have HE := Lib.hid (HP.out.trans (oneT_none (.inr (by rw [HSZ.out, ← HSIZE.out]; omega))))
   have hd : decide ((s.size : Int) < 2) = true := by simp; omega
   go_wp2_with fail;go_ret2;rw [HE.out];exact ⟨rfl, Below.refl _ _⟩
  ·have hd : decide ((s.size : Int) < 2) = false := by simp; omega
   go_wp2_with fail
   go_loopw [6, 7] (fun cv iv wr => ∃ (i : Nat) (c : Int), iv = .int .i64 ((i + 1 : Nat) : Int) ∧ cv = .int .i64 c ∧ i + 1 ≤ 2 ∧ accC (leadF b) (r.take i) = some c ∧ wr = w) (fun _ iv _ => 2 - (intOf iv).toNat)
   case atStart => exact ⟨0, c0, rfl, rfl, by omega, by rw [HC0.out]; rfl, rfl⟩
   case round =>
    obtain ⟨i, c, rfl, rfl, hi, hacc, rfl⟩ := hrel;have hcb := acc_bound (by rw [HSZ.out]; omega) (by rw [HSZ.out]; omega) (by omega) hacc;have HA := Lib.hid hacc;clear hacc
    by_cases hlt : i + 1 < 2
    ·obtain ⟨x, hx⟩ := some_at (l := toB s) (toB_len s) (show i + 1 < s.size by omega)
     have hks : i + 1 < s.size := by omega
     have e1 : s[i + 1] = x := toB_get hx hks;have hx' : r[i]? = some x := by rw [HS.out] at hx; simpa using hx
     have HX := Lib.hid hx';have HCB := Lib.hid (cont_byte x);obtain ⟨v, hv⟩ : ∃ v : Int, v = ((s[i + 1]).toNat : Int) := ⟨_, rfl⟩;have hv2 : ((s[i + 1]).toNat : Int) = (x.toNat : Int) := by rw [e1]
     have hxb := x.toNat_lt;rw [← hv2] at HCB;have hi1 : ((i + 1 : Nat) : Int) < (s.size : Int) := by omega
     have hi2 : (0 : Int) ≤ ((i + 1 : Nat) : Int) := by omega
     have hi3 : ((i + 1 : Nat) : Int) < 2 := by omega
     by_cases hc : 128 ≤ x.toNat ∧ x.toNat ≤ 191
     ·have hcf : contF c x = some (c * 64 + (x.toNat : Int) % 64) := by rw [contF, if_pos hc]
      have hd1 : (bits .and .u8 ((s[i + 1]).toNat : Int) 192 == 128) = true := by
       rw [HCB.out]; simp; omega
      have hsh : IntKind.i64.wrap (c * 64) = c * 64 := IntWalk.i64_in _ (by omega);obtain ⟨y, hyy⟩ : ∃ y : Int, y = (x.toNat : Int) % 64 := ⟨_, rfl⟩;have hy1 : bits .and .u8 ((s[i + 1]).toNat : Int) 63 = y := by rw [hv2, hyy]; exact and8_63 (by omega) (by omega)
      have hy0 : 0 ≤ y ∧ y < 64 := by omega
      have hw : IntKind.i64.wrap y = y := IntWalk.i64_in _ (by omega);obtain ⟨d, hdd⟩ : ∃ d : Int, d = c * 64 + y := ⟨_, rfl⟩;have hor : bits .or .i64 (c * 64) y = d := by rw [hdd]; exact or_join 6 (by omega) (by omega) (by omega) (by omega) (by omega) (by omega)
      have HCF := Lib.hid (hcf.trans (by rw [← hyy, ← hdd]));clear hv hv2 e1 hx hx' hcf hyy hdd;go_wp2_with fail;go_roundw
      case rel => exact ⟨i + 1, d, by go_num, rfl, by omega, accC_take_some HA.out HX.out HCF.out, by first | rfl | trivial⟩
      case measure => simp [intOf]; omega
     ·have hcf : contF c x = none := by rw [contF, if_neg hc]
      have HE := Lib.hid (HP.out.trans (oneT_broken (by rw [HSZ.out]; exact accC_take_none HA.out HX.out hcf (by omega))));have hd1 : (bits .and .u8 ((s[i + 1]).toNat : Int) 192 == 128) = false := by
       rw [HCB.out]; simp; omega
      clear hv hv2 e1 hx hx';go_wp2_with fail;go_ret2;rw [HE.out];exact ⟨rfl, Below.refl _ _⟩
    ·have hge : ¬ (((i + 1 : Nat) : Int) < 2) := by omega
     have hi2 : i = 2 - 1 := by omega
     subst hi2;have HE := Lib.hid (HP.out.trans (oneT_some (by rw [HSZ.out]; omega) (by rw [HSZ.out, ← HSIZE.out]; omega) (by rw [HSZ.out]; exact HA.out)));go_wp2_with fail;refine (implLeast_any 2 _ (by decide)).mono ?_;rintro e w1 ⟨rfl, f1⟩
     by_cases hle : c < leastC 2
     ·have hd1 : decide (c < leastC 2) = true := by simpa using hle
      go_wp2_with fail;go_ret2;rw [HE.out, HSZ.out, if_pos (.inl hle)];exact ⟨rfl, f1⟩
     ·have hd1 : decide (c < leastC 2) = false := by simpa using hle
      go_wp2_with fail;refine (implSign_any _ _).mono ?_;rintro e w2 ⟨rfl, hw2⟩;rw [← hw2] at f1;clear hw2
      rcases (show sgnB c = true ∨ sgnB c = false by cases sgnB c <;> simp) with hsg | hsg
      ·rw [hsg]
       go_wp2_with fail;go_ret2;rw [HE.out, HSZ.out, if_neg (by rw [hsg]; simp; omega)];exact ⟨rfl, f1⟩
      ·rw [hsg]
       go_wp2_with fail;go_ret2;rw [HE.out, HSZ.out, if_pos (.inr hsg)];exact ⟨rfl, f1⟩
 ·have hd : decide (((s[0]).toNat : Int) < 128) = false := by rw [HB.out]; simp; omega
  go_wp2_with fail;refine (within_any _ _ _ _).mono ?_;rintro e w ⟨rfl, rfl⟩;have h1 : inB ((s[0]).toNat : Int) 192 223 = false := by rw [HB.out]; simp [inB]; omega
  rw [h1];go_wp2_with fail;refine (within_any _ _ _ _).mono ?_;rintro e w ⟨rfl, rfl⟩;have h2 : inB ((s[0]).toNat : Int) 224 239 = true := by rw [HB.out]; simp [inB]; omega
  rw [h2];obtain ⟨c0, hc0⟩ : ∃ q, q = leadF b := ⟨_, rfl⟩;have ha : bits .and .i64 ((s[0]).toNat : Int) 15 = c0 := by
   rw [and_15 (by omega) (by omega), HB.out, hc0, leadF, if_neg (by omega), if_neg (by omega), if_pos (by omega)]
  have HC0 := Lib.hid hc0;clear hc0;have HSZ := Lib.hid hb;have hl := lead_bounds b
  by_cases hlen : s.size < 3
  ·have HE := Lib.hid (HP.out.trans (oneT_none (.inr (by rw [HSZ.out, ← HSIZE.out]; omega))))
   have hd : decide ((s.size : Int) < 3) = true := by simp; omega
   go_wp2_with fail;go_ret2;rw [HE.out];exact ⟨rfl, Below.refl _ _⟩
  ·have hd : decide ((s.size : Int) < 3) = false := by simp; omega
   go_wp2_with fail
   go_loopw [6, 7] (fun cv iv wr => ∃ (i : Nat) (c : Int), iv = .int .i64 ((i + 1 : Nat) : Int) ∧ cv = .int .i64 c ∧ i + 1 ≤ 3 ∧ accC (leadF b) (r.take i) = some c ∧ wr = w) (fun _ iv _ => 3 - (intOf iv).toNat)
   case atStart => exact ⟨0, c0, rfl, rfl, by omega, by rw [HC0.out]; rfl, rfl⟩
   case round =>
    obtain ⟨i, c, rfl, rfl, hi, hacc, rfl⟩ := hrel;have hcb := acc_bound (by rw [HSZ.out]; omega) (by rw [HSZ.out]; omega) (by omega) hacc;have HA := Lib.hid hacc;clear hacc
    by_cases hlt : i + 1 < 3
    ·obtain ⟨x, hx⟩ := some_at (l := toB s) (toB_len s) (show i + 1 < s.size by omega)
     have hks : i + 1 < s.size := by omega
     have e1 : s[i + 1] = x := toB_get hx hks;have hx' : r[i]? = some x := by rw [HS.out] at hx; simpa using hx
     have HX := Lib.hid hx';have HCB := Lib.hid (cont_byte x);obtain ⟨v, hv⟩ : ∃ v : Int, v = ((s[i + 1]).toNat : Int) := ⟨_, rfl⟩;have hv2 : ((s[i + 1]).toNat : Int) = (x.toNat : Int) := by rw [e1]
     have hxb := x.toNat_lt;rw [← hv2] at HCB;have hi1 : ((i + 1 : Nat) : Int) < (s.size : Int) := by omega
     have hi2 : (0 : Int) ≤ ((i + 1 : Nat) : Int) := by omega
     have hi3 : ((i + 1 : Nat) : Int) < 3 := by omega
     by_cases hc : 128 ≤ x.toNat ∧ x.toNat ≤ 191
     ·have hcf : contF c x = some (c * 64 + (x.toNat : Int) % 64) := by rw [contF, if_pos hc]
      have hd1 : (bits .and .u8 ((s[i + 1]).toNat : Int) 192 == 128) = true := by
       rw [HCB.out]; simp; omega
      have hsh : IntKind.i64.wrap (c * 64) = c * 64 := IntWalk.i64_in _ (by omega);obtain ⟨y, hyy⟩ : ∃ y : Int, y = (x.toNat : Int) % 64 := ⟨_, rfl⟩;have hy1 : bits .and .u8 ((s[i + 1]).toNat : Int) 63 = y := by rw [hv2, hyy]; exact and8_63 (by omega) (by omega)
      have hy0 : 0 ≤ y ∧ y < 64 := by omega
      have hw : IntKind.i64.wrap y = y := IntWalk.i64_in _ (by omega);obtain ⟨d, hdd⟩ : ∃ d : Int, d = c * 64 + y := ⟨_, rfl⟩;have hor : bits .or .i64 (c * 64) y = d := by rw [hdd]; exact or_join 6 (by omega) (by omega) (by omega) (by omega) (by omega) (by omega)
      have HCF := Lib.hid (hcf.trans (by rw [← hyy, ← hdd]));clear hv hv2 e1 hx hx' hcf hyy hdd;go_wp2_with fail;go_roundw
      case rel => exact ⟨i + 1, d, by go_num, rfl, by omega, accC_take_some HA.out HX.out HCF.out, by first | rfl | trivial⟩
      case measure => simp [intOf]; omega
     ·have hcf : contF c x = none := by rw [contF, if_neg hc]
      have HE := Lib.hid (HP.out.trans (oneT_broken (by rw [HSZ.out]; exact accC_take_none HA.out HX.out hcf (by omega))));have hd1 : (bits .and .u8 ((s[i + 1]).toNat : Int) 192 == 128) = false := by
       rw [HCB.out]; simp; omega
      clear hv hv2 e1 hx hx';go_wp2_with fail;go_ret2;rw [HE.out];exact ⟨rfl, Below.refl _ _⟩
    ·have hge : ¬ (((i + 1 : Nat) : Int) < 3) := by omega
     have hi2 : i = 3 - 1 := by omega
     subst hi2;have HE := Lib.hid (HP.out.trans (oneT_some (by rw [HSZ.out]; omega) (by rw [HSZ.out, ← HSIZE.out]; omega) (by rw [HSZ.out]; exact HA.out)));go_wp2_with fail;refine (implLeast_any 3 _ (by decide)).mono ?_;rintro e w1 ⟨rfl, f1⟩
     by_cases hle : c < leastC 3
     ·have hd1 : decide (c < leastC 3) = true := by simpa using hle
      go_wp2_with fail;go_ret2;rw [HE.out, HSZ.out, if_pos (.inl hle)];exact ⟨rfl, f1⟩
     ·have hd1 : decide (c < leastC 3) = false := by simpa using hle
      go_wp2_with fail;refine (implSign_any _ _).mono ?_;rintro e w2 ⟨rfl, hw2⟩;rw [← hw2] at f1;clear hw2
      rcases (show sgnB c = true ∨ sgnB c = false by cases sgnB c <;> simp) with hsg | hsg
      ·rw [hsg]
       go_wp2_with fail;go_ret2;rw [HE.out, HSZ.out, if_neg (by rw [hsg]; simp; omega)];exact ⟨rfl, f1⟩
      ·rw [hsg]
       go_wp2_with fail;go_ret2;rw [HE.out, HSZ.out, if_pos (.inr hsg)];exact ⟨rfl, f1⟩
 ·have hd : decide (((s[0]).toNat : Int) < 128) = false := by rw [HB.out]; simp; omega
  go_wp2_with fail;refine (within_any _ _ _ _).mono ?_;rintro e w ⟨rfl, rfl⟩;have h1 : inB ((s[0]).toNat : Int) 192 223 = false := by rw [HB.out]; simp [inB]; omega
  rw [h1];go_wp2_with fail;refine (within_any _ _ _ _).mono ?_;rintro e w ⟨rfl, rfl⟩;have h2 : inB ((s[0]).toNat : Int) 224 239 = false := by rw [HB.out]; simp [inB]; omega
  rw [h2];go_wp2_with fail;refine (within_any _ _ _ _).mono ?_;rintro e w ⟨rfl, rfl⟩;have h3 : inB ((s[0]).toNat : Int) 240 247 = true := by rw [HB.out]; simp [inB]; omega
  rw [h3];obtain ⟨c0, hc0⟩ : ∃ q, q = leadF b := ⟨_, rfl⟩;have ha : bits .and .i64 ((s[0]).toNat : Int) 7 = c0 := by
   rw [and_7 (by omega) (by omega), HB.out, hc0, leadF, if_neg (by omega), if_neg (by omega), if_neg (by omega)]
  have HC0 := Lib.hid hc0;clear hc0;have HSZ := Lib.hid hb;have hl := lead_bounds b
  by_cases hlen : s.size < 4
  ·have HE := Lib.hid (HP.out.trans (oneT_none (.inr (by rw [HSZ.out, ← HSIZE.out]; omega))))
   have hd : decide ((s.size : Int) < 4) = true := by simp; omega
   go_wp2_with fail;go_ret2;rw [HE.out];exact ⟨rfl, Below.refl _ _⟩
  ·have hd : decide ((s.size : Int) < 4) = false := by simp; omega
   go_wp2_with fail
   go_loopw [6, 7] (fun cv iv wr => ∃ (i : Nat) (c : Int), iv = .int .i64 ((i + 1 : Nat) : Int) ∧ cv = .int .i64 c ∧ i + 1 ≤ 4 ∧ accC (leadF b) (r.take i) = some c ∧ wr = w) (fun _ iv _ => 4 - (intOf iv).toNat)
   case atStart => exact ⟨0, c0, rfl, rfl, by omega, by rw [HC0.out]; rfl, rfl⟩
   case round =>
    obtain ⟨i, c, rfl, rfl, hi, hacc, rfl⟩ := hrel;have hcb := acc_bound (by rw [HSZ.out]; omega) (by rw [HSZ.out]; omega) (by omega) hacc;have HA := Lib.hid hacc;clear hacc
    by_cases hlt : i + 1 < 4
    ·obtain ⟨x, hx⟩ := some_at (l := toB s) (toB_len s) (show i + 1 < s.size by omega)
     have hks : i + 1 < s.size := by omega
     have e1 : s[i + 1] = x := toB_get hx hks;have hx' : r[i]? = some x := by rw [HS.out] at hx; simpa using hx
     have HX := Lib.hid hx';have HCB := Lib.hid (cont_byte x);obtain ⟨v, hv⟩ : ∃ v : Int, v = ((s[i + 1]).toNat : Int) := ⟨_, rfl⟩;have hv2 : ((s[i + 1]).toNat : Int) = (x.toNat : Int) := by rw [e1]
     have hxb := x.toNat_lt;rw [← hv2] at HCB;have hi1 : ((i + 1 : Nat) : Int) < (s.size : Int) := by omega
     have hi2 : (0 : Int) ≤ ((i + 1 : Nat) : Int) := by omega
     have hi3 : ((i + 1 : Nat) : Int) < 4 := by omega
     by_cases hc : 128 ≤ x.toNat ∧ x.toNat ≤ 191
     ·have hcf : contF c x = some (c * 64 + (x.toNat : Int) % 64) := by rw [contF, if_pos hc]
      have hd1 : (bits .and .u8 ((s[i + 1]).toNat : Int) 192 == 128) = true := by
       rw [HCB.out]; simp; omega
      have hsh : IntKind.i64.wrap (c * 64) = c * 64 := IntWalk.i64_in _ (by omega);obtain ⟨y, hyy⟩ : ∃ y : Int, y = (x.toNat : Int) % 64 := ⟨_, rfl⟩;have hy1 : bits .and .u8 ((s[i + 1]).toNat : Int) 63 = y := by rw [hv2, hyy]; exact and8_63 (by omega) (by omega)
      have hy0 : 0 ≤ y ∧ y < 64 := by omega
      have hw : IntKind.i64.wrap y = y := IntWalk.i64_in _ (by omega);obtain ⟨d, hdd⟩ : ∃ d : Int, d = c * 64 + y := ⟨_, rfl⟩;have hor : bits .or .i64 (c * 64) y = d := by rw [hdd]; exact or_join 6 (by omega) (by omega) (by omega) (by omega) (by omega) (by omega)
      have HCF := Lib.hid (hcf.trans (by rw [← hyy, ← hdd]));clear hv hv2 e1 hx hx' hcf hyy hdd;go_wp2_with fail;go_roundw
      case rel => exact ⟨i + 1, d, by go_num, rfl, by omega, accC_take_some HA.out HX.out HCF.out, by first | rfl | trivial⟩
      case measure => simp [intOf]; omega
     ·have hcf : contF c x = none := by rw [contF, if_neg hc]
      have HE := Lib.hid (HP.out.trans (oneT_broken (by rw [HSZ.out]; exact accC_take_none HA.out HX.out hcf (by omega))));have hd1 : (bits .and .u8 ((s[i + 1]).toNat : Int) 192 == 128) = false := by
       rw [HCB.out]; simp; omega
      clear hv hv2 e1 hx hx';go_wp2_with fail;go_ret2;rw [HE.out];exact ⟨rfl, Below.refl _ _⟩
    ·have hge : ¬ (((i + 1 : Nat) : Int) < 4) := by omega
     have hi2 : i = 4 - 1 := by omega
     subst hi2;have HE := Lib.hid (HP.out.trans (oneT_some (by rw [HSZ.out]; omega) (by rw [HSZ.out, ← HSIZE.out]; omega) (by rw [HSZ.out]; exact HA.out)));go_wp2_with fail;refine (implLeast_any 4 _ (by decide)).mono ?_;rintro e w1 ⟨rfl, f1⟩
     by_cases hle : c < leastC 4
     ·have hd1 : decide (c < leastC 4) = true := by simpa using hle
      go_wp2_with fail;go_ret2;rw [HE.out, HSZ.out, if_pos (.inl hle)];exact ⟨rfl, f1⟩
     ·have hd1 : decide (c < leastC 4) = false := by simpa using hle
      go_wp2_with fail;refine (implSign_any _ _).mono ?_;rintro e w2 ⟨rfl, hw2⟩;rw [← hw2] at f1;clear hw2
      rcases (show sgnB c = true ∨ sgnB c = false by cases sgnB c <;> simp) with hsg | hsg
      ·rw [hsg]
       go_wp2_with fail;go_ret2;rw [HE.out, HSZ.out, if_neg (by rw [hsg]; simp; omega)];exact ⟨rfl, f1⟩
      ·rw [hsg]
       go_wp2_with fail;go_ret2;rw [HE.out, HSZ.out, if_pos (.inr hsg)];exact ⟨rfl, f1⟩
end Go.Proofs.YtmpldngnkacnmaaGreatDoor
namespace Go.Proofs.YtmpldngnkacnmaaGreatDoor
open Go.RowKit
theorem take_flat {l : List Int} {i : Nat} {c : Int} (h : l[i]? = some c) : (l.take (i + 1)).flatMap enc1 = (l.take i).flatMap enc1 ++ enc1 c := by
 rw [List.take_add_one, h, Option.toList_some, List.flatMap_append, List.flatMap_singleton]
theorem enc_ones {c : Int} (h0 : 0 ≤ c) (h : c < 128) : (enc1 c).map cU8 = [.int .u8 c] := by
 rw [enc1, if_pos h]; simp [cU8, u8_val h0 (show c < 256 by omega)]
theorem enc_twos {c : Int} (h0 : 128 ≤ c) (h : c < 2048) : (enc1 c).map cU8 = [.int .u8 (192 + c / 64), .int .u8 (128 + c % 64)] := by
 rw [enc1, if_neg (by omega), if_pos h];simp [cU8, u8_val (show 0 ≤ 192 + c / 64 by omega) (by omega), u8_val (show 0 ≤ 128 + c % 64 by omega) (by omega)]
theorem enc_threes {c : Int} (h0 : 2048 ≤ c) (h : c < 65536) : (enc1 c).map cU8 = [.int .u8 (224 + c / 4096), .int .u8 (128 + c / 64 % 64), .int .u8 (128 + c % 64)] := by
 rw [enc1, if_neg (by omega), if_neg (by omega), if_pos h];simp [cU8, u8_val (show 0 ≤ 224 + c / 4096 by omega) (by omega), u8_val (show 0 ≤ 128 + c / 64 % 64 by omega) (by omega), u8_val (show 0 ≤ 128 + c % 64 by omega) (by omega)]
theorem enc_fours {c : Int} (h0 : 65536 ≤ c) (h : c < 2097152) : (enc1 c).map cU8 = [.int .u8 (240 + c / 262144), .int .u8 (128 + c / 4096 % 64), .int .u8 (128 + c / 64 % 64), .int .u8 (128 + c % 64)] := by
 rw [enc1, if_neg (by omega), if_neg (by omega), if_neg (by omega)];simp [cU8, u8_val (show 0 ≤ 240 + c / 262144 by omega) (by omega), u8_val (show 0 ≤ 128 + c / 4096 % 64 by omega) (by omega), u8_val (show 0 ≤ 128 + c / 64 % 64 by omega) (by omega), u8_val (show 0 ≤ 128 + c % 64 by omega) (by omega)]
theorem u8_wrap {x : Int} (h0 : 0 ≤ x) (h1 : x < 256) : IntKind.u8.wrap x = x := wraps_u8 x h0 (by omega)
set_option maxRecDepth 100000 in
set_option maxHeartbeats 8000000 in
theorem implEncode_any (A : Option Addr) (n c : Nat) (l : List Int) (w : World) (h : Rd w A n 1 (l.map (Value.int .i64))) (hn : n ≤ 16777216) :
 Calls Tryz.prog 116 #[.slice A n c] w fun e w' => e = .returned (.string (ofB (encL l))) ∧ Fr w w' := by
 have HL := Lib.hid h.len1;have G := Lib.hid h;have H0 := (Hp.start w).lit0 5 1;have HEN := Lib.hid (fun (hg : ∀ x ∈ l, sgnB x = true) => encL_good hg);have HEB := Lib.hid (fun (i : Nat) (c : Int) (hx : l[i]? = some c) (hs : sgnB c = false) => encL_bad hx hs)
 generalize encL l = out at HEN HEB ⊢
 clear h;go_enter Tryz.func116, Tryz.ntmps116;go_wp2_with fail
 go_loopw [3, 9] (fun v iv wr => ∃ i : Nat, iv = .int .i64 i ∧ i ≤ n ∧ (∀ x ∈ l.take i, sgnB x = true) ∧ Hp [] w wr [.row 5 1 v ((l.take i).flatMap enc1).length (((l.take i).flatMap enc1).map cU8)]) (fun _ iv _ => n - (intOf iv).toNat)
 case atStart => exact ⟨0, rfl, by omega, by simp, H0⟩
 case round =>
  clear H0;obtain ⟨i, rfl, hi, hg, H⟩ := hrel;have HG := Lib.hid hg;clear hg;obtain ⟨B, d, rfl⟩ := H.shape 0 rfl
  by_cases hlt : i < n
  ·obtain ⟨c0, hx⟩ := at_some HL.out hlt
   obtain ⟨bk, of, rfl, hc⟩ := (H.old G.out).get1 hx;have hi0 : (0 : Int) ≤ (i : Int) := by omega
   have hi1 : (i : Int) < (n : Int) := by omega
   have HX := Lib.hid hx;have HFL := Lib.hid (take_flat hx);have hol : ((l.take i).flatMap enc1).length ≤ 100000000 := by
    have := flat1_le (l.take i);rw [List.length_take] at this;omega
   clear hx
   generalize (l.take i).flatMap enc1 = o at H HFL hol
   go_wp2_with fail;refine (implSign_any _ _).mono ?_;rintro e wq ⟨rfl, hwq⟩;rw [← hwq] at H;clear hwq hc
   rcases (show sgnB c0 = true ∨ sgnB c0 = false by cases sgnB c0 <;> simp) with hsg | hsg
   ·
    have hsb := sgn_bounds hsg;have HSG := Lib.hid hsg;rw [hsg];clear hsg
    by_cases h1 : c0 < 128
    ·have d1 : decide (c0 < 128) = true := by simpa using h1
     have HE := Lib.hid (enc_ones (by omega) h1);have wq : IntKind.u8.wrap c0 = c0 := u8_wrap (by omega) (by omega);have HZ := Lib.hid (show szC c0 = 1 by unfold szC; rw [if_pos h1]);go_wp2_with (at_builtin; refine wp_app1 H rfl _ _ _ rfl Tryz.underlying22 infoU8 rfl (by decide) 0 _ _ _ rfl rfl _ 1 1 _ [.int .u8 c0] rfl (by simp) rfl (by simp [Value.oneCell']) (by simp only [maxLen]; omega) (by omega) ?_);intro v' w' H';have H2 : Hp [] w w' [.row 5 1 v' (o ++ enc1 c0).length ((o ++ enc1 c0).map cU8)] := by
      rw [List.length_append, List.map_append, HE.out, enc1_len, HZ.out];simpa using H'
     have H3 := Lib.hid H2;clear H' H2 H;go_wp2_with fail;go_roundw
     case rel => exact ⟨i + 1, by go_num, by omega, fun x hx => by
      rw [HX.out.take, List.mem_append] at hx
      rcases hx with hx | hx
      ·exact HG.out x hx
      ·rw [List.mem_singleton.1 hx]; exact HSG.out, by rw [HFL.out]; exact H3.out⟩
     case measure => simp [intOf]; omega
    ·have d1 : decide (c0 < 128) = false := by simpa using h1
     by_cases h2 : c0 < 2048
     ·have d2 : decide (c0 < 2048) = true := by simpa using h2
      obtain ⟨y1, hy1⟩ : ∃ y : Int, y = 192 + c0 / 64 := ⟨_, rfl⟩;obtain ⟨z2, hz2⟩ : ∃ y : Int, y = c0 % 64 := ⟨_, rfl⟩;obtain ⟨y2, hy2⟩ : ∃ y : Int, y = 128 + z2 := ⟨_, rfl⟩;have o1 : bits .or .i64 192 (c0 / 64) = y1 := by rw [hy1]; exact or_join 6 (by omega) (by omega) (by omega) (by omega) (by omega) (by omega)
      have p1 : IntKind.i64.wrap (192 + c0 / 64) = y1 := by rw [hy1]; exact IntWalk.i64_in _ (by omega)
      have a2 : bits .and .i64 c0 63 = z2 := by rw [hz2]; exact and_63 (by omega) (by omega)
      have o2 : bits .or .i64 128 z2 = y2 := by rw [hy2]; exact or_join 6 (by omega) (by omega) (by omega) (by omega) (by omega) (by omega)
      have p2 : IntKind.i64.wrap (128 + z2) = y2 := by rw [hy2]; exact IntWalk.i64_in _ (by omega)
      have w1 : IntKind.u8.wrap y1 = y1 := u8_wrap (by omega) (by omega);have w2 : IntKind.u8.wrap y2 = y2 := u8_wrap (by omega) (by omega);have HE := Lib.hid ((enc_twos (c := c0) (by omega) (by omega)).trans (by rw [← hy1, ← hz2, ← hy2]));clear hy1 hz2 hy2;have HZ := Lib.hid (show szC c0 = 2 by unfold szC; rw [if_neg h1, if_pos h2]);go_wp2_with (at_builtin; refine wp_app1 H rfl _ _ _ rfl Tryz.underlying22 infoU8 rfl (by decide) 0 _ _ _ rfl rfl _ 2 2 _ [.int .u8 y1, .int .u8 y2] rfl (by simp) rfl (by simp [Value.oneCell']) (by simp only [maxLen]; omega) (by omega) ?_);intro v' w' H';have H2 : Hp [] w w' [.row 5 1 v' (o ++ enc1 c0).length ((o ++ enc1 c0).map cU8)] := by
       rw [List.length_append, List.map_append, HE.out, enc1_len, HZ.out];simpa using H'
      have H3 := Lib.hid H2;clear H' H2 H;go_wp2_with fail;go_roundw
      case rel => exact ⟨i + 1, by go_num, by omega, fun x hx => by
       rw [HX.out.take, List.mem_append] at hx
       rcases hx with hx | hx
       ·exact HG.out x hx
       ·rw [List.mem_singleton.1 hx]; exact HSG.out, by rw [HFL.out]; exact H3.out⟩
      case measure => simp [intOf]; omega
     ·have d2 : decide (c0 < 2048) = false := by simpa using h2
      by_cases h3 : c0 < 65536
      ·have d3 : decide (c0 < 65536) = true := by simpa using h3
       obtain ⟨y1, hy1⟩ : ∃ y : Int, y = 224 + c0 / 4096 := ⟨_, rfl⟩;obtain ⟨z2, hz2⟩ : ∃ y : Int, y = c0 / 64 % 64 := ⟨_, rfl⟩;obtain ⟨y2, hy2⟩ : ∃ y : Int, y = 128 + z2 := ⟨_, rfl⟩;obtain ⟨z3, hz3⟩ : ∃ y : Int, y = c0 % 64 := ⟨_, rfl⟩;obtain ⟨y3, hy3⟩ : ∃ y : Int, y = 128 + z3 := ⟨_, rfl⟩;have o1 : bits .or .i64 224 (c0 / 4096) = y1 := by rw [hy1]; exact or_join 5 (by omega) (by omega) (by omega) (by omega) (by omega) (by omega)
       have p1 : IntKind.i64.wrap (224 + c0 / 4096) = y1 := by rw [hy1]; exact IntWalk.i64_in _ (by omega)
       have a2 : bits .and .i64 (c0 / 64) 63 = z2 := by rw [hz2]; exact and_63 (by omega) (by omega)
       have o2 : bits .or .i64 128 z2 = y2 := by rw [hy2]; exact or_join 6 (by omega) (by omega) (by omega) (by omega) (by omega) (by omega)
       have p2 : IntKind.i64.wrap (128 + z2) = y2 := by rw [hy2]; exact IntWalk.i64_in _ (by omega)
       have a3 : bits .and .i64 c0 63 = z3 := by rw [hz3]; exact and_63 (by omega) (by omega)
       have o3 : bits .or .i64 128 z3 = y3 := by rw [hy3]; exact or_join 6 (by omega) (by omega) (by omega) (by omega) (by omega) (by omega)
       have p3 : IntKind.i64.wrap (128 + z3) = y3 := by rw [hy3]; exact IntWalk.i64_in _ (by omega)
       have w1 : IntKind.u8.wrap y1 = y1 := u8_wrap (by omega) (by omega);have w2 : IntKind.u8.wrap y2 = y2 := u8_wrap (by omega) (by omega);have w3 : IntKind.u8.wrap y3 = y3 := u8_wrap (by omega) (by omega);have HE := Lib.hid ((enc_threes (c := c0) (by omega) (by omega)).trans (by rw [← hy1, ← hz2, ← hy2, ← hz3, ← hy3]));clear hy1 hz2 hy2 hz3 hy3;have HZ := Lib.hid (show szC c0 = 3 by unfold szC; rw [if_neg h1, if_neg h2, if_pos h3]);go_wp2_with (at_builtin; refine wp_app1 H rfl _ _ _ rfl Tryz.underlying22 infoU8 rfl (by decide) 0 _ _ _ rfl rfl _ 3 3 _ [.int .u8 y1, .int .u8 y2, .int .u8 y3] rfl (by simp) rfl (by simp [Value.oneCell']) (by simp only [maxLen]; omega) (by omega) ?_);intro v' w' H';have H2 : Hp [] w w' [.row 5 1 v' (o ++ enc1 c0).length ((o ++ enc1 c0).map cU8)] := by
        rw [List.length_append, List.map_append, HE.out, enc1_len, HZ.out];simpa using H'
       have H3 := Lib.hid H2;clear H' H2 H;go_wp2_with fail;go_roundw
       case rel => exact ⟨i + 1, by go_num, by omega, fun x hx => by
        rw [HX.out.take, List.mem_append] at hx
        rcases hx with hx | hx
        ·exact HG.out x hx
        ·rw [List.mem_singleton.1 hx]; exact HSG.out, by rw [HFL.out]; exact H3.out⟩
       case measure => simp [intOf]; omega
      ·have d3 : decide (c0 < 65536) = false := by simpa using h3
       obtain ⟨y1, hy1⟩ : ∃ y : Int, y = 240 + c0 / 262144 := ⟨_, rfl⟩;obtain ⟨z2, hz2⟩ : ∃ y : Int, y = c0 / 4096 % 64 := ⟨_, rfl⟩;obtain ⟨y2, hy2⟩ : ∃ y : Int, y = 128 + z2 := ⟨_, rfl⟩;obtain ⟨z3, hz3⟩ : ∃ y : Int, y = c0 / 64 % 64 := ⟨_, rfl⟩;obtain ⟨y3, hy3⟩ : ∃ y : Int, y = 128 + z3 := ⟨_, rfl⟩;obtain ⟨z4, hz4⟩ : ∃ y : Int, y = c0 % 64 := ⟨_, rfl⟩;obtain ⟨y4, hy4⟩ : ∃ y : Int, y = 128 + z4 := ⟨_, rfl⟩;have o1 : bits .or .i64 240 (c0 / 262144) = y1 := by rw [hy1]; exact or_join 4 (by omega) (by omega) (by omega) (by omega) (by omega) (by omega)
       have p1 : IntKind.i64.wrap (240 + c0 / 262144) = y1 := by rw [hy1]; exact IntWalk.i64_in _ (by omega)
       have a2 : bits .and .i64 (c0 / 4096) 63 = z2 := by rw [hz2]; exact and_63 (by omega) (by omega)
       have o2 : bits .or .i64 128 z2 = y2 := by rw [hy2]; exact or_join 6 (by omega) (by omega) (by omega) (by omega) (by omega) (by omega)
       have p2 : IntKind.i64.wrap (128 + z2) = y2 := by rw [hy2]; exact IntWalk.i64_in _ (by omega)
       have a3 : bits .and .i64 (c0 / 64) 63 = z3 := by rw [hz3]; exact and_63 (by omega) (by omega)
       have o3 : bits .or .i64 128 z3 = y3 := by rw [hy3]; exact or_join 6 (by omega) (by omega) (by omega) (by omega) (by omega) (by omega)
       have p3 : IntKind.i64.wrap (128 + z3) = y3 := by rw [hy3]; exact IntWalk.i64_in _ (by omega)
       have a4 : bits .and .i64 c0 63 = z4 := by rw [hz4]; exact and_63 (by omega) (by omega)
       have o4 : bits .or .i64 128 z4 = y4 := by rw [hy4]; exact or_join 6 (by omega) (by omega) (by omega) (by omega) (by omega) (by omega)
       have p4 : IntKind.i64.wrap (128 + z4) = y4 := by rw [hy4]; exact IntWalk.i64_in _ (by omega)
       have w1 : IntKind.u8.wrap y1 = y1 := u8_wrap (by omega) (by omega);have w2 : IntKind.u8.wrap y2 = y2 := u8_wrap (by omega) (by omega);have w3 : IntKind.u8.wrap y3 = y3 := u8_wrap (by omega) (by omega);have w4 : IntKind.u8.wrap y4 = y4 := u8_wrap (by omega) (by omega);have HE := Lib.hid ((enc_fours (c := c0) (by omega) (by omega)).trans (by rw [← hy1, ← hz2, ← hy2, ← hz3, ← hy3, ← hz4, ← hy4]));clear hy1 hz2 hy2 hz3 hy3 hz4 hy4;have HZ := Lib.hid (show szC c0 = 4 by unfold szC; rw [if_neg h1, if_neg h2, if_neg h3]);go_wp2_with (at_builtin; refine wp_app1 H rfl _ _ _ rfl Tryz.underlying22 infoU8 rfl (by decide) 0 _ _ _ rfl rfl _ 4 4 _ [.int .u8 y1, .int .u8 y2, .int .u8 y3, .int .u8 y4] rfl (by simp) rfl (by simp [Value.oneCell']) (by simp only [maxLen]; omega) (by omega) ?_);intro v' w' H';have H2 : Hp [] w w' [.row 5 1 v' (o ++ enc1 c0).length ((o ++ enc1 c0).map cU8)] := by
        rw [List.length_append, List.map_append, HE.out, enc1_len, HZ.out];simpa using H'
       have H3 := Lib.hid H2;clear H' H2 H;go_wp2_with fail;go_roundw
       case rel => exact ⟨i + 1, by go_num, by omega, fun x hx => by
        rw [HX.out.take, List.mem_append] at hx
        rcases hx with hx | hx
        ·exact HG.out x hx
        ·rw [List.mem_singleton.1 hx]; exact HSG.out, by rw [HFL.out]; exact H3.out⟩
       case measure => simp [intOf]; omega
   ·have HE := Lib.hid (HEB.out i c0 HX.out hsg)
    rw [hsg];go_wp2_with fail;go_ret;rw [HE.out];exact ⟨rfl, H.fr⟩
  ·have ht : l.take i = l := List.take_of_length_le (by rw [HL.out]; omega)
   have hge : ¬ ((i : Int) < (n : Int)) := by omega
   have HE := Lib.hid (HEN.out (by have := HG.out; rwa [ht] at this));rw [ht] at H ⊢;clear ht
   generalize l.flatMap enc1 = o at H HE ⊢
   have hk := run_str (c := d) 22 9 5 Tryz.underlying22 Tryz.underlying5 Tryz.underlying9 (H.rd 0 rfl);have F := Lib.hid H.fr;clear H
   go_wp2
   go_ret;rw [HE.out];exact ⟨rfl, F.out⟩
set_option maxRecDepth 100000 in
set_option maxHeartbeats 8000000 in
theorem specEncode_any (A : Option Addr) (n c : Nat) (l : List Int) (w : World) (h : Rd w A n 1 (l.map (Value.int .i64))) (hn : n ≤ 16777216) :
 Calls Tryz.prog 98 #[.slice A n c] w fun e w' => e = .returned (.string (ofB (encL l))) ∧ Fr w w' := by
 have HL := Lib.hid h.len1;have G := Lib.hid h;have H0 := (Hp.start w).lit0 5 1;have HEN := Lib.hid (fun (hg : ∀ x ∈ l, sgnB x = true) => encL_good hg);have HEB := Lib.hid (fun (i : Nat) (c : Int) (hx : l[i]? = some c) (hs : sgnB c = false) => encL_bad hx hs)
 generalize encL l = out at HEN HEB ⊢
 clear h;go_enter Tryz.func98, Tryz.ntmps98;go_wp2_with fail
 go_loopw [3, 4] (fun v iv wr => ∃ i : Nat, iv = .int .i64 i ∧ i ≤ n ∧ (∀ x ∈ l.take i, sgnB x = true) ∧ Hp [] w wr [.row 5 1 v ((l.take i).flatMap enc1).length (((l.take i).flatMap enc1).map cU8)]) (fun _ iv _ => n - (intOf iv).toNat)
 case atStart => exact ⟨0, rfl, by omega, by simp, H0⟩
 case round =>
  clear H0;obtain ⟨i, rfl, hi, hg, H⟩ := hrel;have HG := Lib.hid hg;clear hg;obtain ⟨B, d, rfl⟩ := H.shape 0 rfl
  by_cases hlt : i < n
  ·obtain ⟨c0, hx⟩ := at_some HL.out hlt
   obtain ⟨bk, of, rfl, hc⟩ := (H.old G.out).get1 hx;have hi0 : (0 : Int) ≤ (i : Int) := by omega
   have hi1 : (i : Int) < (n : Int) := by omega
   have HX := Lib.hid hx;have HFL := Lib.hid (take_flat hx);have hol : ((l.take i).flatMap enc1).length ≤ 100000000 := by
    have := flat1_le (l.take i);rw [List.length_take] at this;omega
   clear hx
   generalize (l.take i).flatMap enc1 = o at H HFL hol
   go_wp2_with fail;refine (specSign_any _ _).mono ?_;rintro e wq ⟨rfl, hwq⟩;rw [← hwq] at H;clear hwq hc
   rcases (show sgnB c0 = true ∨ sgnB c0 = false by cases sgnB c0 <;> simp) with hsg | hsg
   ·
    have hsb := sgn_bounds hsg;have HSG := Lib.hid hsg;rw [hsg];clear hsg
    by_cases h1 : c0 < 128
    ·have d1 : decide (c0 < 128) = true := by simpa using h1
     have HE := Lib.hid (enc_ones (by omega) h1);have wq : IntKind.u8.wrap c0 = c0 := u8_wrap (by omega) (by omega);have HZ := Lib.hid (show szC c0 = 1 by unfold szC; rw [if_pos h1]);go_wp2_with (at_builtin; refine wp_app1 H rfl _ _ _ rfl Tryz.underlying22 infoU8 rfl (by decide) 0 _ _ _ rfl rfl _ 1 1 _ [.int .u8 c0] rfl (by simp) rfl (by simp [Value.oneCell']) (by simp only [maxLen]; omega) (by omega) ?_);intro v' w' H';have H2 : Hp [] w w' [.row 5 1 v' (o ++ enc1 c0).length ((o ++ enc1 c0).map cU8)] := by
      rw [List.length_append, List.map_append, HE.out, enc1_len, HZ.out];simpa using H'
     have H3 := Lib.hid H2;clear H' H2 H;go_wp2_with fail;go_roundw
     case rel => exact ⟨i + 1, by go_num, by omega, fun x hx => by
      rw [HX.out.take, List.mem_append] at hx
      rcases hx with hx | hx
      ·exact HG.out x hx
      ·rw [List.mem_singleton.1 hx]; exact HSG.out, by rw [HFL.out]; exact H3.out⟩
     case measure => simp [intOf]; omega
    ·have d1 : decide (c0 < 128) = false := by simpa using h1
     by_cases h2 : c0 < 2048
     ·have d2 : decide (c0 < 2048) = true := by simpa using h2
      obtain ⟨y1, hy1⟩ : ∃ y : Int, y = 192 + c0 / 64 := ⟨_, rfl⟩;obtain ⟨z2, hz2⟩ : ∃ y : Int, y = c0 % 64 := ⟨_, rfl⟩;obtain ⟨y2, hy2⟩ : ∃ y : Int, y = 128 + z2 := ⟨_, rfl⟩;have o1 : bits .or .i64 192 (c0 / 64) = y1 := by rw [hy1]; exact or_join 6 (by omega) (by omega) (by omega) (by omega) (by omega) (by omega)
      have p1 : IntKind.i64.wrap (192 + c0 / 64) = y1 := by rw [hy1]; exact IntWalk.i64_in _ (by omega)
      have a2 : bits .and .i64 c0 63 = z2 := by rw [hz2]; exact and_63 (by omega) (by omega)
      have o2 : bits .or .i64 128 z2 = y2 := by rw [hy2]; exact or_join 6 (by omega) (by omega) (by omega) (by omega) (by omega) (by omega)
      have p2 : IntKind.i64.wrap (128 + z2) = y2 := by rw [hy2]; exact IntWalk.i64_in _ (by omega)
      have w1 : IntKind.u8.wrap y1 = y1 := u8_wrap (by omega) (by omega);have w2 : IntKind.u8.wrap y2 = y2 := u8_wrap (by omega) (by omega);have HE := Lib.hid ((enc_twos (c := c0) (by omega) (by omega)).trans (by rw [← hy1, ← hz2, ← hy2]));clear hy1 hz2 hy2;have HZ := Lib.hid (show szC c0 = 2 by unfold szC; rw [if_neg h1, if_pos h2]);go_wp2_with (at_builtin; refine wp_app1 H rfl _ _ _ rfl Tryz.underlying22 infoU8 rfl (by decide) 0 _ _ _ rfl rfl _ 2 2 _ [.int .u8 y1, .int .u8 y2] rfl (by simp) rfl (by simp [Value.oneCell']) (by simp only [maxLen]; omega) (by omega) ?_);intro v' w' H';have H2 : Hp [] w w' [.row 5 1 v' (o ++ enc1 c0).length ((o ++ enc1 c0).map cU8)] := by
       rw [List.length_append, List.map_append, HE.out, enc1_len, HZ.out];simpa using H'
      have H3 := Lib.hid H2;clear H' H2 H;go_wp2_with fail;go_roundw
      case rel => exact ⟨i + 1, by go_num, by omega, fun x hx => by
       rw [HX.out.take, List.mem_append] at hx
       rcases hx with hx | hx
       ·exact HG.out x hx
       ·rw [List.mem_singleton.1 hx]; exact HSG.out, by rw [HFL.out]; exact H3.out⟩
      case measure => simp [intOf]; omega
     ·have d2 : decide (c0 < 2048) = false := by simpa using h2
      by_cases h3 : c0 < 65536
      ·have d3 : decide (c0 < 65536) = true := by simpa using h3
       obtain ⟨y1, hy1⟩ : ∃ y : Int, y = 224 + c0 / 4096 := ⟨_, rfl⟩;obtain ⟨z2, hz2⟩ : ∃ y : Int, y = c0 / 64 % 64 := ⟨_, rfl⟩;obtain ⟨y2, hy2⟩ : ∃ y : Int, y = 128 + z2 := ⟨_, rfl⟩;obtain ⟨z3, hz3⟩ : ∃ y : Int, y = c0 % 64 := ⟨_, rfl⟩;obtain ⟨y3, hy3⟩ : ∃ y : Int, y = 128 + z3 := ⟨_, rfl⟩;have o1 : bits .or .i64 224 (c0 / 4096) = y1 := by rw [hy1]; exact or_join 5 (by omega) (by omega) (by omega) (by omega) (by omega) (by omega)
       have p1 : IntKind.i64.wrap (224 + c0 / 4096) = y1 := by rw [hy1]; exact IntWalk.i64_in _ (by omega)
       have a2 : bits .and .i64 (c0 / 64) 63 = z2 := by rw [hz2]; exact and_63 (by omega) (by omega)
       have o2 : bits .or .i64 128 z2 = y2 := by rw [hy2]; exact or_join 6 (by omega) (by omega) (by omega) (by omega) (by omega) (by omega)
       have p2 : IntKind.i64.wrap (128 + z2) = y2 := by rw [hy2]; exact IntWalk.i64_in _ (by omega)
       have a3 : bits .and .i64 c0 63 = z3 := by rw [hz3]; exact and_63 (by omega) (by omega)
       have o3 : bits .or .i64 128 z3 = y3 := by rw [hy3]; exact or_join 6 (by omega) (by omega) (by omega) (by omega) (by omega) (by omega)
       have p3 : IntKind.i64.wrap (128 + z3) = y3 := by rw [hy3]; exact IntWalk.i64_in _ (by omega)
       have w1 : IntKind.u8.wrap y1 = y1 := u8_wrap (by omega) (by omega);have w2 : IntKind.u8.wrap y2 = y2 := u8_wrap (by omega) (by omega);have w3 : IntKind.u8.wrap y3 = y3 := u8_wrap (by omega) (by omega);have HE := Lib.hid ((enc_threes (c := c0) (by omega) (by omega)).trans (by rw [← hy1, ← hz2, ← hy2, ← hz3, ← hy3]));clear hy1 hz2 hy2 hz3 hy3;have HZ := Lib.hid (show szC c0 = 3 by unfold szC; rw [if_neg h1, if_neg h2, if_pos h3]);go_wp2_with (at_builtin; refine wp_app1 H rfl _ _ _ rfl Tryz.underlying22 infoU8 rfl (by decide) 0 _ _ _ rfl rfl _ 3 3 _ [.int .u8 y1, .int .u8 y2, .int .u8 y3] rfl (by simp) rfl (by simp [Value.oneCell']) (by simp only [maxLen]; omega) (by omega) ?_);intro v' w' H';have H2 : Hp [] w w' [.row 5 1 v' (o ++ enc1 c0).length ((o ++ enc1 c0).map cU8)] := by
        rw [List.length_append, List.map_append, HE.out, enc1_len, HZ.out];simpa using H'
       have H3 := Lib.hid H2;clear H' H2 H;go_wp2_with fail;go_roundw
       case rel => exact ⟨i + 1, by go_num, by omega, fun x hx => by
        rw [HX.out.take, List.mem_append] at hx
        rcases hx with hx | hx
        ·exact HG.out x hx
        ·rw [List.mem_singleton.1 hx]; exact HSG.out, by rw [HFL.out]; exact H3.out⟩
       case measure => simp [intOf]; omega
      ·have d3 : decide (c0 < 65536) = false := by simpa using h3
       obtain ⟨y1, hy1⟩ : ∃ y : Int, y = 240 + c0 / 262144 := ⟨_, rfl⟩;obtain ⟨z2, hz2⟩ : ∃ y : Int, y = c0 / 4096 % 64 := ⟨_, rfl⟩;obtain ⟨y2, hy2⟩ : ∃ y : Int, y = 128 + z2 := ⟨_, rfl⟩;obtain ⟨z3, hz3⟩ : ∃ y : Int, y = c0 / 64 % 64 := ⟨_, rfl⟩;obtain ⟨y3, hy3⟩ : ∃ y : Int, y = 128 + z3 := ⟨_, rfl⟩;obtain ⟨z4, hz4⟩ : ∃ y : Int, y = c0 % 64 := ⟨_, rfl⟩;obtain ⟨y4, hy4⟩ : ∃ y : Int, y = 128 + z4 := ⟨_, rfl⟩;have o1 : bits .or .i64 240 (c0 / 262144) = y1 := by rw [hy1]; exact or_join 4 (by omega) (by omega) (by omega) (by omega) (by omega) (by omega)
       have p1 : IntKind.i64.wrap (240 + c0 / 262144) = y1 := by rw [hy1]; exact IntWalk.i64_in _ (by omega)
       have a2 : bits .and .i64 (c0 / 4096) 63 = z2 := by rw [hz2]; exact and_63 (by omega) (by omega)
       have o2 : bits .or .i64 128 z2 = y2 := by rw [hy2]; exact or_join 6 (by omega) (by omega) (by omega) (by omega) (by omega) (by omega)
       have p2 : IntKind.i64.wrap (128 + z2) = y2 := by rw [hy2]; exact IntWalk.i64_in _ (by omega)
       have a3 : bits .and .i64 (c0 / 64) 63 = z3 := by rw [hz3]; exact and_63 (by omega) (by omega)
       have o3 : bits .or .i64 128 z3 = y3 := by rw [hy3]; exact or_join 6 (by omega) (by omega) (by omega) (by omega) (by omega) (by omega)
       have p3 : IntKind.i64.wrap (128 + z3) = y3 := by rw [hy3]; exact IntWalk.i64_in _ (by omega)
       have a4 : bits .and .i64 c0 63 = z4 := by rw [hz4]; exact and_63 (by omega) (by omega)
       have o4 : bits .or .i64 128 z4 = y4 := by rw [hy4]; exact or_join 6 (by omega) (by omega) (by omega) (by omega) (by omega) (by omega)
       have p4 : IntKind.i64.wrap (128 + z4) = y4 := by rw [hy4]; exact IntWalk.i64_in _ (by omega)
       have w1 : IntKind.u8.wrap y1 = y1 := u8_wrap (by omega) (by omega);have w2 : IntKind.u8.wrap y2 = y2 := u8_wrap (by omega) (by omega);have w3 : IntKind.u8.wrap y3 = y3 := u8_wrap (by omega) (by omega);have w4 : IntKind.u8.wrap y4 = y4 := u8_wrap (by omega) (by omega);have HE := Lib.hid ((enc_fours (c := c0) (by omega) (by omega)).trans (by rw [← hy1, ← hz2, ← hy2, ← hz3, ← hy3, ← hz4, ← hy4]));clear hy1 hz2 hy2 hz3 hy3 hz4 hy4;have HZ := Lib.hid (show szC c0 = 4 by unfold szC; rw [if_neg h1, if_neg h2, if_neg h3]);go_wp2_with (at_builtin; refine wp_app1 H rfl _ _ _ rfl Tryz.underlying22 infoU8 rfl (by decide) 0 _ _ _ rfl rfl _ 4 4 _ [.int .u8 y1, .int .u8 y2, .int .u8 y3, .int .u8 y4] rfl (by simp) rfl (by simp [Value.oneCell']) (by simp only [maxLen]; omega) (by omega) ?_);intro v' w' H';have H2 : Hp [] w w' [.row 5 1 v' (o ++ enc1 c0).length ((o ++ enc1 c0).map cU8)] := by
        rw [List.length_append, List.map_append, HE.out, enc1_len, HZ.out];simpa using H'
       have H3 := Lib.hid H2;clear H' H2 H;go_wp2_with fail;go_roundw
       case rel => exact ⟨i + 1, by go_num, by omega, fun x hx => by
        rw [HX.out.take, List.mem_append] at hx
        rcases hx with hx | hx
        ·exact HG.out x hx
        ·rw [List.mem_singleton.1 hx]; exact HSG.out, by rw [HFL.out]; exact H3.out⟩
       case measure => simp [intOf]; omega
   ·have HE := Lib.hid (HEB.out i c0 HX.out hsg)
    rw [hsg];go_wp2_with fail;go_ret;rw [HE.out];exact ⟨rfl, H.fr⟩
  ·have ht : l.take i = l := List.take_of_length_le (by rw [HL.out]; omega)
   have hge : ¬ ((i : Int) < (n : Int)) := by omega
   have HE := Lib.hid (HEN.out (by have := HG.out; rwa [ht] at this));rw [ht] at H ⊢;clear ht
   generalize l.flatMap enc1 = o at H HE ⊢
   have hk := run_str (c := d) 22 9 5 Tryz.underlying22 Tryz.underlying5 Tryz.underlying9 (H.rd 0 rfl);have F := Lib.hid H.fr;clear H
   go_wp2
   go_ret;rw [HE.out];exact ⟨rfl, F.out⟩
end Go.Proofs.YtmpldngnkacnmaaGreatDoor
namespace Go.Proofs.YtmpldngnkacnmaaGreatDoor
open Go.RowKit
section
variable {W : List Nat} {w0 w w' : World} {l : List Ob} {P : Program} {ops : Array Oper} {rest : List Oper} {o : Oper} {a : Act} {Q : Exit → Act → World → Prop} {E : TypeId} {z : Value} {bytes : Nat}
theorem wp_appS {α : Type} {f : α → Value} (H : Hp W w0 w l) (hgd : o.guard = none) (s x : Operand) (t : TypeId) (ho : o.op = .call { callee := .builtin .append, args := #[s, x], argTypes := #[t, t] })
 (ht : P.underlying t = some (.slice E)) (hI : (P.info? E).map (fun i => (i.zero, i.size, i.bytes)) = some (some z, 1, bytes)) (hzs : z.cells.size = 1)
 (i : Nat) (v : Value) (L : List α) (hrow : l[i]? = some (.row E 1 v L.length (L.map f))) (hs : a.eval s = v) (A : Option Addr) (c : Nat) (M : List α) (hx : a.eval x = .slice A M.length c) (hc : A = none → c = 0)
 (hrd : Rd w A M.length 1 (M.map f)) (h1 : ∀ u ∈ M, (f u).oneCell' = true) (h63 : L.length + M.length ≤ maxLen) (hbytes : (L.length + M.length) * bytes ≤ 140737488355328)
 (h : ∀ v' w', Hp W w0 w' (l.set i (.row E 1 v' (L ++ M).length ((L ++ M).map f))) → wpList P ops Q rest (a.put o.dst v') w') : wpList P ops Q (o :: rest) a w := by
 refine wp_appRd H hgd s x t ho ht hI hzs Nat.one_pos i v L.length (L.map f) hrow hs A M.length c (M.map f) hx hc hrd (by intro u hu; obtain ⟨y, hy, rfl⟩ := List.mem_map.1 hu; exact h1 y hy) h63 hbytes fun v' w' h' => h v' w' ?_
 rwa [List.length_append, List.map_append]
end
theorem own_cap' {w : World} {b : Nat} {E : TypeId} {k n : Nat} {A : Option Addr} {m c : Nat} {xs : List Value} (h : w.ownsRow b E k (.slice A m c) n xs) : A = none → c = 0 := by
 intro hA
 rcases h.2 with ⟨hv, _⟩ | ⟨g, cap, cur, hv, _⟩
 ·injection hv
 ·injection hv with h1 _ _; rw [hA] at h1; cases h1
end Go.Proofs.YtmpldngnkacnmaaGreatDoor
namespace Go.Proofs.YtmpldngnkacnmaaGreatDoor
def knTbl : List (Int × Int) := [(32, 126), (161, 255), (768, 772), (776, 776), (778, 778), (803, 803), (807, 807), (902, 902), (904, 906), (908, 908), (910, 911), (913, 929), (931, 937), (940, 943), (945, 969), (972, 974), (1040, 1103), (469, 470), (7840, 7841), (7852, 7853), (8486, 8486), (8491, 8491), (4352, 4370), (4449, 4469), (4520, 4546), (44032, 55203)]
def knFrom : List Int := [32, 161, 768, 776, 778, 803, 807, 902, 904, 908, 910, 913, 931, 940, 945, 972, 1040, 469, 7840, 7852, 8486, 8491, 4352, 4449, 4520, 44032]
def knTo : List Int := [126, 255, 772, 776, 778, 803, 807, 902, 906, 908, 911, 929, 937, 943, 969, 974, 1103, 470, 7841, 7853, 8486, 8491, 4370, 4469, 4546, 55203]
def kpPairs : List (Int × Int) := [(32, 46), (48, 126), (161, 255), (469, 470), (768, 772), (776, 776), (778, 778), (803, 803), (807, 807), (902, 902), (904, 906), (908, 908), (910, 911), (913, 929), (931, 937), (940, 943), (945, 969), (972, 974), (1040, 1103), (4352, 4370), (4449, 4469), (4520, 4546), (7840, 7841), (7852, 7853), (8486, 8486), (8491, 8491), (44032, 55203)]
theorem knFrom_eq : knFrom = knTbl.map Prod.fst := rfl
theorem knTo_eq : knTo = knTbl.map Prod.snd := rfl
theorem knTbl_len : knTbl.length = 26 := rfl
theorem kpPairs_len : kpPairs.length = 27 := rfl
def knownS (c : Int) : Bool := knTbl.any (fun p => inB c p.1 p.2) && decide (c ≠ 47)
theorem pairs_known (c : Int) : kpPairs.any (fun p => inB c p.1 p.2) = knownS c := by
 rw [Bool.eq_iff_iff];simp only [kpPairs, knownS, knTbl, List.any_cons, List.any_nil, Bool.or_eq_true, Bool.and_eq_true, inB_iff, decide_eq_true_eq, Bool.or_false];omega
def cPair (p : Int × Int) : List Value := [.int .i64 p.1, .int .i64 p.2]
def kpTab : List Int := kpPairs.flatMap fun p => [p.1, p.2]
end Go.Proofs.YtmpldngnkacnmaaGreatDoor
namespace Go.Proofs.YtmpldngnkacnmaaGreatDoor
open Go.RowKit
set_option maxRecDepth 100000 in
set_option maxHeartbeats 4000000 in
theorem specKnown_any (c : Int) (w : World) :
 Calls Tryz.prog 89 #[.int .i64 c] w fun e w' => e = .returned (.bool (knownS c)) ∧ Fr w w' := by
 have H1 := (Hp.start w).lit 3 1 26 (knFrom.map (Value.int .i64)) rfl (by simp [maxLen]);have H2 := H1.lit 3 1 26 (knTo.map (Value.int .i64)) rfl (by simp [maxLen]);have e1 : (w.alloc (.cells (knFrom.map (Value.int .i64)).toArray 3)).heap.size = w.heap.size + 1 := Array.size_push _;rw [e1] at H2;clear H1 e1;go_enter Tryz.func89, Tryz.ntmps89;go_wp2_with fail
 go_loopw [5] (fun kv wr => ∃ i : Nat, kv = .int .i64 i ∧ i ≤ 26 ∧ (knTbl.take i).any (fun p => inB c p.1 p.2) = false ∧ Hp [] w wr [.row 3 1 (.slice (some ⟨w.heap.size + 1, 0, none⟩) 26 26) 26 (knTo.map (Value.int .i64)), .row 3 1 (.slice (some ⟨w.heap.size, 0, none⟩) 26 26) 26 (knFrom.map (Value.int .i64))]) (fun kv _ => 26 - (intOf kv).toNat)
 case atStart => exact ⟨0, rfl, by omega, rfl, H2⟩
 case round =>
  clear H2;obtain ⟨i, rfl, hi, hany, H⟩ := hrel
  by_cases hlt : i < 26
  ·obtain ⟨⟨p, q⟩, hx⟩ := at_some knTbl_len hlt
   have cp := H.atM 1 rfl (show knFrom[i]? = some p by rw [knFrom_eq, List.getElem?_map, hx]; rfl);have cq := H.atM 0 rfl (show knTo[i]? = some q by rw [knTo_eq, List.getElem?_map, hx]; rfl);have hi0 : (0 : Int) ≤ (i : Int) := by omega
   have hi1 : (i : Int) < 26 := by omega
   have HX := Lib.hid hx;have HA := Lib.hid hany;clear hx hany;go_wp2_with fail;refine wp_region_quiet_lit (by kernel_rfl) (by kernel_rfl) ?_
   repeat (any_goals (first | go_big_quiet_step ((go_at_call 25; exact Calls.quiet_of_same (l1In_any _ _ _ _))) | quiet_step ((go_at_call 25; exact Calls.quiet_of_same (l1In_any _ _ _ _))) | (refine wpQuiet_step (fun K hK => ?_); go_simp; split <;> (refine hK _ ?_; clear hK K))))
   all_goals (refine wpQuiet_nil ?_; intro _ hw_; obtain ⟨nq, hw__⟩ := hw_; subst hw__)
   replace H := H.on nq;have hbb : inB c p q = true ∨ inB c p q = false := by cases inB c p q <;> simp
   rcases hbb with hb | hb
   ·rw [hb]
    go_wp2_with fail;go_ret;refine ⟨ret_bool ?_, H.fr⟩;have : knTbl.any (fun p => inB c p.1 p.2) = true := List.any_eq_true.2 ⟨(p, q), HX.out.mem, hb⟩;rw [knownS, this, Bool.true_and]
    by_cases h47 : c = 47 <;> simp [h47]
   ·rw [hb]
    go_wp2_with fail;go_roundw
    case rel => exact ⟨i + 1, by go_num, by omega, by rw [At.take HX.out, List.any_append, HA.out]; simpa using hb, H⟩
    case measure => simp [intOf]; omega
  ·have hi26 : i = 26 := by omega
   have HA := Lib.hid hany;clear hany;go_wp2_with fail;go_ret;refine ⟨?_, H.fr⟩;have h := HA.out;rw [hi26, List.take_of_length_le (by rw [knTbl_len]; omega)] at h;rw [knownS, h]
   rfl
def KT (w : World) : Prop := Rd w (some ⟨0, 0, none⟩) 27 2 (kpPairs.flatMap cPair)
theorem KT.fr {w w' : World} (h : KT w) (f : Fr w w') : KT w' := Rd.fr (show Rd w (some ⟨0, 0, none⟩) 27 2 (kpPairs.flatMap cPair) from h) f
theorem KT.cells {w : World} (h : KT w) {k : Nat} {p q : Int} (hx : At kpPairs k (p, q)) : w.cell? ⟨0, k * 2, none⟩ = some (.int .i64 p) ∧ w.cell? ⟨0, k * 2 + 1, none⟩ = some (.int .i64 q) := by
 have h' : Rd w (some ⟨0, 0, none⟩) 27 2 (kpPairs.flatMap cPair) := h;obtain ⟨bk, of, e, hcell⟩ := h'.elem (f := cPair) (fun _ => rfl) hx (by omega);injection e with e;injection e with e1 e2;subst e1 e2;have ca := hcell 0 _ rfl;have cb := hcell 1 _ rfl;simp only [Nat.zero_add, Nat.add_zero] at ca cb;exact ⟨ca, cb⟩
set_option maxRecDepth 100000 in
set_option maxHeartbeats 4000000 in
theorem implKnown_any (c : Int) (w : World) (hk : KT w) :
 Calls Tryz.prog 126 #[.int .i64 c] w fun e w' => e = .returned (.bool (knownS c)) ∧ Fr w w' := by
 have G := Lib.hid hk;clear hk;go_enter Tryz.func126, Tryz.ntmps126;go_wp2_with fail
 go_loopw [3] (fun iv wr => ∃ (k p : Nat), iv = .int .i64 p ∧ p = k * 2 ∧ k ≤ 27 ∧ (kpPairs.take k).any (fun p => inB c p.1 p.2) = false ∧ Fr w wr) (fun iv _ => 54 - (intOf iv).toNat)
 case atStart => exact ⟨0, 0, rfl, rfl, by omega, rfl, Below.refl _ _⟩
 case round =>
  obtain ⟨k, p, rfl, hp, hk, hany, hf⟩ := hrel
  by_cases hlt : k < 27
  ·obtain ⟨⟨u, v⟩, hx⟩ := at_some kpPairs_len hlt
   obtain ⟨ca, cb⟩ := KT.cells (G.out.fr hf) hx;obtain ⟨p1, hp1⟩ : ∃ q : Nat, q = p + 1 := ⟨_, rfl⟩;rw [← hp] at ca cb;rw [← hp1] at cb;have hw : IntKind.i64.wrap ((p : Int) + 1) = (p1 : Int) := by rw [IntWalk.i64_in _ (by omega)]; omega
   have HX := Lib.hid hx;have HA := Lib.hid hany;have HP := Lib.hid hp;have hp54 : p < 54 := by omega
   have h0 : (0 : Int) ≤ (p : Int) := by omega
   have h1 : (p : Int) < 54 := by omega
   have h2 : (0 : Int) ≤ (p1 : Int) := by omega
   have h3 : (p1 : Int) < 54 := by omega
   have HF := Lib.hid hf;clear hx hp hp1 hany hf;go_wp2_with fail;refine wp_region_quiet_lit (by kernel_rfl) (by kernel_rfl) ?_
   repeat (any_goals (first | go_big_quiet_step ((go_at_call 71; exact Calls.quiet_of_same (within_any _ _ _ _))) | quiet_step ((go_at_call 71; exact Calls.quiet_of_same (within_any _ _ _ _))) | (refine wpQuiet_step (fun K hK => ?_); go_simp; split <;> (refine hK _ ?_; clear hK K))))
   all_goals (refine wpQuiet_nil ?_; intro _ hw_; obtain ⟨nq, hw__⟩ := hw_; subst hw__)
   have hf := HF.out.on nq;have hbb : inB c u v = true ∨ inB c u v = false := by cases inB c u v <;> simp
   rcases hbb with hb | hb
   ·have HE := Lib.hid (show knownS c = true by rw [← pairs_known]; exact List.any_eq_true.2 ⟨(u, v), HX.out.mem, hb⟩)
    rw [hb];go_wp2_with fail;go_ret;rw [HE.out];exact ⟨rfl, hf⟩
   ·rw [hb]
    go_wp2_with fail;go_roundw
    case rel => exact ⟨k + 1, p + 2, by go_num, by have := HP.out; omega, by omega, by rw [At.take HX.out, List.any_append, HA.out]; simpa using hb, hf⟩
    case measure => simp [intOf]; omega
  ·have hge : ¬ ((p : Int) < 54) := by omega
   have HE := Lib.hid (show knownS c = false by
    rw [List.take_of_length_le (by rw [kpPairs_len]; omega)] at hany;rw [← pairs_known]; exact hany)
   clear hany;go_wp2_with fail;go_ret;rw [HE.out];exact ⟨rfl, hf⟩
end Go.Proofs.YtmpldngnkacnmaaGreatDoor