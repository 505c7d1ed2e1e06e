/-
  PutBlock: the program and the reference put the same.
-/
import Derived.Test.YtbmoolmgfpcnkaaExtents
import Derived.Test.YtbmoolmgfpcnkaaExtsOk
import Derived.Test.YtbmoolmgfpcnkaaExtsOkI
import Derived.Test.YtbmoolmgfpcnkaaGa
import Derived.Test.YtbmoolmgfpcnkaaGb
namespace Go.Proofs.Ytbmoolmgfpcnkaa
open Go.RowKit

theorem cExt_one (l : List (Int × Int × Int)) : ∀ u ∈ l.flatMap cExt, u.oneCell' = true := by
  intro u hu
  obtain ⟨e, _, he⟩ := List.mem_flatMap.1 hu
  simp only [cExt, List.mem_cons, List.not_mem_nil, or_false] at he
  rcases he with rfl | rfl | rfl <;> rfl
/-- Extents and a word come back. -/
def GaveE (w : World) (L : List (Int × Int × Int)) (is : Bool) (e : Ending) (w' : World) : Prop := ∃ (B : Option Addr) (k d : Nat), e = .returned (.tuple #[.slice B k d, .bool is]) ∧ L.length = k ∧
  Hp [] w w' [.row 92 3 (.slice B k d) k (L.flatMap cExt)]
set_option maxRecDepth 100000 in
set_option maxHeartbeats 1000000 in
theorem contains_any (A : Option Addr) (n c : Nat) (l : List Int) (x : Int) (w : World) (h : Rd w A n 1 (l.map (Value.int .i64))) (hn : n ≤ 1048576) :
    Calls Try.prog 74 #[.slice A n c, .int .i64 x] w fun e w' => e = .returned (.bool (l.contains x)) ∧ w = w' := by
  go_enter Try.func74, Try.ntmps74
  go_wp2_with fail
  refine (index_any A n c l x _ h hn).mono ?_
  rintro e w1 ⟨r, rfl, hr, rfl⟩
  rcases hr with ⟨rfl, hx⟩ | ⟨k, rfl, hk, hx⟩
  · have hx2 : l.contains x = false := by simpa using hx
    have HE := Lib.hid hx2
    clear hx hx2 h
    go_wp2_with fail
    go_ret
    exact ⟨ret_bool HE.out.symm, rfl⟩
  · have hx2 : l.contains x = true := by simpa using List.mem_of_getElem? hx
    have HE := Lib.hid hx2
    clear hx hx2 h
    go_wp2_with fail
    go_ret
    exact ⟨ret_bool (by rw [HE.out]), rfl⟩

theorem GaveE.of {w w' : World} {L L' : List (Int × Int × Int)} {is is' : Bool} {e : Ending} (hL : L' = L) (hi : is' = is) (h : GaveE w L is e w') : GaveE w L' is' e w' := by rw [hL, hi]; exact h

set_option maxRecDepth 100000 in
set_option maxHeartbeats 4000000 in
theorem implPutBlock_any (A : Option Addr) (n c : Nat) (l : List (Int × Int × Int)) (i b : Int) (w : World) (h : Rd w A n 3 (l.flatMap cExt)) (hc : A = none → c = 0) (hn : n ≤ 1048576) :
    Calls Try.prog 21 #[.slice A n c, .int .i64 i, .int .i64 b] w fun e w' => GaveE w (putExts l i b) (putOk l i b) e w' := by
  have hl : l.length = n := h.lenk cExt_len (by omega)
  have HL := Lib.hid hl
  have HC := Lib.hid hc
  have G := Lib.hid h
  clear hl hc
  by_cases hok : eOk l = true
  · have OK := eOk_ranges hok
    have HB := Lib.hid (flatL_ok OK)
    have HOK := Lib.hid hok
    go_enter Try.func21, Try.ntmps21
    go_wp2_with fail
    refine (implExtsOk_any A n c l _ h hn).mono ?_
    rintro e w1 ⟨rfl, f1⟩
    rw [hok]
    go_wp2_with fail
    refine (implFlat_any A n c l _ (h.fr f1) OK hn).mono ?_
    rintro e w3 ⟨A3, c3, rfl, o3, f3⟩
    have H := Hp.made ((Hp.start w).go f1) o3 f3
    obtain ⟨g, c4, e, hg⟩ := H.form 0 rfl (by omega)
    injection e with e1 _ e2
    subst e1 e2
    clear h o3 f3 f1 hok OK hg
    go_wp2_with fail
    refine (within_any i 0 11 _).mono ?_
    rintro e w4 ⟨rfl, rfl⟩
    cases hi : inB i 0 11 with
    | false =>
      have HX : putOk l i b = false := by simp [putOk, hi]
      clear hi
      have HE := Lib.hid (And.intro (putExts_no HX HOK.out) HX)
      go_wp2_with (at_builtin; refine wp_appRd ((H.nil_ 92 3)) rfl _ _ _ rfl Try.underlying32 infoExt rfl (by decide) 0 _ _ _ rfl rfl _ _ _ _ rfl (HC.out) (H.old G.out) (cExt_one _) (by first | (simp only [maxLen]; omega) | (simp [maxLen]; done) | (simp [maxLen]; omega)) (by first | omega | (simp; done) | (simp; omega)) ?_)
      intro v' w9 H9
      obtain ⟨B, d, rfl⟩ := H9.shape 0 rfl
      have HF := Lib.hid H9
      clear H9 HX
      go_wp2_with fail
      go_ret2
      refine .of HE.out.1 HE.out.2 ?_
      exact ⟨B, n, d, rfl, HL.out, by have h9 := HF.out.sub (l' := [.row 92 3 (.slice B (0 + n) d) (0 + n) ([] ++ l.flatMap cExt)]) (by simp); simpa using h9⟩
    | true =>
      have hi2 := inB_iff.1 hi
      obtain ⟨k, rfl⟩ : ∃ q : Nat, i = q := ⟨i.toNat, by omega⟩
      have hk : k < 12 := by omega
      obtain ⟨x, hx⟩ := at_some (flatL_len l) hk
      have cx := H.atM 0 rfl hx
      have hi0 : (0 : Int) ≤ (k : Int) := by omega
      have hi1 : (k : Int) < 12 := by omega
      by_cases hx0 : 0 ≤ x
      · have HX : putOk l k b = false := by simp [putOk, show (flatL l)[k]? = some x from hx, show ¬ x < 0 by omega]
        have hd : decide (0 ≤ x) = true := decide_eq_true hx0
        clear hi hx hi2
        have HE := Lib.hid (And.intro (putExts_no HX HOK.out) HX)
        go_wp2_with (at_builtin; refine wp_appRd ((H.nil_ 92 3)) rfl _ _ _ rfl Try.underlying32 infoExt rfl (by decide) 0 _ _ _ rfl rfl _ _ _ _ rfl (HC.out) (H.old G.out) (cExt_one _) (by first | (simp only [maxLen]; omega) | (simp [maxLen]; done) | (simp [maxLen]; omega)) (by first | omega | (simp; done) | (simp; omega)) ?_)
        intro v' w9 H9
        obtain ⟨B, d, rfl⟩ := H9.shape 0 rfl
        have HF := Lib.hid H9
        clear H9 HX
        go_wp2_with fail
        go_ret2
        refine .of HE.out.1 HE.out.2 ?_
        exact ⟨B, n, d, rfl, HL.out, by have h9 := HF.out.sub (l' := [.row 92 3 (.slice B (0 + n) d) (0 + n) ([] ++ l.flatMap cExt)]) (by simp); simpa using h9⟩
      · have hd : decide (0 ≤ x) = false := decide_eq_false hx0
        have HXX := Lib.hid hx
        have HI := Lib.hid hi
        clear hi hx hi2
        go_wp2_with fail
        refine (within_any b 0 23 _).mono ?_
        rintro e w5 ⟨rfl, rfl⟩
        cases hb : inB b 0 23 with
        | false =>
          have HX : putOk l k b = false := by simp [putOk, hb]
          clear hb
          have HE := Lib.hid (And.intro (putExts_no HX HOK.out) HX)
          go_wp2_with (at_builtin; refine wp_appRd ((H.nil_ 92 3)) rfl _ _ _ rfl Try.underlying32 infoExt rfl (by decide) 0 _ _ _ rfl rfl _ _ _ _ rfl (HC.out) (H.old G.out) (cExt_one _) (by first | (simp only [maxLen]; omega) | (simp [maxLen]; done) | (simp [maxLen]; omega)) (by first | omega | (simp; done) | (simp; omega)) ?_)
          intro v' w9 H9
          obtain ⟨B, d, rfl⟩ := H9.shape 0 rfl
          have HF := Lib.hid H9
          clear H9 HX
          go_wp2_with fail
          go_ret2
          refine .of HE.out.1 HE.out.2 ?_
          exact ⟨B, n, d, rfl, HL.out, by have h9 := HF.out.sub (l' := [.row 92 3 (.slice B (0 + n) d) (0 + n) ([] ++ l.flatMap cExt)]) (by simp); simpa using h9⟩
        | true =>
          have HBI := Lib.hid hb
          clear hb
          go_wp2_with fail
          refine (contains_any _ 12 _ (flatL l) b _ (H.rd 0 rfl) (by decide)).mono ?_
          rintro e w6 ⟨rfl, rfl⟩
          cases hcn : (flatL l).contains b with
          | true =>
            have HX : putOk l k b = false := by simp [putOk, show b ∈ flatL l by simpa using hcn]
            clear hcn
            have HE := Lib.hid (And.intro (putExts_no HX HOK.out) HX)
            go_wp2_with (at_builtin; refine wp_appRd ((H.nil_ 92 3)) rfl _ _ _ rfl Try.underlying32 infoExt rfl (by decide) 0 _ _ _ rfl rfl _ _ _ _ rfl (HC.out) (H.old G.out) (cExt_one _) (by first | (simp only [maxLen]; omega) | (simp [maxLen]; done) | (simp [maxLen]; omega)) (by first | omega | (simp; done) | (simp; omega)) ?_)
            intro v' w9 H9
            obtain ⟨B, d, rfl⟩ := H9.shape 0 rfl
            have HF := Lib.hid H9
            clear H9 HX
            go_wp2_with fail
            go_ret2
            refine .of HE.out.1 HE.out.2 ?_
            exact ⟨B, n, d, rfl, HL.out, by have h9 := HF.out.sub (l' := [.row 92 3 (.slice B (0 + n) d) (0 + n) ([] ++ l.flatMap cExt)]) (by simp); simpa using h9⟩
          | false =>
            have HX : putOk l k b = true := by simp [putOk, HOK.out, HI.out, show (flatL l)[k]? = some x from HXX.out, show x < 0 by omega, HBI.out, show b ∉ flatL l by simpa using hcn]
            have HE := Lib.hid (And.intro ((putExts_yes HX).trans (by rw [Int.toNat_natCast])) HX)
            have hb2 := inB_iff.1 HBI.out
            have hz := H.free 0 rfl k
            have H2 := Lib.hid (H.putM 0 rfl k b)
            have HBS := Lib.hid (blk_set (i := k) HB.out (b := b) (by omega))
            clear hcn HX hb2
            go_wp2_with fail
            have H3 := H2.out
            refine (implExtents_any _ _ _ _ (H3.rd 0 rfl) HBS.out).mono ?_
            rintro e w8 ⟨A8, c8, rfl, o8, f8⟩
            have H8 := (H3.made o8 f8).sub (l' := [.row 92 3 (.slice A8 (extsL ((flatL l).set k b)).length c8) (extsL ((flatL l).set k b)).length ((extsL ((flatL l).set k b)).flatMap cExt)]) (by simp)
            clear H3 H o8 f8
            go_wp2_with fail
            go_ret2
            exact .of HE.out.1 HE.out.2 ⟨A8, _, c8, rfl, rfl, H8⟩
  · have hok' : eOk l = false := by simpa using hok
    have HE := Lib.hid (putExts_bad (i := i) (b := b) hok')
    have HX := Lib.hid (show putOk l i b = false by simp [putOk, hok'])
    go_enter Try.func21, Try.ntmps21
    go_wp2_with fail
    refine (implExtsOk_any A n c l _ h hn).mono ?_
    rintro e w1 ⟨rfl, f1⟩
    rw [hok']
    go_wp2_with fail
    go_ret2
    exact .of HE.out HX.out ⟨none, 0, 0, rfl, rfl, ((Hp.start w).go f1).nil_ 92 3⟩

set_option maxRecDepth 100000 in
set_option maxHeartbeats 4000000 in
theorem specPutBlock_any (A : Option Addr) (n c : Nat) (l : List (Int × Int × Int)) (i b : Int) (w : World) (h : Rd w A n 3 (l.flatMap cExt)) (hc : A = none → c = 0) (hn : n ≤ 1048576) :
    Calls Try.prog 22 #[.slice A n c, .int .i64 i, .int .i64 b] w fun e w' => GaveE w (putExts l i b) (putOk l i b) e w' := by
  have hl : l.length = n := h.lenk cExt_len (by omega)
  have HL := Lib.hid hl
  have HC := Lib.hid hc
  have G := Lib.hid h
  clear hl hc
  by_cases hok : eOk l = true
  · have OK := eOk_ranges hok
    have HB := Lib.hid (flatL_ok OK)
    have HOK := Lib.hid hok
    go_enter Try.func22, Try.ntmps22
    go_wp2_with fail
    refine (specExtsOk_any A n c l _ h hn).mono ?_
    rintro e w1 ⟨rfl, f1⟩
    rw [hok]
    go_wp2_with fail
    refine (specMap_any A n c l _ (h.fr f1) OK hn).mono ?_
    rintro e w3 ⟨A3, c3, rfl, o3, f3⟩
    have H := Hp.made ((Hp.start w).go f1) o3 f3
    obtain ⟨g, c4, e, hg⟩ := H.form 0 rfl (by omega)
    injection e with e1 _ e2
    subst e1 e2
    clear h o3 f3 f1 hok OK hg
    by_cases hi0 : i < 0
    · have HX : putOk l i b = false := by simp [putOk, inB]; omega
      have HE := Lib.hid (And.intro (putExts_no HX HOK.out) HX)
      go_wp2_with (at_builtin; refine wp_appRd ((H.lit0 92 3)) rfl _ _ _ rfl Try.underlying32 infoExt rfl (by decide) 0 _ _ _ rfl rfl _ _ _ _ rfl (HC.out) ((H.lit0 92 3).old G.out) (cExt_one _) (by first | (simp only [maxLen]; omega) | (simp [maxLen]; done) | (simp [maxLen]; omega)) (by first | omega | (simp; done) | (simp; omega)) ?_)
      intro v' w9 H9
      obtain ⟨B, d, rfl⟩ := H9.shape 0 rfl
      have HF := Lib.hid H9
      clear H9 HX
      go_wp2_with fail
      go_ret2
      refine .of HE.out.1 HE.out.2 ?_
      exact ⟨B, n, d, rfl, HL.out, by have h9 := HF.out.sub (l' := [.row 92 3 (.slice B (0 + n) d) (0 + n) ([] ++ l.flatMap cExt)]) (by simp); simpa using h9⟩
    by_cases hi1 : 12 ≤ i
    · have HX : putOk l i b = false := by simp [putOk, inB]; omega
      have HE := Lib.hid (And.intro (putExts_no HX HOK.out) HX)
      go_wp2_with (at_builtin; refine wp_appRd ((H.lit0 92 3)) rfl _ _ _ rfl Try.underlying32 infoExt rfl (by decide) 0 _ _ _ rfl rfl _ _ _ _ rfl (HC.out) ((H.lit0 92 3).old G.out) (cExt_one _) (by first | (simp only [maxLen]; omega) | (simp [maxLen]; done) | (simp [maxLen]; omega)) (by first | omega | (simp; done) | (simp; omega)) ?_)
      intro v' w9 H9
      obtain ⟨B, d, rfl⟩ := H9.shape 0 rfl
      have HF := Lib.hid H9
      clear H9 HX
      go_wp2_with fail
      go_ret2
      refine .of HE.out.1 HE.out.2 ?_
      exact ⟨B, n, d, rfl, HL.out, by have h9 := HF.out.sub (l' := [.row 92 3 (.slice B (0 + n) d) (0 + n) ([] ++ l.flatMap cExt)]) (by simp); simpa using h9⟩
    obtain ⟨k, rfl⟩ : ∃ q : Nat, i = q := ⟨i.toNat, by omega⟩
    have hk : k < 12 := by omega
    have HI := Lib.hid (show inB (k : Int) 0 11 = true by rw [inB_iff]; omega)
    obtain ⟨x, hx⟩ := at_some (flatL_len l) hk
    have cx := H.atM 0 rfl hx
    have hi2 : (0 : Int) ≤ (k : Int) := by omega
    have hi3 : (k : Int) < 12 := by omega
    by_cases hx0 : 0 ≤ x
    · have HX : putOk l k b = false := by simp [putOk, show (flatL l)[k]? = some x from hx, show ¬ x < 0 by omega]
      have hd : decide (0 ≤ x) = true := decide_eq_true hx0
      clear hx
      have HE := Lib.hid (And.intro (putExts_no HX HOK.out) HX)
      go_wp2_with (at_builtin; refine wp_appRd ((H.lit0 92 3)) rfl _ _ _ rfl Try.underlying32 infoExt rfl (by decide) 0 _ _ _ rfl rfl _ _ _ _ rfl (HC.out) ((H.lit0 92 3).old G.out) (cExt_one _) (by first | (simp only [maxLen]; omega) | (simp [maxLen]; done) | (simp [maxLen]; omega)) (by first | omega | (simp; done) | (simp; omega)) ?_)
      intro v' w9 H9
      obtain ⟨B, d, rfl⟩ := H9.shape 0 rfl
      have HF := Lib.hid H9
      clear H9 HX
      go_wp2_with fail
      go_ret2
      refine .of HE.out.1 HE.out.2 ?_
      exact ⟨B, n, d, rfl, HL.out, by have h9 := HF.out.sub (l' := [.row 92 3 (.slice B (0 + n) d) (0 + n) ([] ++ l.flatMap cExt)]) (by simp); simpa using h9⟩
    have hd : decide (0 ≤ x) = false := decide_eq_false hx0
    have HXX := Lib.hid hx
    clear hx
    go_wp2_with fail
    refine (l1In_any b 0 23 _).mono ?_
    rintro e w5 ⟨rfl, rfl⟩
    cases hb : inB b 0 23 with
    | false =>
      have HX : putOk l k b = false := by simp [putOk, hb]
      clear hb
      have HE := Lib.hid (And.intro (putExts_no HX HOK.out) HX)
      go_wp2_with (at_builtin; refine wp_appRd ((H.lit0 92 3)) rfl _ _ _ rfl Try.underlying32 infoExt rfl (by decide) 0 _ _ _ rfl rfl _ _ _ _ rfl (HC.out) ((H.lit0 92 3).old G.out) (cExt_one _) (by first | (simp only [maxLen]; omega) | (simp [maxLen]; done) | (simp [maxLen]; omega)) (by first | omega | (simp; done) | (simp; omega)) ?_)
      intro v' w9 H9
      obtain ⟨B, d, rfl⟩ := H9.shape 0 rfl
      have HF := Lib.hid H9
      clear H9 HX
      go_wp2_with fail
      go_ret2
      refine .of HE.out.1 HE.out.2 ?_
      exact ⟨B, n, d, rfl, HL.out, by have h9 := HF.out.sub (l' := [.row 92 3 (.slice B (0 + n) d) (0 + n) ([] ++ l.flatMap cExt)]) (by simp); simpa using h9⟩
    | true =>
      have HBI := Lib.hid hb
      clear hb
      go_wp2_with fail
      refine (has_any _ 12 _ (flatL l) b _ (H.rd 0 rfl) (by decide)).mono ?_
      rintro e w6 ⟨rfl, rfl⟩
      cases hcn : (flatL l).contains b with
      | true =>
        have HX : putOk l k b = false := by simp [putOk, show b ∈ flatL l by simpa using hcn]
        clear hcn
        have HE := Lib.hid (And.intro (putExts_no HX HOK.out) HX)
        go_wp2_with (at_builtin; refine wp_appRd ((H.lit0 92 3)) rfl _ _ _ rfl Try.underlying32 infoExt rfl (by decide) 0 _ _ _ rfl rfl _ _ _ _ rfl (HC.out) ((H.lit0 92 3).old G.out) (cExt_one _) (by first | (simp only [maxLen]; omega) | (simp [maxLen]; done) | (simp [maxLen]; omega)) (by first | omega | (simp; done) | (simp; omega)) ?_)
        intro v' w9 H9
        obtain ⟨B, d, rfl⟩ := H9.shape 0 rfl
        have HF := Lib.hid H9
        clear H9 HX
        go_wp2_with fail
        go_ret2
        refine .of HE.out.1 HE.out.2 ?_
        exact ⟨B, n, d, rfl, HL.out, by have h9 := HF.out.sub (l' := [.row 92 3 (.slice B (0 + n) d) (0 + n) ([] ++ l.flatMap cExt)]) (by simp); simpa using h9⟩
      | false =>
        have HX : putOk l k b = true := by simp [putOk, HOK.out, HI.out, show (flatL l)[k]? = some x from HXX.out, show x < 0 by omega, HBI.out, show b ∉ flatL l by simpa using hcn]
        have HE := Lib.hid (And.intro ((putExts_yes HX).trans (by rw [Int.toNat_natCast])) HX)
        have hb2 := inB_iff.1 HBI.out
        have hz := H.free 0 rfl k
        have cx := H.atM 0 rfl HXX.out
        have H2 := Lib.hid (H.putM 0 rfl k b)
        have HBS := Lib.hid (blk_set (i := k) HB.out (b := b) (by omega))
        clear hcn HX hb2
        go_wp2_with fail
        have H3 := H2.out
        refine (specExts_any _ _ _ _ (H3.rd 0 rfl) HBS.out).mono ?_
        rintro e w8 ⟨A8, c8, rfl, o8, f8⟩
        have H8 := (H3.made o8 f8).sub (l' := [.row 92 3 (.slice A8 (extsL ((flatL l).set k b)).length c8) (extsL ((flatL l).set k b)).length ((extsL ((flatL l).set k b)).flatMap cExt)]) (by simp)
        clear H3 H o8 f8
        go_wp2_with fail
        go_ret2
        exact .of HE.out.1 HE.out.2 ⟨A8, _, c8, rfl, rfl, H8⟩
  · have hok' : eOk l = false := by simpa using hok
    have HE := Lib.hid (putExts_bad (i := i) (b := b) hok')
    have HX := Lib.hid (show putOk l i b = false by simp [putOk, hok'])
    go_enter Try.func22, Try.ntmps22
    go_wp2_with fail
    refine (specExtsOk_any A n c l _ h hn).mono ?_
    rintro e w1 ⟨rfl, f1⟩
    rw [hok']
    go_wp2_with fail
    go_ret2
    exact .of HE.out HX.out ⟨_, 0, 0, rfl, rfl, ((Hp.start w).go f1).lit0 92 3⟩
end Go.Proofs.Ytbmoolmgfpcnkaa
