/-
  Many texts in one: Apart, Mark, FrC, EntS.
-/
import Derived.Test.YtaogikhpglcmjaaGreatDoorGh
import Derived.Test.YtaogikhpglcmjaaGreatDoorGc
import Derived.Deep.RegionHeld3
import Derived.StillTailTactics
namespace Go.Proofs.YtaogikhpglcmjaaGreatDoor
open Go.RowKit

def InI (x : Int) : Prop := -9223372036854775808 ≤ x ∧ x ≤ 9223372036854775807
theorem At.app {α : Type} {a b : List α} {x : α} {k : Nat} (hk : k = a.length) : At (a ++ x :: b) k x := by
  subst hk; simp [At]
theorem At.pre {α : Type} {a b : List α} {x : α} {k : Nat} (h : At a k x) : At (a ++ b) k x := by
  rw [At, List.getElem?_append_left h.lt]; exact h

theorem ins_at_len {o : List Int} {x : Int} {k : Nat} (hk : k ≤ o.length) : (o.take k ++ x :: o.drop k).length = o.length + 1 := by
  rw [List.length_append, List.length_cons, List.length_take, List.length_drop]; omega
/-- One outer step more. -/
def pre (l : List Int) (i : Nat) : List Int := ((l.take i).flatMap takeS).foldl ins []
theorem pre_succ {l : List Int} {i : Nat} {c : Int} (h : At l i c) : pre l (i + 1) = (takeS c).foldl ins (pre l i) := by
  rw [pre, h.take, List.flatMap_append, List.flatMap_singleton, List.foldl_append]; rfl
theorem pre_len (l : List Int) (i : Nat) : (pre l i).length ≤ 27 * l.length := by
  rw [pre, foldl_len]
  have := flat_le take_len (l.take i)
  have h2 : (l.take i).length ≤ l.length := by rw [List.length_take]; omega
  simp only [List.length_nil, Nat.zero_add]
  omega
theorem pre_all {l : List Int} {i : Nat} (h : l.length ≤ i) : pre l i = apartL l := by rw [pre, List.take_of_length_le h]; rfl

set_option linter.unusedVariables false
set_option maxRecDepth 100000 in
set_option maxHeartbeats 8000000 in
theorem implApart_any (A : Option Addr) (n c : Nat) (l : List Int) (w : World) (h : Rd w A n 1 (l.map (Value.int .i64))) (hn : n ≤ 2097152) (hok : ∀ x ∈ l, InI x) :
    Calls Tryz.prog 136 #[.slice A n c] w (Made w 3 1 (apartL l).length ((apartL l).map (Value.int .i64))) := by
  have HL := Lib.hid h.len1
  have G := Lib.hid h
  have OK := Lib.hid hok
  have H0 := (Hp.start w).lit0 3 1
  have HAP := Lib.hid (fun i (hi : l.length ≤ i) => pre_all (l := l) hi)
  generalize apartL l = ap at HAP ⊢
  clear h hok
  go_enter Tryz.func136, Tryz.ntmps136
  go_wp2_with fail
  go_loopw [3, 12] (fun v iv wr => ∃ i : Nat, iv = .int .i64 i ∧ i ≤ n ∧ Hp [] w wr [.row 3 1 v (pre l i).length ((pre l i).map (Value.int .i64))]) (fun _ iv _ => n - (intOf iv).toNat)
  case atStart => exact ⟨0, rfl, by omega, H0⟩
  case round =>
    clear H0
    obtain ⟨i, rfl, hi, H⟩ := hrel
    obtain ⟨B, d, rfl⟩ := H.shape 0 rfl
    by_cases hlt : i < n
    · obtain ⟨cc, hx⟩ := at_some HL.out hlt
      obtain ⟨bk, of, rfl, hc⟩ := (H.old G.out).get1 hx
      have hi0 : (0 : Int) ≤ (i : Int) := by omega
      have hi1 : (i : Int) < (n : Int) := by omega
      have hic := OK.out cc hx.mem
      have HP := Lib.hid (pre_succ hx)
      have hpl := pre_len l i
      rw [HL.out] at hpl
      clear hx
      generalize pre l i = o0 at H HP hpl
      go_wp2_with fail
      refine (taken_any cc _ hic).mono ?_
      rintro e w1 ⟨T, dt, rfl, ot, ft⟩
      have H1 := (H.made ot ft).swap
      clear H ot ft hc hic
      have htl := take_len cc
      generalize takeS cc = ts at H1 HP htl ⊢
      go_wp2_with fail
      go_loopw [3, 19] (fun v jv wr => ∃ j : Nat, jv = .int .i64 j ∧ j ≤ ts.length ∧ Hp [] w wr [.row 3 1 v ((ts.take j).foldl ins o0).length (((ts.take j).foldl ins o0).map (Value.int .i64)), .row 3 1 (.slice T ts.length dt) ts.length (ts.map (Value.int .i64))]) (fun _ jv _ => ts.length - (intOf jv).toNat)
      case atStart => exact ⟨0, rfl, by omega, H1⟩
      case round =>
        clear H1
        obtain ⟨j, rfl, hj, H⟩ := hrel
        obtain ⟨B, d, rfl⟩ := H.shape 0 rfl
        by_cases hjt : j < ts.length
        · obtain ⟨x, hx⟩ := at_some (l := ts) rfl hjt
          obtain ⟨gT, cT, e, _⟩ := H.form 1 rfl (by omega)
          injection e with e1 _ e2
          subst e1 e2
          have cx := H.atM 1 rfl hx
          have hj0 : (0 : Int) ≤ (j : Int) := by omega
          have hj1 : (j : Int) < (ts.length : Int) := by omega
          have HF := Lib.hid (show (ts.take (j + 1)).foldl ins o0 = ins ((ts.take j).foldl ins o0) x by rw [hx.take, List.foldl_append]; rfl)
          have hol : ((ts.take j).foldl ins o0).length ≤ 27 * n + 27 := by
            rw [foldl_len]
            have : (ts.take j).length ≤ ts.length := by rw [List.length_take]; omega
            omega
          clear hx
          generalize (ts.take j).foldl ins o0 = o at H HF hol ⊢
          go_wp2_with (at_builtin; refine wp_appM (f := Value.int .i64) (H) rfl _ _ _ rfl Tryz.underlying82 infoInt rfl 0 _ _ rfl rfl _ _ (x) rfl (by simp) rfl (by first | (simp only [maxLen]; omega) | (simp [maxLen]; done) | (simp [maxLen]; omega)) (by first | omega | (simp; done) | (simp; omega)) ?_)
          intro v' w' H'
          have H2 : Hp [] w w' [.row 3 1 v' (o.length + 1) ((o ++ [x]).map (Value.int .i64)), .row 3 1 (.slice (some ⟨gT, 0, none⟩) ts.length dt) ts.length (ts.map (Value.int .i64))] := by
            rw [List.map_append]
            exact H'
          clear H' H cx
          obtain ⟨gO, dO, rfl, _⟩ := H2.form 0 rfl (by omega)
          obtain ⟨N, hN⟩ : ∃ N, N = o.length + 1 := ⟨_, rfl⟩
          have HN := Lib.hid hN
          have hNb : N ≤ 100000000 := by omega
          have hN1 : 1 ≤ N := by omega
          rw [← hN] at H2 ⊢
          clear hN hol
          go_wp2_with fail
          go_loopw [8] (fun kv wr => ∃ k : Nat, kv = .int .i64 k ∧ k < N ∧ (∀ y ∈ o.drop k, cls x < cls y) ∧ (k < o.length → 0 < cls x) ∧ Hp [] w wr [.row 3 1 (.slice (some ⟨gO, 0, none⟩) N dO) N ((o.take k ++ x :: (o.drop k ++ [])).map (Value.int .i64)), .row 3 1 (.slice (some ⟨gT, 0, none⟩) ts.length dt) ts.length (ts.map (Value.int .i64))]) (fun kv _ => (intOf kv).toNat)
          case atStart => exact ⟨N - 1, by go_num, by omega, by rw [HN.out]; simp, by rw [HN.out]; omega, by rw [show o.take (N - 1) ++ x :: (o.drop (N - 1) ++ []) = o ++ [x] by have := HN.out; rw [show N - 1 = o.length by omega]; simp]; exact H2⟩
          case round =>
            clear H2
            obtain ⟨k, rfl, hk, hd, h0, H⟩ := hrel
            have HD := Lib.hid hd
            have HZ := Lib.hid h0
            clear hd h0
            have hko : k ≤ o.length := by have := HN.out; omega
            have HKO := Lib.hid hko
            have HNL := Lib.hid ((ins_at_len (x := x) hko).trans HN.out.symm)
            clear hko
            rcases Nat.eq_zero_or_pos k with hk0 | hk0
            · subst hk0
              have HE := Lib.hid (HF.out.trans (ins_stop HKO.out HD.out HZ.out (.inl rfl)))
              go_wp2_with fail
              refine wp_region_quiet_lit (by kernel_rfl) (by kernel_rfl) ?_
              repeat (any_goals (first | go_big_quiet_step ((fail)) | quiet_step ((fail)) | (refine wpQuiet_step (fun K hK => ?_); go_simp; split <;> (refine hK _ ?_; clear hK K))))
              all_goals (refine wpQuiet_nil ?_; intro _ hw_; obtain ⟨nq, hw__⟩ := hw_; subst hw__)
              replace H := H.on nq
              go_wp2_with fail
              go_roundw
              case rel => exact ⟨j + 1, by go_num, by omega, by rw [HE.out, HNL.out]; rw [List.append_nil] at H; exact H⟩
              case measure => simp [intOf]; omega
            · obtain ⟨q, rfl⟩ : ∃ q, k = q + 1 := ⟨k - 1, by omega⟩
              obtain ⟨y, hy⟩ := at_some (l := o) rfl (show q < o.length by have := HKO.out; omega)
              have HY := Lib.hid hy
              have hax : At (o.take (q + 1) ++ x :: (o.drop (q + 1) ++ [])) (q + 1) x := At.app (by have := HKO.out; rw [List.length_take]; omega)
              have hay : At (o.take (q + 1) ++ x :: (o.drop (q + 1) ++ [])) q y := At.pre (by rw [At, List.getElem?_take_of_lt (by omega)]; exact hy)
              have cx := H.atM 0 rfl hax
              have cy := H.atM 0 rfl hay
              have fx := H.free 0 rfl (q + 1)
              have fy := H.free 0 rfl q
              have hj1' : (0 : Int) < ((q + 1 : Nat) : Int) := by omega
              have hw1 : IntKind.i64.wrap ((q : Int)) = (q : Int) := IntWalk.i64_in _ (by omega)
              have hi0' : (0 : Int) ≤ (q : Int) + 1 := by omega
              have hi1' : (q : Int) + 1 < (N : Int) := by omega
              have hi2' : (0 : Int) ≤ (q : Int) := by omega
              have hi3' : (q : Int) < (N : Int) := by omega
              by_cases hx0 : 0 < cls x
              · have hd1 : decide (0 < cls x) = true := by simpa using hx0
                by_cases hxy : cls x < cls y
                · have hd2 : decide (cls x < cls y) = true := by simpa using hxy
                  go_wp2_with fail
                  refine wp_region_quiet_lit (by kernel_rfl) (by kernel_rfl) ?_
                  repeat (any_goals (first | go_big_quiet_step ((go_at_call 151; exact Calls.quiet_of_same (implClass_any _ _))) | quiet_step ((go_at_call 151; exact Calls.quiet_of_same (implClass_any _ _))) | (refine wpQuiet_step (fun K hK => ?_); go_simp; split <;> (refine hK _ ?_; clear hK K))))
                  all_goals (refine wpQuiet_nil ?_; intro _ hw_; obtain ⟨nq, hw__⟩ := hw_; subst hw__)
                  replace H := H.on nq
                  obtain ⟨w8, hw8⟩ : ∃ q : World, q = wr.drewN nq := ⟨_, rfl⟩
                  rw [← hw8] at H ⊢
                  clear hw8 cx cy fx fy
                  have cx := H.atM 0 rfl hax
                  have cy := H.atM 0 rfl hay
                  have fx := H.free 0 rfl (q + 1)
                  have fy := H.free 0 rfl q
                  go_wp2_with fail
                  go_region
                  go_wp2_with fail
                  have H9 := ((H.putM 0 rfl (q + 1) y).putM 0 rfl q x).drew
                  simp only [List.set_cons_zero] at H9
                  rw [ins_swap (rest := []) hy] at H9
                  have H10 := Lib.hid H9
                  go_roundw
                  case rel => exact ⟨q, rfl, by omega, fun z hz => by
                    rw [List.drop_eq_getElem_cons (show q < o.length by have := HKO.out; omega), List.mem_cons] at hz
                    rcases hz with rfl | hz
                    · have := (List.getElem?_eq_some_iff.1 HY.out).2
                      rw [this]; exact hxy
                    · exact HD.out z hz, fun _ => hx0, H10.out⟩
                  case measure => simp [intOf]
                · have hd2 : decide (cls x < cls y) = false := by simpa using hxy
                  have HE := Lib.hid (HF.out.trans (ins_stop HKO.out HD.out HZ.out (.inr (.inr ⟨y, HY.out, hxy, by omega⟩))))
                  go_wp2_with fail
                  refine wp_region_quiet_lit (by kernel_rfl) (by kernel_rfl) ?_
                  repeat (any_goals (first | go_big_quiet_step ((go_at_call 151; exact Calls.quiet_of_same (implClass_any _ _))) | quiet_step ((go_at_call 151; exact Calls.quiet_of_same (implClass_any _ _))) | (refine wpQuiet_step (fun K hK => ?_); go_simp; split <;> (refine hK _ ?_; clear hK K))))
                  all_goals (refine wpQuiet_nil ?_; intro _ hw_; obtain ⟨nq, hw__⟩ := hw_; subst hw__)
                  replace H := H.on nq
                  go_wp2_with fail
                  go_roundw
                  case rel => exact ⟨j + 1, by go_num, by omega, by rw [HE.out, HNL.out]; rw [List.append_nil] at H; exact H⟩
                  case measure => simp [intOf]; omega
              · have hd1 : decide (0 < cls x) = false := by simpa using hx0
                have HE := Lib.hid (HF.out.trans (ins_stop HKO.out HD.out HZ.out (.inr (.inl hx0))))
                go_wp2_with fail
                refine wp_region_quiet_lit (by kernel_rfl) (by kernel_rfl) ?_
                repeat (any_goals (first | go_big_quiet_step ((go_at_call 151; exact Calls.quiet_of_same (implClass_any _ _))) | quiet_step ((go_at_call 151; exact Calls.quiet_of_same (implClass_any _ _))) | (refine wpQuiet_step (fun K hK => ?_); go_simp; split <;> (refine hK _ ?_; clear hK K))))
                all_goals (refine wpQuiet_nil ?_; intro _ hw_; obtain ⟨nq, hw__⟩ := hw_; subst hw__)
                replace H := H.on nq
                go_wp2_with fail
                go_roundw
                case rel => exact ⟨j + 1, by go_num, by omega, by rw [HE.out, HNL.out]; rw [List.append_nil] at H; exact H⟩
                case measure => simp [intOf]; omega
        · have ht : (ts.take j).foldl ins o0 = pre l (i + 1) := by rw [HP.out, List.take_of_length_le (by omega)]
          rw [ht] at H ⊢
          clear ht
          have hge : ¬ ((j : Int) < (ts.length : Int)) := by omega
          go_wp2_with fail
          go_roundw
          case rel => exact ⟨i + 1, by go_num, by omega, H.drop1⟩
          case measure => simp [intOf]; omega
    · have hge : ¬ ((i : Int) < (n : Int)) := by omega
      rw [HAP.out i (by rw [HL.out]; omega)] at H ⊢
      go_wp2_with fail
      go_ret
      exact H.toMade 0 rfl
end Go.Proofs.YtaogikhpglcmjaaGreatDoor

namespace Go.Proofs.YtaogikhpglcmjaaGreatDoor
open Go.RowKit

/-- The digits of a number. -/
def dg (k : Nat) : List UInt8 := if _h : k = 0 then [] else dg (k / 10) ++ [UInt8.ofNat (48 + k % 10)]
termination_by k
decreasing_by omega
theorem dg_zero : dg 0 = [] := by rw [dg]; simp
theorem dg_pos {k : Nat} (h : 0 < k) : dg k = dg (k / 10) ++ [UInt8.ofNat (48 + k % 10)] := by rw [dg, dif_neg (by omega)]
theorem dg_len : ∀ k : Nat, (dg k).length ≤ k := by
  intro k
  induction k using Nat.strongRecOn with
  | _ k ih =>
    by_cases h : 0 < k
    · have := ih (k / 10) (by omega)
      rw [dg_pos h, List.length_append, List.length_singleton]
      omega
    · rw [show k = 0 from by omega, dg_zero]; simp
def markB (k : Nat) : List UInt8 := if k = 0 then [109, 48] else 109 :: dg k
def markS (k : Nat) : ByteArray := ofB (markB k)
theorem markS_size (k : Nat) : (markS k).size ≤ k + 2 := by
  unfold markS markB
  rw [ofB_size]
  split
  · simp
  · have := dg_len k; simp; omega

set_option maxRecDepth 100000 in
set_option maxHeartbeats 2000000 in
theorem markText_any (k : Nat) (w : World) (hk : k ≤ 1099511627776) :
    Calls Tryz.prog 29 #[.int .i64 k] w fun e w' => e = .returned (.string (markS k)) ∧ Fr w w' := by
  by_cases h0 : k = 0
  · subst h0
    go_enter Tryz.func29, Tryz.ntmps29
    go_wp2
    go_ret
    exact ⟨rfl, Below.refl _ _⟩
  have H := Hp.start w
  go_enter Tryz.func29, Tryz.ntmps29
  go_wp2_with fail
  go_loopw [0, 3] (fun x v wr => ∃ (j : Nat) (t : List UInt8), x = .int .i64 j ∧ j ≤ k ∧ v = .string (ofB t) ∧ dg j ++ t = dg k ∧ Fr w wr) (fun x _ _ => (intOf x).toNat)
  case atStart => exact ⟨k, [], rfl, Nat.le_refl _, rfl, by simp, Below.refl _ _⟩
  case round =>
    obtain ⟨j, t, rfl, hj, rfl, hd, hfr⟩ := hrel
    have HD := Lib.hid hd
    have hsz : (ofB t).size ≤ 1099511627776 := by
      rw [ofB_size]
      have h1 := dg_len k
      have h2 := congrArg List.length hd
      rw [List.length_append] at h2
      omega
    clear hd
    by_cases hp : 0 < j
    · have hm : (j : Int).tmod 10 = ((j % 10 : Nat) : Int) := by rw [Int.tmod_eq_emod_of_nonneg (by omega)]; omega
      have hq : (j : Int).tdiv 10 = ((j / 10 : Nat) : Int) := by rw [Int.tdiv_eq_ediv_of_nonneg (by omega)]; omega
      have hb : j % 10 < 10 := Nat.mod_lt _ (by decide)
      obtain ⟨r, hr⟩ : ∃ r, r = j % 10 := ⟨_, rfl⟩
      obtain ⟨q, hq2⟩ : ∃ q, q = j / 10 := ⟨_, rfl⟩
      rw [← hr] at hm hb
      rw [← hq2] at hq
      have HR := Lib.hid hr
      have hqb : q ≤ 1099511627776 := by omega
      have HQ := Lib.hid hq2
      clear hr hq2
      obtain ⟨d, hd⟩ : ∃ d, d = UInt8.ofNat (48 + r) := ⟨_, rfl⟩
      have hcd : cU8 d = .int .u8 (48 + (r : Int)) := by
        subst hd
        simp only [cU8]
        congr 1
        rw [UInt8.toNat_ofNat_of_lt' (by simp [UInt8.size]; omega)]
        omega
      have HS := Lib.hid (show dg j ++ t = dg q ++ (d :: t) by rw [dg_pos hp, ← HR.out, ← HQ.out, ← hd, List.append_assoc]; rfl)
      have hr1 : Rd (wr.alloc (.cells #[.int .u8 (48 + (r : Int))] 5)) (some ⟨wr.heap.size, 0, none⟩) 1 1 ([d].map cU8) := by
        rw [List.map_singleton, hcd]
        exact ((Hp.start wr).lit 5 1 1 [.int .u8 (48 + (r : Int))] rfl (by simp [maxLen])).rd 0 rfl
      have hc := run_str (c := 1) 101 9 5 Tryz.underlying101 Tryz.underlying5 Tryz.underlying9 hr1
      have hs1 : (ofB [d]).size = 1 := rfl
      have HA := Lib.hid (ofB_append [d] t)
      have HF := Lib.hid hfr
      clear hr1 hd hcd hfr
      go_wp2
      go_roundw
      case rel => exact ⟨q, d :: t, rfl, by have := HQ.out; omega, congrArg Value.string HA.out, by rw [← HS.out]; exact HD.out, Fr.al HF.out _⟩
      case measure => have := HQ.out; simp [intOf]; omega
    · have hj0 : j = 0 := by omega
      subst hj0
      have HA := Lib.hid (show ofB [109] ++ ofB t = markS k by rw [ofB_append, markS, markB, if_neg h0, ← HD.out, dg_zero]; rfl)
      have hs1 : (ofB [109]).size = 1 := rfl
      clear HD
      go_wp2
      go_ret
      exact ⟨congrArg (fun s => Ending.returned (.string s)) HA.out, hfr⟩

/-- The marks of n texts, from the number k on. -/
def marksString (n k : Nat) : List ByteArray := (List.range n).map fun (i : Nat) => markS (k + i)
theorem marksString_at {n k i : Nat} (h : i < n) : (marksString n k)[i]? = some (markS (k + i)) := by simp [marksString, h]
theorem marksString_take (n k i : Nat) (h : i ≤ n) : (marksString n k).take i = marksString i k := by
  rw [marksString, marksString, ← List.map_take, List.take_range, Nat.min_eq_left h]

set_option maxRecDepth 100000 in
set_option maxHeartbeats 2000000 in
theorem markStringS_any (A : Option Addr) (n c k base : Nat) (xs : List Value) (w : World) (h : w.ownsRow base 9 1 (.slice A n c) n xs) (hn : n ≤ 16777216) (hk : k ≤ 1073741824) :
    Calls Tryz.prog 12 #[.slice A n c, .int .i64 k] w fun e w' => e = .returned (.int .i64 ((k + n : Nat) : Int)) ∧ w'.ownsRow base 9 1 (.slice A n c) n ((marksString n k).map Value.string) ∧ w.grownBy w' (Value.slice A n c).ownBlock := by
  have hxl := h.1
  have HX := Lib.hid hxl
  have H := Lib.hid h
  clear hxl h
  go_enter Tryz.func12, Tryz.ntmps12
  go_wp2_with fail
  go_loopw [1, 5] (fun v i wr => ∃ j : Nat, j ≤ n ∧ i = .int .i64 j ∧ v = .int .i64 ((k + j : Nat) : Int) ∧ wr.ownsRow base 9 1 (.slice A n c) n ((marksString j k).map Value.string ++ xs.drop j) ∧ w.grownBy wr (Value.slice A n c).ownBlock)
    (fun _ i _ => n - (intOf i).toNat)
  case atStart => exact ⟨0, Nat.zero_le _, rfl, by simp, by simpa [marksString] using H.out, World.grownBy.refl _ _⟩
  case round =>
    obtain ⟨i, hi, rfl, rfl, hown, hgr⟩ := hrel
    by_cases hlt : i < n
    · obtain ⟨g, rfl, _, _⟩ := own_form hown (by omega)
      have HO := Lib.hid hown
      have HG := Lib.hid hgr
      obtain ⟨p, hp⟩ : ∃ p, p = k + i := ⟨_, rfl⟩
      rw [← hp]
      have HP := Lib.hid hp
      have hpb : p ≤ 1099511627776 := by omega
      clear hp hown hgr
      go_wp2_with fail
      refine (markText_any p _ hpb).mono ?_
      rintro e w2 ⟨rfl, f2⟩
      have hown := own_fr HO.out f2
      have hgr := World.grownBy.trans HG.out (f2.grown _)
      have hst := (hown.stored i (Value.string (markS p))).1
      have hse := sets_elem (f := fun x => [Value.string x]) (K := 1) (l := marksString n k) (x := markS (k + i)) (fun _ => rfl) (marksString_at hlt) HX.out hlt
      rw [marksString_take _ _ _ (by omega), marksString_take _ _ _ (by omega), ← List.map_eq_flatMap, ← List.map_eq_flatMap, Nat.mul_one, Nat.mul_one, ← HP.out] at hse
      have HST := Lib.hid hst
      have HSE := Lib.hid hse
      have HG2 := Lib.hid hgr
      have hf0 := hown.frozenAt i
      have ⟨d0, hd0⟩ : ∃ d, w2.cell? ⟨g, i, none⟩ = some d := by rw [hown.cellAt _ (by omega)]; exact ⟨_, List.getElem?_eq_getElem (by have := hown.1; omega)⟩
      clear hst hse hown hgr
      go_wp2
      go_roundw
      case rel => exact ⟨i + 1, by omega, by go_num, by rw [← Nat.add_assoc, ← HP.out]; go_num, by rw [← HSE.out]; simpa [sets] using HST.out, grown_set HG2.out⟩
      case measure => simp [intOf]; omega
    · obtain rfl : i = n := by omega
      rw [List.drop_of_length_le (by have := HX.out; omega), List.append_nil] at hown
      go_wp2
      go_ret
      exact ⟨rfl, hown, hgr⟩

end Go.Proofs.YtaogikhpglcmjaaGreatDoor

namespace Go.Proofs.YtaogikhpglcmjaaGreatDoor
open Go.RowKit
theorem fr_cellM {w w' : World} {p : Addr} {u : Value} (f : Fr w w') (h : w.cell? p = some u) : w'.cell? p = some u := (f.cell (World.block_lt_of_cell? w _ h)).trans h
end Go.Proofs.YtaogikhpglcmjaaGreatDoor

namespace Go.Proofs.YtaogikhpglcmjaaGreatDoor
open Go.RowKit

def cEnt (r : Int × Int × ByteArray × Int) : List Value := [.int .i64 r.1, .int .i64 r.2.1, .string r.2.2.1, .int .i64 r.2.2.2]
theorem cEnt_len (r : Int × Int × ByteArray × Int) : (cEnt r).length = 4 := rfl
theorem infoEnt : (Tryz.prog.info? 127).map (fun i => (i.zero, i.size, i.bytes)) = some (some (.agg #[.int .i64 0, .int .i64 0, .string ⟨#[]⟩, .int .i64 0]), 4, 40) := by kernel_rfl

theorem eqEnt_any (r s : Int × Int × ByteArray × Int) (w : World) :
    Calls Tryz.prog 118 #[.agg (cEnt r).toArray, .agg (cEnt s).toArray] w fun e w' => e = .returned (.bool (decide (r = s))) ∧ Fr w w' := by
  obtain ⟨x0, x1, x2, x3⟩ := r
  obtain ⟨y0, y1, y2, y3⟩ := s
  show Calls _ _ #[.agg #[.int .i64 x0, .int .i64 x1, .string x2, .int .i64 x3], .agg #[.int .i64 y0, .int .i64 y1, .string y2, .int .i64 y3]] _ _
  by_cases h0 : x0 = y0
  · by_cases h1 : x1 = y1
    · by_cases h2 : x2 = y2
      · subst h2
        by_cases h3 : x3 = y3
        · go_enter Tryz.func118, Tryz.ntmps118
          go_wp2
          go_ret
          exact ⟨ret_bool (by simp [h0, h1, h3]), by repeat (first | exact Below.refl _ _ | refine Below.alloc ?_ (by first | (simp; done) | (simp; omega)) _ | refine Below.setCell ?_ (by first | (simp; done) | (simp; omega)) _)⟩
        · go_enter Tryz.func118, Tryz.ntmps118
          go_wp2
          go_ret
          exact ⟨ret_bool (by simp [h0, h1, h3]), by repeat (first | exact Below.refl _ _ | refine Below.alloc ?_ (by first | (simp; done) | (simp; omega)) _ | refine Below.setCell ?_ (by first | (simp; done) | (simp; omega)) _)⟩
      · have hb2 : (x2.toList == y2.toList) = false := str_ne h2
        go_enter Tryz.func118, Tryz.ntmps118
        go_wp2
        go_ret
        exact ⟨ret_bool (by simp [h0, h1, h2]), by repeat (first | exact Below.refl _ _ | refine Below.alloc ?_ (by first | (simp; done) | (simp; omega)) _ | refine Below.setCell ?_ (by first | (simp; done) | (simp; omega)) _)⟩
    · go_enter Tryz.func118, Tryz.ntmps118
      go_wp2
      go_ret
      exact ⟨ret_bool (by simp [h0, h1]), by repeat (first | exact Below.refl _ _ | refine Below.alloc ?_ (by first | (simp; done) | (simp; omega)) _ | refine Below.setCell ?_ (by first | (simp; done) | (simp; omega)) _)⟩
  · go_enter Tryz.func118, Tryz.ntmps118
    go_wp2
    go_ret
    exact ⟨ret_bool (by simp [h0]), by repeat (first | exact Below.refl _ _ | refine Below.alloc ?_ (by first | (simp; done) | (simp; omega)) _ | refine Below.setCell ?_ (by first | (simp; done) | (simp; omega)) _)⟩

set_option maxRecDepth 100000 in
set_option maxHeartbeats 1000000 in
theorem eqEntS_any (A B : Option Addr) (n m c d : Nat) (l l' : List (Int × Int × ByteArray × Int)) (w : World) (h : Rd w A n 4 (l.flatMap cEnt)) (h' : Rd w B m 4 (l'.flatMap cEnt)) (hn : n ≤ 1048576) (hm : m ≤ 1048576) :
    Calls Tryz.prog 100 #[.slice A n c, .slice B m d] w fun e w' => e = .returned (.bool (decide (l = l'))) ∧ Fr w w' := by
  have hl := h.lenk cEnt_len (by omega)
  have hl' := h'.lenk cEnt_len (by omega)
  have HL := Lib.hid hl
  have HL' := Lib.hid hl'
  clear hl hl'
  by_cases hnm : n = m
  · subst hnm
    go_enter Tryz.func100, Tryz.ntmps100
    go_wp2_with fail
    go_loopw [5] (fun i wr => ∃ k : Nat, k ≤ n ∧ i = .int .i64 k ∧ l.take k = l'.take k ∧ Fr w wr) (fun i _ => n - (intOf i).toNat)
    case atStart => exact ⟨0, Nat.zero_le _, rfl, by simp, Below.refl _ _⟩
    case round =>
      obtain ⟨k, hk, rfl, htake, hfr⟩ := hrel
      have HT := Lib.hid htake
      by_cases hlt : k < n
      · obtain ⟨⟨x0, x1, x2, x3⟩, hx⟩ := some_at HL.out hlt
        obtain ⟨⟨y0, y1, y2, y3⟩, hy⟩ := some_at HL'.out hlt
        obtain ⟨bk, of, rfl, hcell⟩ := (h.fr hfr).elem cEnt_len hx (by omega)
        obtain ⟨bk', of', rfl, hcell'⟩ := (h'.fr hfr).elem cEnt_len hy (by omega)
        have ca0 := hcell 0 _ rfl; simp only [Nat.add_zero] at ca0
        have ca1 := hcell 1 _ rfl
        have ca2 := hcell 2 _ rfl
        have ca3 := hcell 3 _ rfl
        have cb0 := hcell' 0 _ rfl; simp only [Nat.add_zero] at cb0
        have cb1 := hcell' 1 _ rfl
        have cb2 := hcell' 2 _ rfl
        have cb3 := hcell' 3 _ rfl
        have HX := Lib.hid hx
        have HY := Lib.hid hy
        have HF := Lib.hid hfr
        obtain ⟨bb, hbb, hcall⟩ : ∃ bb, decide ((x0, x1, x2, x3) = (y0, y1, y2, y3)) = bb ∧ ∀ w, Calls Tryz.prog 118 #[.agg #[.int .i64 x0, .int .i64 x1, .string x2, .int .i64 x3], .agg #[.int .i64 y0, .int .i64 y1, .string y2, .int .i64 y3]] w fun e w' => e = .returned (.bool bb) ∧ Fr w w' := ⟨_, rfl, eqEnt_any (x0, x1, x2, x3) (y0, y1, y2, y3)⟩
        have HBB := Lib.hid hbb
        have HC := Lib.hid hcall
        clear h h' hx hy htake hfr hcell hcell' hbb hcall
        cases bb
        · go_wp2_with fail
          go_still_tail 8, (by kernel_rfl)
          go_wp2_with fail
          refine (HC.out _).mono ?_
          rintro e w2 ⟨rfl, f2⟩
          go_wp2
          go_ret
          have e : l ≠ l' := ne_of_at HX.out HY.out (of_decide_eq_false HBB.out)
          exact ⟨ret_bool (by simp [e]), HF.out.then (Fr.then (Fr.on (Below.refl _ _) 1) f2)⟩
        · go_wp2_with fail
          go_still_tail 8, (by kernel_rfl)
          go_wp2_with fail
          refine (HC.out _).mono ?_
          rintro e w2 ⟨rfl, f2⟩
          go_wp2
          go_roundw
          case rel => exact ⟨k + 1, by omega, by go_num, take_eq_step HT.out HX.out (of_decide_eq_true HBB.out ▸ HY.out), HF.out.then (Fr.then (Fr.on (Below.refl _ _) 1) f2)⟩
          case measure => simp [intOf]; omega
      · go_wp2
        go_ret
        have e : l = l' := take_eq_all (n := n) (by rw [show n = k from by omega]; exact HT.out) HL.out HL'.out
        exact ⟨by simp [e], hfr⟩
  · go_enter Tryz.func100, Tryz.ntmps100
    go_wp2
    go_ret
    have e : l ≠ l' := by rintro rfl; exact hnm (HL.out.symm.trans HL'.out)
    exact ⟨by simp [e], Below.refl _ _⟩

/-- The marks of an element, from the number k on. -/
def mkEnt (k : Nat) : Int × Int × ByteArray × Int := (k, (k + 1), markS (k + 2), (k + 3))
def marksEnt (n k : Nat) : List (Int × Int × ByteArray × Int) := (List.range n).map fun i => mkEnt (k + i * 4)
theorem marksEnt_at {n k i : Nat} (h : i < n) : (marksEnt n k)[i]? = some (mkEnt (k + i * 4)) := by simp [marksEnt, h]
theorem marksEnt_len (n k : Nat) : (marksEnt n k).length = n := by simp [marksEnt]
theorem marksEnt_take (n k i : Nat) (h : i ≤ n) : (marksEnt n k).take i = marksEnt i k := by
  rw [marksEnt, marksEnt, ← List.map_take, List.take_range, Nat.min_eq_left h]

set_option maxRecDepth 100000 in
set_option maxHeartbeats 4000000 in
theorem markEntS_any (A : Option Addr) (n c k base : Nat) (xs : List Value) (w : World) (h : w.ownsRow base 127 4 (.slice A n c) n xs) (hn : n ≤ 16777216) (hk : k ≤ 1000000000000) :
    Calls Tryz.prog 65 #[.slice A n c, .int .i64 k] w fun e w' => e = .returned (.int .i64 ((k + n * 4 : Nat) : Int)) ∧ w'.ownsRow base 127 4 (.slice A n c) n ((marksEnt n k).flatMap cEnt) ∧ w.grownBy w' (Value.slice A n c).ownBlock := by
  have hxl := h.1
  have HX := Lib.hid hxl
  have H := Lib.hid h
  clear hxl h
  go_enter Tryz.func65, Tryz.ntmps65
  go_wp2_with fail
  go_loopw [1, 5] (fun v i wr => ∃ j : Nat, j ≤ n ∧ i = .int .i64 j ∧ v = .int .i64 ((k + j * 4 : Nat) : Int) ∧ wr.ownsRow base 127 4 (.slice A n c) n ((marksEnt j k).flatMap cEnt ++ xs.drop (j * 4)) ∧ w.grownBy wr (Value.slice A n c).ownBlock)
    (fun _ i _ => n - (intOf i).toNat)
  case atStart => exact ⟨0, Nat.zero_le _, rfl, by simp, by simpa [marksEnt] using H.out, World.grownBy.refl _ _⟩
  case round =>
    obtain ⟨i, hi, rfl, rfl, hown, hgr⟩ := hrel
    by_cases hlt : i < n
    · obtain ⟨g, rfl, _, _⟩ := own_form hown (by omega)
      obtain ⟨p, hp⟩ : ∃ p, p = k + i * 4 := ⟨_, rfl⟩
      obtain ⟨p2, hp2⟩ : ∃ q, q = p + 2 := ⟨_, rfl⟩
      have hpb : p ≤ 1000200000000 := by omega
      have hpb2 : p2 ≤ 1000200000100 := by omega
      have hpr2 : (p : Int) + 1 + 1 = (p2 : Int) := by omega
      rw [← hp]
      have HP := Lib.hid hp
      have HP2 := Lib.hid hp2
      have HG := Lib.hid hgr
      have HO := Lib.hid hown
      have hse := sets_elem (f := cEnt) (l := marksEnt n k) (x := mkEnt (k + i * 4)) cEnt_len (marksEnt_at hlt) HX.out hlt
      rw [marksEnt_take _ _ _ (by omega), marksEnt_take _ _ _ (by omega)] at hse
      have HSE := Lib.hid hse
      clear hse hown hgr hp hp2
      have hf0 := (HO.out).frozenAt (i * 4)
      have ⟨d0, hd0⟩ : ∃ d, wr.cell? ⟨g, i * 4, none⟩ = some d := by rw [(HO.out).cellAt _ (by omega)]; exact ⟨_, List.getElem?_eq_getElem (by have := (HO.out).1; omega)⟩
      have hf1 := (HO.out).frozenAt (i * 4 + 1)
      have ⟨d1, hd1⟩ : ∃ d, wr.cell? ⟨g, i * 4 + 1, none⟩ = some d := by rw [(HO.out).cellAt _ (by omega)]; exact ⟨_, List.getElem?_eq_getElem (by have := (HO.out).1; omega)⟩
      go_wp2_with fail
      refine (markText_any p2 _ (by omega)).mono ?_
      rintro e w2 ⟨rfl, f2⟩
      have HO1 := Lib.hid (own_fr ((HO.out.stored (i * 4) (.int .i64 ((p : Int)))).1.stored (i * 4 + 1) (.int .i64 ((p : Int) + 1))).1 f2)
      have HG1 := Lib.hid (World.grownBy.trans (grown_set (j := i * 4 + 1) (u := .int .i64 ((p : Int) + 1)) (grown_set (j := i * 4) (u := .int .i64 ((p : Int))) HG.out)) (f2.grown _))
      clear f2 hf0 hd0 hf1 hd1
      have hf2 := (HO1.out).frozenAt (i * 4 + 2)
      have ⟨d2, hd2⟩ : ∃ d, w2.cell? ⟨g, i * 4 + 2, none⟩ = some d := by rw [(HO1.out).cellAt _ (by omega)]; exact ⟨_, List.getElem?_eq_getElem (by have := (HO1.out).1; omega)⟩
      have hf3 := (HO1.out).frozenAt (i * 4 + 3)
      have ⟨d3, hd3⟩ : ∃ d, w2.cell? ⟨g, i * 4 + 3, none⟩ = some d := by rw [(HO1.out).cellAt _ (by omega)]; exact ⟨_, List.getElem?_eq_getElem (by have := (HO1.out).1; omega)⟩
      have HST := Lib.hid ((HO1.out.stored (i * 4 + 2) (.string (markS p2))).1.stored (i * 4 + 3) (.int .i64 ((p2 : Int) + 1))).1
      have HGL := Lib.hid (grown_set (j := i * 4 + 3) (u := .int .i64 ((p2 : Int) + 1)) (grown_set (j := i * 4 + 2) (u := .string (markS p2)) HG1.out))
      go_wp2
      go_roundw
      case rel =>
        have hp := HP.out
        have hp2 := HP2.out
        subst hp2
        subst hp
        exact ⟨i + 1, by omega, by go_num, by rw [show k + (i + 1) * 4 = k + i * 4 + 4 from by omega]; go_num, by rw [← HSE.out]; exact HST.out, HGL.out⟩
      case measure => simp [intOf]; omega
    · obtain rfl : i = n := by omega
      rw [List.drop_of_length_le (by have := HX.out; omega), List.append_nil] at hown
      go_wp2
      go_ret
      exact ⟨rfl, hown, hgr⟩

set_option maxRecDepth 100000 in
set_option maxHeartbeats 4000000 in
theorem heldEntS_any (A : Option Addr) (n c k : Nat) (w : World) (h : Rd w A n 4 ((marksEnt n k).flatMap cEnt)) (hn : n ≤ 16777216) (hk : k ≤ 1000000000000) :
    Calls Tryz.prog 66 #[.slice A n c, .int .i64 k] w fun e w' => e = .returned (.int .i64 ((k + n * 4 : Nat) : Int)) ∧ Fr w w' := by
  go_enter Tryz.func66, Tryz.ntmps66
  go_wp2_with fail
  go_loopw [1, 5] (fun v i wr => ∃ j : Nat, j ≤ n ∧ i = .int .i64 j ∧ v = .int .i64 ((k + j * 4 : Nat) : Int) ∧ Fr w wr) (fun _ i _ => n - (intOf i).toNat)
  case atStart => exact ⟨0, Nat.zero_le _, rfl, by simp, Below.refl _ _⟩
  case round =>
    obtain ⟨i, hi, rfl, rfl, hfr⟩ := hrel
    by_cases hlt : i < n
    · obtain ⟨bk, of, rfl, hcell⟩ := (h.fr hfr).elem cEnt_len (marksEnt_at hlt) (by omega)
      have ca0 : wr.cell? ⟨bk, of + i * 4, none⟩ = some (.int .i64 ((k : Int) + (i : Int) * 4)) := by have hh := hcell 0 _ rfl; simpa [cEnt, mkEnt] using hh
      have ca1 : wr.cell? ⟨bk, of + i * 4 + 1, none⟩ = some (.int .i64 ((k : Int) + (i : Int) * 4 + 1)) := by have hh := hcell 1 _ rfl; simpa [cEnt, mkEnt] using hh
      have ca2 : wr.cell? ⟨bk, of + i * 4 + 2, none⟩ = some (.string (markS (k + i * 4 + 2))) := by have hh := hcell 2 _ rfl; simpa [cEnt, mkEnt] using hh
      have ca3 : wr.cell? ⟨bk, of + i * 4 + 3, none⟩ = some (.int .i64 ((k : Int) + (i : Int) * 4 + 3)) := by have hh := hcell 3 _ rfl; simpa [cEnt, mkEnt] using hh
      obtain ⟨p, hp⟩ : ∃ p, p = k + i * 4 := ⟨_, rfl⟩
      obtain ⟨p2, hp2⟩ : ∃ q, q = p + 2 := ⟨_, rfl⟩
      have hpb : p ≤ 1000200000000 := by omega
      have hpb2 : p2 ≤ 1000200000100 := by omega
      have hpr2 : (p : Int) + 1 + 1 = (p2 : Int) := by omega
      rw [← hp]
      replace ca0 : wr.cell? ⟨bk, of + i * 4, none⟩ = some (.int .i64 ((p : Int))) := by rw [ca0]; congr 2; omega
      replace ca1 : wr.cell? ⟨bk, of + i * 4 + 1, none⟩ = some (.int .i64 ((p : Int) + 1)) := by rw [ca1]; congr 2; omega
      replace ca2 : wr.cell? ⟨bk, of + i * 4 + 2, none⟩ = some (.string (markS p2)) := by rw [ca2, hp2, hp]
      replace ca3 : wr.cell? ⟨bk, of + i * 4 + 3, none⟩ = some (.int .i64 ((p2 : Int) + 1)) := by rw [ca3]; congr 2; omega
      have HP := Lib.hid hp
      have HP2 := Lib.hid hp2
      have HF := Lib.hid hfr
      clear h hcell hfr hp hp2
      have hcd2 : wr.drew.cell? ⟨bk, of + i * 4 + 2, none⟩ = some (.string (markS p2)) := by simpa using ca2
      go_wp2_with fail
      go_region_held3 (fun w' => w'.cell? ⟨bk, of + i * 4 + 2, none⟩ = some (.string (markS p2)))
        (first | exact hcd2 | exact hc2)
        ((first
          | (go_at_call 29
             refine (markText_any p2 _ (by omega)).mono ?_
             rintro e w2 ⟨rfl, f2⟩
             have hc2 := cell_later f2 hcd2
             have F2 := (Fr.drew_ _).then f2)))
      replace ca3 := fr_cellM F2 ca3
      go_wp2_with fail
      go_roundw
      case rel =>
        have hp := HP.out
        have hp2 := HP2.out
        subst hp2
        subst hp
        exact ⟨i + 1, by omega, by go_num, by rw [show k + (i + 1) * 4 = k + i * 4 + 4 from by omega]; go_num, (HF.out.then F2)⟩
      case measure => simp [intOf]; omega
    · obtain rfl : i = n := by omega
      go_wp2
      go_ret
      exact ⟨rfl, hfr⟩

end Go.Proofs.YtaogikhpglcmjaaGreatDoor

