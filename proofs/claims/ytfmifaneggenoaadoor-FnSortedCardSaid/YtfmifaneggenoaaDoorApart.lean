/-
  The program's Apart.
-/
import Derived.Test.YtfmifaneggenoaaDoorClass
namespace Go.Proofs.YtfmifaneggenoaaDoor
open Go.RowKit

def InI (x : Int) : Prop := -9223372036854775808 ≤ x ∧ x ≤ 9223372036854775807
theorem At.app {α : Type} {a b : List α} {x : α} {k : Nat} (hk : k = a.length) : At (a ++ x :: b) k x := by
  subst hk; simp [At]
theorem At.pre {α : Type} {a b : List α} {x : α} {k : Nat} (h : At a k x) : At (a ++ b) k x := by
  rw [At, List.getElem?_append_left h.lt]; exact h

theorem ins_at_len {o : List Int} {x : Int} {k : Nat} (hk : k ≤ o.length) : (o.take k ++ x :: o.drop k).length = o.length + 1 := by
  rw [List.length_append, List.length_cons, List.length_take, List.length_drop]; omega
/-- One outer step more. -/
def pre (l : List Int) (i : Nat) : List Int := ((l.take i).flatMap takeS).foldl ins []
theorem pre_succ {l : List Int} {i : Nat} {c : Int} (h : At l i c) : pre l (i + 1) = (takeS c).foldl ins (pre l i) := by
  rw [pre, h.take, List.flatMap_append, List.flatMap_singleton, List.foldl_append]; rfl
theorem pre_len (l : List Int) (i : Nat) : (pre l i).length ≤ 27 * l.length := by
  rw [pre, foldl_len]
  have := flat_le take_len (l.take i)
  have h2 : (l.take i).length ≤ l.length := by rw [List.length_take]; omega
  simp only [List.length_nil, Nat.zero_add]
  omega
theorem pre_all {l : List Int} {i : Nat} (h : l.length ≤ i) : pre l i = apartL l := by rw [pre, List.take_of_length_le h]; rfl

set_option linter.unusedVariables false
set_option maxRecDepth 100000 in
set_option maxHeartbeats 8000000 in
theorem implApart_any (A : Option Addr) (n c : Nat) (l : List Int) (w : World) (h : Rd w A n 1 (l.map (Value.int .i64))) (hn : n ≤ 2097152) (hok : ∀ x ∈ l, InI x) :
    Calls Tryd.prog 27 #[.slice A n c] w (Made w 3 1 (apartL l).length ((apartL l).map (Value.int .i64))) := by
  have HL := Lib.hid h.len1
  have G := Lib.hid h
  have OK := Lib.hid hok
  have H0 := (Hp.start w).lit0 3 1
  have HAP := Lib.hid (fun i (hi : l.length ≤ i) => pre_all (l := l) hi)
  generalize apartL l = ap at HAP ⊢
  clear h hok
  go_enter Tryd.func27, Tryd.ntmps27
  go_wp2_with fail
  go_loopw [3, 12] (fun v iv wr => ∃ i : Nat, iv = .int .i64 i ∧ i ≤ n ∧ Hp [] w wr [.row 3 1 v (pre l i).length ((pre l i).map (Value.int .i64))]) (fun _ iv _ => n - (intOf iv).toNat)
  case atStart => exact ⟨0, rfl, by omega, H0⟩
  case round =>
    clear H0
    obtain ⟨i, rfl, hi, H⟩ := hrel
    obtain ⟨B, d, rfl⟩ := H.shape 0 rfl
    by_cases hlt : i < n
    · obtain ⟨cc, hx⟩ := at_some HL.out hlt
      obtain ⟨bk, of, rfl, hc⟩ := (H.old G.out).get1 hx
      have hi0 : (0 : Int) ≤ (i : Int) := by omega
      have hi1 : (i : Int) < (n : Int) := by omega
      have hic := OK.out cc hx.mem
      have HP := Lib.hid (pre_succ hx)
      have hpl := pre_len l i
      rw [HL.out] at hpl
      clear hx
      generalize pre l i = o0 at H HP hpl
      go_wp2_with fail
      refine (taken_any cc _ hic).mono ?_
      rintro e w1 ⟨T, dt, rfl, ot, ft⟩
      have H1 := (H.made ot ft).swap
      clear H ot ft hc hic
      have htl := take_len cc
      generalize takeS cc = ts at H1 HP htl ⊢
      go_wp2_with fail
      go_loopw [3, 19] (fun v jv wr => ∃ j : Nat, jv = .int .i64 j ∧ j ≤ ts.length ∧ Hp [] w wr [.row 3 1 v ((ts.take j).foldl ins o0).length (((ts.take j).foldl ins o0).map (Value.int .i64)), .row 3 1 (.slice T ts.length dt) ts.length (ts.map (Value.int .i64))]) (fun _ jv _ => ts.length - (intOf jv).toNat)
      case atStart => exact ⟨0, rfl, by omega, H1⟩
      case round =>
        clear H1
        obtain ⟨j, rfl, hj, H⟩ := hrel
        obtain ⟨B, d, rfl⟩ := H.shape 0 rfl
        by_cases hjt : j < ts.length
        · obtain ⟨x, hx⟩ := at_some (l := ts) rfl hjt
          obtain ⟨gT, cT, e, _⟩ := H.form 1 rfl (by omega)
          injection e with e1 _ e2
          subst e1 e2
          have cx := H.atM 1 rfl hx
          have hj0 : (0 : Int) ≤ (j : Int) := by omega
          have hj1 : (j : Int) < (ts.length : Int) := by omega
          have HF := Lib.hid (show (ts.take (j + 1)).foldl ins o0 = ins ((ts.take j).foldl ins o0) x by rw [hx.take, List.foldl_append]; rfl)
          have hol : ((ts.take j).foldl ins o0).length ≤ 27 * n + 27 := by
            rw [foldl_len]
            have : (ts.take j).length ≤ ts.length := by rw [List.length_take]; omega
            omega
          clear hx
          generalize (ts.take j).foldl ins o0 = o at H HF hol ⊢
          go_wp2_with (at_builtin; refine wp_appM (f := Value.int .i64) (H) rfl _ _ _ rfl Tryd.underlying29 infoInt rfl 0 _ _ rfl rfl _ _ (x) rfl (by simp) rfl (by first | (simp only [maxLen]; omega) | (simp [maxLen]; done) | (simp [maxLen]; omega)) (by first | omega | (simp; done) | (simp; omega)) ?_)
          intro v' w' H'
          have H2 : Hp [] w w' [.row 3 1 v' (o.length + 1) ((o ++ [x]).map (Value.int .i64)), .row 3 1 (.slice (some ⟨gT, 0, none⟩) ts.length dt) ts.length (ts.map (Value.int .i64))] := by
            rw [List.map_append]
            exact H'
          clear H' H cx
          obtain ⟨gO, dO, rfl, _⟩ := H2.form 0 rfl (by omega)
          obtain ⟨N, hN⟩ : ∃ N, N = o.length + 1 := ⟨_, rfl⟩
          have HN := Lib.hid hN
          have hNb : N ≤ 100000000 := by omega
          have hN1 : 1 ≤ N := by omega
          rw [← hN] at H2 ⊢
          clear hN hol
          go_wp2_with fail
          go_loopw [8] (fun kv wr => ∃ k : Nat, kv = .int .i64 k ∧ k < N ∧ (∀ y ∈ o.drop k, cls x < cls y) ∧ (k < o.length → 0 < cls x) ∧ Hp [] w wr [.row 3 1 (.slice (some ⟨gO, 0, none⟩) N dO) N ((o.take k ++ x :: (o.drop k ++ [])).map (Value.int .i64)), .row 3 1 (.slice (some ⟨gT, 0, none⟩) ts.length dt) ts.length (ts.map (Value.int .i64))]) (fun kv _ => (intOf kv).toNat)
          case atStart => exact ⟨N - 1, by go_num, by omega, by rw [HN.out]; simp, by rw [HN.out]; omega, by rw [show o.take (N - 1) ++ x :: (o.drop (N - 1) ++ []) = o ++ [x] by have := HN.out; rw [show N - 1 = o.length by omega]; simp]; exact H2⟩
          case round =>
            clear H2
            obtain ⟨k, rfl, hk, hd, h0, H⟩ := hrel
            have HD := Lib.hid hd
            have HZ := Lib.hid h0
            clear hd h0
            have hko : k ≤ o.length := by have := HN.out; omega
            have HKO := Lib.hid hko
            have HNL := Lib.hid ((ins_at_len (x := x) hko).trans HN.out.symm)
            clear hko
            rcases Nat.eq_zero_or_pos k with hk0 | hk0
            · subst hk0
              have HE := Lib.hid (HF.out.trans (ins_stop HKO.out HD.out HZ.out (.inl rfl)))
              go_wp2_with fail
              refine wp_region_quiet_lit (by kernel_rfl) (by kernel_rfl) ?_
              repeat (any_goals (first | go_big_quiet_step ((fail)) | quiet_step ((fail)) | (refine wpQuiet_step (fun K hK => ?_); go_simp; split <;> (refine hK _ ?_; clear hK K))))
              all_goals (refine wpQuiet_nil ?_; intro _ hw_; obtain ⟨nq, hw__⟩ := hw_; subst hw__)
              replace H := H.on nq
              go_wp2_with fail
              go_roundw
              case rel => exact ⟨j + 1, by go_num, by omega, by rw [HE.out, HNL.out]; rw [List.append_nil] at H; exact H⟩
              case measure => simp [intOf]; omega
            · obtain ⟨q, rfl⟩ : ∃ q, k = q + 1 := ⟨k - 1, by omega⟩
              obtain ⟨y, hy⟩ := at_some (l := o) rfl (show q < o.length by have := HKO.out; omega)
              have HY := Lib.hid hy
              have hax : At (o.take (q + 1) ++ x :: (o.drop (q + 1) ++ [])) (q + 1) x := At.app (by have := HKO.out; rw [List.length_take]; omega)
              have hay : At (o.take (q + 1) ++ x :: (o.drop (q + 1) ++ [])) q y := At.pre (by rw [At, List.getElem?_take_of_lt (by omega)]; exact hy)
              have cx := H.atM 0 rfl hax
              have cy := H.atM 0 rfl hay
              have fx := H.free 0 rfl (q + 1)
              have fy := H.free 0 rfl q
              have hj1' : (0 : Int) < ((q + 1 : Nat) : Int) := by omega
              have hw1 : IntKind.i64.wrap ((q : Int)) = (q : Int) := IntWalk.i64_in _ (by omega)
              have hi0' : (0 : Int) ≤ (q : Int) + 1 := by omega
              have hi1' : (q : Int) + 1 < (N : Int) := by omega
              have hi2' : (0 : Int) ≤ (q : Int) := by omega
              have hi3' : (q : Int) < (N : Int) := by omega
              by_cases hx0 : 0 < cls x
              · have hd1 : decide (0 < cls x) = true := by simpa using hx0
                by_cases hxy : cls x < cls y
                · have hd2 : decide (cls x < cls y) = true := by simpa using hxy
                  go_wp2_with fail
                  refine wp_region_quiet_lit (by kernel_rfl) (by kernel_rfl) ?_
                  repeat (any_goals (first | go_big_quiet_step ((go_at_call 65; exact Calls.quiet_of_same (implClass_any _ _))) | quiet_step ((go_at_call 65; exact Calls.quiet_of_same (implClass_any _ _))) | (refine wpQuiet_step (fun K hK => ?_); go_simp; split <;> (refine hK _ ?_; clear hK K))))
                  all_goals (refine wpQuiet_nil ?_; intro _ hw_; obtain ⟨nq, hw__⟩ := hw_; subst hw__)
                  replace H := H.on nq
                  obtain ⟨w8, hw8⟩ : ∃ q : World, q = wr.drewN nq := ⟨_, rfl⟩
                  rw [← hw8] at H ⊢
                  clear hw8 cx cy fx fy
                  have cx := H.atM 0 rfl hax
                  have cy := H.atM 0 rfl hay
                  have fx := H.free 0 rfl (q + 1)
                  have fy := H.free 0 rfl q
                  go_wp2_with fail
                  go_region
                  go_wp2_with fail
                  have H9 := ((H.putM 0 rfl (q + 1) y).putM 0 rfl q x).drew
                  simp only [List.set_cons_zero] at H9
                  rw [ins_swap (rest := []) hy] at H9
                  have H10 := Lib.hid H9
                  go_roundw
                  case rel => exact ⟨q, rfl, by omega, fun z hz => by
                    rw [List.drop_eq_getElem_cons (show q < o.length by have := HKO.out; omega), List.mem_cons] at hz
                    rcases hz with rfl | hz
                    · have := (List.getElem?_eq_some_iff.1 HY.out).2
                      rw [this]; exact hxy
                    · exact HD.out z hz, fun _ => hx0, H10.out⟩
                  case measure => simp [intOf]
                · have hd2 : decide (cls x < cls y) = false := by simpa using hxy
                  have HE := Lib.hid (HF.out.trans (ins_stop HKO.out HD.out HZ.out (.inr (.inr ⟨y, HY.out, hxy, by omega⟩))))
                  go_wp2_with fail
                  refine wp_region_quiet_lit (by kernel_rfl) (by kernel_rfl) ?_
                  repeat (any_goals (first | go_big_quiet_step ((go_at_call 65; exact Calls.quiet_of_same (implClass_any _ _))) | quiet_step ((go_at_call 65; exact Calls.quiet_of_same (implClass_any _ _))) | (refine wpQuiet_step (fun K hK => ?_); go_simp; split <;> (refine hK _ ?_; clear hK K))))
                  all_goals (refine wpQuiet_nil ?_; intro _ hw_; obtain ⟨nq, hw__⟩ := hw_; subst hw__)
                  replace H := H.on nq
                  go_wp2_with fail
                  go_roundw
                  case rel => exact ⟨j + 1, by go_num, by omega, by rw [HE.out, HNL.out]; rw [List.append_nil] at H; exact H⟩
                  case measure => simp [intOf]; omega
              · have hd1 : decide (0 < cls x) = false := by simpa using hx0
                have HE := Lib.hid (HF.out.trans (ins_stop HKO.out HD.out HZ.out (.inr (.inl hx0))))
                go_wp2_with fail
                refine wp_region_quiet_lit (by kernel_rfl) (by kernel_rfl) ?_
                repeat (any_goals (first | go_big_quiet_step ((go_at_call 65; exact Calls.quiet_of_same (implClass_any _ _))) | quiet_step ((go_at_call 65; exact Calls.quiet_of_same (implClass_any _ _))) | (refine wpQuiet_step (fun K hK => ?_); go_simp; split <;> (refine hK _ ?_; clear hK K))))
                all_goals (refine wpQuiet_nil ?_; intro _ hw_; obtain ⟨nq, hw__⟩ := hw_; subst hw__)
                replace H := H.on nq
                go_wp2_with fail
                go_roundw
                case rel => exact ⟨j + 1, by go_num, by omega, by rw [HE.out, HNL.out]; rw [List.append_nil] at H; exact H⟩
                case measure => simp [intOf]; omega
        · have ht : (ts.take j).foldl ins o0 = pre l (i + 1) := by rw [HP.out, List.take_of_length_le (by omega)]
          rw [ht] at H ⊢
          clear ht
          have hge : ¬ ((j : Int) < (ts.length : Int)) := by omega
          go_wp2_with fail
          go_roundw
          case rel => exact ⟨i + 1, by go_num, by omega, H.drop1⟩
          case measure => simp [intOf]; omega
    · have hge : ¬ ((i : Int) < (n : Int)) := by omega
      rw [HAP.out i (by rw [HL.out]; omega)] at H ⊢
      go_wp2_with fail
      go_ret
      exact H.toMade 0 rfl
end Go.Proofs.YtfmifaneggenoaaDoor
