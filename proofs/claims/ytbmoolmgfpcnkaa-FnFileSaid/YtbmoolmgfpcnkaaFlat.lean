/-
  flat and l16Map: the block of each file block, in memory of the call's own.
-/
import Derived.Test.YtbmoolmgfpcnkaaGa
import Derived.Test.YtbmoolmgfpcnkaaExtS
namespace Go.Proofs.Ytbmoolmgfpcnkaa
open Go.RowKit

set_option maxRecDepth 100000 in
set_option maxHeartbeats 4000000 in
theorem implFlat_any (A : Option Addr) (n c : Nat) (l : List (Int × Int × Int)) (w : World) (h : Rd w A n 3 (l.flatMap cExt)) (ok : ∀ e ∈ l, eRange e = true) (hn : n ≤ 1048576) :
    Calls Try.prog 73 #[.slice A n c] w (Made w 3 1 12 ((flatL l).map (Value.int .i64))) := by
  have HL := Lib.hid (h.lenk cExt_len (by omega))
  have G := Lib.hid h
  have OK := Lib.hid ok
  clear h ok
  have H0 := (Hp.start w).lit0 3 1
  go_enter Try.func73, Try.ntmps73
  go_wp2_with fail
  go_loopw [3, 8] (fun v i wr => ∃ k : Nat, k ≤ 12 ∧ i = .int .i64 k ∧ Hp [] w wr [.row 3 1 v (List.replicate k (-1 : Int)).length ((List.replicate k (-1 : Int)).map (Value.int .i64))]) (fun _ i _ => 12 - (intOf i).toNat)
  case atStart => exact ⟨0, by omega, rfl, H0⟩
  case round =>
    clear H0
    obtain ⟨k, hk, rfl, H⟩ := hrel
    by_cases hlt : k < 12
    · have hkl : (List.replicate k (-1 : Int)).length ≤ 12 := by simp; omega
      go_wp2_with (at_builtin; refine wp_appM (f := Value.int .i64) (H) rfl _ _ _ rfl Try.underlying52 infoInt rfl 0 _ _ rfl rfl _ _ ((-1)) rfl (by simp) rfl (by first | (simp only [maxLen]; omega) | (simp [maxLen]; done) | (simp [maxLen]; omega)) (by first | omega | (simp; done) | (simp; omega)) ?_)
      intro v' w' H'
      clear H
      go_wp2
      go_roundw
      case rel => exact ⟨k + 1, by omega, by go_num, by simpa [List.replicate_succ'] using H'⟩
      case measure => simp [intOf]; omega
    · have hk12 : k = 12 := by omega
      rw [hk12] at H
      simp only [List.length_replicate] at H
      obtain ⟨g, c1, rfl, hg⟩ := H.form 0 rfl (by omega)
      have H1 : Hp [] w wr [.row 3 1 (.slice (some ⟨g, 0, none⟩) 12 c1) 12 ((flatTo l 0).map (Value.int .i64))] := H
      clear H hk12
      go_wp2_with fail
      go_loopw [16] (fun i wr => ∃ k : Nat, k ≤ n ∧ i = .int .i64 k ∧ Hp [] w wr [.row 3 1 (.slice (some ⟨g, 0, none⟩) 12 c1) 12 ((flatTo l k).map (Value.int .i64))]) (fun i _ => n - (intOf i).toNat)
      case atStart => exact ⟨0, by omega, rfl, H1⟩
      case round =>
        clear H1
        obtain ⟨k, hk, rfl, H⟩ := hrel
        by_cases hlt : k < n
        · obtain ⟨wo, rfl⟩ : ∃ wo : World, wo = wr := ⟨_, rfl⟩
          obtain ⟨⟨a, b, m⟩, hx⟩ := at_some HL.out hlt
          obtain ⟨bk, of, rfl, hcell⟩ := (H.old G.out).elem cExt_len hx (by omega)
          have r0 := hcell 0 _ rfl; simp only [Nat.add_zero] at r0
          have r1 := hcell 1 _ rfl
          have r2 := hcell 2 _ rfl
          have hr := eRange_iff.1 (OK.out _ hx.mem); simp only at hr
          obtain ⟨a, rfl⟩ : ∃ q : Nat, a = q := ⟨a.toNat, by omega⟩
          obtain ⟨b, rfl⟩ : ∃ q : Nat, b = q := ⟨b.toNat, by omega⟩
          obtain ⟨m, rfl⟩ : ∃ q : Nat, m = q := ⟨m.toNat, by omega⟩
          have HE := Lib.hid (flatTo_succ hx)
          clear hcell
          go_wp2_with fail
          go_loopw [22] (fun i wi => ∃ j : Nat, j ≤ m ∧ i = .int .i64 j ∧ Hp [] w wi [.blk wo.heap.size 92 [.int .i64 a, .int .i64 b, .int .i64 m], .row 3 1 (.slice (some ⟨g, 0, none⟩) 12 c1) 12 ((putE (a, b, m) (flatTo l k) j).map (Value.int .i64))]) (fun i _ => m - (intOf i).toNat)
          case atStart => exact ⟨0, by omega, rfl, H.lay _ _⟩
          case round =>
            clear H r0 r1 r2
            obtain ⟨j, hj, rfl, H⟩ := hrel
            by_cases hjm : j < m
            · have s0 := H.bat 0 rfl (j := 0) rfl
              have s1 := H.bat 0 rfl (j := 1) rfl
              have s2 := H.bat 0 rfl (j := 2) rfl
              obtain ⟨y, hy⟩ : ∃ y, wr.cell? ⟨g, a + j, none⟩ = some y := ⟨_, H.at_ 1 rfl (j := a + j) (List.getElem?_eq_getElem (by simp only [List.length_map, putE_len, flatTo_len]; omega))⟩
              have hz := H.free 1 rfl (a + j)
              have H3 := H.putM 1 rfl (a + j) ((b : Int) + j)
              have H4 := Lib.hid H3
              clear H H3
              go_wp2_with fail
              go_roundw
              case rel => exact ⟨j + 1, by omega, by go_num, H4.out⟩
              case measure => simp [intOf]; omega
            · obtain rfl : j = m := by omega
              have s2 := H.bat 0 rfl (j := 2) rfl
              go_wp2_with fail
              go_roundw
              case rel => exact ⟨k + 1, by omega, by go_num, by rw [HE.out]; exact H.tail⟩
              case measure => simp [intOf]; omega
        · rw [flatTo_all (by rw [HL.out]; omega)] at H
          go_wp2_with fail
          go_ret
          exact H.toMade 0 rfl

set_option maxRecDepth 100000 in
set_option maxHeartbeats 4000000 in
theorem specMap_any (A : Option Addr) (n c : Nat) (l : List (Int × Int × Int)) (w : World) (h : Rd w A n 3 (l.flatMap cExt)) (ok : ∀ e ∈ l, eRange e = true) (hn : n ≤ 1048576) :
    Calls Try.prog 76 #[.slice A n c] w (Made w 3 1 12 ((flatL l).map (Value.int .i64))) := by
  have HL := Lib.hid (h.lenk cExt_len (by omega))
  have G := Lib.hid h
  have OK := Lib.hid ok
  clear h ok
  go_enter Try.func76, Try.ntmps76
  go_wp2_with (at_make; refine wp_mk (Hp.start w) rfl _ _ _ rfl Try.underlying52 infoInt rfl rfl (12) _ _ _ _ rfl rfl rfl rfl (by first | omega | (simp; done) | (simp; omega)) (by first | (simp only [maxLen]; omega) | (simp [maxLen]; done) | (simp [maxLen]; omega)) ?_)
  intro w1 H0
  obtain ⟨g, hg⟩ : ∃ q : Nat, q = w.heap.size := ⟨_, rfl⟩
  rw [← hg] at H0 ⊢
  clear hg
  go_wp2_with fail
  go_loopw [4] (fun i wr => ∃ k : Nat, k ≤ 12 ∧ i = .int .i64 k ∧ Hp [] w wr [.row 3 1 (.slice (some ⟨g, 0, none⟩) 12 12) 12 ((List.replicate k (-1 : Int) ++ List.replicate (12 - k) 0).map (Value.int .i64))]) (fun i _ => 12 - (intOf i).toNat)
  case atStart => exact ⟨0, by omega, rfl, by simpa using H0⟩
  case round =>
    clear H0
    obtain ⟨k, hk, rfl, H⟩ := hrel
    by_cases hlt : k < 12
    · obtain ⟨y, hy⟩ : ∃ y, wr.cell? ⟨g, k, none⟩ = some y := ⟨_, H.at_ 0 rfl (j := k) (List.getElem?_eq_getElem (by simp; omega))⟩
      have hz := H.free 0 rfl k
      have H3 := H.putM 0 rfl k (-1)
      rw [fill_neg hlt] at H3
      have H4 := Lib.hid H3
      clear H H3
      go_wp2_with fail
      go_roundw
      case rel => exact ⟨k + 1, by omega, by go_num, H4.out⟩
      case measure => simp [intOf]; omega
    · have hk12 : k = 12 := by omega
      rw [hk12] at H
      have H1 : Hp [] w wr [.row 3 1 (.slice (some ⟨g, 0, none⟩) 12 12) 12 ((flatTo l 0).map (Value.int .i64))] := H
      clear H hk12
      go_wp2_with fail
      go_loopw [5] (fun i wr => ∃ k : Nat, k ≤ n ∧ i = .int .i64 k ∧ Hp [] w wr [.row 3 1 (.slice (some ⟨g, 0, none⟩) 12 12) 12 ((flatTo l k).map (Value.int .i64))]) (fun i _ => n - (intOf i).toNat)
      case atStart => exact ⟨0, by omega, rfl, H1⟩
      case round =>
        clear H1
        obtain ⟨k, hk, rfl, H⟩ := hrel
        by_cases hlt : k < n
        · obtain ⟨wo, rfl⟩ : ∃ wo : World, wo = wr := ⟨_, rfl⟩
          obtain ⟨⟨a, b, m⟩, hx⟩ := at_some HL.out hlt
          have hr := eRange_iff.1 (OK.out _ hx.mem); simp only at hr
          obtain ⟨a, rfl⟩ : ∃ q : Nat, a = q := ⟨a.toNat, by omega⟩
          obtain ⟨b, rfl⟩ : ∃ q : Nat, b = q := ⟨b.toNat, by omega⟩
          obtain ⟨m, rfl⟩ : ∃ q : Nat, m = q := ⟨m.toNat, by omega⟩
          have HE := Lib.hid (flatTo_succ hx)
          obtain ⟨bk, of, rfl, hcell⟩ := (H.old G.out).elem cExt_len hx (by omega)
          clear hcell
          go_wp2_with fail
          go_loopw [6] (fun i wi => ∃ j : Nat, j ≤ m ∧ i = .int .i64 j ∧ Hp [] w wi [.row 3 1 (.slice (some ⟨g, 0, none⟩) 12 12) 12 ((putE (a, b, m) (flatTo l k) j).map (Value.int .i64))]) (fun i _ => m - (intOf i).toNat)
          case atStart => exact ⟨0, by omega, rfl, H⟩
          case round =>
            clear H
            obtain ⟨j, hj, rfl, H⟩ := hrel
            obtain ⟨_, _, e, hcell⟩ := (H.old G.out).elem cExt_len hx (by omega)
            injection e with e
            injection e with e1 e2
            subst e1 e2
            have r0 := hcell 0 _ rfl; simp only [Nat.add_zero] at r0
            have r1 := hcell 1 _ rfl
            have r2 := hcell 2 _ rfl
            clear hcell
            by_cases hjm : j < m
            · obtain ⟨p, hp⟩ : ∃ p, p = a + j := ⟨_, rfl⟩
              obtain ⟨y, hy⟩ : ∃ y, wr.cell? ⟨g, p, none⟩ = some y := ⟨_, H.at_ 0 rfl (j := p) (List.getElem?_eq_getElem (by simp only [List.length_map, putE_len, flatTo_len]; omega))⟩
              have hz := H.free 0 rfl p
              have H3 : Hp [] w (wr.setCell ⟨g, p, none⟩ (.int .i64 ((b : Int) + j))) [.row 3 1 (.slice (some ⟨g, 0, none⟩) 12 12) 12 ((putE (a, b, m) (flatTo l k) (j + 1)).map (Value.int .i64))] := by
                have h9 := H.putM 0 rfl p ((b : Int) + j)
                rw [hp] at h9 ⊢
                exact h9
              have H4 := Lib.hid H3
              clear H H3
              have hw1 : IntKind.i64.wrap ((a : Int) + (j : Int)) = (p : Int) := (IntWalk.i64_in _ (by omega)).trans (by omega)
              have hw2 : IntKind.i64.wrap ((b : Int) + (j : Int)) = (b : Int) + (j : Int) := IntWalk.i64_in _ (by omega)
              have hi0 : (0 : Int) ≤ (p : Int) := by omega
              have hi1 : (p : Int) < 12 := by omega
              clear hp
              go_wp2_with fail
              go_still_tail 16, (by kernel_rfl)
              go_wp2_with fail
              go_roundw
              case rel => exact ⟨j + 1, by omega, by go_num, H4.out.drew⟩
              case measure => simp [intOf]; omega
            · obtain rfl : j = m := by omega
              go_wp2_with fail
              go_roundw
              case rel => exact ⟨k + 1, by omega, by go_num, by rw [HE.out]; exact H⟩
              case measure => simp [intOf]; omega
        · rw [flatTo_all (by rw [HL.out]; omega)] at H
          go_wp2_with fail
          go_ret
          exact H.toMade 0 rfl
end Go.Proofs.Ytbmoolmgfpcnkaa
