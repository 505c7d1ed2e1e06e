/-
  Many texts in one: Parts, MApart, KnownW.
-/
import Derived.Test.YtaogikhpglcmjaaGreatDoorGd
import Derived.Test.YtaogikhpglcmjaaGreatDoorGb
import Derived.Test.YtaogikhpglcmjaaGreatDoorGa
namespace Go.Proofs.YtaogikhpglcmjaaGreatDoor
open Go.RowKit

theorem toB_at' {s : ByteArray} {j : Nat} {b : UInt8} (h : (toB s)[j]? = some b) (hj : j < s.size) : s[j] = b := by
  have h1 : (toB s)[j]? = some (s.data[j]'hj) := by
    rw [toB, Array.getElem?_toList]; exact Array.getElem?_eq_getElem hj
  rw [h] at h1
  injection h1 with h1
  exact h1.symm
def bI (b : UInt8) : Int := (b.toNat : Int)
def sigL (s : ByteArray) : List Int := (toB s).map bI
theorem sigL_len (s : ByteArray) : (sigL s).length = s.size := by rw [sigL, List.length_map, toB_len]
theorem alloc_size (w : World) (cs : Array Value) (t : TypeId) : (w.alloc (.cells cs t)).heap.size = w.heap.size + 1 := Array.size_push _

set_option linter.unusedVariables false
set_option maxRecDepth 100000 in
set_option maxHeartbeats 2000000 in
theorem signs_any (s : ByteArray) (w : World) (hs : s.size ≤ 1000) :
    Calls Tryz.prog 159 #[.string s] w (Made w 3 1 s.size ((sigL s).map (Value.int .i64))) := by
  obtain ⟨n, hn⟩ : ∃ n, n = s.size := ⟨_, rfl⟩
  have HN := Lib.hid hn
  have H0 := (Hp.start w).lit0 3 1
  have hn1 : n ≤ 1000 := by omega
  rw [← hn]
  clear hn
  go_enter Tryz.func159, Tryz.ntmps159
  go_wp2_with fail
  go_loopw [3, 4] (fun v iv wr => ∃ k : Nat, k ≤ n ∧ iv = .int .i64 k ∧ Hp [] w wr [.row 3 1 v k (((sigL s).take k).map (Value.int .i64))]) (fun _ iv _ => n - (intOf iv).toNat)
  case atStart => exact ⟨0, by omega, rfl, H0⟩
  case round =>
    clear H0
    obtain ⟨k, hk, rfl, H⟩ := hrel
    obtain ⟨B, d, rfl⟩ := H.shape 0 rfl
    by_cases hlt : k < n
    · have hks : k < s.size := by rw [← HN.out]; exact hlt
      obtain ⟨b, hb⟩ := some_at (l := toB s) (n := n) (by rw [toB_len, ← HN.out]) hlt
      have e1 : s[k] = b := toB_at' hb hks
      have hb0 : ((s[k]).toNat : Int) ≤ 255 := by have := (s[k]).toNat_lt; omega
      have hb1 : (0 : Int) ≤ ((s[k]).toNat : Int) := by omega
      have HX := Lib.hid (At.take (l := sigL s) (k := k) (x := bI b) (by rw [At, sigL, List.getElem?_map, hb]; rfl))
      have HE := Lib.hid (show ((s[k]).toNat : Int) = bI b by rw [e1]; rfl)
      have hlen : ((sigL s).take k).length = k := by rw [List.length_take, sigL_len, ← HN.out]; omega
      have hx0 : (0 : Int) ≤ (k : Int) := by omega
      have hlt2 : (k : Int) < (s.size : Int) := by omega
      clear hb e1
      generalize (sigL s).take k = o at H HX hlen
      subst hlen
      go_wp2_with (at_builtin; refine wp_appM (f := Value.int .i64) (H) rfl _ _ _ rfl Tryz.underlying82 infoInt rfl 0 _ _ rfl rfl _ _ (((s[o.length]'hks).toNat : Int)) rfl (by simp) rfl (by first | (simp only [maxLen]; omega) | (simp [maxLen]; done) | (simp [maxLen]; omega)) (by first | omega | (simp; done) | (simp; omega)) ?_)
      intro v' w' H'
      rw [HE.out] at H'
      have H2 : Hp [] w w' [.row 3 1 v' (o.length + 1) (((sigL s).take (o.length + 1)).map (Value.int .i64))] := by
        rw [HX.out, List.map_append]
        simpa using H'
      clear H'
      go_wp2_with fail
      go_roundw
      case rel => exact ⟨o.length + 1, by omega, by go_num, H2⟩
      case measure => simp [intOf]; omega
    · have ht : (sigL s).take k = sigL s := List.take_of_length_le (by rw [sigL_len, ← HN.out]; omega)
      have hk2 : k = n := by omega
      subst hk2
      rw [ht] at H
      have hge : ¬ ((k : Int) < (s.size : Int)) := by rw [← HN.out]; omega
      go_wp2_with fail
      go_ret
      exact H.toMade 0 rfl

def RowD (w : World) (fs ls : List Int) (m : Int) (e : Ending) (w' : World) : Prop :=
  ∃ A c B d, e = .returned (.tuple #[.slice A fs.length c, .slice B ls.length d, .int .i64 m]) ∧ Hp [] w w' [.row 3 1 (.slice B ls.length d) ls.length (ls.map (Value.int .i64)), .row 3 1 (.slice A fs.length c) fs.length (fs.map (Value.int .i64))]

set_option maxRecDepth 100000 in
set_option maxHeartbeats 1000000 in
theorem row_0 (w : World) : Calls Tryz.prog 158 #[.int .i64 0] w (RowD w [192, 200, 204, 210, 217, 224, 232, 236, 242, 249] [65, 69, 73, 79, 85, 97, 101, 105, 111, 117] 768) := by
  have H1 := (Hp.start w).lit 3 1 10 ([192, 200, 204, 210, 217, 224, 232, 236, 242, 249].map (Value.int .i64)) rfl (by simp [maxLen])
  go_enter Tryz.func158, Tryz.ntmps158
  go_wp2_with fail
  refine (signs_any _ _ (by decide)).mono ?_
  rintro e w1 ⟨B, d, rfl, o1, f1⟩
  have H2 := H1.made o1 f1
  clear H1 o1 f1
  go_wp2_with fail
  go_ret3
  exact ⟨_, _, B, d, rfl, H2⟩

set_option maxRecDepth 100000 in
set_option maxHeartbeats 1000000 in
theorem row_1 (w : World) : Calls Tryz.prog 158 #[.int .i64 1] w (RowD w [193, 201, 205, 211, 218, 221, 225, 233, 237, 243, 250, 253] [65, 69, 73, 79, 85, 89, 97, 101, 105, 111, 117, 121] 769) := by
  have H1 := (Hp.start w).lit 3 1 12 ([193, 201, 205, 211, 218, 221, 225, 233, 237, 243, 250, 253].map (Value.int .i64)) rfl (by simp [maxLen])
  go_enter Tryz.func158, Tryz.ntmps158
  go_wp2_with fail
  refine (signs_any _ _ (by decide)).mono ?_
  rintro e w1 ⟨B, d, rfl, o1, f1⟩
  have H2 := H1.made o1 f1
  clear H1 o1 f1
  go_wp2_with fail
  go_ret3
  exact ⟨_, _, B, d, rfl, H2⟩

set_option maxRecDepth 100000 in
set_option maxHeartbeats 1000000 in
theorem row_2 (w : World) : Calls Tryz.prog 158 #[.int .i64 2] w (RowD w [194, 202, 206, 212, 219, 226, 234, 238, 244, 251] [65, 69, 73, 79, 85, 97, 101, 105, 111, 117] 770) := by
  have H1 := (Hp.start w).lit 3 1 10 ([194, 202, 206, 212, 219, 226, 234, 238, 244, 251].map (Value.int .i64)) rfl (by simp [maxLen])
  go_enter Tryz.func158, Tryz.ntmps158
  go_wp2_with fail
  refine (signs_any _ _ (by decide)).mono ?_
  rintro e w1 ⟨B, d, rfl, o1, f1⟩
  have H2 := H1.made o1 f1
  clear H1 o1 f1
  go_wp2_with fail
  go_ret3
  exact ⟨_, _, B, d, rfl, H2⟩

set_option maxRecDepth 100000 in
set_option maxHeartbeats 1000000 in
theorem row_3 (w : World) : Calls Tryz.prog 158 #[.int .i64 3] w (RowD w [195, 209, 213, 227, 241, 245] [65, 78, 79, 97, 110, 111] 771) := by
  have H1 := (Hp.start w).lit 3 1 6 ([195, 209, 213, 227, 241, 245].map (Value.int .i64)) rfl (by simp [maxLen])
  go_enter Tryz.func158, Tryz.ntmps158
  go_wp2_with fail
  refine (signs_any _ _ (by decide)).mono ?_
  rintro e w1 ⟨B, d, rfl, o1, f1⟩
  have H2 := H1.made o1 f1
  clear H1 o1 f1
  go_wp2_with fail
  go_ret3
  exact ⟨_, _, B, d, rfl, H2⟩

set_option maxRecDepth 100000 in
set_option maxHeartbeats 1000000 in
theorem row_4 (w : World) : Calls Tryz.prog 158 #[.int .i64 4] w (RowD w [196, 203, 207, 214, 220, 228, 235, 239, 246, 252, 255] [65, 69, 73, 79, 85, 97, 101, 105, 111, 117, 121] 776) := by
  have H1 := (Hp.start w).lit 3 1 11 ([196, 203, 207, 214, 220, 228, 235, 239, 246, 252, 255].map (Value.int .i64)) rfl (by simp [maxLen])
  go_enter Tryz.func158, Tryz.ntmps158
  go_wp2_with fail
  refine (signs_any _ _ (by decide)).mono ?_
  rintro e w1 ⟨B, d, rfl, o1, f1⟩
  have H2 := H1.made o1 f1
  clear H1 o1 f1
  go_wp2_with fail
  go_ret3
  exact ⟨_, _, B, d, rfl, H2⟩

set_option maxRecDepth 100000 in
set_option maxHeartbeats 1000000 in
theorem row_5 (w : World) : Calls Tryz.prog 158 #[.int .i64 5] w (RowD w [197, 229] [65, 97] 778) := by
  have H1 := (Hp.start w).lit 3 1 2 ([197, 229].map (Value.int .i64)) rfl (by simp [maxLen])
  go_enter Tryz.func158, Tryz.ntmps158
  go_wp2_with fail
  refine (signs_any _ _ (by decide)).mono ?_
  rintro e w1 ⟨B, d, rfl, o1, f1⟩
  have H2 := H1.made o1 f1
  clear H1 o1 f1
  go_wp2_with fail
  go_ret3
  exact ⟨_, _, B, d, rfl, H2⟩

set_option maxRecDepth 100000 in
set_option maxHeartbeats 1000000 in
theorem row_6 (w : World) : Calls Tryz.prog 158 #[.int .i64 6] w (RowD w [199, 231] [67, 99] 807) := by
  have H1 := (Hp.start w).lit 3 1 2 ([199, 231].map (Value.int .i64)) rfl (by simp [maxLen])
  go_enter Tryz.func158, Tryz.ntmps158
  go_wp2_with fail
  refine (signs_any _ _ (by decide)).mono ?_
  rintro e w1 ⟨B, d, rfl, o1, f1⟩
  have H2 := H1.made o1 f1
  clear H1 o1 f1
  go_wp2_with fail
  go_ret3
  exact ⟨_, _, B, d, rfl, H2⟩

set_option maxRecDepth 100000 in
set_option maxHeartbeats 1000000 in
theorem row_7 (w : World) : Calls Tryz.prog 158 #[.int .i64 7] w (RowD w [902, 904, 905, 906, 908, 910, 911] [913, 917, 919, 921, 927, 933, 937] 769) := by
  have H1 := (Hp.start w).lit 3 1 7 ([902, 904, 905, 906, 908, 910, 911].map (Value.int .i64)) rfl (by simp [maxLen])
  have H2 := H1.lit 3 1 7 ([913, 917, 919, 921, 927, 933, 937].map (Value.int .i64)) rfl (by simp [maxLen])
  rw [alloc_size] at H2
  clear H1
  go_enter Tryz.func158, Tryz.ntmps158
  go_wp2_with fail
  go_ret3
  exact ⟨_, _, _, _, rfl, H2⟩

set_option maxRecDepth 100000 in
set_option maxHeartbeats 1000000 in
theorem row_8 (w : World) : Calls Tryz.prog 158 #[.int .i64 8] w (RowD w [940, 941, 942, 943, 972, 973, 974] [945, 949, 951, 953, 959, 965, 969] 769) := by
  have H1 := (Hp.start w).lit 3 1 7 ([940, 941, 942, 943, 972, 973, 974].map (Value.int .i64)) rfl (by simp [maxLen])
  have H2 := H1.lit 3 1 7 ([945, 949, 951, 953, 959, 965, 969].map (Value.int .i64)) rfl (by simp [maxLen])
  rw [alloc_size] at H2
  clear H1
  go_enter Tryz.func158, Tryz.ntmps158
  go_wp2_with fail
  go_ret3
  exact ⟨_, _, _, _, rfl, H2⟩

set_option maxRecDepth 100000 in
set_option maxHeartbeats 1000000 in
theorem row_9 (w : World) : Calls Tryz.prog 158 #[.int .i64 9] w (RowD w [469, 470] [220, 252] 772) := by
  have H1 := (Hp.start w).lit 3 1 2 ([469, 470].map (Value.int .i64)) rfl (by simp [maxLen])
  have H2 := H1.lit 3 1 2 ([220, 252].map (Value.int .i64)) rfl (by simp [maxLen])
  rw [alloc_size] at H2
  clear H1
  go_enter Tryz.func158, Tryz.ntmps158
  go_wp2_with fail
  go_ret3
  exact ⟨_, _, _, _, rfl, H2⟩

set_option maxRecDepth 100000 in
set_option maxHeartbeats 1000000 in
theorem row_10 (w : World) : Calls Tryz.prog 158 #[.int .i64 10] w (RowD w [7840, 7841] [65, 97] 803) := by
  have H1 := (Hp.start w).lit 3 1 2 ([7840, 7841].map (Value.int .i64)) rfl (by simp [maxLen])
  go_enter Tryz.func158, Tryz.ntmps158
  go_wp2_with fail
  refine (signs_any _ _ (by decide)).mono ?_
  rintro e w1 ⟨B, d, rfl, o1, f1⟩
  have H2 := H1.made o1 f1
  clear H1 o1 f1
  go_wp2_with fail
  go_ret3
  exact ⟨_, _, B, d, rfl, H2⟩

set_option maxRecDepth 100000 in
set_option maxHeartbeats 1000000 in
theorem row_11 (w : World) : Calls Tryz.prog 158 #[.int .i64 11] w (RowD w [7852, 7853] [7840, 7841] 770) := by
  have H1 := (Hp.start w).lit 3 1 2 ([7852, 7853].map (Value.int .i64)) rfl (by simp [maxLen])
  have H2 := H1.lit 3 1 2 ([7840, 7841].map (Value.int .i64)) rfl (by simp [maxLen])
  rw [alloc_size] at H2
  clear H1
  go_enter Tryz.func158, Tryz.ntmps158
  go_wp2_with fail
  go_ret3
  exact ⟨_, _, _, _, rfl, H2⟩

set_option maxRecDepth 100000 in
set_option maxHeartbeats 1000000 in
theorem row_12 (w : World) : Calls Tryz.prog 158 #[.int .i64 12] w (RowD w [8486, 8491] [937, 197] 0) := by
  have H1 := (Hp.start w).lit 3 1 2 ([8486, 8491].map (Value.int .i64)) rfl (by simp [maxLen])
  have H2 := H1.lit 3 1 2 ([937, 197].map (Value.int .i64)) rfl (by simp [maxLen])
  rw [alloc_size] at H2
  clear H1
  go_enter Tryz.func158, Tryz.ntmps158
  go_wp2_with fail
  go_ret3
  exact ⟨_, _, _, _, rfl, H2⟩

theorem implRow_any (i : Nat) (hi : i < 13) (w : World) : ∃ r, rowTbl[i]? = some r ∧ Calls Tryz.prog 158 #[.int .i64 i] w (RowD w r.1 r.2.1 r.2.2) := by
  match i, hi with
  | 0, _ => exact ⟨_, rfl, row_0 w⟩
  | 1, _ => exact ⟨_, rfl, row_1 w⟩
  | 2, _ => exact ⟨_, rfl, row_2 w⟩
  | 3, _ => exact ⟨_, rfl, row_3 w⟩
  | 4, _ => exact ⟨_, rfl, row_4 w⟩
  | 5, _ => exact ⟨_, rfl, row_5 w⟩
  | 6, _ => exact ⟨_, rfl, row_6 w⟩
  | 7, _ => exact ⟨_, rfl, row_7 w⟩
  | 8, _ => exact ⟨_, rfl, row_8 w⟩
  | 9, _ => exact ⟨_, rfl, row_9 w⟩
  | 10, _ => exact ⟨_, rfl, row_10 w⟩
  | 11, _ => exact ⟨_, rfl, row_11 w⟩
  | 12, _ => exact ⟨_, rfl, row_12 w⟩

set_option maxRecDepth 100000 in
set_option maxHeartbeats 2000000 in
/-- slices.Index on ints. -/
theorem index_any (A : Option Addr) (n c : Nat) (l : List Int) (x : Int) (w : World) (h : Rd w A n 1 (l.map (Value.int .i64))) (hn : n ≤ 1048576) :
    Calls Tryz.prog 114 #[.slice A n c, .int .i64 x] w fun e w' => ∃ r : Int, e = .returned (.int .i64 r) ∧ ((r = -1 ∧ x ∉ l) ∨ ∃ k : Nat, r = k ∧ k < n ∧ l[k]? = some x) ∧ w = w' := by
  have HL := Lib.hid h.len1
  have G := Lib.hid h
  clear h
  go_enter Tryz.func114, Tryz.ntmps114
  go_wp2_with fail
  go_loopw [5, 8] (fun jv iv wr => ∃ i : Nat, iv = .int .i64 i ∧ i ≤ n ∧ x ∉ l.take i ∧ wr = w) (fun _ iv _ => n - (intOf iv).toNat)
  case atStart => exact ⟨0, rfl, by omega, by simp, rfl⟩
  case round =>
    obtain ⟨i, rfl, hi, hno, rfl⟩ := hrel
    by_cases hlt : i < n
    · obtain ⟨y, hy⟩ := some_at HL.out hlt
      obtain ⟨bk, of, rfl, hc⟩ := G.out.get1 hy
      have hi0 : (0 : Int) ≤ (i : Int) := by omega
      have hi1 : (i : Int) < (n : Int) := by omega
      have HY := Lib.hid hy
      have HO := Lib.hid hno
      clear hy hno
      by_cases hxy : x = y
      · subst hxy
        go_wp2_with fail
        go_ret
        exact ⟨_, rfl, Or.inr ⟨i, rfl, hlt, HY.out⟩, rfl⟩
      · go_wp2_with fail
        go_roundw
        case rel => exact ⟨i + 1, by go_num, by omega, by rw [At.take HY.out, List.mem_append, not_or]; exact ⟨HO.out, by simpa using hxy⟩, trivial⟩
        case measure => simp [intOf]; omega
    · have HO := Lib.hid hno
      clear hno
      go_wp2_with fail
      go_ret
      refine ⟨_, rfl, Or.inl ⟨rfl, ?_⟩, rfl⟩
      have := HO.out
      rwa [List.take_of_length_le (by rw [HL.out]; omega)] at this

set_option maxRecDepth 100000 in
set_option maxHeartbeats 2000000 in
theorem l3Row_any (c : Int) (A : Option Addr) (n cc : Nat) (l : List Int) (bs : List UInt8) (s : ByteArray) (m : Int) (w : World) (h : Rd w A n 1 (l.map (Value.int .i64))) (hn : n ≤ 1000) (hs : toB s = bs) (hb : bs.length = n) :
    Calls Tryz.prog 157 #[.int .i64 c, .slice A n cc, .string s, .int .i64 m] w (Made w 3 1 (rowHit c l bs m).length ((rowHit c l bs m).map (Value.int .i64))) := by
  have HL := Lib.hid h.len1
  have G := Lib.hid h
  have hsz : s.size = n := by rw [← toB_len, hs, hb]
  have HS := Lib.hid hs
  have HB := Lib.hid hb
  clear h hs hb
  go_enter Tryz.func157, Tryz.ntmps157
  go_wp2_with fail
  go_loopw [9] (fun iv wr => ∃ i : Nat, iv = .int .i64 i ∧ i ≤ n ∧ (∀ (j : Nat) (x : Int), j < i → l[j]? = some x → x ≠ c) ∧ wr = w) (fun iv _ => n - (intOf iv).toNat)
  case atStart => exact ⟨0, rfl, by omega, fun j x hj => by omega, rfl⟩
  case round =>
    obtain ⟨i, rfl, hi, hno, rfl⟩ := hrel
    by_cases hlt : i < n
    · obtain ⟨y, hy⟩ := some_at HL.out hlt
      obtain ⟨b, hb⟩ := some_at HB.out hlt
      obtain ⟨bk, of, rfl, hc⟩ := G.out.get1 hy
      have hi0 : (0 : Int) ≤ (i : Int) := by omega
      have hi1 : (i : Int) < (n : Int) := by omega
      have hks : i < s.size := by omega
      have hi2 : (i : Int) < (s.size : Int) := by omega
      have e1 : s[i] = b := toB_at' (by rw [HS.out]; exact hb) hks
      have hb0 : ((s[i]).toNat : Int) ≤ 255 := by have := (s[i]).toNat_lt; omega
      have hb1 : (0 : Int) ≤ ((s[i]).toNat : Int) := by omega
      have HE := Lib.hid (show ((s[i]).toNat : Int) = (b.toNat : Int) by rw [e1])
      have HY := Lib.hid hy
      have HO := Lib.hid hno
      have HBY := Lib.hid hb
      clear hy hno hb e1
      by_cases hxy : y = c
      · subst hxy
        have HR := Lib.hid (rowHit_at (m := m) HY.out HBY.out HO.out)
        have H2 := (Hp.start wr).lit 3 1 2 [.int .i64 (b.toNat : Int), .int .i64 m] rfl (by simp [maxLen])
        go_wp2_with fail
        rw [HE.out]
        go_ret
        rw [HR.out]
        exact H2.toMade 0 rfl
      · have HR := Lib.hid hxy
        go_wp2_with fail
        go_roundw
        case rel =>
          refine ⟨i + 1, by go_num, by omega, fun j x hj hx => ?_, trivial⟩
          by_cases hji : j = i
          · subst hji
            rw [HY.out] at hx
            injection hx with hx
            rw [← hx]
            exact HR.out
          · exact HO.out j x (by omega) hx
        case measure => simp [intOf]; omega
    · have HR := Lib.hid (show rowHit c l bs m = [] from rowHit_no fun x hx => by
        obtain ⟨j, hj⟩ := List.mem_iff_getElem?.1 hx
        have := (List.getElem?_eq_some_iff.1 hj).1
        exact hno j x (by rw [HL.out] at this; omega) hj)
      have H2 := (Hp.start wr).lit0 3 1
      clear hno
      go_wp2_with fail
      go_ret
      rw [HR.out]
      exact H2.toMade 0 rfl
end Go.Proofs.YtaogikhpglcmjaaGreatDoor

namespace Go.Proofs.YtaogikhpglcmjaaGreatDoor

/-- The signs that the tables take apart. -/
def keysP : List Int := (rows8.flatMap fun r => r.1) ++ greekP.map Prod.fst ++ casesP.map Prod.fst
theorem pick_out {c : Int} (h : c ∉ keysP) : pickP c = [] := by
  simp only [keysP, List.mem_append, not_or, List.mem_flatMap, List.mem_map, not_exists, not_and] at h
  have h1 : NoRow c := fun j r hr => rowHit_no fun x hx e => h.1.1 r (List.mem_of_getElem? hr) (e ▸ hx)
  have h2 : NoGreek c := fun j p hp e => h.1.2 p (List.mem_of_getElem? hp) e
  have h3 : casesP.find? (fun p => decide (p.1 = c)) = none := List.find?_eq_none.2 fun p hp => by simpa using h.2 p hp
  rw [pickP, noRow_pick h1, noGreek_find h2, h3]
def keysGood : Bool := keysP.all fun c => inB c 192 8491 && decide (0 < (pickP c).length ∧ (pickP c).length ≤ 2) && rowTbl.any fun r => r.1.contains c
theorem keys_good : keysGood = true := by decide +kernel
theorem keys_at {c : Int} (h : c ∈ keysP) : (192 ≤ c ∧ c ≤ 8491) ∧ (0 < (pickP c).length ∧ (pickP c).length ≤ 2) ∧ ∃ r ∈ rowTbl, c ∈ r.1 := by
  have h1 := List.all_eq_true.1 keys_good c h
  simp only [Bool.and_eq_true, decide_eq_true_eq, List.any_eq_true, inB_iff, List.contains_iff_mem] at h1
  exact ⟨h1.1.1, h1.1.2, h1.2⟩
theorem parts_key {c : Int} (h : c ∈ keysP) : partsS c = pickP c := by rw [partsS, if_pos (keys_at h).2.1.1]
theorem parts_hangul {c : Int} (h : inB c 44032 55203 = true) : partsS c = hangulP c := by
  have h1 := inB_iff.1 h
  have h2 : c ∉ keysP := fun hk => by have := (keys_at hk).1; omega
  rw [partsS, pick_out h2, if_neg (by simp), if_pos h]
theorem parts_none {c : Int} (h : c ∉ keysP) (h2 : inB c 44032 55203 = false) : partsS c = [] := by
  rw [partsS, pick_out h, if_neg (by simp), h2]; rfl
theorem parts_far {c : Int} (h : inB c 192 8491 = false) (h2 : inB c 44032 55203 = false) : partsS c = [] :=
  parts_none (fun hk => by have := (keys_at hk).1; rw [← inB_iff, h] at this; cases this) h2
theorem parts_norow {c : Int} (h : ∀ (i : Nat) (r : List Int × List Int × Int), rowTbl[i]? = some r → c ∉ r.1) (h2 : inB c 44032 55203 = false) : partsS c = [] :=
  parts_none (fun hk => by
    obtain ⟨r, hr, hc⟩ := (keys_at hk).2.2
    obtain ⟨i, hi⟩ := List.mem_iff_getElem?.1 hr
    exact h i r hi hc) h2
def rowParts : Bool := rowTbl.all fun r => (r.1.zip r.2.1).all fun x => decide (partsS x.1 = if 0 < r.2.2 then [x.2, r.2.2] else [x.2])
theorem row_parts : rowParts = true := by decide +kernel
theorem parts_at_row {c y : Int} {i k : Nat} {r : List Int × List Int × Int} (hr : rowTbl[i]? = some r) (hc : r.1[k]? = some c) (hy : r.2.1[k]? = some y) : partsS c = if 0 < r.2.2 then [y, r.2.2] else [y] := by
  have h1 := List.all_eq_true.1 (List.all_eq_true.1 row_parts r (List.mem_of_getElem? hr)) (c, y) (List.mem_of_getElem? (i := k) (by rw [List.getElem?_zip_eq_some]; exact ⟨hc, hy⟩))
  simpa using h1

/-- How deep a sign goes. -/
def lvl : Nat → Int → Bool
  | 0, c => decide ((partsS c).length = 0)
  | n + 1, c => (partsS c).all (lvl n)
def takeF : Nat → Int → List Int
  | 0, c => [c]
  | n + 1, c => if (partsS c).length = 0 then [c] else (partsS c).flatMap (takeF n)
def takeS (c : Int) : List Int := takeF 3 c
theorem jamo_good : ((List.range 200).all fun (j : Nat) => decide (partsS (4352 + (j : Int)) = [])) = true := by decide +kernel
theorem jamo {x : Int} (h : 4352 ≤ x ∧ x ≤ 4546) : partsS x = [] := by
  have h1 := List.all_eq_true.1 jamo_good (x - 4352).toNat (by rw [List.mem_range]; omega)
  rw [show (4352 : Int) + ((x - 4352).toNat : Int) = x by omega] at h1
  simpa using h1
theorem hangul_in {c x : Int} (h : inB c 44032 55203 = true) (hx : x ∈ hangulP c) : 4352 ≤ x ∧ x ≤ 4546 := by
  have h1 := inB_iff.1 h
  rw [hangulP, List.mem_append] at hx
  rcases hx with hx | hx
  · simp only [List.mem_cons, List.not_mem_nil, or_false] at hx
    rcases hx with rfl | rfl <;> omega
  · split at hx
    · simp only [List.mem_cons, List.not_mem_nil, or_false] at hx
      subst hx; omega
    · simp at hx
theorem keys_lvl : (keysP.all (lvl 3)) = true := by decide +kernel
theorem lvl_all (c : Int) : lvl 3 c = true := by
  by_cases hk : c ∈ keysP
  · exact List.all_eq_true.1 keys_lvl c hk
  · rcases (show inB c 44032 55203 = true ∨ inB c 44032 55203 = false by cases inB c 44032 55203 <;> simp) with h | h
    · rw [lvl, parts_hangul h, List.all_eq_true]
      intro x hx
      rw [lvl, jamo (hangul_in h hx)]
      rfl
    · rw [lvl, parts_none hk h]
      rfl
theorem hangul_len (c : Int) : (hangulP c).length ≤ 3 := by
  rw [hangulP]; split <;> simp
theorem parts_len (c : Int) : (partsS c).length ≤ 3 := by
  by_cases hk : c ∈ keysP
  · rw [parts_key hk]; have := (keys_at hk).2.1; omega
  · rcases (show inB c 44032 55203 = true ∨ inB c 44032 55203 = false by cases inB c 44032 55203 <;> simp) with h | h
    · rw [parts_hangul h]; exact hangul_len c
    · rw [parts_none hk h]; simp
theorem flat_le {f : Int → List Int} {m : Nat} (hf : ∀ x, (f x).length ≤ m) : ∀ l : List Int, (l.flatMap f).length ≤ l.length * m
  | [] => by simp
  | x :: l => by
    have := flat_le hf l
    have := hf x
    rw [List.flatMap_cons, List.length_append, List.length_cons, Nat.add_mul]
    omega
theorem takeF_len : ∀ (n : Nat) (c : Int), (takeF n c).length ≤ 3 ^ n
  | 0, c => by simp [takeF]
  | n + 1, c => by
    rw [takeF]
    split
    · have : 0 < 3 ^ (n + 1) := Nat.pow_pos (by omega)
      simp only [List.length_cons, List.length_nil]; omega
    · have h1 := flat_le (takeF_len n) (partsS c)
      have h2 := Nat.mul_le_mul_right (3 ^ n) (parts_len c)
      rw [Nat.pow_succ]
      omega
theorem take_len (c : Int) : (takeS c).length ≤ 27 := takeF_len 3 c

def cls (c : Int) : Int := if (inB c 768 772 || c == 776) || c == 778 then 230 else if c = 803 then 220 else if c = 807 then 202 else 0
theorem cls_bound (c : Int) : 0 ≤ cls c ∧ cls c ≤ 230 := by
  unfold cls
  split
  · omega
  · split
    · omega
    · split <;> omega
def insF (x : Int) : List Int → List Int
  | [] => [x]
  | y :: r => if cls x < cls y then y :: insF x r else x :: y :: r
/-- One sign more, behind all that it must not stand ahead of. -/
def ins (o : List Int) (x : Int) : List Int := if 0 < cls x then (insF x o.reverse).reverse else o ++ [x]
theorem insF_pass {x : Int} {r : List Int} : ∀ {b : List Int}, (∀ y ∈ b, cls x < cls y) → insF x (b ++ r) = b ++ insF x r
  | [], _ => rfl
  | y :: b, h => by
    rw [List.cons_append, insF, if_pos (h y (by simp)), insF_pass fun z hz => h z (by simp [hz])]
    rfl
theorem ins_stop {o : List Int} {x : Int} {k : Nat} (hk : k ≤ o.length) (hd : ∀ y ∈ o.drop k, cls x < cls y) (h0 : k < o.length → 0 < cls x) (hs : k = 0 ∨ ¬ 0 < cls x ∨ ∃ y, o[k - 1]? = some y ∧ ¬ cls x < cls y ∧ 0 < k) :
    ins o x = o.take k ++ x :: o.drop k := by
  rw [ins]
  split
  · rename_i hx
    have e : o.reverse = (o.drop k).reverse ++ (o.take k).reverse := by rw [← List.reverse_append, List.take_append_drop]
    rw [e, insF_pass (by intro y hy; exact hd y (by simpa using hy))]
    have h1 : insF x (o.take k).reverse = x :: (o.take k).reverse := by
      rcases hs with rfl | h | ⟨y, hy, hxy, hk0⟩
      · simp [insF]
      · exact absurd hx h
      · obtain ⟨j, rfl⟩ : ∃ j, k = j + 1 := ⟨k - 1, by omega⟩
        simp only [Nat.add_sub_cancel] at hy
        rw [List.take_add_one, hy, Option.toList_some, List.reverse_append, List.reverse_singleton, List.singleton_append, insF, if_neg hxy]
    rw [h1, List.reverse_append, List.reverse_reverse, List.reverse_cons, List.reverse_reverse, List.append_assoc, List.singleton_append]
  · rename_i hx
    have hk2 : k = o.length := by
      rcases Nat.lt_or_ge k o.length with h | h
      · exact absurd (h0 h) hx
      · omega
    rw [List.take_of_length_le (by omega), List.drop_of_length_le (by omega)]
theorem insF_len (x : Int) : ∀ l : List Int, (insF x l).length = l.length + 1
  | [] => rfl
  | y :: l => by
    rw [insF]
    split
    · rw [List.length_cons, insF_len x l, List.length_cons]
    · rfl
theorem ins_len (o : List Int) (x : Int) : (ins o x).length = o.length + 1 := by
  rw [ins]
  split
  · rw [List.length_reverse, insF_len, List.length_reverse]
  · simp
theorem ins_nil (x : Int) : ins [] x = [x] := by rw [ins]; split <;> rfl
theorem ins_swap {o rest : List Int} {k : Nat} {x y : Int} (hy : o[k]? = some y) : ((o.take (k + 1) ++ x :: (o.drop (k + 1) ++ rest)).set (k + 1) y).set k x = o.take k ++ x :: (o.drop k ++ rest) := by
  obtain ⟨hk, rfl⟩ := List.getElem?_eq_some_iff.1 hy
  have h1 : o.take (k + 1) = o.take k ++ [o[k]] := by rw [List.take_add_one, hy]; rfl
  have h2 : o.drop k = o[k] :: o.drop (k + 1) := List.drop_eq_getElem_cons hk
  have hl : (o.take k).length = k := by rw [List.length_take]; omega
  rw [h1, h2, List.append_assoc, List.singleton_append, List.set_append, if_neg (by omega), hl, show k + 1 - k = 1 from by omega, List.set_cons_succ, List.set_cons_zero, List.set_append, if_neg (by omega), hl, Nat.sub_self, List.set_cons_zero]
  rfl
theorem foldl_len : ∀ (l o : List Int), (l.foldl ins o).length = o.length + l.length
  | [], o => rfl
  | x :: l, o => by rw [List.foldl_cons, foldl_len l, ins_len, List.length_cons]; omega
/-- Signs taken apart. -/
def apartL (l : List Int) : List Int := (l.flatMap takeS).foldl ins []
theorem apart_len (l : List Int) : (apartL l).length ≤ l.length * 27 := by
  rw [apartL, foldl_len]
  have := flat_le take_len l
  simpa using this
end Go.Proofs.YtaogikhpglcmjaaGreatDoor

namespace Go.Proofs.YtaogikhpglcmjaaGreatDoor
open Go.RowKit

set_option linter.unusedVariables false
set_option maxRecDepth 100000 in
set_option maxHeartbeats 4000000 in
theorem specKnown_any (c : Int) (w : World) :
    Calls Tryz.prog 139 #[.int .i64 c] w fun e w' => e = .returned (.bool (knownS c)) ∧ Fr w w' := by
  have H1 := (Hp.start w).lit 3 1 26 (knFrom.map (Value.int .i64)) rfl (by simp [maxLen])
  have H2 := H1.lit 3 1 26 (knTo.map (Value.int .i64)) rfl (by simp [maxLen])
  have e1 : (w.alloc (.cells (knFrom.map (Value.int .i64)).toArray 3)).heap.size = w.heap.size + 1 := Array.size_push _
  rw [e1] at H2
  clear H1 e1
  go_enter Tryz.func139, Tryz.ntmps139
  go_wp2_with fail
  go_loopw [5] (fun kv wr => ∃ i : Nat, kv = .int .i64 i ∧ i ≤ 26 ∧ (knTbl.take i).any (fun p => inB c p.1 p.2) = false ∧ Hp [] w wr [.row 3 1 (.slice (some ⟨w.heap.size + 1, 0, none⟩) 26 26) 26 (knTo.map (Value.int .i64)), .row 3 1 (.slice (some ⟨w.heap.size, 0, none⟩) 26 26) 26 (knFrom.map (Value.int .i64))]) (fun kv _ => 26 - (intOf kv).toNat)
  case atStart => exact ⟨0, rfl, by omega, rfl, H2⟩
  case round =>
    clear H2
    obtain ⟨i, rfl, hi, hany, H⟩ := hrel
    by_cases hlt : i < 26
    · obtain ⟨⟨p, q⟩, hx⟩ := at_some knTbl_len hlt
      have cp := H.atM 1 rfl (show knFrom[i]? = some p by rw [knFrom_eq, List.getElem?_map, hx]; rfl)
      have cq := H.atM 0 rfl (show knTo[i]? = some q by rw [knTo_eq, List.getElem?_map, hx]; rfl)
      have hi0 : (0 : Int) ≤ (i : Int) := by omega
      have hi1 : (i : Int) < 26 := by omega
      have HX := Lib.hid hx
      have HA := Lib.hid hany
      clear hx hany
      go_wp2_with fail
      refine wp_region_quiet_lit (by kernel_rfl) (by kernel_rfl) ?_
      repeat (any_goals (first | go_big_quiet_step ((go_at_call 36; exact Calls.quiet_of_same (l1In_any _ _ _ _))) | quiet_step ((go_at_call 36; exact Calls.quiet_of_same (l1In_any _ _ _ _))) | (refine wpQuiet_step (fun K hK => ?_); go_simp; split <;> (refine hK _ ?_; clear hK K))))
      all_goals (refine wpQuiet_nil ?_; intro _ hw_; obtain ⟨nq, hw__⟩ := hw_; subst hw__)
      replace H := H.on nq
      have hbb : inB c p q = true ∨ inB c p q = false := by cases inB c p q <;> simp
      rcases hbb with hb | hb
      · rw [hb]
        go_wp2_with fail
        go_ret
        refine ⟨ret_bool ?_, H.fr⟩
        have : knTbl.any (fun p => inB c p.1 p.2) = true := List.any_eq_true.2 ⟨(p, q), HX.out.mem, hb⟩
        rw [knownS, this, Bool.true_and]
        by_cases h47 : c = 47 <;> simp [h47]
      · rw [hb]
        go_wp2_with fail
        go_roundw
        case rel => exact ⟨i + 1, by go_num, by omega, by rw [At.take HX.out, List.any_append, HA.out]; simpa using hb, H⟩
        case measure => simp [intOf]; omega
    · have hi26 : i = 26 := by omega
      have HA := Lib.hid hany
      clear hany
      go_wp2_with fail
      go_ret
      refine ⟨?_, H.fr⟩
      have h := HA.out
      rw [hi26, List.take_of_length_le (by rw [knTbl_len]; omega)] at h
      rw [knownS, h]
      rfl

/-- The program's table of known signs lies where its initialiser laid it. -/
def KT (w : World) : Prop := Rd w (some ⟨0, 0, none⟩) 27 2 (kpPairs.flatMap cPair)
theorem KT.fr {w w' : World} (h : KT w) (f : Fr w w') : KT w' := Rd.fr (show Rd w (some ⟨0, 0, none⟩) 27 2 (kpPairs.flatMap cPair) from h) f
theorem KT.cells {w : World} (h : KT w) {k : Nat} {p q : Int} (hx : At kpPairs k (p, q)) : w.cell? ⟨0, k * 2, none⟩ = some (.int .i64 p) ∧ w.cell? ⟨0, k * 2 + 1, none⟩ = some (.int .i64 q) := by
  have h' : Rd w (some ⟨0, 0, none⟩) 27 2 (kpPairs.flatMap cPair) := h
  obtain ⟨bk, of, e, hcell⟩ := h'.elem (f := cPair) (fun _ => rfl) hx (by omega)
  injection e with e
  injection e with e1 e2
  subst e1 e2
  have ca := hcell 0 _ rfl
  have cb := hcell 1 _ rfl
  simp only [Nat.zero_add, Nat.add_zero] at ca cb
  exact ⟨ca, cb⟩
set_option maxRecDepth 100000 in
set_option maxHeartbeats 4000000 in
theorem implKnown_any (c : Int) (w : World) (hk : KT w) :
    Calls Tryz.prog 147 #[.int .i64 c] w fun e w' => e = .returned (.bool (knownS c)) ∧ Fr w w' := by
  have G := Lib.hid hk
  clear hk
  go_enter Tryz.func147, Tryz.ntmps147
  go_wp2_with fail
  go_loopw [3] (fun iv wr => ∃ (k p : Nat), iv = .int .i64 p ∧ p = k * 2 ∧ k ≤ 27 ∧ (kpPairs.take k).any (fun p => inB c p.1 p.2) = false ∧ Fr w wr) (fun iv _ => 54 - (intOf iv).toNat)
  case atStart => exact ⟨0, 0, rfl, rfl, by omega, rfl, Below.refl _ _⟩
  case round =>
    obtain ⟨k, p, rfl, hp, hk, hany, hf⟩ := hrel
    by_cases hlt : k < 27
    · obtain ⟨⟨u, v⟩, hx⟩ := at_some kpPairs_len hlt
      obtain ⟨ca, cb⟩ := KT.cells (G.out.fr hf) hx
      obtain ⟨p1, hp1⟩ : ∃ q : Nat, q = p + 1 := ⟨_, rfl⟩
      rw [← hp] at ca cb
      rw [← hp1] at cb
      have hw : IntKind.i64.wrap ((p : Int) + 1) = (p1 : Int) := by rw [IntWalk.i64_in _ (by omega)]; omega
      have HX := Lib.hid hx
      have HA := Lib.hid hany
      have HP := Lib.hid hp
      have hp54 : p < 54 := by omega
      have h0 : (0 : Int) ≤ (p : Int) := by omega
      have h1 : (p : Int) < 54 := by omega
      have h2 : (0 : Int) ≤ (p1 : Int) := by omega
      have h3 : (p1 : Int) < 54 := by omega
      have HF := Lib.hid hf
      clear hx hp hp1 hany hf
      go_wp2_with fail
      refine wp_region_quiet_lit (by kernel_rfl) (by kernel_rfl) ?_
      repeat (any_goals (first | go_big_quiet_step ((go_at_call 45; exact Calls.quiet_of_same (within_any _ _ _ _))) | quiet_step ((go_at_call 45; exact Calls.quiet_of_same (within_any _ _ _ _))) | (refine wpQuiet_step (fun K hK => ?_); go_simp; split <;> (refine hK _ ?_; clear hK K))))
      all_goals (refine wpQuiet_nil ?_; intro _ hw_; obtain ⟨nq, hw__⟩ := hw_; subst hw__)
      have hf := HF.out.on nq
      have hbb : inB c u v = true ∨ inB c u v = false := by cases inB c u v <;> simp
      rcases hbb with hb | hb
      · have HE := Lib.hid (show knownS c = true by rw [← pairs_known]; exact List.any_eq_true.2 ⟨(u, v), HX.out.mem, hb⟩)
        rw [hb]
        go_wp2_with fail
        go_ret
        rw [HE.out]
        exact ⟨rfl, hf⟩
      · rw [hb]
        go_wp2_with fail
        go_roundw
        case rel => exact ⟨k + 1, p + 2, by go_num, by have := HP.out; omega, by omega, by rw [At.take HX.out, List.any_append, HA.out]; simpa using hb, hf⟩
        case measure => simp [intOf]; omega
    · have hge : ¬ ((p : Int) < 54) := by omega
      have HE := Lib.hid (show knownS c = false by
        rw [List.take_of_length_le (by rw [kpPairs_len]; omega)] at hany
        rw [← pairs_known]; exact hany)
      clear hany
      go_wp2_with fail
      go_ret
      rw [HE.out]
      exact ⟨rfl, hf⟩
end Go.Proofs.YtaogikhpglcmjaaGreatDoor
