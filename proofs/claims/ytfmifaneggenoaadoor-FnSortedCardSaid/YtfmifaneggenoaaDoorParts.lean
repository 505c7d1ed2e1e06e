/-
  The tables of signs: signs, row, l3Row, slices.Index and the reference's Parts: what they hand back.
-/
import Derived.Test.YtfmifaneggenoaaDoorMParts
import Derived.Test.YtfmifaneggenoaaDoorHeap
import Derived.Test.YtfmifaneggenoaaDoorInfo
import Derived.Test.YtfmifaneggenoaaDoorL1In
import Derived.Test.YtfmifaneggenoaaDoorWithin
namespace Go.Proofs.YtfmifaneggenoaaDoor
open Go.RowKit

theorem toB_at' {s : ByteArray} {j : Nat} {b : UInt8} (h : (toB s)[j]? = some b) (hj : j < s.size) : s[j] = b := by
  have h1 : (toB s)[j]? = some (s.data[j]'hj) := by
    rw [toB, Array.getElem?_toList]; exact Array.getElem?_eq_getElem hj
  rw [h] at h1
  injection h1 with h1
  exact h1.symm
def bI (b : UInt8) : Int := (b.toNat : Int)
def sigL (s : ByteArray) : List Int := (toB s).map bI
theorem sigL_len (s : ByteArray) : (sigL s).length = s.size := by rw [sigL, List.length_map, toB_len]
theorem alloc_size (w : World) (cs : Array Value) (t : TypeId) : (w.alloc (.cells cs t)).heap.size = w.heap.size + 1 := Array.size_push _

set_option linter.unusedVariables false
set_option maxRecDepth 100000 in
set_option maxHeartbeats 2000000 in
theorem signs_any (s : ByteArray) (w : World) (hs : s.size ≤ 1000) :
    Calls Tryd.prog 93 #[.string s] w (Made w 3 1 s.size ((sigL s).map (Value.int .i64))) := by
  obtain ⟨n, hn⟩ : ∃ n, n = s.size := ⟨_, rfl⟩
  have HN := Lib.hid hn
  have H0 := (Hp.start w).lit0 3 1
  have hn1 : n ≤ 1000 := by omega
  rw [← hn]
  clear hn
  go_enter Tryd.func93, Tryd.ntmps93
  go_wp2_with fail
  go_loopw [3, 4] (fun v iv wr => ∃ k : Nat, k ≤ n ∧ iv = .int .i64 k ∧ Hp [] w wr [.row 3 1 v k (((sigL s).take k).map (Value.int .i64))]) (fun _ iv _ => n - (intOf iv).toNat)
  case atStart => exact ⟨0, by omega, rfl, H0⟩
  case round =>
    clear H0
    obtain ⟨k, hk, rfl, H⟩ := hrel
    obtain ⟨B, d, rfl⟩ := H.shape 0 rfl
    by_cases hlt : k < n
    · have hks : k < s.size := by rw [← HN.out]; exact hlt
      obtain ⟨b, hb⟩ := some_at (l := toB s) (n := n) (by rw [toB_len, ← HN.out]) hlt
      have e1 : s[k] = b := toB_at' hb hks
      have hb0 : ((s[k]).toNat : Int) ≤ 255 := by have := (s[k]).toNat_lt; omega
      have hb1 : (0 : Int) ≤ ((s[k]).toNat : Int) := by omega
      have HX := Lib.hid (At.take (l := sigL s) (k := k) (x := bI b) (by rw [At, sigL, List.getElem?_map, hb]; rfl))
      have HE := Lib.hid (show ((s[k]).toNat : Int) = bI b by rw [e1]; rfl)
      have hlen : ((sigL s).take k).length = k := by rw [List.length_take, sigL_len, ← HN.out]; omega
      have hx0 : (0 : Int) ≤ (k : Int) := by omega
      have hlt2 : (k : Int) < (s.size : Int) := by omega
      clear hb e1
      generalize (sigL s).take k = o at H HX hlen
      subst hlen
      go_wp2_with (at_builtin; refine wp_appM (f := Value.int .i64) (H) rfl _ _ _ rfl Tryd.underlying29 infoInt rfl 0 _ _ rfl rfl _ _ (((s[o.length]'hks).toNat : Int)) rfl (by simp) rfl (by first | (simp only [maxLen]; omega) | (simp [maxLen]; done) | (simp [maxLen]; omega)) (by first | omega | (simp; done) | (simp; omega)) ?_)
      intro v' w' H'
      rw [HE.out] at H'
      have H2 : Hp [] w w' [.row 3 1 v' (o.length + 1) (((sigL s).take (o.length + 1)).map (Value.int .i64))] := by
        rw [HX.out, List.map_append]
        simpa using H'
      clear H'
      go_wp2_with fail
      go_roundw
      case rel => exact ⟨o.length + 1, by omega, by go_num, H2⟩
      case measure => simp [intOf]; omega
    · have ht : (sigL s).take k = sigL s := List.take_of_length_le (by rw [sigL_len, ← HN.out]; omega)
      have hk2 : k = n := by omega
      subst hk2
      rw [ht] at H
      have hge : ¬ ((k : Int) < (s.size : Int)) := by rw [← HN.out]; omega
      go_wp2_with fail
      go_ret
      exact H.toMade 0 rfl

def RowD (w : World) (fs ls : List Int) (m : Int) (e : Ending) (w' : World) : Prop :=
  ∃ A c B d, e = .returned (.tuple #[.slice A fs.length c, .slice B ls.length d, .int .i64 m]) ∧ Hp [] w w' [.row 3 1 (.slice B ls.length d) ls.length (ls.map (Value.int .i64)), .row 3 1 (.slice A fs.length c) fs.length (fs.map (Value.int .i64))]

set_option maxRecDepth 100000 in
set_option maxHeartbeats 1000000 in
theorem row_0 (w : World) : Calls Tryd.prog 72 #[.int .i64 0] w (RowD w [192, 200, 204, 210, 217, 224, 232, 236, 242, 249] [65, 69, 73, 79, 85, 97, 101, 105, 111, 117] 768) := by
  have H1 := (Hp.start w).lit 3 1 10 ([192, 200, 204, 210, 217, 224, 232, 236, 242, 249].map (Value.int .i64)) rfl (by simp [maxLen])
  go_enter Tryd.func72, Tryd.ntmps72
  go_wp2_with fail
  refine (signs_any _ _ (by decide)).mono ?_
  rintro e w1 ⟨B, d, rfl, o1, f1⟩
  have H2 := H1.made o1 f1
  clear H1 o1 f1
  go_wp2_with fail
  go_ret3
  exact ⟨_, _, B, d, rfl, H2⟩

set_option maxRecDepth 100000 in
set_option maxHeartbeats 1000000 in
theorem row_1 (w : World) : Calls Tryd.prog 72 #[.int .i64 1] w (RowD w [193, 201, 205, 211, 218, 221, 225, 233, 237, 243, 250, 253] [65, 69, 73, 79, 85, 89, 97, 101, 105, 111, 117, 121] 769) := by
  have H1 := (Hp.start w).lit 3 1 12 ([193, 201, 205, 211, 218, 221, 225, 233, 237, 243, 250, 253].map (Value.int .i64)) rfl (by simp [maxLen])
  go_enter Tryd.func72, Tryd.ntmps72
  go_wp2_with fail
  refine (signs_any _ _ (by decide)).mono ?_
  rintro e w1 ⟨B, d, rfl, o1, f1⟩
  have H2 := H1.made o1 f1
  clear H1 o1 f1
  go_wp2_with fail
  go_ret3
  exact ⟨_, _, B, d, rfl, H2⟩

set_option maxRecDepth 100000 in
set_option maxHeartbeats 1000000 in
theorem row_2 (w : World) : Calls Tryd.prog 72 #[.int .i64 2] w (RowD w [194, 202, 206, 212, 219, 226, 234, 238, 244, 251] [65, 69, 73, 79, 85, 97, 101, 105, 111, 117] 770) := by
  have H1 := (Hp.start w).lit 3 1 10 ([194, 202, 206, 212, 219, 226, 234, 238, 244, 251].map (Value.int .i64)) rfl (by simp [maxLen])
  go_enter Tryd.func72, Tryd.ntmps72
  go_wp2_with fail
  refine (signs_any _ _ (by decide)).mono ?_
  rintro e w1 ⟨B, d, rfl, o1, f1⟩
  have H2 := H1.made o1 f1
  clear H1 o1 f1
  go_wp2_with fail
  go_ret3
  exact ⟨_, _, B, d, rfl, H2⟩

set_option maxRecDepth 100000 in
set_option maxHeartbeats 1000000 in
theorem row_3 (w : World) : Calls Tryd.prog 72 #[.int .i64 3] w (RowD w [195, 209, 213, 227, 241, 245] [65, 78, 79, 97, 110, 111] 771) := by
  have H1 := (Hp.start w).lit 3 1 6 ([195, 209, 213, 227, 241, 245].map (Value.int .i64)) rfl (by simp [maxLen])
  go_enter Tryd.func72, Tryd.ntmps72
  go_wp2_with fail
  refine (signs_any _ _ (by decide)).mono ?_
  rintro e w1 ⟨B, d, rfl, o1, f1⟩
  have H2 := H1.made o1 f1
  clear H1 o1 f1
  go_wp2_with fail
  go_ret3
  exact ⟨_, _, B, d, rfl, H2⟩

set_option maxRecDepth 100000 in
set_option maxHeartbeats 1000000 in
theorem row_4 (w : World) : Calls Tryd.prog 72 #[.int .i64 4] w (RowD w [196, 203, 207, 214, 220, 228, 235, 239, 246, 252, 255] [65, 69, 73, 79, 85, 97, 101, 105, 111, 117, 121] 776) := by
  have H1 := (Hp.start w).lit 3 1 11 ([196, 203, 207, 214, 220, 228, 235, 239, 246, 252, 255].map (Value.int .i64)) rfl (by simp [maxLen])
  go_enter Tryd.func72, Tryd.ntmps72
  go_wp2_with fail
  refine (signs_any _ _ (by decide)).mono ?_
  rintro e w1 ⟨B, d, rfl, o1, f1⟩
  have H2 := H1.made o1 f1
  clear H1 o1 f1
  go_wp2_with fail
  go_ret3
  exact ⟨_, _, B, d, rfl, H2⟩

set_option maxRecDepth 100000 in
set_option maxHeartbeats 1000000 in
theorem row_5 (w : World) : Calls Tryd.prog 72 #[.int .i64 5] w (RowD w [197, 229] [65, 97] 778) := by
  have H1 := (Hp.start w).lit 3 1 2 ([197, 229].map (Value.int .i64)) rfl (by simp [maxLen])
  go_enter Tryd.func72, Tryd.ntmps72
  go_wp2_with fail
  refine (signs_any _ _ (by decide)).mono ?_
  rintro e w1 ⟨B, d, rfl, o1, f1⟩
  have H2 := H1.made o1 f1
  clear H1 o1 f1
  go_wp2_with fail
  go_ret3
  exact ⟨_, _, B, d, rfl, H2⟩

set_option maxRecDepth 100000 in
set_option maxHeartbeats 1000000 in
theorem row_6 (w : World) : Calls Tryd.prog 72 #[.int .i64 6] w (RowD w [199, 231] [67, 99] 807) := by
  have H1 := (Hp.start w).lit 3 1 2 ([199, 231].map (Value.int .i64)) rfl (by simp [maxLen])
  go_enter Tryd.func72, Tryd.ntmps72
  go_wp2_with fail
  refine (signs_any _ _ (by decide)).mono ?_
  rintro e w1 ⟨B, d, rfl, o1, f1⟩
  have H2 := H1.made o1 f1
  clear H1 o1 f1
  go_wp2_with fail
  go_ret3
  exact ⟨_, _, B, d, rfl, H2⟩

set_option maxRecDepth 100000 in
set_option maxHeartbeats 1000000 in
theorem row_7 (w : World) : Calls Tryd.prog 72 #[.int .i64 7] w (RowD w [902, 904, 905, 906, 908, 910, 911] [913, 917, 919, 921, 927, 933, 937] 769) := by
  have H1 := (Hp.start w).lit 3 1 7 ([902, 904, 905, 906, 908, 910, 911].map (Value.int .i64)) rfl (by simp [maxLen])
  have H2 := H1.lit 3 1 7 ([913, 917, 919, 921, 927, 933, 937].map (Value.int .i64)) rfl (by simp [maxLen])
  rw [alloc_size] at H2
  clear H1
  go_enter Tryd.func72, Tryd.ntmps72
  go_wp2_with fail
  go_ret3
  exact ⟨_, _, _, _, rfl, H2⟩

set_option maxRecDepth 100000 in
set_option maxHeartbeats 1000000 in
theorem row_8 (w : World) : Calls Tryd.prog 72 #[.int .i64 8] w (RowD w [940, 941, 942, 943, 972, 973, 974] [945, 949, 951, 953, 959, 965, 969] 769) := by
  have H1 := (Hp.start w).lit 3 1 7 ([940, 941, 942, 943, 972, 973, 974].map (Value.int .i64)) rfl (by simp [maxLen])
  have H2 := H1.lit 3 1 7 ([945, 949, 951, 953, 959, 965, 969].map (Value.int .i64)) rfl (by simp [maxLen])
  rw [alloc_size] at H2
  clear H1
  go_enter Tryd.func72, Tryd.ntmps72
  go_wp2_with fail
  go_ret3
  exact ⟨_, _, _, _, rfl, H2⟩

set_option maxRecDepth 100000 in
set_option maxHeartbeats 1000000 in
theorem row_9 (w : World) : Calls Tryd.prog 72 #[.int .i64 9] w (RowD w [469, 470] [220, 252] 772) := by
  have H1 := (Hp.start w).lit 3 1 2 ([469, 470].map (Value.int .i64)) rfl (by simp [maxLen])
  have H2 := H1.lit 3 1 2 ([220, 252].map (Value.int .i64)) rfl (by simp [maxLen])
  rw [alloc_size] at H2
  clear H1
  go_enter Tryd.func72, Tryd.ntmps72
  go_wp2_with fail
  go_ret3
  exact ⟨_, _, _, _, rfl, H2⟩

set_option maxRecDepth 100000 in
set_option maxHeartbeats 1000000 in
theorem row_10 (w : World) : Calls Tryd.prog 72 #[.int .i64 10] w (RowD w [7840, 7841] [65, 97] 803) := by
  have H1 := (Hp.start w).lit 3 1 2 ([7840, 7841].map (Value.int .i64)) rfl (by simp [maxLen])
  go_enter Tryd.func72, Tryd.ntmps72
  go_wp2_with fail
  refine (signs_any _ _ (by decide)).mono ?_
  rintro e w1 ⟨B, d, rfl, o1, f1⟩
  have H2 := H1.made o1 f1
  clear H1 o1 f1
  go_wp2_with fail
  go_ret3
  exact ⟨_, _, B, d, rfl, H2⟩

set_option maxRecDepth 100000 in
set_option maxHeartbeats 1000000 in
theorem row_11 (w : World) : Calls Tryd.prog 72 #[.int .i64 11] w (RowD w [7852, 7853] [7840, 7841] 770) := by
  have H1 := (Hp.start w).lit 3 1 2 ([7852, 7853].map (Value.int .i64)) rfl (by simp [maxLen])
  have H2 := H1.lit 3 1 2 ([7840, 7841].map (Value.int .i64)) rfl (by simp [maxLen])
  rw [alloc_size] at H2
  clear H1
  go_enter Tryd.func72, Tryd.ntmps72
  go_wp2_with fail
  go_ret3
  exact ⟨_, _, _, _, rfl, H2⟩

set_option maxRecDepth 100000 in
set_option maxHeartbeats 1000000 in
theorem row_12 (w : World) : Calls Tryd.prog 72 #[.int .i64 12] w (RowD w [8486, 8491] [937, 197] 0) := by
  have H1 := (Hp.start w).lit 3 1 2 ([8486, 8491].map (Value.int .i64)) rfl (by simp [maxLen])
  have H2 := H1.lit 3 1 2 ([937, 197].map (Value.int .i64)) rfl (by simp [maxLen])
  rw [alloc_size] at H2
  clear H1
  go_enter Tryd.func72, Tryd.ntmps72
  go_wp2_with fail
  go_ret3
  exact ⟨_, _, _, _, rfl, H2⟩

theorem implRow_any (i : Nat) (hi : i < 13) (w : World) : ∃ r, rowTbl[i]? = some r ∧ Calls Tryd.prog 72 #[.int .i64 i] w (RowD w r.1 r.2.1 r.2.2) := by
  match i, hi with
  | 0, _ => exact ⟨_, rfl, row_0 w⟩
  | 1, _ => exact ⟨_, rfl, row_1 w⟩
  | 2, _ => exact ⟨_, rfl, row_2 w⟩
  | 3, _ => exact ⟨_, rfl, row_3 w⟩
  | 4, _ => exact ⟨_, rfl, row_4 w⟩
  | 5, _ => exact ⟨_, rfl, row_5 w⟩
  | 6, _ => exact ⟨_, rfl, row_6 w⟩
  | 7, _ => exact ⟨_, rfl, row_7 w⟩
  | 8, _ => exact ⟨_, rfl, row_8 w⟩
  | 9, _ => exact ⟨_, rfl, row_9 w⟩
  | 10, _ => exact ⟨_, rfl, row_10 w⟩
  | 11, _ => exact ⟨_, rfl, row_11 w⟩
  | 12, _ => exact ⟨_, rfl, row_12 w⟩

set_option maxRecDepth 100000 in
set_option maxHeartbeats 2000000 in
/-- slices.Index on ints. -/
theorem index_any (A : Option Addr) (n c : Nat) (l : List Int) (x : Int) (w : World) (h : Rd w A n 1 (l.map (Value.int .i64))) (hn : n ≤ 1048576) :
    Calls Tryd.prog 73 #[.slice A n c, .int .i64 x] w fun e w' => ∃ r : Int, e = .returned (.int .i64 r) ∧ ((r = -1 ∧ x ∉ l) ∨ ∃ k : Nat, r = k ∧ k < n ∧ l[k]? = some x) ∧ w = w' := by
  have HL := Lib.hid h.len1
  have G := Lib.hid h
  clear h
  go_enter Tryd.func73, Tryd.ntmps73
  go_wp2_with fail
  go_loopw [5, 8] (fun jv iv wr => ∃ i : Nat, iv = .int .i64 i ∧ i ≤ n ∧ x ∉ l.take i ∧ wr = w) (fun _ iv _ => n - (intOf iv).toNat)
  case atStart => exact ⟨0, rfl, by omega, by simp, rfl⟩
  case round =>
    obtain ⟨i, rfl, hi, hno, rfl⟩ := hrel
    by_cases hlt : i < n
    · obtain ⟨y, hy⟩ := some_at HL.out hlt
      obtain ⟨bk, of, rfl, hc⟩ := G.out.get1 hy
      have hi0 : (0 : Int) ≤ (i : Int) := by omega
      have hi1 : (i : Int) < (n : Int) := by omega
      have HY := Lib.hid hy
      have HO := Lib.hid hno
      clear hy hno
      by_cases hxy : x = y
      · subst hxy
        go_wp2_with fail
        go_ret
        exact ⟨_, rfl, Or.inr ⟨i, rfl, hlt, HY.out⟩, rfl⟩
      · go_wp2_with fail
        go_roundw
        case rel => exact ⟨i + 1, by go_num, by omega, by rw [At.take HY.out, List.mem_append, not_or]; exact ⟨HO.out, by simpa using hxy⟩, trivial⟩
        case measure => simp [intOf]; omega
    · have HO := Lib.hid hno
      clear hno
      go_wp2_with fail
      go_ret
      refine ⟨_, rfl, Or.inl ⟨rfl, ?_⟩, rfl⟩
      have := HO.out
      rwa [List.take_of_length_le (by rw [HL.out]; omega)] at this

set_option maxRecDepth 100000 in
set_option maxHeartbeats 2000000 in
theorem l3Row_any (c : Int) (A : Option Addr) (n cc : Nat) (l : List Int) (bs : List UInt8) (s : ByteArray) (m : Int) (w : World) (h : Rd w A n 1 (l.map (Value.int .i64))) (hn : n ≤ 1000) (hs : toB s = bs) (hb : bs.length = n) :
    Calls Tryd.prog 92 #[.int .i64 c, .slice A n cc, .string s, .int .i64 m] w (Made w 3 1 (rowHit c l bs m).length ((rowHit c l bs m).map (Value.int .i64))) := by
  have HL := Lib.hid h.len1
  have G := Lib.hid h
  have hsz : s.size = n := by rw [← toB_len, hs, hb]
  have HS := Lib.hid hs
  have HB := Lib.hid hb
  clear h hs hb
  go_enter Tryd.func92, Tryd.ntmps92
  go_wp2_with fail
  go_loopw [9] (fun iv wr => ∃ i : Nat, iv = .int .i64 i ∧ i ≤ n ∧ (∀ (j : Nat) (x : Int), j < i → l[j]? = some x → x ≠ c) ∧ wr = w) (fun iv _ => n - (intOf iv).toNat)
  case atStart => exact ⟨0, rfl, by omega, fun j x hj => by omega, rfl⟩
  case round =>
    obtain ⟨i, rfl, hi, hno, rfl⟩ := hrel
    by_cases hlt : i < n
    · obtain ⟨y, hy⟩ := some_at HL.out hlt
      obtain ⟨b, hb⟩ := some_at HB.out hlt
      obtain ⟨bk, of, rfl, hc⟩ := G.out.get1 hy
      have hi0 : (0 : Int) ≤ (i : Int) := by omega
      have hi1 : (i : Int) < (n : Int) := by omega
      have hks : i < s.size := by omega
      have hi2 : (i : Int) < (s.size : Int) := by omega
      have e1 : s[i] = b := toB_at' (by rw [HS.out]; exact hb) hks
      have hb0 : ((s[i]).toNat : Int) ≤ 255 := by have := (s[i]).toNat_lt; omega
      have hb1 : (0 : Int) ≤ ((s[i]).toNat : Int) := by omega
      have HE := Lib.hid (show ((s[i]).toNat : Int) = (b.toNat : Int) by rw [e1])
      have HY := Lib.hid hy
      have HO := Lib.hid hno
      have HBY := Lib.hid hb
      clear hy hno hb e1
      by_cases hxy : y = c
      · subst hxy
        have HR := Lib.hid (rowHit_at (m := m) HY.out HBY.out HO.out)
        have H2 := (Hp.start wr).lit 3 1 2 [.int .i64 (b.toNat : Int), .int .i64 m] rfl (by simp [maxLen])
        go_wp2_with fail
        rw [HE.out]
        go_ret
        rw [HR.out]
        exact H2.toMade 0 rfl
      · have HR := Lib.hid hxy
        go_wp2_with fail
        go_roundw
        case rel =>
          refine ⟨i + 1, by go_num, by omega, fun j x hj hx => ?_, trivial⟩
          by_cases hji : j = i
          · subst hji
            rw [HY.out] at hx
            injection hx with hx
            rw [← hx]
            exact HR.out
          · exact HO.out j x (by omega) hx
        case measure => simp [intOf]; omega
    · have HR := Lib.hid (show rowHit c l bs m = [] from rowHit_no fun x hx => by
        obtain ⟨j, hj⟩ := List.mem_iff_getElem?.1 hx
        have := (List.getElem?_eq_some_iff.1 hj).1
        exact hno j x (by rw [HL.out] at this; omega) hj)
      have H2 := (Hp.start wr).lit0 3 1
      clear hno
      go_wp2_with fail
      go_ret
      rw [HR.out]
      exact H2.toMade 0 rfl
end Go.Proofs.YtfmifaneggenoaaDoor
