/-
How often an id is named, by the reference.
-/
import Derived.Test.YtllonpbhgbhogaaGreatDoorGg
namespace Go.Proofs.YtllonpbhgbhogaaGreatDoor
open Go.RowKit
set_option linter.unusedVariables false
set_option linter.unusedSimpArgs false
set_option maxRecDepth 100000 in
set_option maxHeartbeats 4000000 in
theorem specNamed_any (next : Int) (A : Option Addr) (n c : Nat) (L : List (Value × Nod)) (id : Int) (w : World) (h : RdN w A n L) (hn : n ≤ 1048576) (hfew : FewE L) :
 Calls Tryz.prog 93 #[.agg #[.int .i64 next, .slice A n c], .int .i64 id] w fun e w' => e = .returned (.int .i64 (namedN (nodes L) id)) ∧ Fr w w' := by
 have HL := Lib.hid h.len;have HFE := Lib.hid hfew;have HB := Lib.hid (fun k hk => namedN_le hfew id k hk);have H := (Hp.start w).lay_ 31 [.int .i64 next, .slice A n c] rfl;have HR := Lib.hid (h.fr H.fr);have HF0 := Lib.hid H.fr;have yy1 := H.fa 0 1 rfl rfl;obtain ⟨z, hz⟩ : ∃ z : Nat, z = namedN (nodes L) id := ⟨_, rfl⟩;rw [← hz];have HZ := Lib.hid hz;clear hz h hfew H;go_enter Tryz.func93, Tryz.ntmps93;go_wp2_with fail
 go_loopw [5, 6] (fun cv iv wr => ∃ i k : Nat, iv = .int .i64 i ∧ cv = .int .i64 k ∧ i ≤ n ∧ k = namedN ((nodes L).take i) id ∧ wr = w.alloc (.cells #[.int .i64 next, .slice A n c] 31)) (fun _ iv _ => n - (intOf iv).toNat)
 case atStart => exact ⟨0, 0, rfl, rfl, by omega, rfl, rfl⟩
 case round =>
  obtain ⟨i, k, rfl, rfl, hi, hk, rfl⟩ := hrel;have HKE := Lib.hid hk;have hkb : k ≤ i * 1048576 := by rw [hk]; exact HB.out i (by rw [HL.out]; exact hi)
  clear hk;have hi0 : (0 : Int) ≤ (i : Int) := by omega
  by_cases hlt : i < n
  ·have hi1 : (i : Int) < (n : Int) := by omega
   obtain ⟨⟨v, x0, x1, x2, x3, es⟩, hx⟩ := some_at HL.out hlt;have hm := HFE.out _ (List.mem_of_getElem? hx);obtain ⟨bk, of, B1, d1, rfl, e1, r1, c1⟩ := HR.out.elem hx;simp only at e1 r1 hm;subst e1;have ca4 := c1 4 _ rfl;have HX := Lib.hid (nodes_at hx);obtain ⟨m, hmm⟩ : ∃ m, m = es.length := ⟨_, rfl⟩;have HM := Lib.hid hmm.symm;rw [← hmm] at hm ca4 r1;have HR1 := Lib.hid r1;clear hx c1 r1 hmm;go_wp2_with fail
   go_loopw [5, 7] (fun cv jv wq => ∃ j q : Nat, jv = .int .i64 j ∧ cv = .int .i64 q ∧ j ≤ m ∧ q = k + entsN (es.take j) id ∧ wq = w.alloc (.cells #[.int .i64 next, .slice (some ⟨bk, of, none⟩) n c] 31)) (fun _ jv _ => m - (intOf jv).toNat)
   case atStart => exact ⟨0, k, rfl, rfl, by omega, by simp [entsN], rfl⟩
   case round =>
    obtain ⟨j, q, rfl, rfl, hj, hq, rfl⟩ := hrel;have HQE := Lib.hid hq;have hqb : q ≤ k + m := by
     have h1 := entsN_le (es.take j) id;rw [List.length_take] at h1;omega
    clear hq;have hj0 : (0 : Int) ≤ (j : Int) := by omega
    by_cases hjt : j < m
    ·have hj1 : (j : Int) < (m : Int) := by omega
     obtain ⟨⟨y0, y1, y2, y3⟩, hy⟩ := some_at HM.out hjt;obtain ⟨bq, oq, rfl, hcell⟩ := HR1.out.elem cEnt_len hy (by omega);have cb3 := hcell 3 _ rfl;have HES := Lib.hid (entsN_take hy id);clear hy hcell
     by_cases he : y3 = id
     ·have HE := Lib.hid (show q + 1 = k + entsN (es.take (j + 1)) id by rw [HES.out, HQE.out, if_pos he]; omega)
      subst he;go_wp2_with fail;go_roundw
      case rel => exact ⟨j + 1, q + 1, by go_num, by go_num, by omega, HE.out, by trivial⟩
      case measure => simp [intOf]; omega
     ·have HE := Lib.hid (show q = k + entsN (es.take (j + 1)) id by rw [HES.out, HQE.out, if_neg he]; rfl)
      have he2 : (y3 == id) = false := by simpa using he
      go_wp2_with fail;go_roundw
      case rel => exact ⟨j + 1, q, by go_num, rfl, by omega, HE.out, by trivial⟩
      case measure => simp [intOf]; omega
    ·have hj1 : ¬ (j : Int) < (m : Int) := by omega
     have HE := Lib.hid (show q = namedN ((nodes L).take (i + 1)) id by
      rw [namedN_take HX.out, HQE.out, HKE.out, show j = m by omega, entsN_all HM.out])
     go_wp2_with fail;go_roundw
     case rel => exact ⟨i + 1, q, by go_num, rfl, by omega, HE.out, by trivial⟩
     case measure => simp [intOf]; omega
  ·have hi1 : ¬ (i : Int) < (n : Int) := by omega
   have HE := Lib.hid (show z = k by
    rw [HZ.out, HKE.out, List.take_of_length_le (by rw [nodes_len, HL.out]; omega)])
   go_wp2_with fail;go_ret;rw [HE.out];exact ⟨rfl, HF0.out⟩
end Go.Proofs.YtllonpbhgbhogaaGreatDoor
