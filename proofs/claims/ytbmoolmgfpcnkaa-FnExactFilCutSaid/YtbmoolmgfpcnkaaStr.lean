/-
  Texts of noughts.
-/
import Derived.Test.YtbmoolmgfpcnkaaBytes
namespace Go.Proofs.Ytbmoolmgfpcnkaa
open Go.RowKit

def zB (n : Nat) : List UInt8 := List.replicate n 0

theorem implZeros_any (z : Int) (h0 : 0 ≤ z) (h1 : z ≤ 1000) (w : World) :
    Calls Try.prog 59 #[.int .i64 z] w fun e w' => e = .returned (.string (ofB (zB z.toNat))) ∧ Fr w w' := by
  obtain ⟨n, rfl⟩ := Int.eq_ofNat_of_zero_le h0
  go_enter Try.func59, Try.ntmps59
  go_wp2_with (at_make; refine wp_mk (Hp.start w) rfl _ _ _ rfl Try.underlying44 infoU8 rfl rfl (n) _ _ _ _ rfl rfl rfl rfl (by first | omega | (simp; done) | (simp; omega)) (by first | (simp only [maxLen]; omega) | (simp [maxLen]; done) | (simp [maxLen]; omega)) ?_)
  intro w1 H
  have hr : Rd w1 (some ⟨w.heap.size, 0, none⟩) n 1 ((zB n).map cU8) := by
    have h2 := H.rd 0 rfl
    rwa [show (zB n).map cU8 = List.replicate n (Value.int .u8 0) from by simp [zB, cU8]]
  have hk := run_str (c := n) 44 9 5 Try.underlying44 Try.underlying5 Try.underlying9 hr
  have F := Lib.hid H.fr
  clear H hr
  go_wp2
  go_ret
  exact ⟨rfl, F.out⟩

theorem specZeros_any (z : Int) (h0 : 0 ≤ z) (h1 : z ≤ 1000) (w : World) :
    Calls Try.prog 49 #[.int .i64 z] w fun e w' => e = .returned (.string (ofB (zB z.toNat))) ∧ Fr w w' := by
  obtain ⟨n, rfl⟩ := Int.eq_ofNat_of_zero_le h0
  go_enter Try.func49, Try.ntmps49
  go_wp2_with (at_make; refine wp_mk (Hp.start w) rfl _ _ _ rfl Try.underlying44 infoU8 rfl rfl (n) _ _ _ _ rfl rfl rfl rfl (by first | omega | (simp; done) | (simp; omega)) (by first | (simp only [maxLen]; omega) | (simp [maxLen]; done) | (simp [maxLen]; omega)) ?_)
  intro w1 H
  have hr : Rd w1 (some ⟨w.heap.size, 0, none⟩) n 1 ((zB n).map cU8) := by
    have h2 := H.rd 0 rfl
    rwa [show (zB n).map cU8 = List.replicate n (Value.int .u8 0) from by simp [zB, cU8]]
  have hk := run_str (c := n) 44 9 5 Try.underlying44 Try.underlying5 Try.underlying9 hr
  have F := Lib.hid H.fr
  clear H hr
  go_wp2
  go_ret
  exact ⟨rfl, F.out⟩

theorem lawsZeros_any (z : Int) (h0 : 0 ≤ z) (h1 : z ≤ 1000) (w : World) :
    Calls Try.prog 32 #[.int .i64 z] w fun e w' => e = .returned (.string (ofB (zB z.toNat))) ∧ Fr w w' := by
  obtain ⟨n, rfl⟩ := Int.eq_ofNat_of_zero_le h0
  go_enter Try.func32, Try.ntmps32
  go_wp2_with (at_make; refine wp_mk (Hp.start w) rfl _ _ _ rfl Try.underlying44 infoU8 rfl rfl (n) _ _ _ _ rfl rfl rfl rfl (by first | omega | (simp; done) | (simp; omega)) (by first | (simp only [maxLen]; omega) | (simp [maxLen]; done) | (simp [maxLen]; omega)) ?_)
  intro w1 H
  have hr : Rd w1 (some ⟨w.heap.size, 0, none⟩) n 1 ((zB n).map cU8) := by
    have h2 := H.rd 0 rfl
    rwa [show (zB n).map cU8 = List.replicate n (Value.int .u8 0) from by simp [zB, cU8]]
  have hk := run_str (c := n) 44 9 5 Try.underlying44 Try.underlying5 Try.underlying9 hr
  have F := Lib.hid H.fr
  clear H hr
  go_wp2
  go_ret
  exact ⟨rfl, F.out⟩

end Go.Proofs.Ytbmoolmgfpcnkaa
