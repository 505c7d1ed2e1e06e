/-
  slices.SortStableFunc at names of the call's own, by impl.Order.
-/
import Derived.Test.YtfmifaneggenoaaDoorSymT
import Derived.Test.YtfmifaneggenoaaDoorMStab
namespace Go.Proofs.YtfmifaneggenoaaDoor
open Go.RowKit

set_option linter.unusedVariables false
set_option linter.unusedSimpArgs false
def EqN (a b : Nat) : Prop := a = b
theorem isort0_any (v fv : Value) (w : World) :
    Calls Tryd.prog 101 #[v, .int .i64 0, .int .i64 0, fv] w fun e w' => e = .returned (.tuple #[]) ∧ w' = w := by
  go_enter Tryd.func101, Tryd.ntmps101
  go_wp2_with fail
  refine wp_loop_rounds 1 ?_
  rw [rounds_succ]
  go_wp2_with fail
  go_end0
  exact ⟨rfl, rfl⟩
theorem stable0_any (v fv : Value) (w : World) :
    Calls Tryd.prog 96 #[v, .int .i64 0, fv] w fun e w' => e = .returned (.tuple #[]) ∧ w' = w := by
  go_enter Tryd.func96, Tryd.ntmps96
  go_wp2_with fail
  refine wp_loop_rounds 1 ?_
  rw [rounds_succ]
  go_wp2_with fail
  refine (isort0_any v fv _).mono ?_
  rintro e w1 ⟨rfl, rfl⟩
  go_wp2_with fail
  refine wp_loop_rounds 1 ?_
  rw [rounds_succ]
  go_wp2_with fail
  go_end0
  exact ⟨rfl, rfl⟩
set_option maxRecDepth 100000 in
set_option maxHeartbeats 8000000 in
theorem stable_any (g n c base : Nat) (xs : List ByteArray) (w : World) (h : w.ownsRow base 9 1 (.slice (some ⟨g, 0, none⟩) n c) n (xs.map Value.string)) (hn : n ≤ 1048576) (hz : ∀ x ∈ xs, x.size ≤ 16777216) (hk : KT w) (hg : g ≠ 0) :
    Calls Tryd.prog 96 #[.slice (some ⟨g, 0, none⟩) n c, .int .i64 n, .func (.func 11) #[] #[]] w fun e w' => ∃ ys : List ByteArray, e = .returned (.tuple #[]) ∧ ys.Perm xs ∧ UpS 0 n ys ∧ Hp [g] w w' [.row 9 1 (.slice (some ⟨g, 0, none⟩) n c) n (ys.map Value.string)] := by
  have H : Hp [g] w w [.row 9 1 (.slice (some ⟨g, 0, none⟩) n c) n (xs.map Value.string)] := Hp.start_row h
  have HK := Lib.hid hk
  have HZ := Lib.hid hz
  have HG := Lib.hid hg
  clear h hz hk
  go_enter Tryd.func96, Tryd.ntmps96
  go_wp2_with fail
  go_loopw [7, 8] (fun av bv wr => ∃ (t a : Nat) (zs : List ByteArray), av = .int .i64 a ∧ bv = .int .i64 ((a : Int) + 20) ∧ EqN a (t * 20) ∧ a ≤ n ∧ zs.Perm xs ∧ FstB t zs ∧ Hp [g] w wr [.row 9 1 (.slice (some ⟨g, 0, none⟩) n c) n (zs.map Value.string)]) (fun av _ _ => n - (intOf av).toNat)
  case atStart => exact ⟨0, 0, xs, rfl, rfl, rfl, by omega, .refl _, fun u hu => by omega, H⟩
  case round =>
    clear H
    obtain ⟨t, a, zs, rfl, rfl, hat, han, hp, hf, H⟩ := hrel
    have HP := Lib.hid hp
    have HF := Lib.hid hf
    clear hp hf
    by_cases hlt : a + 20 ≤ n
    · have hlt1 : (a : Int) + 20 ≤ (n : Int) := by omega
      obtain ⟨b, hb1, hb2⟩ : ∃ b : Nat, b ≤ a + 20 ∧ a + 20 ≤ b := ⟨a + 20, by omega, by omega⟩
      have hab : (a : Int) + 20 = (b : Int) := by omega
      have hwb : IntKind.i64.wrap ((b : Int) + 20) = (b : Int) + 20 := IntWalk.i64_in _ (by omega)
      rw [hab] at hlt1 ⊢
      go_wp2_with fail
      refine (isortN_any g n c a b 0 zs _ (H.row 0 rfl) hn (by omega) han (fun x hx => HZ.out x (HP.out.mem_iff.1 hx)) (HK.out.hp H HG.out) hg).mono ?_
      rintro e w1 ⟨us, rfl, hm, hu, K⟩
      replace H := H.turnRow 0 rfl K.gr (K.row 0 rfl) (.inl rfl)
      have HM := Lib.hid hm
      have HU := Lib.hid hu
      clear hm hu K
      go_wp2_with fail
      go_roundw
      case rel =>
        have e1 : a = t * 20 := hat
        have e2 : b = t * 20 + 20 := by omega
        have hm := HM.out
        have hu := HU.out
        rw [e1, e2] at hm hu
        exact ⟨t + 1, b, us, rfl, rfl, show b = (t + 1) * 20 by omega, by omega, hm.perm.trans HP.out, HF.out.step hm hu, H⟩
      case measure => simp [intOf]; omega
    · have hlt1 : ¬ ((a : Int) + 20 ≤ (n : Int)) := by omega
      go_wp2_with fail
      refine (isortN_any g n c a n 0 zs _ (H.row 0 rfl) hn (by omega) han (fun x hx => HZ.out x (HP.out.mem_iff.1 hx)) (HK.out.hp H HG.out) hg).mono ?_
      rintro e w1 ⟨us, rfl, hm, hu, K⟩
      replace H := H.turnRow 0 rfl K.gr (K.row 0 rfl) (.inl rfl)
      have HA := Lib.hid (show AllB 20 n us by
        have e1 : a = t * 20 := hat
        rw [e1] at hm hu
        exact HF.out.last (by omega) hm hu)
      have HP2 := Lib.hid (hm.perm.trans HP.out)
      clear hm hu K HP HF
      go_wp2_with fail
      go_loopw [6] (fun sv wr => ∃ (s : Nat) (zs : List ByteArray), sv = .int .i64 s ∧ 20 ≤ s ∧ s ≤ n + n + 20 ∧ zs.Perm xs ∧ AllB s n zs ∧ Hp [g] w wr [.row 9 1 (.slice (some ⟨g, 0, none⟩) n c) n (zs.map Value.string)]) (fun sv _ => n - (intOf sv).toNat)
      case atStart => exact ⟨20, us, rfl, by omega, by omega, HP2.out, HA.out, H⟩
      case round =>
        clear H HP2 HA
        obtain ⟨s, zs, rfl, hs1, hs2, hp, ha, H⟩ := hrel
        have HP := Lib.hid hp
        have HA := Lib.hid ha
        clear hp ha
        by_cases hsn : s < n
        · have hsn1 : (s : Int) < (n : Int) := by omega
          obtain ⟨d, hd1, hd2⟩ : ∃ d : Nat, d ≤ 2 * s ∧ 2 * s ≤ d := ⟨2 * s, by omega, by omega⟩
          have hwd' : 2 * (s : Int) = (d : Int) := by omega
          have hwd2' : (s : Int) * 2 = (d : Int) := by omega
          have hwd : IntKind.i64.wrap (2 * (s : Int)) = (d : Int) := by rw [hwd']; exact IntWalk.i64_in _ (by omega)
          have hwd2 : IntKind.i64.wrap ((s : Int) * 2) = (d : Int) := by rw [hwd2']; exact IntWalk.i64_in _ (by omega)
          have HM0 := Lib.hid (MidB.start HA.out)
          clear HA
          go_wp2_with fail
          go_loopw [7, 8] (fun av bv wr => ∃ (t a b : Nat) (zs : List ByteArray), av = .int .i64 a ∧ bv = .int .i64 b ∧ EqN a (t * (2 * s)) ∧ b ≤ a + d ∧ a + d ≤ b ∧ a ≤ n ∧ zs.Perm xs ∧ MidB s n t zs ∧ Hp [g] w wr [.row 9 1 (.slice (some ⟨g, 0, none⟩) n c) n (zs.map Value.string)]) (fun av _ _ => n - (intOf av).toNat)
          case atStart => exact ⟨0, 0, d, zs, rfl, rfl, show 0 = 0 * (2 * s) by omega, by omega, by omega, by omega, HP.out, HM0.out, H⟩
          case round =>
            clear H HP HM0
            obtain ⟨t, a, b, zs, rfl, rfl, hat, hb1, hb2, han, hp, hmb, H⟩ := hrel
            have HP := Lib.hid hp
            have HM := Lib.hid hmb
            clear hp hmb
            obtain ⟨m, hm1, hm2⟩ : ∃ m : Nat, m ≤ a + s ∧ a + s ≤ m := ⟨a + s, by omega, by omega⟩
            have hwm' : (a : Int) + (s : Int) = (m : Int) := by omega
            have hwm : IntKind.i64.wrap ((a : Int) + (s : Int)) = (m : Int) := by rw [hwm']; exact IntWalk.i64_in _ (by omega)
            by_cases hbn : b ≤ n
            · have hbn1 : (b : Int) ≤ (n : Int) := by omega
              have e1 : a = t * (2 * s) := hat
              have HPR := Lib.hid (show UpS a m zs ∧ UpS m b zs by
                have h1 := HM.out.pre
                rw [← e1] at h1
                exact ⟨h1.1.sub (Nat.le_refl _) (by omega), h1.2.sub (by omega) (by omega)⟩)
              clear e1
              go_wp2_with fail
              refine (sym_any (b - a) g n c a m b 0 zs _ (H.row 0 rfl) hn (Nat.le_refl _) (by omega) (by omega) hbn HPR.out.1 HPR.out.2 (fun x hx => HZ.out x (HP.out.mem_iff.1 hx)) (HK.out.hp H HG.out) hg).mono ?_
              rintro e w2 ⟨us2, rfl, hm, hu, K⟩
              replace H := H.turnRow 0 rfl K.gr (K.row 0 rfl) (.inl rfl)
              have HM2 := Lib.hid (show MidB s n (t + 1) us2 ∧ us2.Perm xs by
                have e1 : a = t * (2 * s) := hat
                have e2 : b = t * (2 * s) + 2 * s := by omega
                rw [e1, e2] at hm hu
                exact ⟨HM.out.step hm hu, hm.perm.trans HP.out⟩)
              clear hm hu K HM HP HPR
              obtain ⟨b', hb3, hb4⟩ : ∃ x : Nat, x ≤ b + d ∧ b + d ≤ x := ⟨b + d, by omega, by omega⟩
              have hwb' : (b : Int) + (d : Int) = (b' : Int) := by omega
              have hwb : IntKind.i64.wrap ((b : Int) + (d : Int)) = (b' : Int) := by rw [hwb']; exact IntWalk.i64_in _ (by omega)
              go_wp2_with fail
              go_roundw
              case rel =>
                exact ⟨t + 1, b, b', us2, rfl, rfl, by
                  have e1 : a = t * (2 * s) := hat
                  show b = (t + 1) * (2 * s)
                  rw [Nat.add_mul, Nat.one_mul]; omega, hb3, hb4, hbn, HM2.out.2, HM2.out.1, H⟩
              case measure => simp [intOf]; omega
            · have hbn1 : ¬ ((b : Int) ≤ (n : Int)) := by omega
              by_cases hmn : m < n
              · have hmn1 : (m : Int) < (n : Int) := by omega
                have e1 : a = t * (2 * s) := hat
                have HPR := Lib.hid (show UpS a m zs ∧ UpS m n zs by
                  have h1 := HM.out.pre
                  rw [← e1] at h1
                  exact ⟨h1.1.sub (Nat.le_refl _) (by omega), h1.2.sub (by omega) (by omega)⟩)
                clear e1
                go_wp2_with fail
                refine (sym_any (n - a) g n c a m n 0 zs _ (H.row 0 rfl) hn (Nat.le_refl _) (by omega) hmn (Nat.le_refl _) HPR.out.1 HPR.out.2 (fun x hx => HZ.out x (HP.out.mem_iff.1 hx)) (HK.out.hp H HG.out) hg).mono ?_
                rintro e w2 ⟨us2, rfl, hm, hu, K⟩
                replace H := H.turnRow 0 rfl K.gr (K.row 0 rfl) (.inl rfl)
                have HM2 := Lib.hid (show AllB d n us2 ∧ us2.Perm xs by
                  have e1 : a = t * (2 * s) := hat
                  rw [e1] at hm hu
                  have h1 := HM.out.last (by omega) (by omega) hm hu
                  rw [show d = 2 * s by omega]
                  exact ⟨h1, hm.perm.trans HP.out⟩)
                clear hm hu K HM HP HPR
                go_wp2_with fail
                go_roundw
                case rel => exact ⟨d, us2, rfl, by omega, by omega, HM2.out.2, HM2.out.1, H⟩
                case measure => simp [intOf]; omega
              · have hmn1 : ¬ ((m : Int) < (n : Int)) := by omega
                have HM2 := Lib.hid (show AllB d n zs ∧ zs.Perm xs by
                  have e1 : a = t * (2 * s) := hat
                  have h0 := HM.out.pre.1
                  have h1 := HM.out.last (l' := zs) (by omega) (by omega) (.refl _ _ _) (h0.sub (Nat.le_refl _) (by omega))
                  rw [show d = 2 * s by omega]
                  exact ⟨h1, HP.out⟩)
                clear HM HP
                go_wp2_with fail
                go_roundw
                case rel => exact ⟨d, zs, rfl, by omega, by omega, HM2.out.2, HM2.out.1, H⟩
                case measure => simp [intOf]; omega
        · have hsn1 : ¬ ((s : Int) < (n : Int)) := by omega
          have HU := Lib.hid (HA.out.done (by omega))
          go_wp2_with fail
          go_end0
          first | exact ⟨zs, rfl, HP.out, HU.out, H⟩ | exact ⟨rfl, zs, HP.out, HU.out, H⟩
end Go.Proofs.YtfmifaneggenoaaDoor
