/-
The first volume, and a fold of calls on it.
-/
import Derived.Test.YtllonpbhgbhogaaGreatDoorGj
import Derived.Test.YtllonpbhgbhogaaGreatDoorGh
import Derived.Test.YtllonpbhgbhogaaGreatDoorGg
namespace Go.Proofs.YtllonpbhgbhogaaGreatDoor
open Go.RowKit
set_option linter.unusedVariables false
set_option linter.unusedSimpArgs false
def rootL : List (Value × Nod) := [(.slice none 0 0, 1, 2, 1, ⟨#[]⟩, [])]
theorem root_fold {W : List Nat} {w0 w : World} {l : List Ob} {v : Value} (h : Hp W w0 w (.row 76 5 v 1 (rootL.flatMap cNV) :: l)) : Hp W w0 w (obN v 1 rootL :: l) :=
 Hp.join2 (r := rowN v 1 rootL) (rs := rootL.map rowE) (Hp.swap (Hp.push (r := rowE (.slice none 0 0, 1, 2, 1, ⟨#[]⟩, [])) (h.many0.nil_ 109 4) 0 rfl))
set_option maxRecDepth 100000 in
theorem specNewVol_any (w : World) :
 Calls Tryz.prog 24 #[] w fun e w' => ∃ g : Nat, e = .returned (.agg #[.int .i64 2, .slice (some ⟨g, 0, none⟩) 1 1]) ∧ Hp [] w w' [obN (.slice (some ⟨g, 0, none⟩) 1 1) 1 rootL] := by
 have e : (w.alloc (.cells #[.int .i64 2, .slice (some ⟨w.heap.size + 1, 0, none⟩) 1 1] 31)).heap.size = w.heap.size + 1 := by simp
 have H := (((Hp.start w).lay_ 31 [.int .i64 2, .slice (some ⟨w.heap.size + 1, 0, none⟩) 1 1] rfl).lit 76 5 1 [.int .i64 1, .int .i64 2, .int .i64 1, .string ⟨#[]⟩, .slice none 0 0] rfl (by simp [maxLen]));rw [e] at H;have c0 := H.fa 1 0 rfl rfl;have c1 := H.fa 1 1 rfl rfl;have H9 := Lib.hid (root_fold H.drop1);clear H e;go_enter Tryz.func24, Tryz.ntmps24;go_wp2_with fail;exact bodyPost_ret (v := .agg #[.int .i64 2, .slice (some ⟨w.heap.size + 1, 0, none⟩) 1 1]) (by simp [results, Tryz.results24, go_sem, c0, c1]) rfl ⟨_, rfl, H9.out⟩
theorem root_V : VOk 2 (nodes rootL) where
 lo := by omega
 hi := by omega
 len := by decide
 srt := List.pairwise_singleton _ _
 rng := fun x hx => by obtain rfl := List.mem_singleton.1 hx; decide
 root := ⟨_, rfl, rfl, rfl⟩
 typ := fun x hx => by obtain rfl := List.mem_singleton.1 hx; exact .inr ⟨rfl, rfl, ⟨by decide, nofun, .nil, .nil⟩⟩
 ent := fun x hx => by obtain rfl := List.mem_singleton.1 hx; exact nofun
 one := fun x hx _ => by obtain rfl := List.mem_singleton.1 hx; rfl
 lnk := fun x hx => by obtain rfl := List.mem_singleton.1 hx; exact .inl rfl
 rch := fun x hx => by obtain rfl := List.mem_singleton.1 hx; exact .inl rfl
theorem volAll_V {next : Int} {l : List Nod} {c : CallT} (h : VOk next l) : volAll next l c = volDoP next l c := if_pos (V_volB h)
abbrev FoldT := (Int × List Nod) × Bool
def NewF (w : World) (out : FoldT) (e : Ending) (w' : World) : Prop := ∃ A n c L, e = .returned (.tuple #[.agg #[.int .i64 out.1.1, .slice A n c], .bool out.2]) ∧ nodes L = out.1.2 ∧ Hp [] w w' [obN (.slice A n c) n L]
theorem NewF.zero {w w' : World} {out : FoldT} {l : List Ob} (h : out = ((0, []), false)) (H : Hp [] w w' l) : NewF w out (.returned (.tuple #[.agg #[.int .i64 0, .slice none 0 0], .bool false])) w' := by
 subst h;exact ⟨none, 0, 0, [], rfl, rfl, Hp.join2 (r := rowN (.slice none 0 0) 0 []) (((H.sub (List.nil_sublist _)).many0).nil_ TINO 5)⟩
end Go.Proofs.YtllonpbhgbhogaaGreatDoor
