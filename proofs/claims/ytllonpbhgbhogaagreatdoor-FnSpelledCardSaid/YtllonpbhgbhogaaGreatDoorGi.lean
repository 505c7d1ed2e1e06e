/-
  Many texts in one: DropI, AddI, VolMem, VolOpsI, VolHold, CreateI, LinkI, VolPl.
-/
import Derived.Test.YtllonpbhgbhogaaGreatDoorGg
import Derived.Test.YtllonpbhgbhogaaGreatDoorDirOkI
import Derived.Test.YtllonpbhgbhogaaGreatDoorGh
import Derived.Test.YtllonpbhgbhogaaGreatDoorGe
import Derived.Test.YtllonpbhgbhogaaGreatDoorGf
import Derived.Test.YtllonpbhgbhogaaGreatDoorGb
set_option linter.unusedVariables false
set_option linter.unusedSimpArgs false
namespace Go.Proofs.YtllonpbhgbhogaaGreatDoor
open Go.RowKit
def GaveD (w : World) (p : List EntT × Bool) (e : Ending) (w' : World) : Prop := ∃ v', e = .returned (.tuple #[v', .bool p.2]) ∧ Hp [] w w' [.row 109 4 v' p.1.length (p.1.flatMap cEnt)]
set_option maxRecDepth 100000 in
set_option maxHeartbeats 2000000 in
theorem implDrop_any (A : Option Addr) (n c : Nat) (d : List EntT) (s : ByteArray) (w : World) (h : Rd w A n 4 (d.flatMap cEnt)) (hn : n ≤ 1048576) (hc : A = none → c = 0) (hd : DirR d) (hz : ∀ e ∈ d, e.2.2.1.size ≤ 16777216) (hs : s.size ≤ 16777216) (hk : KT w) :
 Calls Tryz.prog 121 #[.slice A n c, .string s] w (GaveD w (dropD d s)) := by
 cases hat : dirAt d (toB s) with
 | none =>
   have HE := Lib.hid (dirZ_none hat);have HD := Lib.hid (show dropD d s = (d, false) by rw [dropD, hat]);rw [HD.out];clear hat;have HR := Lib.hid h;have HLD := Lib.hid (show d.length = n from h.lenk cEnt_len (by omega));have HOK := Lib.hid (R_dirB hd);have HDD := Lib.hid hd;have HZ := Lib.hid hz;clear h hd hz;go_enter Tryz.func121, Tryz.ntmps121;go_wp2_with fail;refine (implDirOk_any A n c d _ HR.out hn HZ.out hk).mono ?_;rintro e w1 ⟨rfl, f1⟩;rw [HOK.out];go_wp2_with fail;refine (copyEnts_any A n c d _ (HR.out.fr f1) hn hc).mono ?_;rintro e w2 ⟨v', rfl, K⟩;have H := ((Hp.start w).go f1).join K;clear f1 K;replace H : Hp [] w w2 [.row 109 4 v' n (d.flatMap cEnt)] := H;obtain ⟨A', c', rfl⟩ := H.shape 0 rfl;go_wp2_with fail;refine (implEntAt_any A n c d s _ (HR.out.fr H.fr) hn HDD.out HZ.out hs (hk.fr H.fr)).mono ?_;rintro e w3 ⟨rfl, f3⟩;replace H := H.go f3;clear f3;rw [HE.out];have H9 := Lib.hid (show GaveD w (d, false) (.returned (.tuple #[.slice A' n c', .bool false])) w3 from ⟨_, rfl, H.recast (by rw [HLD.out])⟩);clear H;go_wp2_with fail;go_ret2;exact H9.out
 | some k =>
   have HE := Lib.hid (dirZ_some hat);have HD := Lib.hid (show dropD d s = (d.eraseIdx k, true) by rw [dropD, hat]);have hkd := (List.getElem?_eq_some_iff.1 (dirAt_some hat).choose_spec.1).1;rw [HD.out];clear hat;have HR := Lib.hid h;have HLD := Lib.hid (show d.length = n from h.lenk cEnt_len (by omega));have HOK := Lib.hid (R_dirB hd);have HDD := Lib.hid hd;have HZ := Lib.hid hz;clear h hd hz;go_enter Tryz.func121, Tryz.ntmps121;go_wp2_with fail;refine (implDirOk_any A n c d _ HR.out hn HZ.out hk).mono ?_;rintro e w1 ⟨rfl, f1⟩;rw [HOK.out];go_wp2_with fail;refine (copyEnts_any A n c d _ (HR.out.fr f1) hn hc).mono ?_;rintro e w2 ⟨v', rfl, K⟩;have H := ((Hp.start w).go f1).join K;clear f1 K;replace H : Hp [] w w2 [.row 109 4 v' n (d.flatMap cEnt)] := H;obtain ⟨A', c', rfl⟩ := H.shape 0 rfl;go_wp2_with fail;refine (implEntAt_any A n c d s _ (HR.out.fr H.fr) hn HDD.out HZ.out hs (hk.fr H.fr)).mono ?_;rintro e w3 ⟨rfl, f3⟩;replace H := H.go f3;clear f3;rw [HE.out];have hkn : k < n := by rw [← HLD.out]; exact hkd
   have hk0 : ¬ (k : Int) < 0 := by omega
   clear hkd;obtain ⟨g, c2, e2, _⟩ := H.form 0 rfl (by omega);injection e2 with e2a e2b e2c;subst e2a e2c;clear e2b;go_wp2_with fail;refine (delE_any g n c' k d _ (H.row 0 rfl) hkn).mono ?_;rintro e w4 ⟨rfl, K⟩;have H4 := H.turnRow 0 rfl K.gr (K.row 0 rfl) (.inl rfl);have H9 := Lib.hid (show GaveD w (d.eraseIdx k, true) (.returned (.tuple #[.slice (some ⟨g, 0, none⟩) (n - 1) c', .bool true])) w4 from ⟨_, rfl, H4.recast (by rw [List.length_eraseIdx_of_lt (by rw [HLD.out]; exact hkn), HLD.out]; rfl)⟩);clear H H4 K;go_wp2_with fail;go_ret2;exact H9.out
set_option maxRecDepth 100000 in
set_option maxHeartbeats 2000000 in
theorem implRespell_any (A : Option Addr) (n c k : Nat) (d : List EntT) (x : EntT) (s : ByteArray) (id : Int) (w : World) (h : Rd w A n 4 (d.flatMap cEnt)) (hn : n ≤ 1048576) (hc : A = none → c = 0) (hd : DirR d) (hz : ∀ e ∈ d, e.2.2.1.size ≤ 16777216) (hs : s.size ≤ 16777216) (hat : dirAt d (toB s) = some k) (hx : d[k]? = some x) (hid : inB id 1 100000 = true) (hk : KT w) :
 Calls Tryz.prog 124 #[.slice A n c, .string s, .int .i64 id] w (GaveD w (respD d s id)) := by
 have HE := Lib.hid (dirZ_some hat);have HD := Lib.hid (respD_eq hat hx hid);have hkd := (List.getElem?_eq_some_iff.1 hx).1;rw [HD.out];have HX := Lib.hid hx;have HID := Lib.hid hid;clear hat hx hid;have HR := Lib.hid h;have HLD := Lib.hid (show d.length = n from h.lenk cEnt_len (by omega));have HOK := Lib.hid (R_dirB hd);have HDD := Lib.hid hd;have HZ := Lib.hid hz;clear h hd hz;go_enter Tryz.func124, Tryz.ntmps124;go_wp2_with fail;refine (implDirOk_any A n c d _ HR.out hn HZ.out hk).mono ?_;rintro e w1 ⟨rfl, f1⟩;rw [HOK.out];go_wp2_with fail;refine (copyEnts_any A n c d _ (HR.out.fr f1) hn hc).mono ?_;rintro e w2 ⟨v', rfl, K⟩;have H := ((Hp.start w).go f1).join K;clear f1 K;replace H : Hp [] w w2 [.row 109 4 v' n (d.flatMap cEnt)] := H;obtain ⟨A', c', rfl⟩ := H.shape 0 rfl;go_wp2_with fail;refine (implEntAt_any A n c d s _ (HR.out.fr H.fr) hn HDD.out HZ.out hs (hk.fr H.fr)).mono ?_;rintro e w3 ⟨rfl, f3⟩;replace H := H.go f3;clear f3;rw [HE.out];have hkn : k < n := by rw [← HLD.out]; exact hkd
 have hk0 : ¬ (k : Int) < 0 := by omega
 clear hkd;go_wp2_with fail;refine (isId_any id _).mono ?_;rintro e w4 ⟨rfl, f4⟩;rw [HID.out];replace H := H.go f4;clear f4;obtain ⟨g, c2, e2, _⟩ := H.form 0 rfl (by omega);injection e2 with e2a e2b e2c;subst e2a e2c;clear e2b;have e2 := H.free 0 rfl (k * 4 + 2);have e3 := H.free 0 rfl (k * 4 + 3);have s2 := H.atL 0 rfl cEnt_len HX.out (r := 2) rfl;have s3 := H.atL 0 rfl cEnt_len HX.out (r := 3) rfl;have H2 := H.putL 0 rfl cEnt_len k 2 (x.1, x.2.1, s, x.2.2.2) (.string s) HX.out (by omega) rfl;have H3 := H2.putL 0 rfl cEnt_len k 3 (x.1, x.2.1, s, id) (.int .i64 id) (List.getElem?_set_self (by rw [HLD.out]; exact hkn)) (by omega) rfl;have H9 := Lib.hid (show GaveD w (d.set k (x.1, x.2.1, s, id), true) (.returned (.tuple #[.slice (some ⟨g, 0, none⟩) n c', .bool true])) _ from ⟨_, rfl, H3.recast (by simp only [List.set_set, List.length_set, HLD.out]; rfl)⟩);clear H H2 H3;go_wp2_with fail;go_ret2;exact H9.out
theorem results_cell_tmp_row' {P : Program} {fn : Func} {p u : Tmp} {ty : TypeId} (h : fn.results = #[.cell p ty, .tmp u]) (tmps : Array Value) (w : World) (g : Nat) (t : TypeId) (cs : Array Value) (fr : Nat × Nat) (d : TypeDesc)
 (hp : tmps.getD p undef = .pointer (some ⟨g, 0, none⟩)) (hg : w.heap[g]? = some (.cells cs t fr))
 (hu : P.underlying ty = some d) (hd : (match d with | .struct _ | .array _ _ => true | _ => false) = true) (hi : (P.info? ty).map (·.size) = some cs.size) :
 (results fn tmps).run P w = .ok (.tuple #[.agg cs, tmps.getD u undef]) w := by
 rw [results_cell_tmp h, hp];simp [asAddr, run_loadVar_row w g t ty cs fr d hg hu hd hi, Result.andThen]
set_option maxRecDepth 100000 in
set_option maxHeartbeats 2000000 in
theorem implLook_any (A : Option Addr) (n c : Nat) (d : List EntT) (x0 x1 : Int) (x2 : ByteArray) (x3 : Int) (s : ByteArray) (w : World) (h : Rd w A n 4 (d.flatMap cEnt)) (hn : n ≤ 1048576) (hd : DirR d) (hz : ∀ e ∈ d, e.2.2.1.size ≤ 16777216) (hs : s.size ≤ 16777216) (hl : lookD d s = some (x0, x1, x2, x3)) (hk : KT w) :
 Calls Tryz.prog 82 #[.slice A n c, .string s] w fun e w' => e = .returned (.tuple #[.agg #[.int .i64 x0, .int .i64 x1, .string x2, .int .i64 x3], .bool true]) ∧ Fr w w' := by
 obtain ⟨k, hat, hx⟩ := look_at hl;have HE := Lib.hid (dirZ_some hat);have HX := Lib.hid hx;have HLD := Lib.hid (show d.length = n from h.lenk cEnt_len (by omega));have hkn : k < n := by rw [← HLD.out]; exact (List.getElem?_eq_some_iff.1 hx).1
 have hk0 : ¬ (k : Int) < 0 := by omega
 have HR := Lib.hid h;have HOK := Lib.hid (R_dirB hd);have HDD := Lib.hid hd;have HZ := Lib.hid hz;have H := (Hp.start w).lay_ 109 [.int .i64 0, .int .i64 0, .string ⟨#[]⟩, .int .i64 0] rfl;obtain ⟨g0, hg0⟩ : ∃ x, x = w.heap.size := ⟨_, rfl⟩;rw [← hg0] at H;have HG0 := Lib.hid hg0;clear h hd hz hl hat hx hg0;go_enter Tryz.func82, Tryz.ntmps82;go_wp2_with fail;rw [← HG0.out];refine (implEntAt_any A n c d s _ (HR.out.fr H.fr) hn HDD.out HZ.out hs (hk.fr H.fr)).mono ?_;rintro e w1 ⟨rfl, f1⟩;replace H := H.go f1;clear f1;rw [HE.out];go_wp2_with fail;refine (implDirOk_any A n c d _ (HR.out.fr H.fr) hn HZ.out (hk.fr H.fr)).mono ?_;rintro e w2 ⟨rfl, f2⟩;replace H := H.go f2;clear f2;rw [HOK.out];obtain ⟨bk, of, rfl, hcell⟩ := (HR.out.fr H.fr).elem cEnt_len HX.out (by omega);have ca0 := hcell 0 _ rfl; simp only [Nat.add_zero] at ca0;have ca1 := hcell 1 _ rfl;have ca2 := hcell 2 _ rfl;have ca3 := hcell 3 _ rfl;have e0 := H.bfree 0 rfl 0;have e1 := H.bfree 0 rfl 1;have e2 := H.bfree 0 rfl 2;have e3 := H.bfree 0 rfl 3;have s0 := H.fa 0 0 rfl rfl;have s1 := H.fa 0 1 rfl rfl;have s2 := H.fa 0 2 rfl rfl;have s3 := H.fa 0 3 rfl rfl;have H3 := (((H.bput 0 rfl 0 (.int .i64 x0)).bput 0 rfl 1 (.int .i64 x1)).bput 0 rfl 2 (.string x2)).bput 0 rfl 3 (.int .i64 x3);have H9 := Lib.hid H3;clear H H3 hcell;go_wp2_with fail
 ((try simp only [Exit.inBlock, Exit.then]); refine bodyPost_ret (results_cell_tmp_row' rfl _ _ g0 109 #[.int .i64 x0, .int .i64 x1, .string x2, .int .i64 x3] (0, 0) _ rfl (H9.out.blk 0 rfl) Tryz.underlying109 rfl (by kernel_rfl)) rfl ?_)
 exact ⟨rfl, H9.out.fr⟩
end Go.Proofs.YtllonpbhgbhogaaGreatDoor
namespace Go.Proofs.YtllonpbhgbhogaaGreatDoor
open Go.RowKit
theorem takeWhile_at {α : Type} (p : α → Bool) : ∀ (l : List α) (k : Nat), (∀ x ∈ l.take k, p x = true) → (k = l.length ∨ ∃ x, l[k]? = some x ∧ p x = false) → l.takeWhile p = l.take k ∧ l.dropWhile p = l.drop k
 | [], k, _, _ => by simp
 | a :: l, 0, _, h => by
   rcases h with h | ⟨x, hx, hp⟩
   ·simp at h
   ·simp only [List.getElem?_cons_zero, Option.some.injEq] at hx
    subst hx;simp [hp]
 | a :: l, k + 1, hall, h => by
   have ha : p a = true := hall a (by simp);obtain ⟨i1, i2⟩ := takeWhile_at p l k (fun x hx => hall x (by simp [hx])) (by
    rcases h with h | ⟨x, hx, hp⟩
    ·left; simpa using h
    ·right; exact ⟨x, by simpa using hx, hp⟩)
   rw [List.takeWhile_cons, if_pos ha, List.dropWhile_cons, if_pos ha, List.take_succ_cons, List.drop_succ_cons, i1, i2];exact ⟨rfl, rfl⟩
theorem insertIdx_split {α : Type} (e : α) : ∀ (l : List α) (k : Nat), k ≤ l.length → l.insertIdx k e = l.take k ++ e :: l.drop k
 | l, 0, _ => by simp
 | [], k + 1, h => by simp at h
 | a :: l, k + 1, h => by
   rw [List.insertIdx_succ_cons, insertIdx_split e l k (by simpa using h), List.take_succ_cons, List.drop_succ_cons]; rfl
theorem insD_at {d : List EntT} {e : EntT} {k : Nat} (h1 : ∀ x ∈ d.take k, lesB x e.1 e.2.1 = true) (h2 : k = d.length ∨ ∃ x, d[k]? = some x ∧ lesB x e.1 e.2.1 = false) (hk : k ≤ d.length) : insD d e = d.insertIdx k e := by
 obtain ⟨i1, i2⟩ := takeWhile_at (fun x => lesB x e.1 e.2.1) d k h1 h2;rw [insD, i1, i2, insertIdx_split e d k hk]
def atPlace (h i : Int) (x : EntT) : Bool := (x.1 == h) && (x.2.1 == i)
set_option maxRecDepth 100000 in
set_option maxHeartbeats 1000000 in
theorem addC_any (y0 y1 : Int) (y2 : ByteArray) (y3 h i : Int) (g : Nat) (w : World) (h0 : w.cell? ⟨g, 0, none⟩ = some (.int .i64 h)) (h1 : w.cell? ⟨g, 1, none⟩ = some (.int .i64 i)) :
 Calls Tryz.prog 162 #[.agg #[.int .i64 y0, .int .i64 y1, .string y2, .int .i64 y3], .pointer (some ⟨g, 0, none⟩)] w fun r w' => r = .returned (.bool (atPlace h i (y0, y1, y2, y3))) ∧ Fr w w' := by
 have H := (Hp.start w).lay_ 109 [.int .i64 y0, .int .i64 y1, .string y2, .int .i64 y3] rfl;have F := Lib.hid H.fr;have k0 := fr_cellM F.out h0;have k1 := fr_cellM F.out h1;have z0 := H.fa 0 0 rfl rfl;have z1 := H.fa 0 1 rfl rfl;clear H h0 h1;obtain ⟨b, hb⟩ : ∃ b, (y0 == h) = b := ⟨_, rfl⟩;have hE : atPlace h i (y0, y1, y2, y3) = (b && (y1 == i)) := by rw [← hb]; rfl
 rw [hE];clear hE
 cases b
 all_goals
  go_enter Tryz.func162, Tryz.ntmps162;go_wp2_with fail;go_ret;exact ⟨ret_bool (by simp), F.out⟩
theorem taken_le {d : List EntT} {h : Int} (hs : d.Pairwise placeLt) {m : Nat} (ht : ∀ j : Nat, j < m → ∃ x ∈ d, x.1 = h ∧ x.2.1 = (j : Int)) : m ≤ idxN d h := by
 rcases Nat.lt_or_ge (idxN d h) m with h1 | h1
 ·obtain ⟨x, hx, h2⟩ := ht _ h1
  exact absurd h2 ((idxN_ok h d.length d rfl hs).1 x hx)
 ·exact h1
def cellNat (w : World) (g : Nat) : Nat := match w.cell? ⟨g, 1, none⟩ with
 | some (.int _ x) => x.toNat
 | _ => 0
theorem cellNat_eq {w : World} {g : Nat} {i : Nat} (h : w.cell? ⟨g, 1, none⟩ = some (.int .i64 (i : Int))) : cellNat w g = i := by rw [cellNat, h]; simp
theorem Hp.turn1 {W : List Nat} {w0 w w' : World} {l : List Ob} {E E' : TypeId} {k k' n n' : Nat} {v v' : Value} {xs xs' : List Value} (h : Hp W w0 w l) (i : Nat) (hi : l[i]? = some (.row E k v n xs)) (K : Hp v.ownBlock.toList w w' [.row E' k' v' n' xs']) : Hp W w0 w' (l.set i (.row E' k' v' n' xs')) :=
 h.turnRow i hi K.gr (K.row 0 rfl) (by
  cases hb : v'.ownBlock with
  | none => exact .inr fun b hb2 => by cases hb2
  | some b =>
    rcases K.own _ List.mem_cons_self b hb with h1 | h1
    ·exact .inr fun b2 hb2 => by injection hb2 with hb2; omega
    ·left
     cases hv : v.ownBlock with
     | none => rw [hv] at h1; simp at h1
     | some b3 => rw [hv] at h1; simp at h1; rw [h1])
set_option maxRecDepth 100000 in
set_option maxHeartbeats 8000000 in
theorem implAdd_any (A : Option Addr) (n c : Nat) (d : List EntT) (s : ByteArray) (id : Int) (w : World) (h : Rd w A n 4 (d.flatMap cEnt)) (hn : n ≤ 1048576) (hc : A = none → c = 0) (hd : DirR d) (hz : ∀ e ∈ d, e.2.2.1.size ≤ 16777216) (hs : s.size ≤ 16777216)
 (h1 : nameB (toB s) = true) (h2 : dirAt d (toB s) = none) (h3 : inB id 1 100000 = true) (h4 : d.length < 12) (hk : KT w) :
 Calls Tryz.prog 149 #[.slice A n c, .string s, .int .i64 id] w (GaveD w (addD d s id)) := by
 have HR := Lib.hid h;have HLD := Lib.hid (show d.length = n from h.lenk cEnt_len (by omega));have hn12 : n < 12 := by rw [← HLD.out]; exact h4
 have hneb : ((n : Int) == 12) = false := by simp; omega
 have HOK := Lib.hid (R_dirB hd);have HDD := Lib.hid hd;have HZ := Lib.hid hz;have HNM := Lib.hid h1;have HE := Lib.hid (dirZ_none h2);have HID := Lib.hid h3;obtain ⟨hh, ehh⟩ : ∃ x, x = hashN (toB s) := ⟨_, rfl⟩;have HD := Lib.hid (show addD d s id = (insD d (hh, (idxN d hh : Int), s, id), true) by rw [addD, if_pos (by simp [h1, h2, h3, h4]), ehh]);have HH := Lib.hid ehh;rw [HD.out];clear h hd hz h1 h2 h3 h4 ehh;go_enter Tryz.func149, Tryz.ntmps149;go_wp2_with fail;refine (implDirOk_any A n c d _ HR.out hn HZ.out hk).mono ?_;rintro e w1 ⟨rfl, f1⟩;rw [HOK.out];go_wp2_with fail;refine (copyEnts_any A n c d _ (HR.out.fr f1) hn hc).mono ?_;rintro e w2 ⟨v', rfl, K⟩;have H := ((Hp.start w).go f1).join K;clear f1 K;replace H : Hp [] w w2 [.row 109 4 v' n (d.flatMap cEnt)] := H;obtain ⟨A', c', rfl⟩ := H.shape 0 rfl;go_wp2_with fail;refine (implNameOk_any s _ hs (hk.fr H.fr)).mono ?_;rintro e w3 ⟨rfl, f3⟩;replace H := H.go f3;clear f3;rw [HNM.out];go_wp2_with fail;refine (implEntAt_any A n c d s _ (HR.out.fr H.fr) hn HDD.out HZ.out hs (hk.fr H.fr)).mono ?_;rintro e w4 ⟨rfl, f4⟩;replace H := H.go f4;clear f4;rw [HE.out];go_wp2_with fail;refine (isId_any id _).mono ?_;rintro e w5 ⟨rfl, f5⟩;replace H := H.go f5;clear f5;rw [HID.out];go_wp2_with fail;refine (implHashOf_any s _ hs (hk.fr H.fr)).mono ?_;rintro e w6 ⟨rfl, f6⟩;replace H := H.go f6;clear f6;rw [← HH.out];obtain ⟨gb, hgb⟩ : ∃ x, x = w6.heap.size := ⟨_, rfl⟩;replace H := H.lay_ (g := gb) 109 [.int .i64 hh, .int .i64 0, .string s, .int .i64 id] hgb;have HGB := Lib.hid hgb;clear hgb;go_wp2_with fail;rw [← HGB.out]
 go_loopw [] (fun wr => ∃ i : Nat, (∀ j : Nat, j < i → ∃ x ∈ d, x.1 = hh ∧ x.2.1 = (j : Int)) ∧ Hp [] w wr [.blk gb 109 [.int .i64 hh, .int .i64 (i : Int), .string s, .int .i64 id], .row 109 4 (.slice A' n c') n (d.flatMap cEnt)]) (fun wr => n + 1 - cellNat wr gb)
 case atStart => exact ⟨0, by simp, H⟩
 case round =>
  clear H;obtain ⟨i, htk, H⟩ := hrel;have HTK := Lib.hid htk;have hile : i ≤ n := by have h5 := taken_le HDD.out.sorted htk; have h6 := idxN_le d hh; have h7 := HLD.out; omega
  clear htk;have k0 := H.fa 0 0 rfl rfl;have k1 := H.fa 0 1 rfl rfl;have hm1 := Lib.hid (cellNat_eq k1);have HC := Lib.hid (hasE_add (.pointer (some ⟨gb, 0, none⟩)) (atPlace hh i) A n c d wr (HR.out.fr H.fr) hn fun e he w' f => addC_any e.1 e.2.1 e.2.2.1 e.2.2.2 hh i gb w' (fr_cellM f k0) (fr_cellM f k1));obtain ⟨b, hb⟩ : ∃ b, d.any (atPlace hh i) = b := ⟨_, rfl⟩;have HB := Lib.hid hb;clear hb k0 k1;go_wp2_with fail;refine HC.out.mono ?_;rintro e w7 ⟨rfl, f7⟩;replace H := H.go f7;clear f7 HC;rw [HB.out]
  cases b with
  | true =>
    have HTK2 := Lib.hid (show ∀ j : Nat, j < i + 1 → ∃ x ∈ d, x.1 = hh ∧ x.2.1 = (j : Int) from fun j hj => by
     rcases Nat.lt_or_eq_of_le (Nat.le_of_lt_succ hj) with h5 | h5
     ·exact HTK.out j h5
     ·subst h5
      obtain ⟨x, hx, hp⟩ := List.any_eq_true.1 HB.out;simp only [atPlace, Bool.and_eq_true, beq_iff_eq] at hp;exact ⟨x, hx, hp⟩)
    have hile2 : i + 1 ≤ n := by have h5 := taken_le HDD.out.sorted HTK2.out; have h6 := idxN_le d hh; have h7 := HLD.out; omega
    have e1 := H.bfree 0 rfl 1;have s1 := H.fa 0 1 rfl rfl;have H2 := H.bput 0 rfl 1 (.int .i64 ((i : Int) + 1));have hm2 := Lib.hid (cellNat_eq (i := i + 1) (H2.bat 0 rfl (j := 1) (by simp)));clear H;go_wp2_with fail;go_roundw
    case rel => exact ⟨i + 1, HTK2.out, H2⟩
    case measure => rw [hm1.out, hm2.out]; omega
  | false =>
    have HI := Lib.hid (show i = idxN d hh from idxN_least HDD.out.sorted (fun x hx hp => by
     have h5 := List.any_eq_false.1 HB.out x hx;simp [atPlace, hp.1, hp.2] at h5) HTK.out)
    clear hm1 HTK;go_wp2_with fail
    go_loopw [10] (fun iv wr => ∃ k : Nat, iv = .int .i64 k ∧ k ≤ n ∧ (∀ x ∈ d.take k, lesB x hh (i : Int) = true) ∧ Hp [] w wr [.blk gb 109 [.int .i64 hh, .int .i64 (i : Int), .string s, .int .i64 id], .row 109 4 (.slice A' n c') n (d.flatMap cEnt)]) (fun iv _ => n - (intOf iv).toNat)
    case atStart => exact ⟨0, rfl, by omega, by simp, H⟩
    case round =>
     clear H;obtain ⟨k, rfl, hk5, hall, H⟩ := hrel;have HA := Lib.hid hall;clear hall;replace H := H.drew;have y0 := H.fa 0 0 rfl rfl;have y1 := H.fa 0 1 rfl rfl;have y2 := H.fa 0 2 rfl rfl;have y3 := H.fa 0 3 rfl rfl
     by_cases hlt : k < n
     ·have hlt1 : (k : Int) < (n : Int) := by omega
      obtain ⟨⟨x0, x1, x2, x3⟩, hx⟩ := some_at HLD.out hlt;obtain ⟨g, c2, e2, _⟩ := H.form 1 rfl (by omega);injection e2 with e2a e2b e2c;subst e2a e2c;clear e2b;have z0 := H.atL 1 rfl cEnt_len hx (r := 0) rfl;have z1 := H.atL 1 rfl cEnt_len hx (r := 1) rfl;simp only [Nat.add_zero] at z0;have HX := Lib.hid hx;clear hx;obtain ⟨b, hb⟩ : ∃ b, lesB (x0, x1, x2, x3) hh (i : Int) = b := ⟨_, rfl⟩;have HB2 := Lib.hid (show behB (hh, (i : Int), s, id) x0 x1 = b from (les_beh (x0, x1, x2, x3) (hh, (i : Int), s, id)).symm.trans hb);have HBL := Lib.hid hb;clear hb;go_wp2_with fail;refine wp_region_held_drew (S := fun w' => w'.cell? ⟨gb, 0, none⟩ = some (.int .i64 hh) ∧ w'.cell? ⟨gb, 1, none⟩ = some (.int .i64 (i : Int)) ∧ w'.cell? ⟨gb, 2, none⟩ = some (.string s) ∧ w'.cell? ⟨gb, 3, none⟩ = some (.int .i64 id) ∧ w'.cell? ⟨g, k * 4, none⟩ = some (.int .i64 x0) ∧ w'.cell? ⟨g, k * 4 + 1, none⟩ = some (.int .i64 x1)) (by kernel_rfl) ?_ (fun hHeld => ?_)
      ·exact ⟨y0, y1, y2, y3, z0, z1⟩
      refine wpT 0 ?_;refine wpT 1 ?_;refine wpT 2 ?_;refine wpT 3 ?_;refine wpT 4 ?_;refine wpT 5 ?_;refine wpT 6 ?_;refine wpT 7 ?_;refine wpT 8 ?_;refine wpT 9 ?_;refine wpT 10 ?_;refine wpT 11 ?_;refine wpT 12 ?_;refine wpT 13 ?_;refine wpT 14 ?_;refine wpT 15 ?_;refine wpC 16 fun K hK => ?_;go_simp;refine (implIsBehind_any hh (i : Int) s id x0 x1 _).mono ?_;rintro e w8 ⟨rfl, f8⟩;rw [HB2.out];replace H := H.go f8;clear f8;go_wp2_with fail;refine hK.out _ _ ?_ fun hHeld => ?_
      ·exact ⟨H.fa 0 0 rfl rfl, H.fa 0 1 rfl rfl, H.fa 0 2 rfl rfl, H.fa 0 3 rfl rfl, by have := H.atL 1 rfl cEnt_len HX.out (r := 0) rfl; simpa using this, H.atL 1 rfl cEnt_len HX.out (r := 1) rfl⟩
      clear hK K;(try simp only [sX, Act.put]);refine wpT 17 ?_;refine wpAnyH_done (by kernel_rfl) ?_ _;clear y0 y1 y2 y3 z0 z1
      cases b with
      | true =>
        have HE2 := Lib.hid (show ∀ x ∈ d.take (k + 1), lesB x hh (i : Int) = true from fun x hx => by
         rw [List.take_add_one, HX.out] at hx
         rcases List.mem_append.1 hx with h5 | h5
         ·exact HA.out x h5
         ·simp only [Option.toList_some, List.mem_singleton] at h5; rw [h5]; exact HBL.out)
        go_wp2_with fail;go_roundw
        case rel => exact ⟨k + 1, by go_num, by omega, HE2.out, H⟩
        case measure => simp [intOf]; omega
      | false =>
        have HK := Lib.hid (show insD d (hh, (idxN d hh : Int), s, id) = d.insertIdx k (hh, (i : Int), s, id) by
         rw [← HI.out];exact insD_at HA.out (.inr ⟨_, HX.out, HBL.out⟩) (by rw [HLD.out]; omega))
        have y0 := H.fa 0 0 rfl rfl;have y1 := H.fa 0 1 rfl rfl;have y2 := H.fa 0 2 rfl rfl;have y3 := H.fa 0 3 rfl rfl;have hne : ∀ g5 : Nat, ((some (⟨g, 0, none⟩ : Addr)) : Option Addr) = some (⟨g5, 0, none⟩ : Addr) → w8.heap.size ≠ g5 := fun g5 hg5 => by
         have h5 : g5 < w8.heap.size := H.lt 1 rfl (g := g5) (by show (Value.slice ((some (⟨g, 0, none⟩ : Addr))) n c').ownBlock = some g5; first | (rw [hg5]; rfl) | (injection hg5 with hg5; injection hg5 with hg5; rw [hg5]; rfl))
         omega
        have Hl := H.lit 109 4 1 [.int .i64 hh, .int .i64 (i : Int), .string s, .int .i64 id] rfl (by simp [maxLen]);have HL9 := Lib.hid Hl;clear Hl H;go_wp2_with fail;refine (insE_any (some (⟨g, 0, none⟩ : Addr)) n c' k _ d (hh, (i : Int), s, id) _ (HL9.out.row 2 rfl) (HL9.out.row 0 rfl) hne hk5 (by omega)).mono ?_;rintro r w9 ⟨v2, rfl, K⟩;have H5 := HL9.out.turn1 2 rfl K;have H9 := Lib.hid (show GaveD w (insD d (hh, (idxN d hh : Int), s, id), true) (.returned (.tuple #[v2, .bool true])) w9 from ⟨v2, rfl, (H5.sub (l' := [.row 109 4 v2 (n + 1) ((d.insertIdx k (hh, (i : Int), s, id)).flatMap cEnt)]) (by simp)).recast (by rw [HK.out, List.length_insertIdx, if_pos (by rw [HLD.out]; exact hk5), HLD.out])⟩);clear H5 K hne;go_wp2_with fail;go_ret2;exact H9.out
     ·have hkn : ¬ (k : Int) < (n : Int) := by omega
      have HK := Lib.hid (show insD d (hh, (idxN d hh : Int), s, id) = d.insertIdx k (hh, (i : Int), s, id) by
       rw [← HI.out];exact insD_at HA.out (.inl (by rw [HLD.out]; omega)) (by rw [HLD.out]; omega))
      go_wp2_with fail;refine wp_region_held_drew (S := fun w' => w'.cell? ⟨gb, 0, none⟩ = some (.int .i64 hh)) (by kernel_rfl) ?_ (fun hHeld => ?_)
      ·exact y0
      refine wpT 0 ?_;refine wpT 1 ?_;refine wpT 2 ?_;refine wpT 3 ?_;refine wpT 4 ?_;refine wpS 5 ?_;refine wpS 6 ?_;refine wpS 7 ?_;refine wpS 8 ?_;refine wpS 9 ?_;refine wpS 10 ?_;refine wpS 11 ?_;refine wpS 12 ?_;refine wpS 13 ?_;refine wpS 14 ?_;refine wpS 15 ?_;refine wpS 16 ?_;refine wpT 17 ?_;refine wpAnyH_done (by kernel_rfl) ?_ _;clear y0 y1 y2 y3;have y0 := H.fa 0 0 rfl rfl;have y1 := H.fa 0 1 rfl rfl;have y2 := H.fa 0 2 rfl rfl;have y3 := H.fa 0 3 rfl rfl;have hne : ∀ g5 : Nat, (A' : Option Addr) = some (⟨g5, 0, none⟩ : Addr) → wr.heap.size ≠ g5 := fun g5 hg5 => by
       have h5 : g5 < wr.heap.size := H.lt 1 rfl (g := g5) (by show (Value.slice (A') n c').ownBlock = some g5; first | (rw [hg5]; rfl) | (injection hg5 with hg5; injection hg5 with hg5; rw [hg5]; rfl))
       omega
      have Hl := H.lit 109 4 1 [.int .i64 hh, .int .i64 (i : Int), .string s, .int .i64 id] rfl (by simp [maxLen]);have HL9 := Lib.hid Hl;clear Hl H;go_wp2_with fail;refine (insE_any A' n c' k _ d (hh, (i : Int), s, id) _ (HL9.out.row 2 rfl) (HL9.out.row 0 rfl) hne hk5 (by omega)).mono ?_;rintro r w9 ⟨v2, rfl, K⟩;have H5 := HL9.out.turn1 2 rfl K;have H9 := Lib.hid (show GaveD w (insD d (hh, (idxN d hh : Int), s, id), true) (.returned (.tuple #[v2, .bool true])) w9 from ⟨v2, rfl, (H5.sub (l' := [.row 109 4 v2 (n + 1) ((d.insertIdx k (hh, (i : Int), s, id)).flatMap cEnt)]) (by simp)).recast (by rw [HK.out, List.length_insertIdx, if_pos (by rw [HLD.out]; exact hk5), HLD.out])⟩);clear H5 K hne;go_wp2_with fail;go_ret2;exact H9.out
end Go.Proofs.YtllonpbhgbhogaaGreatDoor
namespace Go.Proofs.YtllonpbhgbhogaaGreatDoor
open Go.RowKit
abbrev TVOL : TypeId := 31
abbrev TINO : TypeId := 76
def rowV (g : Nat) (next : Int) (A : Option Addr) (n c : Nat) : Row := ⟨31, 2, .slice (some ⟨g, 0, none⟩) 1 1, 1, [.int .i64 next, .slice A n c]⟩
def volRs (g : Nat) (next : Int) (A : Option Addr) (n c : Nat) (L : List (Value × Nod)) : List Row := rowV g next A n c :: rowN (.slice A n c) n L :: L.map rowE
def volOb (g : Nat) (next : Int) (A : Option Addr) (n c : Nat) (L : List (Value × Nod)) : Ob := .many (volRs g next A n c L)
section
variable {W : List Nat} {w0 w : World} {l : List Ob} {g : Nat} {next : Int} {A : Option Addr} {n c : Nat} {L : List (Value × Nod)}
theorem Hp.vopen (h : Hp W w0 w (volOb g next A n c L :: l)) : Hp W w0 w (.row 31 2 (.slice (some ⟨g, 0, none⟩) 1 1) 1 [.int .i64 next, .slice A n c] :: .row 76 5 (.slice A n c) n (L.flatMap cNV) :: .many (L.map rowE) :: l) := by
 have h1 := h.split2;have h2 := (h1.swap).split2;have h3 := h2.perm (l' := (rowV g next A n c).ob :: (rowN (.slice A n c) n L).ob :: .many (L.map rowE) :: l) (by
  refine (List.Perm.cons _ (List.Perm.swap _ _ _)).trans (List.Perm.swap _ _ _))
 exact h3
theorem Hp.vshut (h : Hp W w0 w (.row 31 2 (.slice (some ⟨g, 0, none⟩) 1 1) 1 [.int .i64 next, .slice A n c] :: .row 76 5 (.slice A n c) n (L.flatMap cNV) :: .many (L.map rowE) :: l)) : Hp W w0 w (volOb g next A n c L :: l) := by
 have h1 : Hp W w0 w ((rowV g next A n c).ob :: (rowN (.slice A n c) n L).ob :: .many (L.map rowE) :: l) := h;have h2 := h1.perm (l' := (rowN (.slice A n c) n L).ob :: .many (L.map rowE) :: (rowV g next A n c).ob :: l) (by
  refine (List.Perm.swap _ _ _).trans (List.Perm.cons _ (List.Perm.swap _ _ _)))
 exact (h2.join2.swap).join2
theorem Hp.rdN2 (h : Hp W w0 w l) (i j : Nat) (hi : l[i]? = some (.row 76 5 (.slice A n c) n (L.flatMap cNV))) (hj : l[j]? = some (.many (L.map rowE))) : RdN w A n L :=
 ⟨h.rd i hi, fun p hp => by
  obtain ⟨B, d, e, hr⟩ := rowE_shape ((h.ok _ (List.mem_of_getElem? hj)).1 (rowE p) (List.mem_map_of_mem hp));exact ⟨B, _, d, e, hr⟩⟩
theorem rowE_nil {p : Value × Nod} (h : (rowE p).ok w) {m d : Nat} (e : p.1 = .slice none m d) : d = 0 := by
 have h1 : w.ownsRow 0 109 4 p.1 p.2.2.2.2.2.length (p.2.2.2.2.2.flatMap cEnt) := h
 rcases h1.2 with ⟨e2, _⟩ | ⟨g2, cap, cur, e2, _⟩
 ·rw [e] at e2; injection e2 with _ _ e3
 ·rw [e] at e2; cases e2
theorem Hp.nset {g k r : Nat} {p p' : Value × Nod} {u : Value} (h : Hp W w0 w l) (i j : Nat) (hi : l[i]? = some (.row 76 5 (.slice (some ⟨g, 0, none⟩) n c) n (L.flatMap cNV))) (hj : l[j]? = some (.many (L.map rowE))) (hij : i ≠ j) (hp : L[k]? = some p) (hr : r < 5) (hf : cNV p' = (cNV p).set r u) (he : rowE p' = rowE p) :
 Hp W w0 (w.setCell ⟨g, k * 5 + r, none⟩ u) ((l.set i (.row 76 5 (.slice (some ⟨g, 0, none⟩) n c) n ((L.set k p').flatMap cNV))).set j (.many ((L.set k p').map rowE))) := by
 have h1 := h.putL i hi cNV_len k r p' u hp hr hf;refine h1.recast ?_;have e1 : (L.set k p').map rowE = L.map rowE := by
  rw [List.map_set, he];apply List.ext_getElem?;intro q
  by_cases hq : k = q
  ·subst hq
   rw [List.getElem?_set_self (by rw [List.length_map]; exact (List.getElem?_eq_some_iff.1 hp).1), List.getElem?_map, hp]; rfl
  ·rw [List.getElem?_set_ne hq]
 rw [e1];apply List.ext_getElem?;intro q
 by_cases hq : j = q
 ·subst hq
  rw [List.getElem?_set_ne hij, hj, List.getElem?_set_self (by rw [List.length_set]; exact (List.getElem?_eq_some_iff.1 hj).1)]
 ·rw [List.getElem?_set_ne (l := l.set i _) hq]
theorem Hp.nents {g k m : Nat} {v v' : Value} {x : Nod} {es : List EntT} (h : Hp W w0 w (.row 109 4 v' m (es.flatMap cEnt) :: l)) (i j : Nat) (hi : l[i]? = some (.row 76 5 (.slice (some ⟨g, 0, none⟩) n c) n (L.flatMap cNV))) (hj : l[j]? = some (.many (L.map rowE))) (hp : L[k]? = some (v, x)) (hm : m = es.length) :
 Hp W w0 (w.setCell ⟨g, k * 5 + 4, none⟩ v') ((l.set i (.row 76 5 (.slice (some ⟨g, 0, none⟩) n c) n ((L.set k (v', x.1, x.2.1, x.2.2.1, x.2.2.2.1, es)).flatMap cNV))).set j (.many ((L.set k (v', x.1, x.2.1, x.2.2.1, x.2.2.2.1, es)).map rowE))) := by
 subst hm;have h1 := h.putL (i + 1) hi cNV_len k 4 (v', x.1, x.2.1, x.2.2.1, x.2.2.2.1, es) v' hp (by omega) rfl;rw [List.set_cons_succ] at h1;have hij : i ≠ j := fun e => by subst e; rw [hi] at hj; cases hj
 have h2 := Hp.into (r := rowE (v', x.1, x.2.1, x.2.2.1, x.2.2.2.1, es)) h1 j (by rw [List.getElem?_set_ne hij, hj]) k;rw [← List.map_set] at h2;exact h2
theorem Hp.thin {rs rs' : List Row} (h : Hp W w0 w l) (i : Nat) (hi : l[i]? = some (.many rs)) (hs : rs'.Sublist rs) : Hp W w0 w (l.set i (.many rs')) :=
 h.turnG (V := []) i hi (Gr.refl _ w) (by simp) ⟨fun r hr => (h.ok _ (List.mem_of_getElem? hi)).1 r (hs.subset hr), (h.ok _ (List.mem_of_getElem? hi)).2.sublist hs⟩ fun b hb => by
  obtain ⟨r, hr, hv⟩ := hb;exact .inl ⟨r, hs.subset hr, hv⟩
theorem Bk.row {t : TypeId} {cs : List Value} {q : Nat} (h : Bk w g t cs) (hl : cs.length = 1 * q) : w.ownsRow 0 t q (.slice (some ⟨g, 0, none⟩) 1 1) 1 cs :=
 ⟨hl, .inr ⟨g, 1, cs.toArray, rfl, Nat.zero_le _, h, Nat.le_refl _, by simp [maxLen], by simpa using hl, by rw [← hl]; simp⟩⟩
theorem Hp.asRow {t : TypeId} {cs : List Value} {q : Nat} (h : Hp W w0 w l) (i : Nat) (hi : l[i]? = some (.blk g t cs)) (hl : cs.length = 1 * q) : Hp W w0 w (l.set i (.row t q (.slice (some ⟨g, 0, none⟩) 1 1) 1 cs)) :=
 h.turnG (V := []) i hi (Gr.refl _ w) (by simp) ((h.blk i hi).row hl) fun b hb => .inl hb
end
end Go.Proofs.YtllonpbhgbhogaaGreatDoor
namespace Go.Proofs.YtllonpbhgbhogaaGreatDoor
open Go.RowKit
def VFit (l : List Nod) : Prop := l.length ≤ 16 ∧ ∀ x ∈ l, DirR x.2.2.2.2
theorem VW.fit {next : Int} {l : List Nod} (h : VW next l) : VFit l :=
 ⟨h.len, fun x hx => by
  rcases h.typ x hx with t | t
  ·rw [t.2.1]; exact dirR_nil
  ·exact t.2.2⟩
theorem VFit.set {l : List Nod} (h : VFit l) (k : Nat) {y : Nod} (hd : DirR y.2.2.2.2) : VFit (l.set k y) :=
 ⟨by rw [List.length_set]; exact h.1, fun x hx => (List.mem_or_eq_of_mem_set hx).elim (h.2 x) fun e => e ▸ hd⟩
theorem name_len {s : List UInt8} (h : nameB s = true) : s.length ≤ 24 := by
 simp only [nameB, Bool.and_eq_true] at h;have h1 := inB_iff.1 h.1.1.1.1;omega
theorem key_name {s : List UInt8} (h : (keyR s).2 = true) : nameB s = true := by
 cases hn : nameB s with
 | true => rfl
 | false => rw [keyR_no hn] at h; cases h
theorem ent_small {d : List EntT} (h : DirR d) : ∀ e ∈ d, e.2.2.1.size ≤ 16777216 := fun e he => by
 have h1 := name_len (key_name (ent_key h he));rw [toB_len] at h1; omega
theorem VFit.few {L : List (Value × Nod)} (h : VFit (nodes L)) : L.length ≤ 16 ∧ (∀ p ∈ L, DirR p.2.2.2.2.2) ∧ (∀ p ∈ L, p.2.2.2.2.2.length ≤ 1048576) ∧ ∀ p ∈ L, ∀ e ∈ p.2.2.2.2.2, e.2.2.1.size ≤ 16777216 := by
 have h2 : ∀ p ∈ L, DirR p.2.2.2.2.2 := fun p hp => h.2 p.2 (List.mem_map_of_mem hp);exact ⟨by have := h.1; rwa [nodes_len] at this, h2, fun p hp => by have := (h2 p hp).len; omega, fun p hp => ent_small (h2 p hp)⟩
def entZ (l : List Nod) (k : Nat) (s : ByteArray) : Int := match lookD (entsOf l k) s with
 | none => -1
 | some e => atZ l e.2.2.2
theorem look_of {d : List EntT} {s : ByteArray} {k : Nat} (h : dirAt d (toB s) = some k) : ∃ e, d[k]? = some e ∧ lookD d s = some e := by
 obtain ⟨e, h1, _⟩ := dirAt_some h;exact ⟨e, h1, by rw [lookD, h]; exact h1⟩
set_option maxRecDepth 100000 in
set_option maxHeartbeats 4000000 in
theorem implEntry_any (gv : Nat) (next : Int) (A : Option Addr) (n c k : Nat) (L : List (Value × Nod)) (v : Value) (x0 x1 x2 : Int) (x3 : ByteArray) (es : List EntT) (s : ByteArray) (w : World) (h0 : w.cell? ⟨gv, 0, none⟩ = some (.int .i64 next)) (h1 : w.cell? ⟨gv, 1, none⟩ = some (.slice A n c)) (h : RdN w A n L) (hf : VFit (nodes L)) (hp : L[k]? = some (v, x0, x1, x2, x3, es)) (hs : s.size ≤ 16777216) (hk : KT w) :
 Calls Tryz.prog 77 #[.pointer (some ⟨gv, 0, none⟩), .int .i64 (k : Int), .string s] w fun e w' => e = .returned (.int .i64 (entZ (nodes L) k s)) ∧ Fr w w' := by
 have hfw := hf.few;have hpm := List.mem_of_getElem? hp;have hn16 : n ≤ 16 := by rw [← h.len]; exact hfw.1
 have hd := hfw.2.1 _ hpm;have hz := hfw.2.2.2 _ hpm;simp only at hd hz;have hkn : k < n := by rw [← h.len]; exact (List.getElem?_eq_some_iff.1 hp).1
 have he : entsOf (nodes L) k = es := entsOf_eq (nodes_at hp);have hed := hd.len;obtain ⟨bk, of, B, d, hA, e1, r1, c1⟩ := h.elem hp;simp only at e1 r1;subst e1;have HR := Lib.hid h;have HC := Lib.hid (fun j u hu => c1 j u hu);have y4 := c1 4 _ rfl;have HR1 := Lib.hid r1;have HA := Lib.hid hA;have HD := Lib.hid hd;have HZ := Lib.hid hz
 cases hat : dirAt es (toB s) with
 | none =>
   have HE := Lib.hid (dirZ_none hat);have HZZ := Lib.hid (show entZ (nodes L) k s = -1 by rw [entZ, he, lookD, hat]; rfl);subst hA;clear h c1 r1 hp hpm hd hz he hat hfw hf;go_enter Tryz.func77, Tryz.ntmps77;go_wp2_with fail;refine (implEntAt_any B _ d es s _ HR1.out (by omega) HD.out HZ.out hs hk).mono ?_;rintro e w1 ⟨rfl, f1⟩;rw [HE.out];go_wp2_with fail;go_ret;rw [HZZ.out];exact ⟨rfl, f1⟩
 | some j =>
   obtain ⟨⟨z0, z1, z2, z3⟩, hej, hl⟩ := look_of hat;have HE := Lib.hid (dirZ_some hat);have HZZ := Lib.hid (show entZ (nodes L) k s = atZ (nodes L) z3 by rw [entZ, he, hl]);have hje : j < es.length := (List.getElem?_eq_some_iff.1 hej).1;obtain ⟨b2, o2, rfl, hce⟩ := r1.elem cEnt_len hej (by omega);have y5 := hce 3 _ rfl;have hj0 : ¬ (j : Int) < 0 := by omega
   subst hA;clear h c1 r1 hp hpm hd hz he hat hfw hf hej hce hl;go_enter Tryz.func77, Tryz.ntmps77;go_wp2_with fail;refine (implEntAt_any _ _ d es s _ HR1.out (by omega) HD.out HZ.out hs hk).mono ?_;rintro e w1 ⟨rfl, f1⟩;rw [HE.out];have f2 := f1.drew;replace h0 := fr_cellM f2 h0;replace h1 := fr_cellM f2 h1;replace y4 := fr_cellM f2 y4;replace y5 := fr_cellM f2 y5;have HF := Lib.hid f2;have HR3 := Lib.hid (HR.out.fr f2);clear f1 f2;go_wp2_with fail;refine wp_region_held_drew (S := fun w' => w'.cell? ⟨gv, 0, none⟩ = some (.int .i64 next) ∧ w'.cell? ⟨gv, 1, none⟩ = some (.slice (some ⟨bk, of, none⟩) n c) ∧ w'.cell? ⟨bk, of + k * 5 + 4, none⟩ = some (.slice (some ⟨b2, o2, none⟩) es.length d) ∧ w'.cell? ⟨b2, o2 + j * 4 + 3, none⟩ = some (.int .i64 z3)) (by kernel_rfl) ?_ (fun hHeld => ?_)
   ·exact ⟨h0, h1, y4, y5⟩
   refine wpT 0 ?_;refine wpT 1 ?_;refine wpT 2 ?_;refine wpT 3 ?_;refine wpT 4 ?_;refine wpT 5 ?_;refine wpT 6 ?_;refine wpT 7 ?_;refine wpT 8 ?_;refine wpT 9 ?_;refine wpT 10 ?_;refine wpT 11 ?_;refine wpT 12 ?_;refine wpT 13 ?_;refine wpT 14 ?_;refine wpC 15 fun K hK => ?_;go_simp;refine (implAt_any next _ n c L z3 _ HR3.out (by omega)).mono ?_;rintro e w5 ⟨rfl, f5⟩;go_wp2_with fail;refine hK.out _ _ ?_ fun hHeld => ?_
   ·exact ⟨fr_cellM f5 h0, fr_cellM f5 h1, fr_cellM f5 y4, fr_cellM f5 y5⟩
   clear hK K;(try simp only [sX, Act.put]);refine wpT 16 ?_;refine wpAnyH_done (by kernel_rfl) ?_ _;go_wp2_with fail;go_ret;rw [HZZ.out];exact ⟨rfl, Fr.then HF.out f5⟩
set_option maxRecDepth 100000 in
set_option maxHeartbeats 8000000 in
theorem implVDrop_any (gv : Nat) (next : Int) (A : Option Addr) (n c k : Nat) (L : List (Value × Nod)) (v : Value) (x0 x1 x2 : Int) (x3 : ByteArray) (es : List EntT) (s : ByteArray) (w : World) (h : (volOb gv next A n c L).ok w) (hf : VFit (nodes L)) (hp : L[k]? = some (v, x0, x1, x2, x3, es)) (hs : s.size ≤ 16777216) (hk : KT w) :
 Calls Tryz.prog 78 #[.pointer (some ⟨gv, 0, none⟩), .int .i64 (k : Int), .string s] w fun e w' => e = .returned (.tuple #[]) ∧ ∃ v', Hp (Row.blocks (volRs gv next A n c L)) w w' [volOb gv next A n c (L.set k (v', x0, x1, x2, x3, (dropD es s).1))] := by
 have hfw := hf.few;have hpm := List.mem_of_getElem? hp;have hd := hfw.2.1 _ hpm;have hz := hfw.2.2.2 _ hpm;simp only at hd hz;have hed := hd.len;have H := (Hp.start_many h).vopen;have hLn : L.length = n := (H.rdN2 1 2 rfl rfl).len;have hn16 : n ≤ 16 := by rw [← hLn]; exact hfw.1
 have hkn : k < n := by rw [← hLn]; exact (List.getElem?_eq_some_iff.1 hp).1
 obtain ⟨g, c9, e9, _⟩ := H.form 1 rfl (by omega);injection e9 with e9a e9b e9c;subst e9a e9c;clear e9b;obtain ⟨b9, o9, B, d, hA9, e1, r1, c10⟩ := (H.rdN2 1 2 rfl rfl).elem hp;clear hA9 c10;simp only at e1 r1;subst e1;have hnil : B = none → d = 0 := fun hB => by
  subst hB;exact rowE_nil ((H.ok _ (List.mem_of_getElem? (i := 2) rfl)).1 (rowE _) (List.mem_map_of_mem hpm)) rfl
 have HR1 := Lib.hid r1;have HD := Lib.hid hd;have HZ := Lib.hid hz;have HP := Lib.hid hp;have HH := Lib.hid (show entsOf (nodes L) k = es from entsOf_eq (nodes_at hp));clear h hf hp hfw hpm hd hz r1;have y4a := Lib.hid (H.atL 1 rfl cNV_len HP.out (r := 4) rfl);replace H := H.drew;have y1 := H.at_ 0 rfl (j := 1) rfl;go_enter Tryz.func78, Tryz.ntmps78;go_wp2_with fail;have HK := Lib.hid (show ∀ u, Fr w.drew u → KT u ∧ Rd u B es.length 4 (es.flatMap cEnt) from fun u f => ⟨hk.fr ((Fr.drew_ _).then f), HR1.out.fr ((Fr.drew_ _).then f)⟩);refine wp_region_held_drew (S := fun w' => w'.cell? ⟨gv, 1, none⟩ = some (.slice (some ⟨g, 0, none⟩) n c)) (by kernel_rfl) ?_ (fun hHeld => ?_)
 ·exact y1
 refine wpT 0 ?_;refine wpT 1 ?_;refine wpT 2 ?_;refine wpT 3 ?_;refine wpT 4 ?_;refine wpT 5 ?_;refine wpT 6 ?_;refine wpT 7 ?_;refine wpT 8 ?_;refine wpT 9 ?_;refine wpT 10 ?_;refine wpT 11 ?_;refine wpT 13 ?_;refine wpC 12 fun K hK => ?_;have y4 := y4a.out;go_simp;refine hK.out _ _ ?_ fun hHeld => ?_
 ·exact H.at_ 0 rfl (j := 1) rfl
 clear hK K;(try simp only [sX, Act.put]);refine wpC 14 fun K hK => ?_;go_simp;refine (implDrop_any B _ d es s _ (HK.out _ (Below.refl _ _)).2 (by omega) hnil HD.out HZ.out hs (HK.out _ (Below.refl _ _)).1).mono ?_;rintro e w5 ⟨v5, rfl, K⟩;have H5 := H.join K;clear K;obtain ⟨A5, c5, e5⟩ := H5.shape 0 rfl;subst e5;go_wp2_with fail;refine hK.out _ _ ?_ fun hHeld => ?_
 ·exact H5.at_ 1 rfl (j := 1) rfl
 clear hK K;(try simp only [sX, Act.put]);refine wpT 15 ?_;refine wpT 16 ?_;refine wpT 17 ?_;refine wpT 18 ?_;refine wpT 19 ?_;refine wpC 20 fun K hK => ?_;have e4 := H5.free 2 rfl (k * 5 + 4);have s4 := H5.atL 2 rfl cNV_len HP.out (r := 4) rfl;have H6 := Hp.nents H5 1 2 rfl rfl HP.out rfl;go_simp;refine hK.out _ _ ?_ fun hHeld => ?_
 ·exact H6.at_ 0 rfl (j := 1) rfl
 clear hK K;(try simp only [sX, Act.put]);refine wpAnyH_done (by kernel_rfl) ?_ _;have H9 := Lib.hid (Hp.vshut H6);clear H H5 H6;go_wp2_with fail;refine bodyPost_end (results_none rfl _ _ _) rfl ?_;exact ⟨rfl, _, H9.out⟩
set_option maxRecDepth 100000 in
set_option maxHeartbeats 8000000 in
theorem implVAdd_any (gv : Nat) (next : Int) (A : Option Addr) (n c k : Nat) (L : List (Value × Nod)) (v : Value) (x0 x1 x2 : Int) (x3 : ByteArray) (es : List EntT) (s : ByteArray) (id : Int) (w : World) (h : (volOb gv next A n c L).ok w) (hf : VFit (nodes L)) (hp : L[k]? = some (v, x0, x1, x2, x3, es)) (hs : s.size ≤ 16777216) (a1 : nameB (toB s) = true) (a2 : dirAt es (toB s) = none) (a3 : inB id 1 100000 = true) (a4 : es.length < 12) (hk : KT w) :
 Calls Tryz.prog 119 #[.pointer (some ⟨gv, 0, none⟩), .int .i64 (k : Int), .string s, .int .i64 id] w fun e w' => e = .returned (.tuple #[]) ∧ ∃ v', Hp (Row.blocks (volRs gv next A n c L)) w w' [volOb gv next A n c (L.set k (v', x0, x1, x2, x3, (addD es s id).1))] := by
 have hfw := hf.few;have hpm := List.mem_of_getElem? hp;have hd := hfw.2.1 _ hpm;have hz := hfw.2.2.2 _ hpm;simp only at hd hz;have hed := hd.len;have H := (Hp.start_many h).vopen;have hLn : L.length = n := (H.rdN2 1 2 rfl rfl).len;have hn16 : n ≤ 16 := by rw [← hLn]; exact hfw.1
 have hkn : k < n := by rw [← hLn]; exact (List.getElem?_eq_some_iff.1 hp).1
 obtain ⟨g, c9, e9, _⟩ := H.form 1 rfl (by omega);injection e9 with e9a e9b e9c;subst e9a e9c;clear e9b;obtain ⟨b9, o9, B, d, hA9, e1, r1, c10⟩ := (H.rdN2 1 2 rfl rfl).elem hp;clear hA9 c10;simp only at e1 r1;subst e1;have hnil : B = none → d = 0 := fun hB => by
  subst hB;exact rowE_nil ((H.ok _ (List.mem_of_getElem? (i := 2) rfl)).1 (rowE _) (List.mem_map_of_mem hpm)) rfl
 have HR1 := Lib.hid r1;have HD := Lib.hid hd;have HZ := Lib.hid hz;have HP := Lib.hid hp;have HH := Lib.hid (show entsOf (nodes L) k = es from entsOf_eq (nodes_at hp));clear h hf hp hfw hpm hd hz r1;have y4a := Lib.hid (H.atL 1 rfl cNV_len HP.out (r := 4) rfl);replace H := H.drew;have y1 := H.at_ 0 rfl (j := 1) rfl;go_enter Tryz.func119, Tryz.ntmps119;go_wp2_with fail;have HK := Lib.hid (show ∀ u, Fr w.drew u → KT u ∧ Rd u B es.length 4 (es.flatMap cEnt) from fun u f => ⟨hk.fr ((Fr.drew_ _).then f), HR1.out.fr ((Fr.drew_ _).then f)⟩);refine wp_region_held_drew (S := fun w' => w'.cell? ⟨gv, 1, none⟩ = some (.slice (some ⟨g, 0, none⟩) n c)) (by kernel_rfl) ?_ (fun hHeld => ?_)
 ·exact y1
 refine wpT 0 ?_;refine wpT 1 ?_;refine wpT 2 ?_;refine wpT 3 ?_;refine wpT 4 ?_;refine wpT 5 ?_;refine wpT 6 ?_;refine wpT 7 ?_;refine wpT 8 ?_;refine wpT 9 ?_;refine wpT 10 ?_;refine wpT 11 ?_;refine wpT 13 ?_;refine wpT 14 ?_;refine wpC 12 fun K hK => ?_;have y4 := y4a.out;go_simp;refine hK.out _ _ ?_ fun hHeld => ?_
 ·exact H.at_ 0 rfl (j := 1) rfl
 clear hK K;(try simp only [sX, Act.put]);refine wpC 15 fun K hK => ?_;go_simp;refine (implAdd_any B _ d es s id _ (HK.out _ (Below.refl _ _)).2 (by omega) hnil HD.out HZ.out hs a1 a2 a3 a4 (HK.out _ (Below.refl _ _)).1).mono ?_;rintro e w5 ⟨v5, rfl, K⟩;have H5 := H.join K;clear K;obtain ⟨A5, c5, e5⟩ := H5.shape 0 rfl;subst e5;go_wp2_with fail;refine hK.out _ _ ?_ fun hHeld => ?_
 ·exact H5.at_ 1 rfl (j := 1) rfl
 clear hK K;(try simp only [sX, Act.put]);refine wpT 16 ?_;refine wpT 17 ?_;refine wpT 18 ?_;refine wpT 19 ?_;refine wpT 20 ?_;refine wpC 21 fun K hK => ?_;have e4 := H5.free 2 rfl (k * 5 + 4);have s4 := H5.atL 2 rfl cNV_len HP.out (r := 4) rfl;have H6 := Hp.nents H5 1 2 rfl rfl HP.out rfl;go_simp;refine hK.out _ _ ?_ fun hHeld => ?_
 ·exact H6.at_ 0 rfl (j := 1) rfl
 clear hK K;(try simp only [sX, Act.put]);refine wpAnyH_done (by kernel_rfl) ?_ _;have H9 := Lib.hid (Hp.vshut H6);clear H H5 H6;go_wp2_with fail;refine bodyPost_end (results_none rfl _ _ _) rfl ?_;exact ⟨rfl, _, H9.out⟩
end Go.Proofs.YtllonpbhgbhogaaGreatDoor
namespace Go.Proofs.YtllonpbhgbhogaaGreatDoor
open Go.RowKit
section
variable {W : List Nat} {w0 w : World} {l : List Ob} {gv g : Nat} {next : Int} {A : Option Addr} {n c : Nat} {L : List (Value × Nod)}
theorem perm_front {α : Type} : ∀ (l : List α) (i : Nat) (a b : α), l[i]? = some a → (l.set i b).Perm (b :: l.eraseIdx i)
 | [], _, _, _, h => by simp at h
 | x :: l, 0, a, b, h => List.Perm.refl _
 | x :: l, i + 1, a, b, h => by
   have h1 := perm_front l i a b (by simpa using h);exact (List.Perm.cons x h1).trans (List.Perm.swap _ _ _)
theorem set_self' {α : Type} : ∀ (l : List α) (i : Nat) (a : α), l[i]? = some a → l.set i a = l
 | [], _, _, h => by simp at h
 | x :: l, 0, a, h => by simp at h; subst h; rfl
 | x :: l, i + 1, a, h => by
   have h1 := set_self' l i a (by simpa using h);simp [h1]
theorem Hp.front {o : Ob} (h : Hp W w0 w l) (i : Nat) (hi : l[i]? = some o) : Hp W w0 w (o :: l.eraseIdx i) := by
 have h1 := perm_front l i o o hi;rw [set_self' l i o hi] at h1;exact h.perm h1
theorem Hp.back {o : Ob} (i : Nat) (hl : i < l.length) (h : Hp W w0 w (o :: l.eraseIdx i)) : Hp W w0 w (l.set i o) :=
 h.perm (perm_front l i l[i] o (List.getElem?_eq_getElem hl)).symm
theorem Hp.vlt (i : Nat) {o : Ob} (hi : l[i]? = some o) : i < l.length := (List.getElem?_eq_some_iff.1 hi).1
theorem Hp.vc0 (h : Hp W w0 w l) (i : Nat) (hi : l[i]? = some (volOb gv next A n c L)) : w.cell? ⟨gv, 0, none⟩ = some (.int .i64 next) :=
 (h.front i hi).vopen.at_ 0 rfl (j := 0) rfl
theorem Hp.vc1 (h : Hp W w0 w l) (i : Nat) (hi : l[i]? = some (volOb gv next A n c L)) : w.cell? ⟨gv, 1, none⟩ = some (.slice A n c) :=
 (h.front i hi).vopen.at_ 0 rfl (j := 1) rfl
theorem Hp.vrd (h : Hp W w0 w l) (i : Nat) (hi : l[i]? = some (volOb gv next A n c L)) : RdN w A n L :=
 (h.front i hi).vopen.rdN2 1 2 rfl rfl
theorem Hp.vfree (h : Hp W w0 w l) (i : Nat) (hi : l[i]? = some (volOb gv next A n c L)) (j : Nat) : w.frozen? ⟨gv, j, none⟩ = false :=
 (h.front i hi).vopen.free 0 rfl j
theorem Hp.vform (h : Hp W w0 w l) (i : Nat) (hi : l[i]? = some (volOb gv next A n c L)) (hn : 0 < n) : ∃ g, A = some ⟨g, 0, none⟩ := by
 obtain ⟨g, c9, e9, _⟩ := (h.front i hi).vopen.form 1 rfl (by omega);injection e9 with e9a e9b e9c;exact ⟨g, e9a⟩
theorem Hp.vput0 (h : Hp W w0 w l) (i : Nat) (hi : l[i]? = some (volOb gv next A n c L)) (next' : Int) : Hp W w0 (w.setCell ⟨gv, 0, none⟩ (.int .i64 next')) (l.set i (volOb gv next' A n c L)) :=
 Hp.back i (Hp.vlt i hi) (Hp.vshut ((h.front i hi).vopen.put 0 rfl 0 (.int .i64 next')))
theorem Hp.vnc (h : Hp W w0 w l) (i : Nat) (hi : l[i]? = some (volOb gv next (some ⟨g, 0, none⟩) n c L)) {k r : Nat} {p : Value × Nod} {u : Value} (hp : L[k]? = some p) (hr : (cNV p)[r]? = some u) : w.cell? ⟨g, k * 5 + r, none⟩ = some u :=
 (h.front i hi).vopen.atL 1 rfl cNV_len hp hr
theorem Hp.vnfree (h : Hp W w0 w l) (i : Nat) (hi : l[i]? = some (volOb gv next (some ⟨g, 0, none⟩) n c L)) (j : Nat) : w.frozen? ⟨g, j, none⟩ = false :=
 (h.front i hi).vopen.free 1 rfl j
theorem Hp.vnset {k r : Nat} {p p' : Value × Nod} {u : Value} (h : Hp W w0 w l) (i : Nat) (hi : l[i]? = some (volOb gv next (some ⟨g, 0, none⟩) n c L)) (hp : L[k]? = some p) (hr : r < 5) (hf : cNV p' = (cNV p).set r u) (he : rowE p' = rowE p) :
 Hp W w0 (w.setCell ⟨g, k * 5 + r, none⟩ u) (l.set i (volOb gv next (some ⟨g, 0, none⟩) n c (L.set k p'))) :=
 Hp.back i (Hp.vlt i hi) (Hp.vshut (Hp.nset (h.front i hi).vopen 1 2 rfl rfl (by decide) hp hr hf he))
theorem Hp.vnents {k m : Nat} {v v' : Value} {x : Nod} {es : List EntT} (h : Hp W w0 w (.row 109 4 v' m (es.flatMap cEnt) :: l)) (i : Nat) (hi : l[i]? = some (volOb gv next (some ⟨g, 0, none⟩) n c L)) (hp : L[k]? = some (v, x)) (hm : m = es.length) :
 Hp W w0 (w.setCell ⟨g, k * 5 + 4, none⟩ v') (l.set i (volOb gv next (some ⟨g, 0, none⟩) n c (L.set k (v', x.1, x.2.1, x.2.2.1, x.2.2.2.1, es)))) := by
 have h1 := (h.front (i + 1) (o := volOb gv next (some ⟨g, 0, none⟩) n c L) hi).vopen;have h2 := h1.perm (l' := .row 109 4 v' m (es.flatMap cEnt) :: .row 31 2 (.slice (some ⟨gv, 0, none⟩) 1 1) 1 [.int .i64 next, .slice (some ⟨g, 0, none⟩) n c] :: .row 76 5 (.slice (some ⟨g, 0, none⟩) n c) n (L.flatMap cNV) :: .many (L.map rowE) :: l.eraseIdx i) (by
  exact ((List.Perm.cons _ (List.Perm.cons _ (List.Perm.swap _ _ _))).trans ((List.Perm.cons _ (List.Perm.swap _ _ _)).trans (List.Perm.swap _ _ _))))
 exact Hp.back i (Hp.vlt i hi) (Hp.vshut (Hp.nents h2 1 2 rfl rfl hp hm))
theorem Hp.vturn {w' : World} {next' : Int} {A' : Option Addr} {n' c' : Nat} {L' : List (Value × Nod)} (h : Hp W w0 w l) (i : Nat) (hi : l[i]? = some (volOb gv next A n c L)) (K : Hp (Row.blocks (volRs gv next A n c L)) w w' [volOb gv next' A' n' c' L']) : Hp W w0 w' (l.set i (volOb gv next' A' n' c' L')) :=
 h.turnMany i hi K
theorem Hp.vok (h : Hp W w0 w l) (i : Nat) (hi : l[i]? = some (volOb gv next A n c L)) : (volOb gv next A n c L).ok w := h.ok _ (List.mem_of_getElem? hi)
theorem Hp.vnil (h : Hp W w0 w l) (i : Nat) (hi : l[i]? = some (volOb gv next A n c L)) {p : Value × Nod} (hp : p ∈ L) {m d : Nat} (e : p.1 = .slice none m d) : d = 0 :=
 rowE_nil (((((h.front i hi).vopen).ok _ (List.mem_of_getElem? (i := 2) rfl)).1 (rowE _) (List.mem_map_of_mem hp))) e
theorem Hp.nlen {o : Ob} {E : TypeId} {k m : Nat} {v : Value} {xs : List Value} (h : Hp W w0 w (o :: .row E k v n xs :: l)) (e : n = m) : Hp W w0 w (o :: .row E k v m xs :: l) := e ▸ h
theorem Hp.vgrow {v' : Value} (y : Nod) {A' : Option Addr} {c' m : Nat} (h : Hp W w0 w (.row 31 2 (.slice (some ⟨gv, 0, none⟩) 1 1) 1 [.int .i64 next, .slice A n c] :: .row 76 5 v' m (L.flatMap cNV ++ cNV (.slice none 0 0, y)) :: .many (L.map rowE) :: l)) (hy : y.2.2.2.2 = []) (hv : v' = .slice A' m c') (hm : m = L.length + 1) :
 Hp W w0 (w.setCell ⟨gv, 1, none⟩ v') (volOb gv next A' m c' (L ++ [((.slice none 0 0, y) : Value × Nod)]) :: l) := by
 subst hv;have h1 := (h.put 0 rfl 1 (.slice A' m c')).nil_ 109 4;have h2 := Hp.push (r := rowE (.slice none 0 0, y)) (rs := L.map rowE) (by
  have e : (rowE (.slice none 0 0, y)).ob = .row 109 4 (.slice none 0 0) 0 [] := by simp [rowE, Row.ob, hy]
  rw [e]; exact h1) 2 rfl
 exact Hp.vshut (h2.recast (by simp))
theorem KT.ow {w0 w : World} {W : List Nat} {l : List Ob} (h : KT w0) (H : Hp W w0 w l) (h0 : 0 ∉ W) : KT w :=
 H.oldW (show Rd w0 (some ⟨0, 0, none⟩) 27 2 (kpPairs.flatMap cPair) from h) fun ad e => by
  injection e with e; subst e; exact h0
theorem KT.lt0 {w : World} (h : KT w) : 0 < w.heap.size := by
 obtain ⟨b, o, e, hc⟩ := (show Rd w (some ⟨0, 0, none⟩) 27 2 (kpPairs.flatMap cPair) from h).2 (by decide);injection e with e;injection e with e1 e2;subst e1 e2;obtain ⟨u, hu⟩ : ∃ u, (kpPairs.flatMap cPair)[0]? = some u := ⟨_, rfl⟩;exact World.block_lt_of_cell? w _ (hc 0 u hu)
theorem Hp.v0 (H : Hp W w0 w l) (hk : KT w0) (h0 : 0 ∉ W) (i : Nat) (hi : l[i]? = some (volOb gv next A n c L)) : 0 ∉ Row.blocks (volRs gv next A n c L) := fun hb =>
 (H.own _ (List.mem_of_getElem? hi) 0 (Row.mem_blocks.1 hb)).elim (fun h1 => by have := hk.lt0; omega) h0
end
abbrev resL (r : ResT) : List Value := [.int .i64 r.1, .int .i64 r.2.1, .string r.2.2.1, .string r.2.2.2]
def DidV (gv : Nat) (next : Int) (A : Option Addr) (n c : Nat) (L : List (Value × Nod)) (w : World) (out : OutT) (e : Ending) (w' : World) : Prop :=
 e = .returned (.agg (resL out.2).toArray) ∧ ∃ A' n' c' L', nodes L' = out.1.2 ∧ Hp (Row.blocks (volRs gv next A n c L)) w w' [volOb gv out.1.1 A' n' c' L']
theorem DidV.mk {gv : Nat} {next : Int} {A : Option Addr} {n c : Nat} {L : List (Value × Nod)} {w w' : World} {out : OutT} {next' : Int} {A' : Option Addr} {n' c' : Nat} {L' : List (Value × Nod)} {l : List Ob} {r : ResT} (h : out = ((next', nodes L'), r)) (i : Nat) (H : Hp (Row.blocks (volRs gv next A n c L)) w w' l) (hi : l[i]? = some (volOb gv next' A' n' c' L')) : DidV gv next A n c L w out (.returned (.agg (resL r).toArray)) w' := by
 subst h;exact ⟨rfl, A', n', c', L', rfl, (H.front i hi).sub (by simp)⟩
theorem nodes_app (L : List (Value × Nod)) (p : Value × Nod) : nodes (L ++ [p]) = nodes L ++ [p.2] := by simp [nodes]
theorem nodes_set (L : List (Value × Nod)) (k : Nat) (p : Value × Nod) : nodes (L.set k p) = (nodes L).set k p.2 := by simp [nodes, List.map_set]
theorem nodes_erase (L : List (Value × Nod)) (k : Nat) : nodes (L.eraseIdx k) = (nodes L).eraseIdx k := by
 simp only [nodes]
 induction L generalizing k with
 | nil => rfl
 | cons a L ih => cases k with
   | zero => rfl
   | succ k => simp [ih]
end Go.Proofs.YtllonpbhgbhogaaGreatDoor
namespace Go.Proofs.YtllonpbhgbhogaaGreatDoor
open Go.RowKit
theorem entZ_none {next : Int} {l : List Nod} {k : Nat} {s : ByteArray} (h : dirAt (entsOf l k) (toB s) = none) : entZ l k s = -1 := by rw [entZ, lookD, h]; rfl
theorem entZ_some {next : Int} {l : List Nod} {k j : Nat} {x : Nod} {s : ByteArray} (hv : VW next l) (hx : l[k]? = some x) (h : dirAt x.2.2.2.2 (toB s) = some j) : ∃ (e : EntT) (t : Nat), lookD x.2.2.2.2 s = some e ∧ atN l e.2.2.2 = some t ∧ entZ l k s = (t : Int) := by
 obtain ⟨e, h1, h2⟩ := look_of h;have h3 := (hv.ent x (List.mem_of_getElem? hx) e (lookD_mem h2)).2;have h4 := atN_is.2 h3;obtain ⟨t, ht⟩ := Option.isSome_iff_exists.1 h4;exact ⟨e, t, h2, ht, by rw [entZ, entsOf_eq hx, h2]; simp only [atZ, ht]⟩
set_option maxRecDepth 100000 in
set_option maxHeartbeats 16000000 in
theorem implCreate_any (gv : Nat) (next : Int) (A : Option Addr) (n c k : Nat) (L : List (Value × Nod)) (v : Value) (x0 x1 x2 : Int) (x3 : ByteArray) (es : List EntT) (c0 c1 : Int) (c2 : ByteArray) (c3 : Int) (c4 c5 : ByteArray) (w : World) (h : (volOb gv next A n c L).ok w) (hv : VW next (nodes L)) (hp : L[k]? = some (v, x0, x1, x2, x3, es)) (hs : c2.size ≤ 16777216) (hn : nameB (toB c2) = true) (h0 : 0 ∉ Row.blocks (volRs gv next A n c L)) (hk : KT w) :
 Calls Tryz.prog 76 #[.pointer (some ⟨gv, 0, none⟩), .int .i64 (k : Int), .agg #[.int .i64 c0, .int .i64 c1, .string c2, .int .i64 c3, .string c4, .string c5]] w (DidV gv next A n c L w (makeP next (nodes L) k (c0, c1, c2, c3, c4, c5))) := by
 have H := Hp.start_many h;have hLn : L.length = n := (H.vrd 0 rfl).len;have hkn : k < n := by rw [← hLn]; exact (List.getElem?_eq_some_iff.1 hp).1
 obtain ⟨g, rfl⟩ := H.vform 0 rfl (by omega);have hn16 : n ≤ 16 := by rw [← hLn]; exact hv.fit.few.1
 have hd := hv.fit.few.2.1 _ (List.mem_of_getElem? hp);simp only at hd;have hed := hd.len;obtain ⟨B, d, e1, _⟩ := rowE_shape (((H.vopen.ok _ (List.mem_of_getElem? (i := 2) rfl)).1 (rowE _) (List.mem_map_of_mem (List.mem_of_getElem? hp))));simp only at e1;subst e1;have HLN := Lib.hid hLn;have HP := Lib.hid hp;have HV := Lib.hid hv;have HE := Lib.hid (show entsOf (nodes L) k = es from entsOf_eq (nodes_at hp));have HX := Lib.hid (nodes_at hp);have HF := Lib.hid hv.fit;have hnx := hv.lo;have hnx2 := hv.hi;clear h hp hv hLn hd;replace H := (H.lay_ 37 [.int .i64 c0, .int .i64 c1, .string c2, .int .i64 c3, .string c4, .string c5] rfl).lay_ 33 [.int .i64 0, .int .i64 0, .string ⟨#[]⟩, .string ⟨#[]⟩] (g := w.heap.size + 1) (by simp);have av1 := H.vc1 2 rfl;have an0 := H.vnc 2 rfl HP.out (r := 0) rfl;simp only [Nat.add_zero] at an0;have an1 := H.vnc 2 rfl HP.out (r := 1) rfl;have an2 := H.vnc 2 rfl HP.out (r := 2) rfl;have an3 := H.vnc 2 rfl HP.out (r := 3) rfl;have an4 := H.vnc 2 rfl HP.out (r := 4) rfl;replace H := H.lay_ 76 (cNV (.slice B es.length d, x0, x1, x2, x3, es)) (g := w.heap.size + 1 + 1) (by simp);have qc2 := H.fa 2 2 rfl rfl;go_enter Tryz.func76, Tryz.ntmps76;go_wp2_with fail;refine (implEntry_any gv next _ n c k L _ x0 x1 x2 x3 es c2 _ (H.vc0 3 rfl) (H.vc1 3 rfl) (H.vrd 3 rfl) HF.out HP.out hs (hk.ow H h0)).mono ?_;rintro e w1 ⟨rfl, f1⟩;replace H := H.go f1;clear av1 an0 an1 an2 an3 an4 qc2;clear f1
 cases hat : dirAt es (toB c2) with
 | some j =>
   obtain ⟨e, t, h1, h2, h3⟩ := entZ_some (s := c2) HV.out HX.out hat;rw [h3];have ht0 : decide ((t : Int) ≥ 0) = true := by simp
   have HD := Lib.hid hat;clear hat h1 h2 h3;obtain ⟨s0, s1, s2, s3, f0, f1, f2, f3, H9⟩ := H.four 1 (.int .i64 3) (.int .i64 0) (.string ⟨#[]⟩) (.string ⟨#[]⟩) rfl;have HM := Lib.hid (show makeP next (nodes L) k (c0, c1, c2, c3, c4, c5) = ((next, nodes L), resC 3) by rw [makeP, HE.out, if_pos (by rw [HD.out]; rfl)]);clear H;go_wp2_with fail;(try simp only [Exit.inBlock, Exit.then]); refine bodyPost_ret (results_cell_row rfl _ _ _ _ _ _ _ rfl (H9.blk 1 rfl) Tryz.underlying33 rfl (by kernel_rfl)) rfl ?_;exact DidV.mk HM.out 3 H9 rfl
 | none =>
   rw [entZ_none (next := next) (by rw [HE.out]; exact hat)];have HD := Lib.hid hat;clear hat;have u4 := H.fa 0 4 rfl rfl;have v0 := H.vc0 3 rfl;have v1 := H.vc1 3 rfl;have qc0 := H.fa 2 0 rfl rfl;have qc2 := H.fa 2 2 rfl rfl
   by_cases ha : es.length = 12
   ·have ha1 : ((es.length : Int) == 12) = true := by simp; omega
    have HA := Lib.hid ha;clear ha;obtain ⟨s0, s1, s2, s3, f0, f1, f2, f3, H9⟩ := H.four 1 (.int .i64 7) (.int .i64 0) (.string ⟨#[]⟩) (.string ⟨#[]⟩) rfl;have HM := Lib.hid (show makeP next (nodes L) k (c0, c1, c2, c3, c4, c5) = ((next, nodes L), resC 7) by rw [makeP, HE.out, if_neg (by rw [HD.out]; simp), if_pos (by exact .inl (by have := HA.out; omega))]);clear H;go_wp2_with fail;(try simp only [Exit.inBlock, Exit.then]); refine bodyPost_ret (results_cell_row rfl _ _ _ _ _ _ _ rfl (H9.blk 1 rfl) Tryz.underlying33 rfl (by kernel_rfl)) rfl ?_;exact DidV.mk HM.out 3 H9 rfl
   have ha1 : ((es.length : Int) == 12) = false := by simp; omega
   by_cases hb : n = 16
   ·have hb1 : ((n : Int) == 16) = true := by simp; omega
    have HB := Lib.hid hb;clear hb;obtain ⟨s0, s1, s2, s3, f0, f1, f2, f3, H9⟩ := H.four 1 (.int .i64 7) (.int .i64 0) (.string ⟨#[]⟩) (.string ⟨#[]⟩) rfl;have HM := Lib.hid (show makeP next (nodes L) k (c0, c1, c2, c3, c4, c5) = ((next, nodes L), resC 7) by rw [makeP, HE.out, if_neg (by rw [HD.out]; simp), if_pos (by exact .inr (.inl (by rw [nodes_len, HLN.out]; have := HB.out; omega)))]);clear H;go_wp2_with fail;(try simp only [Exit.inBlock, Exit.then]); refine bodyPost_ret (results_cell_row rfl _ _ _ _ _ _ _ rfl (H9.blk 1 rfl) Tryz.underlying33 rfl (by kernel_rfl)) rfl ?_;exact DidV.mk HM.out 3 H9 rfl
   have hb1 : ((n : Int) == 16) = false := by simp; omega
   by_cases hc : next = 100000
   ·have hc1 : (next == 100000) = true := by simpa using hc
    have HC := Lib.hid hc;clear hc;obtain ⟨s0, s1, s2, s3, f0, f1, f2, f3, H9⟩ := H.four 1 (.int .i64 7) (.int .i64 0) (.string ⟨#[]⟩) (.string ⟨#[]⟩) rfl;have HM := Lib.hid (show makeP next (nodes L) k (c0, c1, c2, c3, c4, c5) = ((next, nodes L), resC 7) by rw [makeP, HE.out, if_neg (by rw [HD.out]; simp), if_pos (by exact .inr (.inr (by have := HC.out; omega)))]);clear H;go_wp2_with fail;(try simp only [Exit.inBlock, Exit.then]); refine bodyPost_ret (results_cell_row rfl _ _ _ _ _ _ _ rfl (H9.blk 1 rfl) Tryz.underlying33 rfl (by kernel_rfl)) rfl ?_;exact DidV.mk HM.out 3 H9 rfl
   have hc1 : (next == 100000) = false := by simpa using hc
   have hw : IntKind.i64.wrap (next + 1) = next + 1 := IntWalk.i64_in _ (by omega);have HID := Lib.hid (show inB next 1 100000 = true from inB_iff.2 (by omega));have h12 : es.length < 12 := by omega
   have h16 : n < 16 := by omega
   obtain ⟨kd, hkd⟩ : ∃ z : Int, z = (if c0 = 2 then 2 else 1) := ⟨_, rfl⟩;have HKD := Lib.hid hkd;clear hkd;have HM := Lib.hid (show makeP next (nodes L) k (c0, c1, c2, c3, c4, c5) = ((next + 1, nEnts (nodes L) k (addD es c2 next).1 ++ [(next, kd, 1, ⟨#[]⟩, [])]), (0, next, ⟨#[]⟩, ⟨#[]⟩)) by rw [makeP, HE.out, if_neg (by rw [HD.out]; simp), if_neg (by rw [nodes_len, HLN.out]; omega), HKD.out]);clear ha hb hc;have ff := H.vfree 3 rfl 0;have H2 := H.vput0 3 rfl (next + 1);have g2 := H2.fa 2 2 rfl rfl
   by_cases hq : c0 = 2
   ·skip
    have hz : (c0 == 2) = true := by simpa using hq
    have HKD2 := Lib.hid (show kd = 2 by rw [HKD.out, if_pos hq]);clear hq;go_wp2_with fail;refine (implVAdd_any gv (next + 1) _ n c k L _ x0 x1 x2 x3 es c2 next _ (H2.vok 3 rfl) HF.out HP.out hs hn HD.out HID.out h12 (hk.ow H2 h0)).mono ?_;rintro e w2 ⟨rfl, vn, K⟩;have H3 := H2.vturn 3 rfl K;clear K g2 ff H2 H v0 v1 qc0 qc2 u4;obtain ⟨L1, hL1⟩ : ∃ z, z = L.set k (vn, x0, x1, x2, x3, (addD es c2 next).1) := ⟨_, rfl⟩;have H4 : Hp _ w w2 _ := H3;clear H3;simp only [List.set_cons_zero, List.set_cons_succ] at H4;rw [← hL1] at H4;have HL1 := Lib.hid hL1;clear hL1;have H5 := ((H4.front 3 rfl).vopen).nlen (show n = L1.length by rw [HL1.out, List.length_set, HLN.out]);have z1 := H5.at_ 0 rfl (j := 1) rfl;have HU := Lib.hid (show L1.length = n by rw [HL1.out, List.length_set, HLN.out]);have hu : L1.length ≤ 16 := by rw [HU.out]; omega
    go_wp2_with (at_builtin; refine wp_appL (f := cNV) (H5) rfl _ _ _ rfl Tryz.underlying29 infoInode rfl (by decide) 1 _ _ rfl rfl _ _ (((.slice none 0 0, (next, 2, 1, ⟨#[]⟩, [])) : Value × Nod)) rfl (by simp) rfl (by simp [cNV, Value.oneCell']) (by first | (simp only [maxLen]; omega) | (simp [maxLen]; done) | (simp [maxLen]; omega)) (by first | omega | (simp; done) | (simp; omega)) ?_)
    intro v2 w6 H6;obtain ⟨C9, q9, hv9⟩ := H6.shape 1 rfl;have p0 := H6.at_ 0 rfl (j := 1) rfl;have p1 := H6.free 0 rfl 1;have H := Hp.vgrow (L := L1) (next, 2, 1, ⟨#[]⟩, []) H6 rfl hv9 (by simp);clear H4 H5 H6 z1;subst hv9;have HMM := Lib.hid (show makeP next (nodes L) k (c0, c1, c2, c3, c4, c5) = ((next + 1, nodes (L1 ++ [((.slice none 0 0, (next, 2, 1, ⟨#[]⟩, [])) : Value × Nod)])), (0, next, ⟨#[]⟩, ⟨#[]⟩)) by rw [HM.out, nodes_app, HL1.out, nodes_set, nEnts_eq HX.out, HKD2.out]);have s0 := H.fa 2 0 rfl rfl;have s1 := H.fa 2 1 rfl rfl;have s2 := H.fa 2 2 rfl rfl;have s3 := H.fa 2 3 rfl rfl;have fs0 := H.bfree 2 rfl 0;have fs1 := H.bfree 2 rfl 1;have fs2 := H.bfree 2 rfl 2;have fs3 := H.bfree 2 rfl 3;have H9 := H.blays 2 rfl [.int .i64 0, .int .i64 next, .string ⟨#[]⟩, .string ⟨#[]⟩] rfl;simp only [layW] at H9;clear H;go_wp2_with fail;(try simp only [Exit.inBlock, Exit.then]); refine bodyPost_ret (results_cell_row rfl _ _ _ _ _ _ _ rfl (H9.blk 2 rfl) Tryz.underlying33 rfl (by kernel_rfl)) rfl ?_;exact DidV.mk HMM.out 0 H9 rfl
   ·skip
    have hz : (c0 == 2) = false := by simpa using hq
    have HKD2 := Lib.hid (show kd = 1 by rw [HKD.out, if_neg hq]);clear hq;go_wp2_with fail;refine (implVAdd_any gv (next + 1) _ n c k L _ x0 x1 x2 x3 es c2 next _ (H2.vok 3 rfl) HF.out HP.out hs hn HD.out HID.out h12 (hk.ow H2 h0)).mono ?_;rintro e w2 ⟨rfl, vn, K⟩;have H3 := H2.vturn 3 rfl K;clear K g2 ff H2 H v0 v1 qc0 qc2 u4;obtain ⟨L1, hL1⟩ : ∃ z, z = L.set k (vn, x0, x1, x2, x3, (addD es c2 next).1) := ⟨_, rfl⟩;have H4 : Hp _ w w2 _ := H3;clear H3;simp only [List.set_cons_zero, List.set_cons_succ] at H4;rw [← hL1] at H4;have HL1 := Lib.hid hL1;clear hL1;have H5 := ((H4.front 3 rfl).vopen).nlen (show n = L1.length by rw [HL1.out, List.length_set, HLN.out]);have z1 := H5.at_ 0 rfl (j := 1) rfl;have HU := Lib.hid (show L1.length = n by rw [HL1.out, List.length_set, HLN.out]);have hu : L1.length ≤ 16 := by rw [HU.out]; omega
    go_wp2_with (at_builtin; refine wp_appL (f := cNV) (H5) rfl _ _ _ rfl Tryz.underlying29 infoInode rfl (by decide) 1 _ _ rfl rfl _ _ (((.slice none 0 0, (next, 1, 1, ⟨#[]⟩, [])) : Value × Nod)) rfl (by simp) rfl (by simp [cNV, Value.oneCell']) (by first | (simp only [maxLen]; omega) | (simp [maxLen]; done) | (simp [maxLen]; omega)) (by first | omega | (simp; done) | (simp; omega)) ?_)
    intro v2 w6 H6;obtain ⟨C9, q9, hv9⟩ := H6.shape 1 rfl;have p0 := H6.at_ 0 rfl (j := 1) rfl;have p1 := H6.free 0 rfl 1;have H := Hp.vgrow (L := L1) (next, 1, 1, ⟨#[]⟩, []) H6 rfl hv9 (by simp);clear H4 H5 H6 z1;subst hv9;have HMM := Lib.hid (show makeP next (nodes L) k (c0, c1, c2, c3, c4, c5) = ((next + 1, nodes (L1 ++ [((.slice none 0 0, (next, 1, 1, ⟨#[]⟩, [])) : Value × Nod)])), (0, next, ⟨#[]⟩, ⟨#[]⟩)) by rw [HM.out, nodes_app, HL1.out, nodes_set, nEnts_eq HX.out, HKD2.out]);have s0 := H.fa 2 0 rfl rfl;have s1 := H.fa 2 1 rfl rfl;have s2 := H.fa 2 2 rfl rfl;have s3 := H.fa 2 3 rfl rfl;have fs0 := H.bfree 2 rfl 0;have fs1 := H.bfree 2 rfl 1;have fs2 := H.bfree 2 rfl 2;have fs3 := H.bfree 2 rfl 3;have H9 := H.blays 2 rfl [.int .i64 0, .int .i64 next, .string ⟨#[]⟩, .string ⟨#[]⟩] rfl;simp only [layW] at H9;clear H;go_wp2_with fail;(try simp only [Exit.inBlock, Exit.then]); refine bodyPost_ret (results_cell_row rfl _ _ _ _ _ _ _ rfl (H9.blk 2 rfl) Tryz.underlying33 rfl (by kernel_rfl)) rfl ?_;exact DidV.mk HMM.out 0 H9 rfl
end Go.Proofs.YtllonpbhgbhogaaGreatDoor
namespace Go.Proofs.YtllonpbhgbhogaaGreatDoor
open Go.RowKit
set_option maxRecDepth 100000 in
set_option maxHeartbeats 16000000 in
theorem implLink_any (gv : Nat) (next : Int) (A : Option Addr) (n c k t : Nat) (L : List (Value × Nod)) (v : Value) (x0 x1 x2 : Int) (x3 : ByteArray) (xs : List EntT) (vt : Value) (t0 t1 t2 : Int) (t3 : ByteArray) (es : List EntT) (c0 c1 : Int) (c2 : ByteArray) (c3 : Int) (c4 c5 : ByteArray) (w : World) (h : (volOb gv next A n c L).ok w) (hv : VW next (nodes L)) (hp : L[k]? = some (v, x0, x1, x2, x3, xs)) (hx2 : 0 ≤ x2) (hx3 : x2 ≤ 1048576) (hat : atN (nodes L) c3 = some t) (hq : L[t]? = some (vt, t0, t1, t2, t3, es)) (ht1 : t1 = 2) (hs : c4.size ≤ 16777216) (hn : nameB (toB c4) = true) (h0 : 0 ∉ Row.blocks (volRs gv next A n c L)) (hk : KT w) :
 Calls Tryz.prog 80 #[.pointer (some ⟨gv, 0, none⟩), .int .i64 (k : Int), .agg #[.int .i64 c0, .int .i64 c1, .string c2, .int .i64 c3, .string c4, .string c5]] w (DidV gv next A n c L w (linkP next (nodes L) t k (x0, x1, x2, x3, xs) (c0, c1, c2, c3, c4, c5))) := by
 have H := Hp.start_many h;have hLn : L.length = n := (H.vrd 0 rfl).len;have hkn : k < n := by rw [← hLn]; exact (List.getElem?_eq_some_iff.1 hp).1
 obtain ⟨g, rfl⟩ := H.vform 0 rfl (by omega);have htn : t < n := by rw [← hLn]; exact (List.getElem?_eq_some_iff.1 hq).1
 have hn16 : n ≤ 16 := by rw [← hLn]; exact hv.fit.few.1
 have hd := hv.fit.few.2.1 _ (List.mem_of_getElem? hq);simp only at hd;have hed := hd.len;obtain ⟨B, d, e1, _⟩ := rowE_shape (((H.vopen.ok _ (List.mem_of_getElem? (i := 2) rfl)).1 (rowE _) (List.mem_map_of_mem (List.mem_of_getElem? hq))));simp only at e1;subst e1;have HLN := Lib.hid hLn;have HP := Lib.hid hp;have HQ := Lib.hid hq;have HV := Lib.hid hv;have HE := Lib.hid (show entsOf (nodes L) t = es from entsOf_eq (nodes_at hq));have HX := Lib.hid (nodes_at hq);have HXX := Lib.hid (nodes_at hp);have HF := Lib.hid hv.fit;have HAT := Lib.hid (show atZ (nodes L) c3 = (t : Int) by rw [atZ, hat]);have HT1 := Lib.hid ht1;have HID := Lib.hid (show inB x0 1 100000 = true from hv.inB_id (List.mem_of_getElem? (nodes_at hp)));have HKT := Lib.hid (show x1 ≠ 2 → k ≠ t from fun hne e => by subst e; rw [hp] at hq; injection hq with hq; injection hq with _ hq; injection hq with _ hq; injection hq with hq _; exact hne (hq.trans ht1));clear h hp hq hv hLn hd hat ht1;replace H := (H.lay_ 37 [.int .i64 c0, .int .i64 c1, .string c2, .int .i64 c3, .string c4, .string c5] rfl).lay_ 33 [.int .i64 0, .int .i64 0, .string ⟨#[]⟩, .string ⟨#[]⟩] (g := w.heap.size + 1) (by simp);replace H := H.drew;have v0 := H.vc0 2 rfl;have v1 := H.vc1 2 rfl;have qc3 := H.fa 1 3 rfl rfl;go_enter Tryz.func80, Tryz.ntmps80;go_wp2_with fail;refine wp_region_held_drew (S := fun w' => w'.cell? ⟨gv, 0, none⟩ = some (.int .i64 next) ∧ w'.cell? ⟨gv, 1, none⟩ = some (.slice (some ⟨g, 0, none⟩) n c) ∧ w'.cell? ⟨w.heap.size, 3, none⟩ = some (.int .i64 c3)) (by kernel_rfl) ?_ (fun hHeld => ?_)
 ·exact ⟨v0, v1, qc3⟩
 refine wpT 0 ?_;refine wpT 1 ?_;refine wpT 2 ?_;refine wpT 3 ?_;refine wpT 4 ?_;refine wpC 5 fun K hK => ?_;go_simp;refine (implAt_any next _ n c L c3 _ (H.vrd 2 rfl) (by omega)).mono ?_;rintro e w5 ⟨rfl, f5⟩;rw [HAT.out];have H5 := H.go f5;go_wp2_with fail;refine hK.out _ _ ?_ fun hHeld => ?_
 ·exact ⟨H5.vc0 2 rfl, H5.vc1 2 rfl, H5.fa 1 3 rfl rfl⟩
 clear hK K;(try simp only [sX, Act.put]);refine wpT 6 ?_;refine wpAnyH_done (by kernel_rfl) ?_ _;clear v0 v1 qc3;replace H := H5;clear H5 f5;have v0 := H.vc0 2 rfl;have v1 := H.vc1 2 rfl;have qc4 := H.fa 1 4 rfl rfl;have n1 := H.vnc 2 rfl HP.out (r := 1) rfl
 by_cases hx : x1 = 2
 ·have hxa : (x1 == 2) = true := by simpa using hx
  have HX1 := Lib.hid hx;clear hx;obtain ⟨s0, s1, s2, s3, f0, f1, f2, f3, H9⟩ := H.four 0 (.int .i64 5) (.int .i64 0) (.string ⟨#[]⟩) (.string ⟨#[]⟩) rfl;have HM := Lib.hid (show linkP next (nodes L) t k (x0, x1, x2, x3, xs) (c0, c1, c2, c3, c4, c5) = ((next, nodes L), resC 5) by rw [linkP, if_pos HX1.out]);clear H;go_wp2_with fail;(try simp only [Exit.inBlock, Exit.then]); refine bodyPost_ret (results_cell_row rfl _ _ _ _ _ _ _ rfl (H9.blk 0 rfl) Tryz.underlying33 rfl (by kernel_rfl)) rfl ?_;exact DidV.mk HM.out 2 H9 rfl
 have hxa : (x1 == 2) = false := by simpa using hx
 have HX1 := Lib.hid hx;have HKT2 := Lib.hid (HKT.out hx);clear hx;go_wp2_with fail;refine (implEntry_any gv next _ n c t L _ t0 t1 t2 t3 es c4 _ (H.vc0 2 rfl) (H.vc1 2 rfl) (H.vrd 2 rfl) HF.out HQ.out hs (hk.ow H h0)).mono ?_;rintro e w6 ⟨rfl, f6⟩;replace H := H.go f6;clear v0 v1 qc4 n1;clear f6
 cases hat : dirAt es (toB c4) with
 | some j =>
   obtain ⟨e, tt, h1, h2, h3⟩ := entZ_some (s := c4) HV.out HX.out hat;rw [h3];have ht0 : decide ((tt : Int) ≥ 0) = true := by simp
   have HD := Lib.hid hat;clear hat h1 h2 h3;obtain ⟨s0, s1, s2, s3, f0, f1, f2, f3, H9⟩ := H.four 0 (.int .i64 3) (.int .i64 0) (.string ⟨#[]⟩) (.string ⟨#[]⟩) rfl;have HM := Lib.hid (show linkP next (nodes L) t k (x0, x1, x2, x3, xs) (c0, c1, c2, c3, c4, c5) = ((next, nodes L), resC 3) by rw [linkP, if_neg HX1.out, HE.out, if_pos (by rw [HD.out]; rfl)]);clear H;go_wp2_with fail;(try simp only [Exit.inBlock, Exit.then]); refine bodyPost_ret (results_cell_row rfl _ _ _ _ _ _ _ rfl (H9.blk 0 rfl) Tryz.underlying33 rfl (by kernel_rfl)) rfl ?_;exact DidV.mk HM.out 2 H9 rfl
 | none =>
   rw [entZ_none (next := next) (by rw [HE.out]; exact hat)];have HD := Lib.hid hat;clear hat;have v0 := H.vc0 2 rfl;have v1 := H.vc1 2 rfl;have m4 := H.vnc 2 rfl HQ.out (r := 4) rfl
   by_cases ha : es.length = 12
   ·have ha1 : ((es.length : Int) == 12) = true := by simp; omega
    have HA := Lib.hid ha;clear ha;obtain ⟨s0, s1, s2, s3, f0, f1, f2, f3, H9⟩ := H.four 0 (.int .i64 7) (.int .i64 0) (.string ⟨#[]⟩) (.string ⟨#[]⟩) rfl;have HM := Lib.hid (show linkP next (nodes L) t k (x0, x1, x2, x3, xs) (c0, c1, c2, c3, c4, c5) = ((next, nodes L), resC 7) by rw [linkP, if_neg HX1.out, HE.out, if_neg (by rw [HD.out]; simp), if_pos (by have := HA.out; omega)]);clear H;go_wp2_with fail;(try simp only [Exit.inBlock, Exit.then]); refine bodyPost_ret (results_cell_row rfl _ _ _ _ _ _ _ rfl (H9.blk 0 rfl) Tryz.underlying33 rfl (by kernel_rfl)) rfl ?_;exact DidV.mk HM.out 2 H9 rfl
   have ha1 : ((es.length : Int) == 12) = false := by simp; omega
   have h12 : es.length < 12 := by omega
   clear ha;have HM := Lib.hid (show linkP next (nodes L) t k (x0, x1, x2, x3, xs) (c0, c1, c2, c3, c4, c5) = ((next, nLinks (nEnts (nodes L) t (addD es c4 x0).1) k (x2 + 1)), resC 0) by rw [linkP, if_neg HX1.out, HE.out, if_neg (by rw [HD.out]; simp), if_neg (by omega)]);go_wp2_with fail;clear v0 v1 m4;replace H := H.drew;have v1 := H.vc1 2 rfl;have qc4 := H.fa 1 4 rfl rfl;have n0 := H.vnc 2 rfl HP.out (r := 0) rfl;simp only [Nat.add_zero] at n0;refine wp_region_held_drew (S := fun w' => w'.cell? ⟨gv, 1, none⟩ = some (.slice (some ⟨g, 0, none⟩) n c) ∧ w'.cell? ⟨w.heap.size, 4, none⟩ = some (.string c4) ∧ w'.cell? ⟨g, k * 5, none⟩ = some (.int .i64 x0)) (by kernel_rfl) ?_ (fun hHeld => ?_)
   ·exact ⟨v1, qc4, n0⟩
   refine wpT 0 ?_;refine wpT 1 ?_;refine wpT 2 ?_;refine wpT 3 ?_;refine wpT 4 ?_;refine wpT 5 ?_;refine wpT 6 ?_;refine wpT 7 ?_;refine wpT 8 ?_;refine wpT 9 ?_;refine wpT 10 ?_;refine wpT 11 ?_;refine wpC 12 fun K hK => ?_;go_simp;refine (implVAdd_any gv next _ n c t L _ t0 t1 t2 t3 es c4 x0 _ (H.vok 2 rfl) HF.out HQ.out hs hn HD.out HID.out h12 (hk.ow H h0)).mono ?_;rintro e w7 ⟨rfl, vn, K⟩;have H7 := H.vturn 2 rfl K;clear K;have HP7 := Lib.hid (show (L.set t (vn, t0, t1, t2, t3, (addD es c4 x0).1))[k]? = some (v, x0, x1, x2, x3, xs) by rw [List.getElem?_set_ne (fun e => HKT2.out e.symm)]; exact HP.out);go_wp2_with fail;refine hK.out _ _ ?_ fun hHeld => ?_
   ·exact ⟨H7.vc1 2 rfl, H7.fa 1 4 rfl rfl, H7.vnc 2 rfl HP7.out (r := 0) rfl⟩
   clear hK K;(try simp only [sX, Act.put]);refine wpAnyH_done (by kernel_rfl) ?_ _;clear v1 qc4 n0;replace H := H7;clear H7;have hw : IntKind.i64.wrap (x2 + 1) = x2 + 1 := IntWalk.i64_in _ (by omega);have v1 := H.vc1 2 rfl;have n2 := H.vnc 2 rfl HP7.out (r := 2) rfl;have ff := H.vnfree 2 rfl (k * 5 + 2);replace H := H.vnset (u := .int .i64 (x2 + 1)) (p' := (v, x0, x1, x2 + 1, x3, xs)) 2 rfl HP7.out (r := 2) (by omega) rfl rfl;obtain ⟨s0, s1, s2, s3, f0, f1, f2, f3, H9⟩ := H.four 0 (.int .i64 0) (.int .i64 0) (.string ⟨#[]⟩) (.string ⟨#[]⟩) rfl;have HM := Lib.hid (show linkP next (nodes L) t k (x0, x1, x2, x3, xs) (c0, c1, c2, c3, c4, c5) = ((next, nodes ((L.set t (vn, t0, t1, t2, t3, (addD es c4 x0).1)).set k (v, x0, x1, x2 + 1, x3, xs))), resC 0) by rw [HM.out, nodes_set, nodes_set, nEnts_eq HX.out, nLinks, List.getElem?_set_ne (fun e => HKT2.out e.symm), HXX.out]);clear H;go_wp2_with fail;(try simp only [Exit.inBlock, Exit.then]); refine bodyPost_ret (results_cell_row rfl _ _ _ _ _ _ _ rfl (H9.blk 0 rfl) Tryz.underlying33 rfl (by kernel_rfl)) rfl ?_;exact DidV.mk HM.out 2 H9 rfl
end Go.Proofs.YtllonpbhgbhogaaGreatDoor
namespace Go.Proofs.YtllonpbhgbhogaaGreatDoor
open Go.RowKit
theorem named_le (i : Int) (m : Nat) : ∀ (l : List Nod), (∀ x ∈ l, x.2.2.2.2.length ≤ m) → namedN l i ≤ m * l.length
 | [], _ => by simp [namedN]
 | x :: l, h => by
   rw [namedN_cons, entsN_ids];have h1 : (idsE x.2.2.2.2).count i ≤ m := Nat.le_trans List.count_le_length (by rw [idsE, List.length_map]; exact h x List.mem_cons_self);have h2 := named_le i m l fun y hy => h y (List.mem_cons_of_mem _ hy);rw [List.length_cons, Nat.mul_succ]; omega
theorem VOk.links {next : Int} {l : List Nod} (h : VOk next l) {x : Nod} (hx : x ∈ l) : 0 ≤ x.2.2.1 ∧ x.2.2.1 ≤ 1048576 := by
 rcases h.lnk x hx with h1 | h1
 ·obtain ⟨r, hr, hr1, hr2⟩ := h.root_mem
  have := srt_inj h.srt hx hr (h1.trans hr1.symm);subst this;have := h.one x hx hr2;omega
 ·have h2 := named_le x.1 12 l fun y hy => (h.toVW.fit.2 y hy).len
  have := h.len;have h3 : 12 * l.length ≤ 192 := by omega
  omega
theorem VOk.links1 {next : Int} {l : List Nod} (h : VOk next l) {x y : Nod} (hx : x ∈ l) (hy : y ∈ l) {e : EntT} (he : e ∈ y.2.2.2.2) (hi : e.2.2.2 = x.1) : 1 ≤ x.2.2.1 := by
 have h1 := (h.ent y hy e he).1
 rcases h.lnk x hx with h2 | h2
 ·exact absurd (hi.trans h2) h1
 ·have := named_pos.2 ⟨y.1, (⟨y, hy, rfl, e, he, hi⟩ : Kid l y.1 x.1)⟩
  omega
theorem at_self {l : List Nod} {k : Nat} {x : Nod} (hs : Srt l) (hx : l[k]? = some x) : atN l x.1 = some k := by
 have h1 := atN_is.2 ⟨x, List.mem_of_getElem? hx, rfl⟩;obtain ⟨j, hj⟩ := Option.isSome_iff_exists.1 h1;obtain ⟨y, hy, e⟩ := at_of hj;rw [hj];obtain ⟨hjl, ej⟩ := List.getElem?_eq_some_iff.1 hy;obtain ⟨hkl, ek⟩ := List.getElem?_eq_some_iff.1 hx
 rcases Nat.lt_trichotomy j k with h2 | h2 | h2
 ·have := (List.pairwise_iff_getElem.1 hs) j k hjl hkl h2
  rw [ej, ek, e] at this; omega
 ·rw [h2]
 ·have := (List.pairwise_iff_getElem.1 hs) k j hkl hjl h2
  rw [ej, ek, e] at this; omega
theorem atN_ids : ∀ {l m : List Nod} (h : l.map (·.1) = m.map (·.1)) (i : Int), atN l i = atN m i := by
 intro l m h i;have e : ∀ k : List Nod, atN k i = (k.map (·.1)).findIdx? (fun z => z == i) := fun k => by rw [List.findIdx?_map]; rfl
 rw [e, e, h]
theorem set_get {L : List (Value × Nod)} {t k : Nat} {vt vn vk : Value} {t0 t1 t2 k0 k1 k2 : Int} {t3 k3 : ByteArray} {es es1 ks : List EntT} (hq : L[t]? = some (vt, t0, t1, t2, t3, es)) (hp : L[k]? = some (vk, k0, k1, k2, k3, ks)) :
 ∃ v' es', (L.set t (vn, t0, t1, t2, t3, es1))[k]? = some (v', k0, k1, k2, k3, es') ∧ es' = (if k = t then es1 else ks) := by
 by_cases h : k = t
 ·subst h
  rw [hp] at hq;injection hq with hq;injection hq with h1 hq; injection hq with h2 hq; injection hq with h3 hq; injection hq with h4 hq; injection hq with h5 h6;subst h1 h2 h3 h4 h5 h6;exact ⟨vn, es1, List.getElem?_set_self (List.getElem?_eq_some_iff.1 hp).1, by rw [if_pos rfl]⟩
 ·exact ⟨vk, ks, by rw [List.getElem?_set_ne (fun e => h e.symm)]; exact hp, by rw [if_neg h]⟩
section
variable {W : List Nat} {w0 w : World} {l : List Ob} {gv g : Nat} {next : Int} {A : Option Addr} {n c : Nat} {L : List (Value × Nod)}
theorem Hp.vents (h : Hp W w0 w l) (i : Nat) (hi : l[i]? = some (volOb gv next A n c L)) {k m d : Nat} {B : Option Addr} {x : Nod} (hp : L[k]? = some (.slice B m d, x)) : m = x.2.2.2.2.length ∧ Rd w B x.2.2.2.2.length 4 (x.2.2.2.2.flatMap cEnt) ∧ (B = none → d = 0) := by
 have hm := List.mem_of_getElem? hp;obtain ⟨B', d', e, hr⟩ := rowE_shape (((h.front i hi).vopen.ok _ (List.mem_of_getElem? (i := 2) rfl)).1 (rowE _) (List.mem_map_of_mem hm));simp only at e;injection e with e1 e2 e3;subst e1 e2 e3;exact ⟨rfl, hr, fun hB => by subst hB; exact h.vnil i hi hm rfl⟩
theorem Hp.vslice (h : Hp W w0 w l) (i : Nat) (hi : l[i]? = some (volOb gv next A n c L)) {k : Nat} {v : Value} {x : Nod} (hp : L[k]? = some (v, x)) : ∃ B d, v = .slice B x.2.2.2.2.length d := by
 obtain ⟨B', d', e, hr⟩ := rowE_shape (((h.front i hi).vopen.ok _ (List.mem_of_getElem? (i := 2) rfl)).1 (rowE _) (List.mem_map_of_mem (List.mem_of_getElem? hp)));exact ⟨B', d', e⟩
theorem Hp.vnz (h : Hp W w0 w l) (i : Nat) (hi : l[i]? = some (volOb gv next A n c L)) {k : Nat} {p : Value × Nod} (hp : L[k]? = some p) : k < n := by
 have := (h.vrd i hi).len;have := (List.getElem?_eq_some_iff.1 hp).1;omega
end
end Go.Proofs.YtllonpbhgbhogaaGreatDoor