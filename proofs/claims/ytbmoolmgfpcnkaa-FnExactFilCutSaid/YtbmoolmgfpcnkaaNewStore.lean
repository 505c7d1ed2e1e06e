/-
  A new store: the program and the reference make the same one.
-/
import Derived.Test.YtbmoolmgfpcnkaaMark
import Derived.Test.YtbmoolmgfpcnkaaStore
import Derived.Deep.RegionLaw
import Derived.Maps.AppendAt
namespace Go.Proofs.Ytbmoolmgfpcnkaa
open Go.RowKit

section
variable {P : Program} {ops : Array Oper} {o : Oper} {a : Act} {Q : Exit → Act → World → Prop} {E : TypeId} {z : Value} {bytes : Nat} {W : List Nat} {w0 w : World} {l : List Ob}
/-- 'append(s, x)' as a step of a region that draws its order. -/
theorem step_appM {α : Type} {f : α → Value} {K : Act → World → Prop} {E0 : Prop} (H : Hp W w0 w l) (hgd : o.guard = none) (s x : Operand) (t : TypeId) (ho : o.op = .call { callee := .builtin .append, args := #[s, x], argTypes := #[t, t] })
    (ht : P.underlying t = some (.slice E)) (hI : (P.info? E).map (fun i => (i.zero, i.size, i.bytes)) = some (some z, 1, bytes)) (hzs : z.cells.size = 1)
    (i : Nat) (v : Value) (L : List α) (hrow : l[i]? = some (.row E 1 v L.length (L.map f))) (hs : a.eval s = v) (g : Nat) (T : TypeId) (y : α) (hx : a.eval x = .slice (some ⟨g, 0, none⟩) 1 1) (hg : g = w.heap.size)
    (h1 : (f y).oneCell' = true) (h63 : L.length + 1 ≤ maxLen) (hbytes : (L.length + 1) * bytes ≤ 140737488355328)
    (h : ∀ v' w', Hp W w0 w' (l.set i (.row E 1 v' (L ++ [y]).length ((L ++ [y]).map f))) → K (a.put o.dst v') w') :
    if Region.wanted o (yielded ops a.tmps) = true then Oper.wp P o a (w.alloc (.cells #[f y] T)) K Q else E0 := by
  subst hg
  rw [if_pos (by simp [Region.wanted, hgd])]
  obtain ⟨inf, hi, hz, hsize, hby⟩ := info_parts hI
  have HA := H.al (.cells #[f y] T)
  obtain ⟨v', w', hr, h2, h3, _, h5⟩ := run_append_own_at (P := P) (w.alloc (.cells #[f y] T)) 0 t o.type E inf z 1 bytes ht hi hz hsize hby hzs Nat.one_pos v L.length (L.map f) (HA.row i hrow) ⟨w.heap.size, 0, none⟩ 1 1 [f y] (by simp) (by simpa using news_at w #[f y] T) (by simpa using h1) h63 hbytes (Nat.zero_le _)
  have hres := h v' w' (by
    have h6 := HA.grow i hrow h3 h2 (h5.imp id fun e g hg => by rw [e] at hg; injection hg with hg; omega)
    rwa [show L.map f ++ [f y] = (L ++ [y]).map f from by simp, show L.length + 1 = (L ++ [y]).length from by simp] at h6)
  unfold Oper.wp execOp
  simp only [ho, resolve, invoke, builtin, Sem.run_bind, Sem.run_pure, Result.andThen_ok, List.map_toArray, List.map_cons, List.map_nil, hs, hx, hr]
  exact hres
end

def nilSt : List Value := [.slice none 0 0, .slice none 0 0]
def newBits : List Bool := List.replicate 24 false
def newData (n : Nat) : List ByteArray := List.replicate n (ofB (zB 4))
theorem newData_succ (n : Nat) : newData n ++ [ofB (zB 4)] = newData (n + 1) := by simp [newData, List.replicate_succ']
theorem newData_len (n : Nat) : (newData n).length = n := by simp [newData]

def NewS (w : World) (e : Ending) (w' : World) : Prop := ∃ A c B d, e = .returned (.agg #[.slice A 24 c, .slice B 24 d]) ∧ Hp [] w w' [.row 9 1 (.slice B 24 d) 24 ((newData 24).map Value.string), .row 4 1 (.slice A 24 c) 24 (newBits.map Value.bool)]

set_option maxRecDepth 100000 in
set_option maxHeartbeats 4000000 in
theorem specNewStore_any (w : World) : Calls Try.prog 30 #[] w fun e w' => NewS w e w' := by
  have H0 := (Hp.start w).lay_ 31 nilSt rfl
  go_enter Try.func30, Try.ntmps30
  go_wp2_with (at_make; refine wp_mk (H0) rfl _ _ _ rfl Try.underlying22 infoBool rfl rfl (24) _ _ _ _ rfl rfl rfl rfl (by first | omega | (simp; done) | (simp; omega)) (by first | (simp only [maxLen]; omega) | (simp [maxLen]; done) | (simp [maxLen]; omega)) ?_)
  intro w1 H1_
  have H1 : Hp [] w w1 [.row 4 1 (.slice (some ⟨w.heap.size + 1, 0, none⟩) 24 24) 24 (newBits.map Value.bool), .blk w.heap.size 31 nilSt] := H1_
  clear H1_
  have H2 := (H1.lay_ 31 [.slice (some ⟨w.heap.size + 1, 0, none⟩) 24 24, .slice none 0 0] rfl)
  have H3 : Hp [] w (w1.alloc (.cells #[.slice (some ⟨w.heap.size + 1, 0, none⟩) 24 24, .slice none 0 0] 31)) [.row 9 1 (.slice none 0 0) 0 ((newData 0).map Value.string), .blk w1.heap.size 31 [.slice (some ⟨w.heap.size + 1, 0, none⟩) 24 24, .slice none 0 0], .row 4 1 (.slice (some ⟨w.heap.size + 1, 0, none⟩) 24 24) 24 (newBits.map Value.bool), .blk w.heap.size 31 nilSt] := H2.nil_ 9 1
  clear H1 H2 H0
  obtain ⟨gs, hgs⟩ : ∃ q, q = w1.heap.size := ⟨_, rfl⟩
  rw [← hgs] at H3
  have HG := Lib.hid hgs
  go_wp2_with fail
  rw [← HG.out]
  clear hgs
  go_loopw [2] (fun j wr => ∃ (k : Nat) (v : Value), k ≤ 24 ∧ j = .int .i64 k ∧ Hp [] w wr [.row 9 1 v k ((newData k).map Value.string), .blk gs 31 [.slice (some ⟨w.heap.size + 1, 0, none⟩) 24 24, v], .row 4 1 (.slice (some ⟨w.heap.size + 1, 0, none⟩) 24 24) 24 (newBits.map Value.bool), .blk w.heap.size 31 nilSt]) (fun j _ => 24 - (intOf j).toNat)
  case atStart => exact ⟨0, _, by omega, rfl, H3⟩
  case round =>
    clear H3
    obtain ⟨k, v, hk, rfl, H⟩ := hrel
    obtain ⟨B, d, rfl⟩ := H.shape 0 rfl
    by_cases hlt : k < 24
    · have s1 := H.drew.bat 1 rfl (j := 1) rfl
      have HN := Lib.hid (newData_succ k)
      have HL := Lib.hid (newData_len k)
      have HH := Lib.hid H
      go_wp2_with fail
      go_region_law (first
        | (refine step_appM (f := Value.string) H5 rfl _ _ _ rfl Try.underlying23 infoString rfl 0 (.slice B k d) (newData k) (by rw [HL.out]; rfl) (by simp [Act.eval]) _ 9 (ofB (zB 4)) (by simp [Act.eval]) rfl rfl (by rw [HL.out]; simp only [maxLen]; omega) (by rw [HL.out]; omega) ?_
           intro v' w6 H6_
           rw [HN.out, newData_len] at H6_
           obtain ⟨B6, d6, rfl⟩ := Hp.shape H6_ 0 rfl
           have c6 := H6_.bat 1 rfl (j := 1) rfl
           have e6 := H6_.bfree 1 rfl 1
           have H7 := Lib.hid (H6_.bput 1 rfl 1 (.slice B6 (k + 1) d6))
           clear H6_)
        | (go_simp
           go_wp2_with (go_at_call 49
                        refine (specZeros_any 4 (by decide) (by decide) _).mono ?_
                        rintro e w5 ⟨rfl, f5⟩
                        have H5 := HH.out.drew.go f5
                        have s5 := H5.bat 1 rfl (j := 1) rfl
                        have s6 := (H5.al (.cells #[.string (ofB (zB 4))] 9)).bat 1 rfl (j := 1) rfl)))
      all_goals go_wp2_with fail
      all_goals go_roundw
      all_goals first
        | exact ⟨k + 1, _, by omega, by go_num, H7.out⟩
        | (simp [intOf]; omega)
    · have hk24 : k = 24 := by omega
      rw [hk24] at H
      have a0 := H.bat 1 rfl (j := 0) rfl
      have a1 := H.bat 1 rfl (j := 1) rfl
      have b0 := H.bat 3 rfl (j := 0) rfl
      have b1 := H.bat 3 rfl (j := 1) rfl
      have e0 := H.bfree 3 rfl 0
      have e1 := H.bfree 3 rfl 1
      have H8 := ((H.bput 3 rfl 0 (.slice (some ⟨w.heap.size + 1, 0, none⟩) 24 24)).bput 3 rfl 1 (.slice B 24 d))
      have c3 := H8.bat 3 rfl (j := 0) rfl
      have c4 := H8.bat 3 rfl (j := 1) rfl
      have H7 := Lib.hid (H8.sub (l' := [.row 9 1 (.slice B 24 d) 24 ((newData 24).map Value.string), .row 4 1 (.slice (some ⟨w.heap.size + 1, 0, none⟩) 24 24) 24 (newBits.map Value.bool)]) (.cons_cons _ (.cons _ (.cons_cons _ (.cons _ .slnil)))))
      clear H H8
      go_wp2_with fail
      exact bodyPost_ret (v := .agg #[.slice (some ⟨w.heap.size + 1, 0, none⟩) 24 24, .slice B 24 d]) (by simp [results, Try.results30, go_sem, c3, c4]) rfl ⟨_, _, _, _, rfl, H7.out⟩

set_option maxRecDepth 100000 in
set_option maxHeartbeats 2000000 in
theorem markStore_any {w0 w : World} (A : Option Addr) (n c : Nat) (B : Option Addr) (m d k : Nat) (xs ys : List Value) {l : List Ob} (i j : Nat) (H : Hp [] w0 w l) (hi : l[i]? = some (.row 4 1 (.slice A n c) n xs)) (hj : l[j]? = some (.row 9 1 (.slice B m d) m ys)) (hij : i ≠ j)
    (hn : n ≤ 16777216) (hm : m ≤ 16777216) (hk : k ≤ 536870912) :
    Calls Try.prog 15 #[.agg #[.slice A n c, .slice B m d], .int .i64 k] w fun e w' => e = .returned (.int .i64 ((k + n + m : Nat) : Int)) ∧
      Hp [] w0 w' ((l.set i (.row 4 1 (.slice A n c) n ((marksBool n k).map Value.bool))).set j (.row 9 1 (.slice B m d) m ((marksString m (k + n)).map Value.string))) := by
  have H1 := H.lay_ 31 [.slice A n c, .slice B m d] rfl
  have hi1 : (Ob.blk w.heap.size 31 [.slice A n c, .slice B m d] :: l)[i + 1]? = _ := hi
  have hj1 : (l.set i (.row 4 1 (.slice A n c) n ((marksBool n k).map Value.bool)))[j]? = some (.row 9 1 (.slice B m d) m ys) := by rw [List.getElem?_set_ne hij]; exact hj
  have HI := Lib.hid hi
  have HJ := Lib.hid hj1
  clear hi hj hj1 H
  go_enter Try.func15, Try.ntmps15
  go_wp2_with fail
  refine (markBoolS_any _ _ _ k _ _ _ (H1.row (i + 1) hi1) hn (by omega)).mono ?_
  rintro e w1 ⟨rfl, o1, g1⟩
  have H2 := H1.grow (i + 1) hi1 g1 o1 (.inl rfl)
  rw [List.set_cons_succ] at H2
  have c1 := H2.bat 0 rfl (j := 1) rfl
  obtain ⟨p, hp⟩ : ∃ p, p = k + n := ⟨_, rfl⟩
  have hp2 : p ≤ 1073741824 := by omega
  have HP := Lib.hid hp
  rw [← hp]
  clear hp H1 hi1
  go_wp2_with fail
  refine (markStringS_any _ _ _ p _ _ _ (H2.row (j + 1) HJ.out) hm (by omega)).mono ?_
  rintro e w2 ⟨rfl, o2, g2⟩
  have H3 := H2.grow (j + 1) HJ.out g2 o2 (.inl rfl)
  rw [List.set_cons_succ] at H3
  go_wp2
  go_ret
  exact ⟨ret_int (by have := HP.out; omega), by rw [← HP.out]; exact H3.tail⟩

set_option maxRecDepth 100000 in
set_option maxHeartbeats 2000000 in
theorem heldStore_any (A : Option Addr) (n c : Nat) (B : Option Addr) (m d k : Nat) (w : World) (h1 : Rd w A n 1 ((marksBool n k).map Value.bool)) (h2 : Rd w B m 1 ((marksString m (k + n)).map Value.string))
    (hn : n ≤ 16777216) (hm : m ≤ 16777216) (hk : k ≤ 536870912) :
    Calls Try.prog 17 #[.agg #[.slice A n c, .slice B m d], .int .i64 k] w fun e w' => e = .returned (.int .i64 ((k + n + m : Nat) : Int)) ∧ Fr w w' := by
  have H1 := (Hp.start w).lay_ 31 [.slice A n c, .slice B m d] rfl
  have G2 := Lib.hid h2
  have hr1 := H1.old h1
  clear h1 h2
  go_enter Try.func17, Try.ntmps17
  go_wp2_with fail
  refine (heldBoolS_any _ _ _ k _ hr1 hn (by omega)).mono ?_
  rintro e w1 ⟨rfl, f1⟩
  have H2 := H1.go f1
  have c1 := H2.bat 0 rfl (j := 1) rfl
  obtain ⟨p, hp⟩ : ∃ p, p = k + n := ⟨_, rfl⟩
  have hp2 : p ≤ 1073741824 := by omega
  have HP := Lib.hid hp
  have hr2 : Rd w1 B m 1 ((marksString m p).map Value.string) := by rw [hp]; exact H2.old G2.out
  rw [← hp]
  clear hp H1 hr1
  go_wp2_with fail
  refine (heldStringS_any _ _ _ p _ hr2 hm (by omega)).mono ?_
  rintro e w2 ⟨rfl, f2⟩
  have H3 := H2.go f2
  clear hr2
  go_wp2
  go_ret
  exact ⟨ret_int (by have := HP.out; omega), H3.fr⟩

end Go.Proofs.Ytbmoolmgfpcnkaa
