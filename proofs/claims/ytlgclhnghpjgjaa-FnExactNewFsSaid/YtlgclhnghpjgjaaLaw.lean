/-
  From a walk to the statement of a law: what came in, opened to lists; and the end that all laws share: true, and nothing that was there has turned.
-/
import Derived.Test.YtlgclhnghpjgjaaKit
import Derived.ProofKit
import Derived.OpenVars
import Derived.Deep.Slices
import Derived.Deep.Strs
import Derived.Lib.SmallJoins
namespace Go.Proofs.Ytlgclhnghpjgjaa
open Go.ChangeShapes Go.WideShapes Go.ChangeAt Go.RowKit Go.Deep

theorem own : ownKnob Try.prog.godebug = none := by kernel_rfl
theorem laidOut : laidOutB Try.prog = true := by kernel_rfl

section
variable {H : Type} {enc : TypeId × Value → H} {P : Program}

/-- The arguments read behind the call as before. -/
theorem trodAll_below (hl : laidOutB P = true) {W W' : World} (hb : Below W.heap.size W W') :
    ∀ {ts : List TypeId} {vs : List Value} {ds : List (DataW H)} {ps : List MemPlace}, (∀ t ∈ ts, P.readableRec t = true ∧ t < P.types.size) → (∀ x ∈ ps, x.block < W.heap.size) →
      DataW.TrodAll enc P W 0 (fun _ => true) true ts vs ds ps → DataW.TrodAll enc P W' 0 (fun b => decide (b < W.heap.size)) true ts vs ds ps
  | [], [], [], _, _, _, h => h
  | t :: ts, v :: vs, d :: ds, ps, hr, hlt, h => by
    obtain ⟨p, q, h1, h2, rfl⟩ := h
    have ht := hr t (by simp)
    exact ⟨p, q, Below.trod hl ht.1 ht.2 h1 hb (fun x hx => hlt x (by simp [hx])), trodAll_below hl hb (fun t' ht' => hr t' (by simp [ht'])) (fun x hx => hlt x (by simp [hx])) h2, rfl⟩
  | [], [], _ :: _, _, _, _, h => h.elim
  | [], _ :: _, [], _, _, _, h => h.elim
  | [], _ :: _, _ :: _, _, _, _, h => h.elim
  | _ :: _, [], [], _, _, _, h => h.elim
  | _ :: _, [], _ :: _, _, _, _, h => h.elim
  | _ :: _, _ :: _, [], _, _, _, h => h.elim

/-- The end of every law: it answers true, and all that was there is as it was. -/
theorem law_post {f : Func} {s : ChangeSpec} {W W' : World} {args : Array Value} {ds gs : List (DataW H)} {before : List MemPlace} {tb : TypeId}
    (hW : DataW.Whole enc P f.params.toList s.vars false W args.toList ds gs before) (hfn : s.fn H (ds ++ gs) = { results := [.lit (.bool true)], args := ds, vars := gs })
    (hrt : f.resultTypes = #[tb]) (htb : P.underlying tb = some .bool) (hl : laidOutB P = true) (hr : (f.params.toList.all fun t => P.readableRec t && decide (t < P.types.size)) = true) (hv : varsRowed P s.vars = true)
    (hfr : Below W.heap.size W W') : s.post enc P f false true false false W args (.bool true) W' := by
  have hlt : ∀ x ∈ before, x.block < W.heap.size := fun x hx => hW.lt x hx
  have hW' := hW
  obtain ⟨p, q, hA, hV, rfl, _, _⟩ := hW'
  have hr' : ∀ t ∈ f.params.toList, P.readableRec t = true ∧ t < P.types.size := fun t ht => by simpa using List.all_eq_true.1 hr t ht
  refine ⟨ds, gs, _, [], p, q, hW, ?_, ?_, ?_, hfr.frame _, fun h => by cases h⟩
  · rw [hfn, hrt]
    exact trodAll_mk1 (shut_bool htb true)
  · rw [hfn]
    exact trodAll_below hl hfr hr' (fun x hx => hlt x (by simp [hx])) hA
  · rw [hfn]
    exact Below.trodVars hl hfr hv hV

/-- A slice that came in reads as a list, k cells an element. -/
theorem rd_of_cells {α : Type} [Inhabited α] (f : α → List Value) (ok : α → Prop) {W : World} {t e : TypeId} {k : Nat} (hk0 : 0 < k) (hk : ∀ x, (f x).length = k) (ht : P.underlying t = some (.slice e)) (hc : P.cellsOf e = k)
    (hel : ∀ n cs y, cs.length = k → DataW.trod enc P W 0 (fun _ => true) true n e cs = some y → ∃ x, cs = f x ∧ ok x)
    {fuel : Nat} {cs0 : List Value} {x0 : DataW H × List MemPlace} (hf : DataW.trod enc P W 0 (fun _ => true) true fuel t cs0 = some x0) :
    ∃ (A : Option Addr) (n c : Nat) (l : List α), cs0 = [.slice A n c] ∧ Rd W A n k (l.flatMap f) ∧ l.length = n ∧ (∀ x ∈ l, ok x) ∧ n ≤ c ∧ c ≤ maxLen := by
  rcases open_slice ht hf with ⟨hcs, _⟩ | ⟨a, n, cap, m, n', D, Pl, hcs, _, hlc, hcm, hm, _, hx⟩
  · subst hcs
    exact ⟨none, 0, 0, [], rfl, ⟨by simp, fun h => absurd h (by omega)⟩, rfl, by simp, Nat.le_refl _, by simp [maxLen]⟩
  · subst hcs
    simp only [if_true] at hm
    rw [hc] at hx
    obtain ⟨F, hF⟩ := choose_lt (α := α) (n := n) (p := fun i x => ok x ∧ ∀ j u, (f x)[j]? = some u → W.cell? (a.add (i * k + j)) = some u) (fun i hi => by
      obtain ⟨cs, h1, h2⟩ := hx i (by omega)
      obtain ⟨_, hlen, hcell⟩ := World.cells?_some h1
      obtain ⟨x, rfl, hok⟩ := hel _ _ _ hlen h2
      refine ⟨x, hok, fun j u hu => ?_⟩
      have hj : j < k := by rw [← hk x]; exact (List.getElem?_eq_some_iff.1 hu).1
      have := hcell j hj
      rw [Go.Deep.add_add] at this
      rw [this, hu])
    subst hm
    have hspot : 0 < n → ∃ b o, a = ⟨b, o, none⟩ := fun hn => by
      have h1 := (hF 0 hn).2 0 _ (List.getElem?_eq_getElem (by rw [hk]; exact hk0))
      obtain ⟨b, o, s⟩ := a
      have := World.cell?_spot h1
      simp [Addr.add] at this
      subst this
      exact ⟨b, o, rfl⟩
    refine ⟨some a, n, m, (List.range n).map F, rfl, ⟨?_, fun hn0 => ?_⟩, by simp, fun x hx => ?_, hlc, hcm⟩
    · rw [flat_len hk]
      simp
    · obtain ⟨b, o, rfl⟩ := hspot hn0
      refine ⟨b, o, rfl, ?_⟩
      intro j u hu
      obtain ⟨i, r, x, rfl, _, hx', hr⟩ := flat_at hk hu
      rw [List.getElem?_map] at hx'
      obtain ⟨i', hi', rfl⟩ := Option.map_eq_some_iff.1 hx'
      obtain ⟨hi, rfl⟩ : i < n ∧ i = i' := by
        rw [List.getElem?_eq_some_iff] at hi'
        obtain ⟨h1, h2⟩ := hi'
        simp at h1 h2
        exact ⟨h1, h2⟩
      have := (hF i hi).2 r u hr
      rwa [Addr.add_lit] at this
    · simp only [List.mem_map, List.mem_range] at hx
      obtain ⟨i, hi, rfl⟩ := hx
      exact (hF i hi).1
/-- .. of a value. -/
theorem rd_of_trod {α : Type} [Inhabited α] (f : α → List Value) (ok : α → Prop) {W : World} {t e : TypeId} {k : Nat} (hk0 : 0 < k) (hk : ∀ x, (f x).length = k) (ht : P.underlying t = some (.slice e)) (hc : P.cellsOf e = k)
    (hel : ∀ n cs y, cs.length = k → DataW.trod enc P W 0 (fun _ => true) true n e cs = some y → ∃ x, cs = f x ∧ ok x)
    {v : Value} {d : DataW H} {p : List MemPlace} (hv : Value.okWide P W .any 0 t v) (h : DataW.Trod enc P W 0 (fun _ => true) true t v d p) :
    ∃ (A : Option Addr) (n c : Nat) (l : List α), v = .slice A n c ∧ Rd W A n k (l.flatMap f) ∧ l.length = n ∧ (∀ x ∈ l, ok x) ∧ n ≤ c ∧ c ≤ maxLen := by
  obtain ⟨A, n, c, rfl⟩ := okWide_slice ht hv
  obtain ⟨fuel, hf⟩ := h
  obtain ⟨A', n', c', l, hcs, r⟩ := rd_of_cells f ok hk0 hk ht hc hel hf
  simp [Value.cells] at hcs
  obtain ⟨rfl, rfl, rfl⟩ := hcs
  exact ⟨_, _, _, l, rfl, r⟩

/-- A slice of flags. -/
theorem rd_bools {W : World} {t e : TypeId} (ht : P.underlying t = some (.slice e)) (he : P.underlying e = some .bool) (hc : P.cellsOf e = 1)
    {v : Value} {d : DataW H} {p : List MemPlace} (hv : Value.okWide P W .any 0 t v) (h : DataW.Trod enc P W 0 (fun _ => true) true t v d p) :
    ∃ (A : Option Addr) (n c : Nat) (l : List Bool), v = .slice A n c ∧ Rd W A n 1 (l.map .bool) ∧ n ≤ c ∧ c ≤ maxLen := by
  obtain ⟨A, n, c, l, rfl, h1, _, _, h2, h3⟩ := rd_of_trod (fun b : Bool => [.bool b]) (fun _ => True) Nat.one_pos (fun _ => rfl) ht hc (fun n cs y _ h => by
    obtain ⟨b, hb, _⟩ := DataW.trod_bool he h
    exact ⟨b, hb, trivial⟩) hv h
  exact ⟨A, n, c, l, rfl, by rwa [← List.map_eq_flatMap] at h1, h2, h3⟩

/-- A number that an int can hold. -/
def I64 (x : Int) : Prop := -9223372036854775808 ≤ x ∧ x ≤ 9223372036854775807
theorem i64_of_wf {x : Int} (h : (Lit.int .i64 x).wf = true) : I64 x := by
  simpa [I64, Lit.wf, IntKind.min, IntKind.max, IntKind.signed, IntKind.bits] using h

/-- A slice of structs of two ints. -/
theorem rd_pairs {W : World} {t e ti : TypeId} {f0 f1 : Field} (ht : P.underlying t = some (.slice e)) (he : P.underlying e = some (.struct #[f0, f1])) (hc : P.cellsOf e = 2)
    (hf0 : f0.type = ti ∧ f0.offset = 0) (hf1 : f1.type = ti ∧ f1.offset = 1) (hti : P.underlying ti = some (.int .i64)) (hci : P.cellsOf ti = 1)
    {v : Value} {d : DataW H} {p : List MemPlace} (hv : Value.okWide P W .any 0 t v) (h : DataW.Trod enc P W 0 (fun _ => true) true t v d p) :
    ∃ (A : Option Addr) (n c : Nat) (l : List (Int × Int)), v = .slice A n c ∧ Rd W A n 2 (l.flatMap fun r => [.int .i64 r.1, .int .i64 r.2]) ∧ (∀ r ∈ l, I64 r.1 ∧ I64 r.2) ∧ n ≤ c ∧ c ≤ maxLen := by
  obtain ⟨A, n, c, l, rfl, h1, _, hok, h2, h3⟩ := rd_of_trod (fun r : Int × Int => [.int .i64 r.1, .int .i64 r.2]) (fun r => I64 r.1 ∧ I64 r.2) (by omega) (fun _ => rfl) ht hc (fun n cs y hl h => by
    obtain ⟨y0, y1, m, _, _, t0, t1⟩ := trod_struct2 he h
    rw [hf0.1, hf0.2, hci] at t0
    rw [hf1.1, hf1.2, hci] at t1
    match cs, hl with
    | [u0, u1], _ =>
      obtain ⟨a, ha, _, wa⟩ := DataW.trod_int hti t0
      obtain ⟨b, hb, _, wb⟩ := DataW.trod_int hti t1
      simp at ha hb
      subst ha hb
      exact ⟨(a, b), rfl, i64_of_wf wa, i64_of_wf wb⟩) hv h
  exact ⟨A, n, c, l, rfl, h1, hok, h2, h3⟩

/-- A slice of structs of three ints. -/
theorem rd_triples {W : World} {t e ti : TypeId} {f0 f1 f2 : Field} (ht : P.underlying t = some (.slice e)) (he : P.underlying e = some (.struct #[f0, f1, f2])) (hc : P.cellsOf e = 3)
    (hf0 : f0.type = ti ∧ f0.offset = 0) (hf1 : f1.type = ti ∧ f1.offset = 1) (hf2 : f2.type = ti ∧ f2.offset = 2) (hti : P.underlying ti = some (.int .i64)) (hci : P.cellsOf ti = 1)
    {v : Value} {d : DataW H} {p : List MemPlace} (hv : Value.okWide P W .any 0 t v) (h : DataW.Trod enc P W 0 (fun _ => true) true t v d p) :
    ∃ (A : Option Addr) (n c : Nat) (l : List (Int × Int × Int)), v = .slice A n c ∧ Rd W A n 3 (l.flatMap fun r => [.int .i64 r.1, .int .i64 r.2.1, .int .i64 r.2.2]) ∧ (∀ r ∈ l, I64 r.1 ∧ I64 r.2.1 ∧ I64 r.2.2) ∧ n ≤ c ∧ c ≤ maxLen := by
  obtain ⟨A, n, c, l, rfl, h1, _, hok, h2, h3⟩ := rd_of_trod (fun r : Int × Int × Int => [.int .i64 r.1, .int .i64 r.2.1, .int .i64 r.2.2]) (fun r => I64 r.1 ∧ I64 r.2.1 ∧ I64 r.2.2) (by omega) (fun _ => rfl) ht hc (fun n cs y hl h => by
    obtain ⟨y0, y1, y2, m, _, _, t0, t1, t2⟩ := trod_struct3 he h
    rw [hf0.1, hf0.2, hci] at t0
    rw [hf1.1, hf1.2, hci] at t1
    rw [hf2.1, hf2.2, hci] at t2
    match cs, hl with
    | [u0, u1, u2], _ =>
      obtain ⟨a, ha, _, wa⟩ := DataW.trod_int hti t0
      obtain ⟨b, hb, _, wb⟩ := DataW.trod_int hti t1
      obtain ⟨c, hc, _, wc⟩ := DataW.trod_int hti t2
      simp at ha hb hc
      subst ha hb hc
      exact ⟨(a, b, c), rfl, i64_of_wf wa, i64_of_wf wb, i64_of_wf wc⟩) hv h
  exact ⟨A, n, c, l, rfl, h1, hok, h2, h3⟩
/-- Slices of flags, of texts, of ints, as cells. -/
theorem rd_bools_of {W : World} {t e : TypeId} (ht : P.underlying t = some (.slice e)) (he : P.underlying e = some .bool) (hc : P.cellsOf e = 1) {fuel : Nat} {v : Value} {x : DataW H × List MemPlace} (hf : DataW.trod enc P W 0 (fun _ => true) true fuel t [v] = some x) :
    ∃ (A : Option Addr) (n c : Nat) (l : List Bool), v = .slice A n c ∧ Rd W A n 1 (l.map .bool) ∧ n ≤ c ∧ c ≤ maxLen := by
  obtain ⟨A, n, c, l, hv, h1, _, _, h2, h3⟩ := rd_of_cells (fun b : Bool => [.bool b]) (fun _ => True) Nat.one_pos (fun _ => rfl) ht hc (fun n cs y _ h => by
    obtain ⟨b, hb, _⟩ := DataW.trod_bool he h
    exact ⟨b, hb, trivial⟩) hf
  exact ⟨A, n, c, l, by simpa using hv, by rwa [← List.map_eq_flatMap] at h1, h2, h3⟩
theorem rd_strings_of {W : World} {t e : TypeId} (ht : P.underlying t = some (.slice e)) (he : P.underlying e = some .string) (hc : P.cellsOf e = 1) {fuel : Nat} {v : Value} {x : DataW H × List MemPlace} (hf : DataW.trod enc P W 0 (fun _ => true) true fuel t [v] = some x) :
    ∃ (A : Option Addr) (n c : Nat) (l : List ByteArray), v = .slice A n c ∧ Rd W A n 1 (l.map .string) ∧ (∀ s ∈ l, s.size ≤ 9223372036854775807) ∧ n ≤ c ∧ c ≤ maxLen := by
  obtain ⟨A, n, c, l, hv, h1, _, hok, h2, h3⟩ := rd_of_cells (fun s : ByteArray => [.string s]) (fun s => s.size ≤ 9223372036854775807) Nat.one_pos (fun _ => rfl) ht hc (fun n cs y _ h => by
    obtain ⟨b, hb, _, hz⟩ := DataW.trod_string he h
    exact ⟨b, hb, by simpa [maxLen] using hz⟩) hf
  exact ⟨A, n, c, l, by simpa using hv, by rwa [← List.map_eq_flatMap] at h1, hok, h2, h3⟩
theorem rd_ints_of {W : World} {t e : TypeId} (ht : P.underlying t = some (.slice e)) (he : P.underlying e = some (.int .i64)) (hc : P.cellsOf e = 1) {fuel : Nat} {v : Value} {x : DataW H × List MemPlace} (hf : DataW.trod enc P W 0 (fun _ => true) true fuel t [v] = some x) :
    ∃ (A : Option Addr) (n c : Nat) (l : List Int), v = .slice A n c ∧ Rd W A n 1 (l.map (Value.int .i64)) ∧ (∀ x ∈ l, I64 x) ∧ n ≤ c ∧ c ≤ maxLen := by
  obtain ⟨A, n, c, l, hv, h1, _, hok, h2, h3⟩ := rd_of_cells (fun x : Int => [.int .i64 x]) I64 Nat.one_pos (fun _ => rfl) ht hc (fun n cs y _ h => by
    obtain ⟨b, hb, _, hw⟩ := DataW.trod_int he h
    exact ⟨b, hb, i64_of_wf hw⟩) hf
  exact ⟨A, n, c, l, by simpa using hv, by rwa [← List.map_eq_flatMap] at h1, hok, h2, h3⟩
theorem rd_ints {W : World} {t e : TypeId} (ht : P.underlying t = some (.slice e)) (he : P.underlying e = some (.int .i64)) (hc : P.cellsOf e = 1)
    {v : Value} {d : DataW H} {p : List MemPlace} (hv : Value.okWide P W .any 0 t v) (h : DataW.Trod enc P W 0 (fun _ => true) true t v d p) :
    ∃ (A : Option Addr) (n c : Nat) (l : List Int), v = .slice A n c ∧ Rd W A n 1 (l.map (Value.int .i64)) ∧ (∀ x ∈ l, I64 x) ∧ n ≤ c ∧ c ≤ maxLen := by
  obtain ⟨A, n, c, rfl⟩ := okWide_slice ht hv
  obtain ⟨fuel, hf⟩ := h
  exact rd_ints_of ht he hc hf
end
end Go.Proofs.Ytlgclhnghpjgjaa
