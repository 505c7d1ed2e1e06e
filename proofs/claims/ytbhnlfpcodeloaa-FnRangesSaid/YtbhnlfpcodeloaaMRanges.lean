/-
  Ranges as sets: what is in both together, what is left of one; right ranges that have the same are the same. Plain Lean.
-/
import Derived.Test.YtbhnlfpcodeloaaMUnion
import Derived.Test.YtbhnlfpcodeloaaMMinus
import Derived.Test.YtbhnlfpcodeloaaCountOf
namespace Go.Proofs.Ytbhnlfpcodeloaa

abbrev RR := List (Int × Int)
def memR (l : RR) (c : Int) : Prop := ∃ r ∈ l, r.1 ≤ c ∧ c ≤ r.2
def okF : Int → RR → Prop
  | _, [] => True
  | lo, r :: l => lo ≤ r.1 ∧ r.1 ≤ r.2 ∧ r.2 ≤ 1114111 ∧ okF (r.2 + 2) l
def endR : Int → RR → Int
  | lo, [] => lo
  | _, r :: l => endR (r.2 + 2) l
theorem memR_nil (c : Int) : ¬ memR [] c := by simp [memR]
theorem memR_cons (r : Int × Int) (l : RR) (c : Int) : memR (r :: l) c ↔ (r.1 ≤ c ∧ c ≤ r.2) ∨ memR l c := by simp [memR]
theorem memR_app (a b : RR) (c : Int) : memR (a ++ b) c ↔ memR a c ∨ memR b c := by
  induction a with
  | nil => simp [memR_nil]
  | cons r a ih => rw [List.cons_append, memR_cons, memR_cons, ih, or_assoc]
theorem okF_lo : ∀ {l : RR} {lo lo' : Int}, okF lo l → lo' ≤ lo → okF lo' l
  | [], _, _, _, _ => trivial
  | _ :: _, _, _, h, hl => ⟨Int.le_trans hl h.1, h.2⟩
theorem okF_mem : ∀ {l : RR} {lo c : Int}, okF lo l → memR l c → lo ≤ c ∧ c ≤ 1114111
  | [], _, _, _, h => absurd h (memR_nil _)
  | r :: l, lo, c, h, hm => by
    obtain ⟨h1, h2, h3, h4⟩ := h
    rcases (memR_cons r l c).1 hm with h5 | h5
    · omega
    · have := okF_mem h4 h5; omega
theorem okF_app : ∀ {a b : RR} {lo : Int}, okF lo (a ++ b) ↔ okF lo a ∧ okF (endR lo a) b
  | [], b, lo => by simp [okF, endR]
  | r :: a, b, lo => by
    simp only [List.cons_append, okF, endR]
    rw [okF_app]
    exact ⟨fun h => ⟨⟨h.1, h.2.1, h.2.2.1, h.2.2.2.1⟩, h.2.2.2.2⟩, fun h => ⟨h.1.1, h.1.2.1, h.1.2.2.1, h.1.2.2.2, h.2⟩⟩
theorem endR_app : ∀ (a b : RR) (lo : Int), endR lo (a ++ b) = endR (endR lo a) b
  | [], b, lo => rfl
  | r :: a, b, lo => by simp only [List.cons_append, endR]; exact endR_app a b _
theorem okF_of : ∀ {l : RR} {lo : Int}, (∀ (k : Nat) (f t : Int), l[k]? = some (f, t) → f ≤ t ∧ t ≤ 1114111) → (∀ (k : Nat) (f t f' t' : Int), l[k]? = some (f, t) → l[k + 1]? = some (f', t') → t + 1 < f') → (∀ (f t : Int), l[0]? = some (f, t) → lo ≤ f) → okF lo l
  | [], _, _, _, _ => trivial
  | (f, t) :: l, lo, h1, h2, h3 => by
    have ha := h1 0 f t rfl
    refine ⟨h3 f t rfl, ha.1, ha.2, okF_of (fun k f' t' h => h1 (k + 1) f' t' (by simpa using h)) (fun k f1 t1 f2 t2 e1 e2 => h2 (k + 1) f1 t1 f2 t2 (by simpa using e1) (by simpa using e2)) fun f' t' h => ?_⟩
    have := h2 0 f t f' t' rfl (by simpa using h)
    simp only
    omega
theorem okF_at : ∀ {l : RR} {lo : Int} {k : Nat} {f t : Int}, okF lo l → l[k]? = some (f, t) → lo ≤ f ∧ f ≤ t ∧ t ≤ 1114111
  | [], _, _, _, _, _, h => by simp at h
  | (a, b) :: l, lo, 0, f, t, h, hk => by
    simp only [List.getElem?_cons_zero, Option.some.injEq, Prod.mk.injEq] at hk
    obtain ⟨rfl, rfl⟩ := hk
    exact ⟨h.1, h.2.1, h.2.2.1⟩
  | (a, b) :: l, lo, k + 1, f, t, h, hk => by
    have h1 := okF_at h.2.2.2 (by simpa using hk)
    have h2 := h.1
    have h3 := h.2.1
    simp only at h1 h2 h3
    omega
theorem okF_gap : ∀ {l : RR} {lo : Int} {k : Nat} {f t f' t' : Int}, okF lo l → l[k]? = some (f, t) → l[k + 1]? = some (f', t') → t + 1 < f'
  | [], _, _, _, _, _, _, _, h, _ => by simp at h
  | (a, b) :: l, lo, 0, f, t, f', t', h, hk, hk' => by
    simp only [List.getElem?_cons_zero, Option.some.injEq, Prod.mk.injEq] at hk
    obtain ⟨rfl, rfl⟩ := hk
    have h1 := okF_at (k := 0) h.2.2.2 (by simpa using hk')
    simp only at h1
    omega
  | (a, b) :: l, lo, k + 1, f, t, f', t', h, hk, hk' => okF_gap h.2.2.2 (by simpa using hk) (by simpa using hk')
theorem rOk_okF {l : RR} : rOk l = true ↔ okF 0 l := by
  constructor
  · intro h
    exact okF_of (fun k f t hk => (rOk_in h hk).2) (fun k f t f' t' e1 e2 => rOk_next h e1 e2) fun f t hk => (rOk_in h hk).1
  · intro h
    refine rOk_yes rfl fun j hj => ?_
    obtain ⟨⟨f, t⟩, hx⟩ := some_at (l := l) rfl hj
    have h1 := okF_at h hx
    cases j with
    | zero => rw [rAt_zero hx]; simp [inB]; omega
    | succ j =>
      obtain ⟨⟨f', t'⟩, hy⟩ := some_at (l := l) rfl (show j < l.length by omega)
      have h2 := okF_gap h hy hx
      have h3 := okF_at h hy
      rw [rAt_succ hx hy]
      simp [inB]
      omega
theorem okF_ext : ∀ {l l' : RR} {lo lo' : Int}, okF lo l → okF lo' l' → (∀ c, memR l c ↔ memR l' c) → l = l'
  | [], [], _, _, _, _, _ => rfl
  | [], (f, t) :: l', _, _, _, h', he => absurd ((he f).2 ((memR_cons _ _ _).2 (.inl ⟨Int.le_refl _, h'.2.1⟩))) (memR_nil _)
  | (f, t) :: l, [], _, _, h, _, he => absurd ((he f).1 ((memR_cons _ _ _).2 (.inl ⟨Int.le_refl _, h.2.1⟩))) (memR_nil _)
  | (f, t) :: l, (f', t') :: l', lo, lo', h, h', he => by
    obtain ⟨a1, a2, a3, a4⟩ := h
    obtain ⟨b1, b2, b3, b4⟩ := h'
    simp only at a1 a2 a3 a4 b1 b2 b3 b4
    have e1 : ∀ c, f ≤ c ∧ c ≤ t → (f' ≤ c ∧ c ≤ t') ∨ memR l' c := fun c hc => (memR_cons _ _ _).1 ((he c).1 ((memR_cons _ _ _).2 (.inl hc)))
    have e2 : ∀ c, f' ≤ c ∧ c ≤ t' → (f ≤ c ∧ c ≤ t) ∨ memR l c := fun c hc => (memR_cons _ _ _).1 ((he c).2 ((memR_cons _ _ _).2 (.inl hc)))
    have hf : f = f' := by
      rcases e1 f (by omega) with h1 | h1
      · rcases e2 f' (by omega) with h2 | h2
        · omega
        · have := okF_mem a4 h2; omega
      · have := okF_mem b4 h1
        rcases e2 f' (by omega) with h2 | h2
        · omega
        · have := okF_mem a4 h2; omega
    subst hf
    have ht : t = t' := by
      rcases Int.lt_trichotomy t t' with h1 | h1 | h1
      · rcases e2 (t + 1) (by omega) with h2 | h2
        · omega
        · have := okF_mem a4 h2; omega
      · exact h1
      · rcases e1 (t' + 1) (by omega) with h2 | h2
        · omega
        · have := okF_mem b4 h2; omega
    subst ht
    have hl : l = l' := okF_ext a4 b4 fun c => by
      constructor
      · intro hm
        have h1 := okF_mem a4 hm
        rcases (memR_cons _ _ _).1 ((he c).1 ((memR_cons _ _ _).2 (.inr hm))) with h2 | h2
        · simp only at h2; omega
        · exact h2
      · intro hm
        have h1 := okF_mem b4 hm
        rcases (memR_cons _ _ _).1 ((he c).2 ((memR_cons _ _ _).2 (.inr hm))) with h2 | h2
        · simp only at h2; omega
        · exact h2
    rw [hl]

/-- Rising beginnings. -/
abbrev upF (l : RR) : Prop := l.Pairwise fun x y => x.1 ≤ y.1
def valF (l : RR) : Prop := ∀ r ∈ l, 0 ≤ r.1 ∧ r.1 ≤ r.2 ∧ r.2 ≤ 1114111
theorem okF_all : ∀ {l : RR} {lo : Int}, okF lo l → ∀ r ∈ l, lo ≤ r.1 ∧ r.1 ≤ r.2 ∧ r.2 ≤ 1114111
  | [], _, _ => by simp
  | x :: l, lo, h => by
    intro r hr
    rcases List.mem_cons.1 hr with rfl | h1
    · exact ⟨h.1, h.2.1, h.2.2.1⟩
    · have h2 := okF_all h.2.2.2 r h1
      have h3 := h.1
      have h4 := h.2.1
      omega
theorem okF_up : ∀ {l : RR} {lo : Int}, okF lo l → upF l
  | [], _, _ => List.Pairwise.nil
  | x :: l, lo, h => List.pairwise_cons.2 ⟨fun y hy => by have h2 := okF_all h.2.2.2 y hy; have h4 := h.2.1; omega, okF_up h.2.2.2⟩
theorem okF_apart : ∀ {l : RR} {lo : Int}, okF lo l → l.Pairwise fun x y => x.2 < y.1
  | [], _, _ => List.Pairwise.nil
  | x :: l, lo, h => List.pairwise_cons.2 ⟨fun y hy => by have h2 := okF_all h.2.2.2 y hy; omega, okF_apart h.2.2.2⟩
theorem mix_any : ∀ (a b : RR) (r : Int × Int), r ∈ mix a b ↔ r ∈ a ∨ r ∈ b
  | [], b, r => by simp [mix]
  | x :: a, [], r => by simp [mix]
  | x :: a, y :: b, r => by
    rw [mix]
    split
    · rw [List.mem_cons, mix_any a (y :: b), List.mem_cons (a := r) (b := x), or_assoc]
    · rw [List.mem_cons, mix_any (x :: a) b, List.mem_cons, List.mem_cons]
      constructor
      · rintro (h | h | h)
        · exact .inr (.inl h)
        · exact .inl h
        · exact .inr (.inr h)
      · rintro (h | h | h)
        · exact .inr (.inl h)
        · exact .inl h
        · exact .inr (.inr h)
termination_by a b => a.length + b.length
theorem mix_memR (a b : RR) (c : Int) : memR (mix a b) c ↔ memR a c ∨ memR b c := by
  simp only [memR, mix_any]
  constructor
  · rintro ⟨r, h | h, k⟩
    · exact .inl ⟨r, h, k⟩
    · exact .inr ⟨r, h, k⟩
  · rintro (⟨r, h, k⟩ | ⟨r, h, k⟩)
    · exact ⟨r, .inl h, k⟩
    · exact ⟨r, .inr h, k⟩
theorem mix_up : ∀ (a b : RR), upF a → upF b → upF (mix a b)
  | [], b, _, hb => by simpa [mix] using hb
  | x :: a, [], ha, _ => by simpa [mix] using ha
  | x :: a, y :: b, ha, hb => by
    have ha' := List.pairwise_cons.1 ha
    have hb' := List.pairwise_cons.1 hb
    rw [mix]
    split
    · rename_i hle
      refine List.pairwise_cons.2 ⟨fun z hz => ?_, mix_up a (y :: b) ha'.2 hb⟩
      rcases (mix_any _ _ _).1 hz with h | h
      · exact ha'.1 z h
      · rcases List.mem_cons.1 h with rfl | h
        · exact hle
        · exact Int.le_trans hle (hb'.1 z h)
    · rename_i hle
      refine List.pairwise_cons.2 ⟨fun z hz => ?_, mix_up (x :: a) b ha hb'.2⟩
      rcases (mix_any _ _ _).1 hz with h | h
      · rcases List.mem_cons.1 h with rfl | h
        · omega
        · have := ha'.1 z h; omega
      · exact hb'.1 z h
termination_by a b => a.length + b.length
theorem mix_sum : ∀ (a b : RR), sumR (mix a b) = sumR a + sumR b
  | [], b => by simp [mix, sumR]
  | x :: a, [] => by simp [mix, sumR]
  | x :: a, y :: b => by
    rw [mix]
    split
    · have := mix_sum a (y :: b)
      simp only [sumR, List.map_cons, List.sum_cons] at this ⊢
      omega
    · have := mix_sum (x :: a) b
      simp only [sumR, List.map_cons, List.sum_cons] at this ⊢
      omega
termination_by a b => a.length + b.length

theorem putR_ok {o : RR} {r : Int × Int} (ho : okF 0 o) (hl : ∀ q, o.getLast? = some q → q.1 ≤ r.1) (hr : 0 ≤ r.1 ∧ r.1 ≤ r.2 ∧ r.2 ≤ 1114111) :
    okF 0 (putR o r) ∧ (∀ c, memR (putR o r) c ↔ memR o c ∨ (r.1 ≤ c ∧ c ≤ r.2)) ∧ (∀ q, (putR o r).getLast? = some q → q.1 ≤ r.1) := by
  rcases List.eq_nil_or_concat o with rfl | ⟨o, q, rfl⟩
  · rw [putR_nil]
    refine ⟨⟨hr.1, hr.2.1, hr.2.2, trivial⟩, fun c => by rw [memR_cons]; simp [memR_nil], fun q hq => ?_⟩
    simp at hq
    subst hq
    exact Int.le_refl _
  · rw [List.concat_eq_append] at *
    have hq := hl q (by simp)
    obtain ⟨h1, h2⟩ := okF_app.1 ho
    obtain ⟨q1, q2, q3, _⟩ := h2
    by_cases hlt : q.2 + 1 < r.1
    · rw [putR_app hlt]
      refine ⟨okF_app.2 ⟨ho, ?_⟩, fun c => by rw [memR_app, memR_cons]; simp [memR_nil], fun x hx => ?_⟩
      · rw [endR_app]
        exact ⟨by simp only [endR]; omega, hr.2.1, hr.2.2, trivial⟩
      · simp at hx
        subst hx
        exact Int.le_refl _
    · rw [putR_join hlt]
      refine ⟨okF_app.2 ⟨h1, ⟨q1, by simp only; omega, by simp only; omega, trivial⟩⟩, fun c => ?_, fun x hx => ?_⟩
      · rw [memR_app, memR_app, memR_cons, memR_cons]
        simp only [memR_nil, or_false]
        constructor
        · rintro (h | h)
          · exact .inl (.inl h)
          · by_cases hc : c ≤ q.2
            · exact .inl (.inr ⟨h.1, hc⟩)
            · exact .inr (by omega)
        · rintro ((h | h) | h)
          · exact .inl h
          · exact .inr (by omega)
          · exact .inr (by omega)
      · simp at hx
        subst hx
        exact hq
theorem merge_ok : ∀ (s o : RR), okF 0 o → (∀ q, o.getLast? = some q → ∀ r ∈ s, q.1 ≤ r.1) → upF s → valF s → okF 0 (s.foldl putR o) ∧ ∀ c, memR (s.foldl putR o) c ↔ memR o c ∨ memR s c
  | [], o, ho, _, _, _ => ⟨ho, fun c => by simp [memR_nil]⟩
  | r :: s, o, ho, hl, hu, hv => by
    have hu' := List.pairwise_cons.1 hu
    obtain ⟨k1, k2, k3⟩ := putR_ok ho (fun q hq => hl q hq r (by simp)) (hv r (by simp))
    obtain ⟨m1, m2⟩ := merge_ok s (putR o r) k1 (fun q hq x hx => Int.le_trans (k3 q hq) (hu'.1 x hx)) hu'.2 fun x hx => hv x (by simp [hx])
    rw [List.foldl_cons]
    refine ⟨m1, fun c => ?_⟩
    rw [m2, k2, memR_cons, or_assoc]
theorem valF_ok {l : RR} (h : okF 0 l) : valF l := okF_all h
theorem valF_mix {a b : RR} (ha : valF a) (hb : valF b) : valF (mix a b) := fun r hr => by
  rcases (mix_any _ _ _).1 hr with h | h
  · exact ha r h
  · exact hb r h
theorem union_ok {a b : RR} (ha : okF 0 a) (hb : okF 0 b) : okF 0 (mergeR (mix a b)) ∧ ∀ c, memR (mergeR (mix a b)) c ↔ memR a c ∨ memR b c := by
  obtain ⟨h1, h2⟩ := merge_ok (mix a b) [] trivial (by simp) (mix_up a b (okF_up ha) (okF_up hb)) (valF_mix (valF_ok ha) (valF_ok hb))
  refine ⟨h1, fun c => ?_⟩
  show memR ((mix a b).foldl putR []) c ↔ _
  rw [h2, mix_memR]
  simp [memR_nil]
/-- Apart from one another, they add up. -/
theorem merge_sum : ∀ (s o : RR), (∀ q, o.getLast? = some q → q.1 ≤ q.2 ∧ ∀ r ∈ s, q.2 < r.1) → s.Pairwise (fun x y => x.2 < y.1) → valF s → sumR (s.foldl putR o) = sumR o + sumR s
  | [], o, _, _, _ => by simp [sumR]
  | r :: s, o, hl, hp, hv => by
    have hp' := List.pairwise_cons.1 hp
    have hr := hv r (by simp)
    have step : sumR (putR o r) = sumR o + (r.2 - r.1 + 1) ∧ ∀ q, (putR o r).getLast? = some q → q.1 ≤ q.2 ∧ ∀ x ∈ s, q.2 < x.1 := by
      rcases List.eq_nil_or_concat o with rfl | ⟨o, q, rfl⟩
      · rw [putR_nil]
        refine ⟨by simp [sumR], fun q hq => ?_⟩
        simp at hq
        subst hq
        exact ⟨hr.2.1, hp'.1⟩
      · rw [List.concat_eq_append] at *
        obtain ⟨hq, hq2⟩ := hl q (by simp)
        have hq3 := hq2 r (by simp)
        by_cases hlt : q.2 + 1 < r.1
        · rw [putR_app hlt, sumR_snoc]
          refine ⟨rfl, fun x hx => ?_⟩
          simp at hx
          subst hx
          exact ⟨hr.2.1, hp'.1⟩
        · rw [putR_join hlt, sumR_snoc, sumR_snoc]
          refine ⟨by simp only; omega, fun x hx => ?_⟩
          simp at hx
          subst hx
          refine ⟨by simp only; omega, fun y hy => ?_⟩
          have := hp'.1 y hy
          simp only
          omega
    rw [List.foldl_cons, merge_sum s (putR o r) step.2 hp'.2 fun x hx => hv x (by simp [hx]), step.1]
    simp only [sumR, List.map_cons, List.sum_cons]
    omega
theorem mix_apart : ∀ (a b : RR), a.Pairwise (fun x y => x.2 < y.1) → b.Pairwise (fun x y => x.2 < y.1) → valF a → valF b → (∀ x ∈ a, ∀ y ∈ b, x.2 < y.1 ∨ y.2 < x.1) → (mix a b).Pairwise (fun x y => x.2 < y.1)
  | [], b, _, hb, _, _, _ => by simpa [mix] using hb
  | x :: a, [], ha, _, _, _, _ => by simpa [mix] using ha
  | x :: a, y :: b, ha, hb, va, vb, hx => by
    have ha' := List.pairwise_cons.1 ha
    have hb' := List.pairwise_cons.1 hb
    have vx := va x (by simp)
    have vy := vb y (by simp)
    have hxy := hx x (by simp) y (by simp)
    rw [mix]
    split
    · rename_i hle
      refine List.pairwise_cons.2 ⟨fun z hz => ?_, mix_apart a (y :: b) ha'.2 hb (fun r hr => va r (by simp [hr])) vb fun u hu v hv => hx u (by simp [hu]) v hv⟩
      rcases (mix_any _ _ _).1 hz with h | h
      · exact ha'.1 z h
      · rcases List.mem_cons.1 h with rfl | h
        · omega
        · have := hb'.1 z h; omega
    · rename_i hle
      refine List.pairwise_cons.2 ⟨fun z hz => ?_, mix_apart (x :: a) b ha hb'.2 va (fun r hr => vb r (by simp [hr])) fun u hu v hv => hx u hu v (by simp [hv])⟩
      rcases (mix_any _ _ _).1 hz with h | h
      · rcases List.mem_cons.1 h with rfl | h
        · omega
        · have := ha'.1 z h; omega
      · exact hb'.1 z h
termination_by a b => a.length + b.length

/-- One range less the others. -/
theorem minus_row (u v : Int) (hv : v ≤ 1114111) : ∀ (b : RR) (lb : Int) (o : RR) (f : Int), okF lb b → (f = u ∨ f < lb) → 0 ≤ u → u ≤ f → okF 0 o → endR 0 o ≤ f → endR 0 o ≤ v + 2 →
    okF 0 (mEnd (b.foldl (mStep v) (o, f)) v) ∧ endR 0 (mEnd (b.foldl (mStep v) (o, f)) v) ≤ v + 2 ∧ ∀ c, memR (mEnd (b.foldl (mStep v) (o, f)) v) c ↔ memR o c ∨ (f ≤ c ∧ c ≤ v ∧ ¬ memR b c)
  | [], lb, o, f, _, _, h0, hu, ho, he, he2 => by
    rw [List.foldl_nil, mEnd]
    by_cases hf : f ≤ v
    · rw [if_pos hf]
      refine ⟨okF_app.2 ⟨ho, ⟨he, hf, hv, trivial⟩⟩, by rw [endR_app]; simp [endR], fun c => ?_⟩
      rw [memR_app, memR_cons]
      simp [memR_nil]
    · rw [if_neg hf]
      refine ⟨ho, he2, fun c => ⟨.inl, ?_⟩⟩
      rintro (h | h)
      · exact h
      · omega
  | (p, q) :: b, lb, o, f, hb, hd, h0, hu, ho, he, he2 => by
    obtain ⟨b1, b2, b3, b4⟩ := hb
    simp only at b1 b2 b3 b4
    rw [List.foldl_cons]
    by_cases hskip : q < f ∨ v < p
    · have e : mStep v (o, f) (p, q) = (o, f) := by simp only [mStep]; rw [if_pos hskip]
      rw [e]
      obtain ⟨k1, k2, k3⟩ := minus_row u v hv b (q + 2) o f b4 (by omega) h0 hu ho he he2
      refine ⟨k1, k2, fun c => ?_⟩
      rw [k3, memR_cons]
      constructor
      · rintro (h | ⟨h1, h2, h3⟩)
        · exact .inl h
        · refine .inr ⟨h1, h2, fun hm => ?_⟩
          rcases hm with h4 | h4
          · simp only at h4; omega
          · exact h3 h4
      · rintro (h | ⟨h1, h2, h3⟩)
        · exact .inl h
        · exact .inr ⟨h1, h2, fun hm => h3 (.inr hm)⟩
    · by_cases hfp : f < p
      · have e : mStep v (o, f) (p, q) = (o ++ [(f, p - 1)], q + 1) := by simp only [mStep]; rw [if_neg hskip, if_pos hfp]
        rw [e]
        obtain ⟨k1, k2, k3⟩ := minus_row u v hv b (q + 2) (o ++ [(f, p - 1)]) (q + 1) b4 (by omega) h0 (by omega) (okF_app.2 ⟨ho, ⟨he, by simp only; omega, by simp only; omega, trivial⟩⟩) (by rw [endR_app]; simp only [endR]; omega) (by rw [endR_app]; simp only [endR]; omega)
        refine ⟨k1, k2, fun c => ?_⟩
        rw [k3, memR_app, memR_cons, memR_cons]
        simp only [memR_nil, or_false]
        constructor
        · rintro ((h | h) | ⟨h1, h2, h3⟩)
          · exact .inl h
          · refine .inr ⟨h.1, by omega, fun hm => ?_⟩
            rcases hm with h4 | h4
            · omega
            · have := okF_mem b4 h4; omega
          · refine .inr ⟨by omega, h2, fun hm => ?_⟩
            rcases hm with h4 | h4
            · omega
            · exact h3 h4
        · rintro (h | ⟨h1, h2, h3⟩)
          · exact .inl (.inl h)
          · by_cases hc : c ≤ p - 1
            · exact .inl (.inr ⟨h1, hc⟩)
            · refine .inr ⟨?_, h2, fun hm => h3 (.inr hm)⟩
              by_cases hq : c ≤ q
              · exact absurd (.inl ⟨by omega, hq⟩) h3
              · omega
      · have e : mStep v (o, f) (p, q) = (o, q + 1) := by simp only [mStep]; rw [if_neg hskip, if_neg hfp]
        rw [e]
        obtain ⟨k1, k2, k3⟩ := minus_row u v hv b (q + 2) o (q + 1) b4 (by omega) h0 (by omega) ho (by omega) he2
        refine ⟨k1, k2, fun c => ?_⟩
        rw [k3, memR_cons]
        simp only
        constructor
        · rintro (h | ⟨h1, h2, h3⟩)
          · exact .inl h
          · refine .inr ⟨by omega, h2, fun hm => ?_⟩
            rcases hm with h4 | h4
            · omega
            · exact h3 h4
        · rintro (h | ⟨h1, h2, h3⟩)
          · exact .inl h
          · refine .inr ⟨?_, h2, fun hm => h3 (.inr hm)⟩
            by_cases hq : c ≤ q
            · exact absurd (.inl ⟨by omega, hq⟩) h3
            · omega
theorem minus_rows (b : RR) (hb : okF 0 b) : ∀ (a : RR) (la : Int) (o : RR), 0 ≤ la → okF la a → okF 0 o → endR 0 o ≤ la →
    okF 0 (a.foldl (mRow b) o) ∧ ∀ c, memR (a.foldl (mRow b) o) c ↔ memR o c ∨ (memR a c ∧ ¬ memR b c)
  | [], la, o, _, _, ho, _ => ⟨ho, fun c => by simp [memR_nil]⟩
  | (u, v) :: a, la, o, h0, ha, ho, he => by
    obtain ⟨a1, a2, a3, a4⟩ := ha
    simp only at a1 a2 a3 a4
    rw [List.foldl_cons]
    have e : mRow b o (u, v) = mEnd (b.foldl (mStep v) (o, u)) v := by simp [mRow, mSt]
    obtain ⟨k1, k2, k3⟩ := minus_row u v a3 b 0 o u hb (.inl rfl) (by omega) (Int.le_refl _) ho (by omega) (by omega)
    rw [← e] at k1 k2 k3
    obtain ⟨m1, m2⟩ := minus_rows b hb a (v + 2) (mRow b o (u, v)) (by omega) a4 k1 k2
    refine ⟨m1, fun c => ?_⟩
    rw [m2, k3, memR_cons]
    simp only
    constructor
    · rintro ((h | h) | h)
      · exact .inl h
      · exact .inr ⟨.inl ⟨h.1, h.2.1⟩, h.2.2⟩
      · exact .inr ⟨.inr h.1, h.2⟩
    · rintro (h | ⟨h | h, k⟩)
      · exact .inl (.inl h)
      · exact .inl (.inr ⟨h.1, h.2, k⟩)
      · exact .inr ⟨h, k⟩
theorem minus_ok {a b : RR} (ha : okF 0 a) (hb : okF 0 b) : okF 0 (minusTo a b a.length) ∧ ∀ c, memR (minusTo a b a.length) c ↔ memR a c ∧ ¬ memR b c := by
  rw [minusTo, List.take_of_length_le (Nat.le_refl _)]
  obtain ⟨h1, h2⟩ := minus_rows b hb a 0 [] (Int.le_refl _) ha trivial (Int.le_refl _)
  exact ⟨h1, fun c => by rw [h2]; simp [memR_nil]⟩

theorem mst_len (t : Int) : ∀ (b o : RR) (f : Int), (b.foldl (mStep t) (o, f)).1.length ≤ o.length + b.length
  | [], o, f => by simp
  | x :: b, o, f => by
    rw [List.foldl_cons, List.length_cons]
    unfold mStep
    split
    · have := mst_len t b o f
      unfold mStep at this
      omega
    · split
      · have := mst_len t b (o ++ [(f, x.1 - 1)]) (x.2 + 1)
        unfold mStep at this
        simp only [List.length_append, List.length_cons, List.length_nil] at this ⊢
        omega
      · have := mst_len t b o (x.2 + 1)
        unfold mStep at this
        simp only at this ⊢
        omega
theorem minus_len2 (a b : RR) : (minus a b).length ≤ a.length * (b.length + 1) := by
  have key : ∀ (a o : RR), (a.foldl (mRow b) o).length ≤ o.length + a.length * (b.length + 1) := by
    intro a
    induction a with
    | nil => intro o; simp
    | cons r a ih =>
      intro o
      rw [List.foldl_cons, List.length_cons]
      have h1 := ih (mRow b o r)
      have h2 : (mRow b o r).length ≤ o.length + (b.length + 1) := by
        have h3 := mst_len r.2 b o r.1
        rw [mRow, mSt, List.take_of_length_le (Nat.le_refl _), mEnd]
        split
        · simp only [List.length_append, List.length_cons, List.length_nil]; omega
        · omega
      rw [Nat.add_mul]
      omega
  unfold minus
  split
  · rw [minusTo, List.take_of_length_le (Nat.le_refl _)]
    simpa using key a []
  · simp
/-- What the law asks. -/
theorem inR_iff {l : RR} (h : okF 0 l) (c : Int) : inR l c = true ↔ memR l c := by
  simp only [inR, rOk_okF.2 h, Bool.true_and, List.any_eq_true, memR, inB_iff]
theorem ranges_law {a b : RR} (ha : rOk a = true) (hb : rOk b = true) :
    rOk (union a b) = true ∧ rOk (minus a b) = true ∧ (∀ c, inR (union a b) c = (inR a c || inR b c)) ∧ (∀ c, inR (minus a b) c = (inR a c && !inR b c)) ∧ union b a = union a b ∧ union (minus a b) b = union a b ∧ cntR (union a b) = cntR b + cntR (minus a b) := by
  have oa := rOk_okF.1 ha
  have ob := rOk_okF.1 hb
  have eu : union a b = mergeR (mix a b) := by simp [union, ha, hb]
  have eu2 : union b a = mergeR (mix b a) := by simp [union, ha, hb]
  have em : minus a b = minusTo a b a.length := by simp [minus, ha, hb]
  obtain ⟨u1, u2⟩ := union_ok oa ob
  obtain ⟨v1, v2⟩ := union_ok ob oa
  obtain ⟨m1, m2⟩ := minus_ok oa ob
  rw [← eu] at u1 u2
  rw [← eu2] at v1 v2
  rw [← em] at m1 m2
  have rm := rOk_okF.2 m1
  have ew : union (minus a b) b = mergeR (mix (minus a b) b) := by simp [union, rm, hb]
  obtain ⟨w1, w2⟩ := union_ok m1 ob
  have hs : sumR (union (minus a b) b) = sumR (minus a b) + sumR b := by
    rw [ew, mergeR, merge_sum (mix (minus a b) b) [] (by simp) (mix_apart _ _ (okF_apart m1) (okF_apart ob) (valF_ok m1) (valF_ok ob) fun x hx y hy => ?_) (valF_mix (valF_ok m1) (valF_ok ob)), mix_sum]
    · simp [sumR]
    · have hxv := valF_ok m1 x hx
      have hyv := valF_ok ob y hy
      by_cases h1 : x.2 < y.1
      · exact .inl h1
      · by_cases h2 : y.2 < x.1
        · exact .inr h2
        · exfalso
          have hc : memR (minus a b) (max x.1 y.1) := ⟨x, hx, by omega, by omega⟩
          exact ((m2 _).1 hc).2 ⟨y, hy, by omega, by omega⟩
  rw [← ew] at w1 w2
  have e2 : union (minus a b) b = union a b := okF_ext w1 u1 fun c => by
    rw [w2, u2, m2]
    by_cases hbc : memR b c
    · simp [hbc]
    · simp [hbc]
  refine ⟨rOk_okF.2 u1, rm, fun c => ?_, fun c => ?_, okF_ext v1 u1 fun c => by rw [v2, u2, or_comm], e2, ?_⟩
  · rw [Bool.eq_iff_iff, inR_iff u1, u2, Bool.or_eq_true, inR_iff oa, inR_iff ob]
  · rw [Bool.eq_iff_iff, inR_iff m1, m2, Bool.and_eq_true, Bool.not_eq_true', inR_iff oa, ← Bool.not_eq_true, inR_iff ob]
  · rw [cntR, cntR, cntR, if_pos (rOk_okF.2 u1), if_pos hb, if_pos rm, ← e2, hs]
    omega
end Go.Proofs.Ytbhnlfpcodeloaa
