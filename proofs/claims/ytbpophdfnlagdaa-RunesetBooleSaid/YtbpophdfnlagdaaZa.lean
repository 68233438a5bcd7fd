/- Sets of runes, the plain law: lists of spans in increasing order that neither overlap nor touch. No program is in sight here. -/
import Derived.Test.YtbpophdfnlagdaaTy
namespace Go.Proofs.Ytbpophdfnlagdaa.B
set_option linter.unusedVariables false
set_option linter.unusedSimpArgs false
open Go Go.RowKit Classical

/-- a rune of a list of spans -/
def In (l : List Span) (r : Int) : Prop := ∃ s ∈ l, s.lo ≤ r ∧ r ≤ s.hi
theorem In_nil (r : Int) : ¬ In [] r := by rintro ⟨s, hs, -⟩; simp at hs
theorem In_cons {s : Span} {l : List Span} {r : Int} : In (s :: l) r ↔ (s.lo ≤ r ∧ r ≤ s.hi) ∨ In l r := by
  constructor
  · rintro ⟨t, ht, h⟩
    rcases List.mem_cons.1 ht with rfl | ht
    · exact Or.inl h
    · exact Or.inr ⟨t, ht, h⟩
  · rintro (h | ⟨t, ht, h⟩)
    · exact ⟨s, by simp, h⟩
    · exact ⟨t, by simp [ht], h⟩
theorem In_append {l m : List Span} {r : Int} : In (l ++ m) r ↔ In l r ∨ In m r := by
  induction l with
  | nil => simp [In_nil]
  | cons s l ih => rw [List.cons_append, In_cons, In_cons, ih, or_assoc]
theorem In_perm {l m : List Span} (h : l.Perm m) (r : Int) : In l r ↔ In m r :=
  ⟨fun ⟨s, hs, h1⟩ => ⟨s, h.mem_iff.1 hs, h1⟩, fun ⟨s, hs, h1⟩ => ⟨s, h.mem_iff.2 hs, h1⟩⟩
/-- valid behind e -/
def Can (e : Int) : List Span → Prop
  | [] => True
  | s :: l => e + 2 ≤ s.lo ∧ s.lo ≤ s.hi ∧ s.hi ≤ 1114111 ∧ Can s.hi l
theorem Can.low {e : Int} : ∀ {l : List Span}, Can e l → ∀ {r}, In l r → e + 2 ≤ r ∧ r ≤ 1114111
  | [], _, r, h => absurd h (In_nil r)
  | s :: l, ⟨h1, h2, h3, h4⟩, r, h => by
    rcases In_cons.1 h with h | h
    · omega
    · have := Can.low h4 h; omega
theorem Can.weak {e e' : Int} (he : e' ≤ e) : ∀ {l : List Span}, Can e l → Can e' l
  | [], _ => trivial
  | s :: l, ⟨h1, h2, h3, h4⟩ => ⟨by omega, h2, h3, h4⟩
theorem setGo_can : ∀ {l : List Span} {e : Int}, -2 ≤ e → (setGo e l = 0 ↔ Can e l)
  | [], e, _ => by simp [setGo, Can]
  | s :: l, e, he => by
    unfold setGo Can
    by_cases h1 : goodSpan s = false
    · rw [if_pos h1]
      simp [goodSpan] at h1
      constructor
      · intro h; omega
      · rintro ⟨g1, g2, g3, -⟩; omega
    · have h1' : 0 ≤ s.lo ∧ s.lo ≤ s.hi ∧ s.hi ≤ 1114111 := by simp [goodSpan] at h1; omega
      rw [if_neg h1]
      by_cases h2 : s.lo < e + 2
      · rw [if_pos h2]
        constructor
        · intro h; omega
        · rintro ⟨g1, -⟩; omega
      · rw [if_neg h2, setGo_can (by omega)]
        constructor
        · intro h; exact ⟨by omega, by omega, by omega, h⟩
        · rintro ⟨-, -, -, h⟩; exact h
theorem setErr_can {l : List Span} : setErr l = 0 ↔ l.length ≤ 16 ∧ Can (-2) l := by
  unfold setErr
  by_cases h : l.length > 16
  · rw [if_pos h]; constructor
    · intro h; omega
    · rintro ⟨h1, -⟩; omega
  · rw [if_neg h, setGo_can (Int.le_refl _)]
    exact ⟨fun h1 => ⟨by omega, h1⟩, fun h1 => h1.2⟩
/-- a set is given by its runes -/
theorem can_ext {e e' : Int} : ∀ {a b : List Span}, Can e a → Can e' b → (∀ r, In a r ↔ In b r) → a = b
  | [], [], _, _, _ => rfl
  | [], t :: b, _, hb, h => absurd ((h t.lo).2 (In_cons.2 (Or.inl ⟨Int.le_refl _, hb.2.1⟩))) (In_nil _)
  | s :: a, [], ha, _, h => absurd ((h s.lo).1 (In_cons.2 (Or.inl ⟨Int.le_refl _, ha.2.1⟩))) (In_nil _)
  | s :: a, t :: b, ⟨a1, a2, a3, a4⟩, ⟨b1, b2, b3, b4⟩, h => by
    have hs : ∀ r, In (s :: a) r → s.lo ≤ r := fun r hr => by
      rcases In_cons.1 hr with hr | hr
      · exact hr.1
      · have := a4.low hr; omega
    have ht : ∀ r, In (t :: b) r → t.lo ≤ r := fun r hr => by
      rcases In_cons.1 hr with hr | hr
      · exact hr.1
      · have := b4.low hr; omega
    have e1 : s.lo = t.lo := by
      have h1 := ht _ ((h s.lo).1 (In_cons.2 (Or.inl ⟨Int.le_refl _, a2⟩)))
      have h2 := hs _ ((h t.lo).2 (In_cons.2 (Or.inl ⟨Int.le_refl _, b2⟩)))
      omega
    have ns : ¬ In (s :: a) (s.hi + 1) := fun hr => by
      rcases In_cons.1 hr with hr | hr
      · omega
      · have := a4.low hr; omega
    have nt : ¬ In (t :: b) (t.hi + 1) := fun hr => by
      rcases In_cons.1 hr with hr | hr
      · omega
      · have := b4.low hr; omega
    have e2 : s.hi = t.hi := by
      rcases Int.lt_trichotomy s.hi t.hi with hlt | he | hgt
      · exact absurd ((h _).2 (In_cons.2 (Or.inl ⟨by omega, by omega⟩))) ns
      · exact he
      · exact absurd ((h _).1 (In_cons.2 (Or.inl ⟨by omega, by omega⟩))) nt
    have e3 : a = b := can_ext a4 b4 fun r => by
      constructor
      · intro hr
        have := a4.low hr
        rcases In_cons.1 ((h r).1 (In_cons.2 (Or.inr hr))) with g | g
        · omega
        · exact g
      · intro hr
        have := b4.low hr
        rcases In_cons.1 ((h r).2 (In_cons.2 (Or.inr hr))) with g | g
        · omega
        · exact g
    rw [e3]
    cases s; cases t
    simp only at e1 e2
    rw [e1, e2]
/-! ### joining -/
def addS (out : List Span) (s : Span) : List Span :=
  match out.getLast? with
  | none => [s]
  | some t => if s.lo ≤ t.hi + 1 then out.dropLast ++ [⟨t.lo, max t.hi s.hi⟩] else out ++ [s]
def joinS (l : List Span) : List Span := l.foldl addS []
theorem addS_nil (s : Span) : addS [] s = [s] := rfl
theorem addS_snoc (out : List Span) (t s : Span) : addS (out ++ [t]) s = if s.lo ≤ t.hi + 1 then out ++ [⟨t.lo, max t.hi s.hi⟩] else out ++ [t] ++ [s] := by
  unfold addS
  simp
theorem joinS_snoc (l : List Span) (s : Span) : joinS (l ++ [s]) = addS (joinS l) s := by simp [joinS]
theorem addS_len (out : List Span) (s : Span) : (addS out s).length ≤ out.length + 1 ∧ 0 < (addS out s).length := by
  rcases List.eq_nil_or_concat out with rfl | ⟨o, t, rfl⟩
  · simp [addS_nil]
  · rw [List.concat_eq_append, addS_snoc]; split <;> simp
theorem joinS_len : ∀ l : List Span, (joinS l).length ≤ l.length := by
  have h : ∀ (l out : List Span), (l.foldl addS out).length ≤ out.length + l.length := by
    intro l
    induction l with
    | nil => intro out; simp
    | cons s l ih => intro out; have h1 := ih (addS out s); have h2 := (addS_len out s).1; rw [List.foldl_cons, List.length_cons]; omega
  intro l
  have := h l []
  simpa [joinS] using this
theorem Can_append {e : Int} : ∀ {l : List Span} {t : Span} {m : List Span}, Can e (l ++ [t]) → Can t.hi m → Can e (l ++ [t] ++ m)
  | [], t, m, ⟨h1, h2, h3, _⟩, h => ⟨h1, h2, h3, h⟩
  | s :: l, t, m, ⟨h1, h2, h3, h4⟩, h => ⟨h1, h2, h3, Can_append h4 h⟩
theorem Can_last {e : Int} : ∀ {l : List Span} {t : Span} {hi : Int}, Can e (l ++ [t]) → t.hi ≤ hi → hi ≤ 1114111 → Can e (l ++ [⟨t.lo, hi⟩])
  | [], t, hi, ⟨h1, h2, h3, _⟩, g1, g2 => ⟨h1, by show t.lo ≤ hi; omega, g2, trivial⟩
  | s :: l, t, hi, ⟨h1, h2, h3, h4⟩, g1, g2 => ⟨h1, h2, h3, Can_last h4 g1 g2⟩
theorem Can_lastgood {e : Int} : ∀ {l : List Span} {t : Span}, Can e (l ++ [t]) → t.lo ≤ t.hi ∧ t.hi ≤ 1114111
  | [], t, ⟨h1, h2, h3, _⟩ => ⟨h2, h3⟩
  | s :: l, t, ⟨h1, h2, h3, h4⟩ => Can_lastgood h4
/-- what is joined: valid spans in order of their lower bounds -/
theorem addS_ok {out : List Span} {s : Span} (h : Can (-2) out) (hl : ∀ t, out.getLast? = some t → t.lo ≤ s.lo) (h0 : 0 ≤ s.lo) (h1 : s.lo ≤ s.hi) (h2 : s.hi ≤ 1114111) :
    Can (-2) (addS out s) ∧ (∀ t, (addS out s).getLast? = some t → t.lo ≤ s.lo) ∧ ∀ r, In (addS out s) r ↔ In out r ∨ (s.lo ≤ r ∧ r ≤ s.hi) := by
  rcases List.eq_nil_or_concat out with rfl | ⟨o, t, rfl⟩
  · rw [addS_nil]
    refine ⟨⟨by omega, h1, h2, trivial⟩, fun t ht => by simp at ht; subst ht; omega, fun r => ?_⟩
    rw [In_cons]
    constructor
    · rintro (h | h)
      · exact Or.inr h
      · exact absurd h (In_nil r)
    · rintro (h | h)
      · exact absurd h (In_nil r)
      · exact Or.inl h
  · rw [List.concat_eq_append] at *
    have hts := hl t (by simp)
    obtain ⟨g1, g2⟩ := Can_lastgood h
    rw [addS_snoc]
    by_cases hj : s.lo ≤ t.hi + 1
    · rw [if_pos hj]
      have hm : t.hi ≤ max t.hi s.hi ∧ s.hi ≤ max t.hi s.hi ∧ (max t.hi s.hi = t.hi ∨ max t.hi s.hi = s.hi) := by omega
      refine ⟨Can_last h hm.1 (by omega), fun u hu => by simp at hu; subst hu; exact hts, fun r => ?_⟩
      rw [In_append, In_append, In_cons, In_cons]
      have n1 := In_nil r
      constructor
      · rintro (g | g | g)
        · exact Or.inl (Or.inl g)
        · by_cases e : r ≤ t.hi
          · exact Or.inl (Or.inr (Or.inl ⟨g.1, e⟩))
          · exact Or.inr ⟨by omega, by have := g.2; simp only at this; omega⟩
        · exact absurd g n1
      · rintro ((g | g | g) | g)
        · exact Or.inl g
        · exact Or.inr (Or.inl ⟨g.1, by show r ≤ max t.hi s.hi; omega⟩)
        · exact absurd g n1
        · exact Or.inr (Or.inl ⟨by show t.lo ≤ r; omega, by show r ≤ max t.hi s.hi; omega⟩)
    · rw [if_neg hj]
      refine ⟨Can_append h ⟨by omega, h1, h2, trivial⟩, fun u hu => by simp at hu; subst hu; omega, fun r => ?_⟩
      rw [In_append, In_cons]
      have n1 := In_nil r
      constructor
      · rintro (g | g | g)
        · exact Or.inl g
        · exact Or.inr g
        · exact absurd g n1
      · rintro (g | g)
        · exact Or.inl g
        · exact Or.inr (Or.inl g)
theorem joinS_ok : ∀ (l : List Span), (∀ s ∈ l, goodSpan s = true) → l.Pairwise (fun a b => a.lo ≤ b.lo) → Can (-2) (joinS l) ∧ (∀ r, In (joinS l) r ↔ In l r) := by
  have h : ∀ (l out : List Span), Can (-2) out → (∀ s ∈ l, ∀ t, out.getLast? = some t → t.lo ≤ s.lo) → (∀ s ∈ l, goodSpan s = true) → l.Pairwise (fun a b => a.lo ≤ b.lo) → Can (-2) (l.foldl addS out) ∧ ∀ r, In (l.foldl addS out) r ↔ In out r ∨ In l r := by
    intro l
    induction l with
    | nil => intro out hc _ _ _; exact ⟨hc, fun r => by simp [In_nil]⟩
    | cons s l ih =>
      intro out hc hl hg hp
      have hs := hg s (by simp)
      simp [goodSpan] at hs
      obtain ⟨p1, p2⟩ := List.pairwise_cons.1 hp
      obtain ⟨c1, c2, c3⟩ := addS_ok hc (hl s (by simp)) (by omega) (by omega) (by omega)
      obtain ⟨d1, d2⟩ := ih (addS out s) c1 (fun u hu t ht => by have := c2 t ht; have := p1 u hu; omega) (fun u hu => hg u (by simp [hu])) p2
      refine ⟨d1, fun r => ?_⟩
      rw [List.foldl_cons, d2, c3, In_cons, or_assoc]
  intro l hg hp
  obtain ⟨h1, h2⟩ := h l [] trivial (fun s _ t ht => by simp at ht) hg hp
  exact ⟨h1, fun r => by have := h2 r; simpa [joinS, In_nil] using this⟩
/-! ### both, others -/
def comS : List Span → List Span → List Span
  | s :: a, t :: b => (if max s.lo t.lo ≤ min s.hi t.hi then [⟨max s.lo t.lo, min s.hi t.hi⟩] else []) ++ (if s.hi < t.hi then comS a (t :: b) else comS (s :: a) b)
  | _, _ => []
termination_by a b => a.length + b.length
theorem comS_nil (b : List Span) : comS [] b = [] := by unfold comS; rfl
theorem comS_nil2 (a : List Span) : comS a [] = [] := by unfold comS; cases a <;> rfl
theorem comS_cons (s t : Span) (a b : List Span) : comS (s :: a) (t :: b) = (if max s.lo t.lo ≤ min s.hi t.hi then [⟨max s.lo t.lo, min s.hi t.hi⟩] else []) ++ (if s.hi < t.hi then comS a (t :: b) else comS (s :: a) b) := by
  rw [comS]
theorem comS_ok : ∀ (n : Nat) (a b : List Span) (e f : Int), a.length + b.length ≤ n → Can e a → Can f b → Can (max e f) (comS a b) ∧ (∀ r, In (comS a b) r ↔ In a r ∧ In b r) ∧ (comS a b).length ≤ a.length + b.length
  | n, [], b, e, f, _, _, _ => by rw [comS_nil]; exact ⟨trivial, fun r => by simp [In_nil], by simp⟩
  | n, s :: a, [], e, f, _, _, _ => by rw [comS_nil2]; exact ⟨trivial, fun r => by simp [In_nil], by simp⟩
  | 0, s :: a, t :: b, e, f, hn, _, _ => by simp at hn
  | n + 1, s :: a, t :: b, e, f, hn, ⟨a1, a2, a3, a4⟩, ⟨b1, b2, b3, b4⟩ => by
    rw [comS_cons]
    simp only [List.length_cons] at hn
    by_cases hlt : s.hi < t.hi
    · rw [if_pos hlt]
      obtain ⟨h1, h2, h3⟩ := comS_ok n a (t :: b) s.hi f (by simp; omega) a4 ⟨b1, b2, b3, b4⟩
      have hIn : ∀ r, In (s :: a) r ∧ In (t :: b) r ↔ (max s.lo t.lo ≤ r ∧ r ≤ min s.hi t.hi) ∨ (In a r ∧ In (t :: b) r) := fun r => by
        rw [In_cons (s := s)]
        constructor
        · rintro ⟨g | g, k⟩
          · rcases In_cons.1 k with k | k
            · exact Or.inl ⟨by omega, by omega⟩
            · have := b4.low k; omega
          · exact Or.inr ⟨g, k⟩
        · rintro (g | ⟨g, k⟩)
          · exact ⟨Or.inl (by omega), In_cons.2 (Or.inl (by omega))⟩
          · exact ⟨Or.inr g, k⟩
      by_cases hc : max s.lo t.lo ≤ min s.hi t.hi
      · rw [if_pos hc]
        refine ⟨⟨by show max e f + 2 ≤ max s.lo t.lo; omega, hc, by show min s.hi t.hi ≤ 1114111; omega, h1.weak (by show min s.hi t.hi ≤ max s.hi f; omega)⟩, fun r => ?_, by simp only [List.length_append, List.length_cons, List.length_nil] at h3 ⊢; omega⟩
        rw [hIn, List.singleton_append, In_cons, h2]
      · rw [if_neg hc, List.nil_append]
        refine ⟨h1.weak (by omega), fun r => ?_, by simp only [List.length_cons] at h3 ⊢; omega⟩
        rw [hIn, h2]
        constructor
        · exact fun h => Or.inr h
        · rintro (h | h)
          · omega
          · exact h
    · rw [if_neg hlt]
      obtain ⟨h1, h2, h3⟩ := comS_ok n (s :: a) b e t.hi (by simp; omega) ⟨a1, a2, a3, a4⟩ b4
      have hIn : ∀ r, In (s :: a) r ∧ In (t :: b) r ↔ (max s.lo t.lo ≤ r ∧ r ≤ min s.hi t.hi) ∨ (In (s :: a) r ∧ In b r) := fun r => by
        rw [In_cons (s := t)]
        constructor
        · rintro ⟨g, k | k⟩
          · rcases In_cons.1 g with g | g
            · exact Or.inl ⟨by omega, by omega⟩
            · have := a4.low g; omega
          · exact Or.inr ⟨g, k⟩
        · rintro (g | ⟨g, k⟩)
          · exact ⟨In_cons.2 (Or.inl (by omega)), Or.inl (by omega)⟩
          · exact ⟨g, Or.inr k⟩
      by_cases hc : max s.lo t.lo ≤ min s.hi t.hi
      · rw [if_pos hc]
        refine ⟨⟨by show max e f + 2 ≤ max s.lo t.lo; omega, hc, by show min s.hi t.hi ≤ 1114111; omega, h1.weak (by show min s.hi t.hi ≤ max e t.hi; omega)⟩, fun r => ?_, by simp only [List.length_append, List.length_cons, List.length_nil] at h3 ⊢; omega⟩
        rw [hIn, List.singleton_append, In_cons, h2]
      · rw [if_neg hc, List.nil_append]
        refine ⟨h1.weak (by omega), fun r => ?_, by simp only [List.length_cons] at h3 ⊢; omega⟩
        rw [hIn, h2]
        constructor
        · exact fun h => Or.inr h
        · rintro (h | h)
          · omega
          · exact h
def othS (from_ : Int) : List Span → List Span
  | [] => if from_ ≤ 1114111 then [⟨from_, 1114111⟩] else []
  | s :: l => (if from_ < s.lo then [⟨from_, s.lo - 1⟩] else []) ++ othS (s.hi + 1) l
theorem othS_ok : ∀ (l : List Span) (x : Int), Can (x - 2) l → Can (x - 2) (othS x l) ∧ (∀ r, In (othS x l) r ↔ x ≤ r ∧ r ≤ 1114111 ∧ ¬ In l r) ∧ (othS x l).length ≤ l.length + 1
  | [], x, _ => by
    unfold othS
    split
    · next h => exact ⟨⟨by show x - 2 + 2 ≤ x; omega, h, Int.le_refl _, trivial⟩, fun r => by rw [In_cons]; simp [In_nil], by simp⟩
    · next h => exact ⟨trivial, fun r => ⟨fun g => absurd g (In_nil r), fun g => by omega⟩, by simp⟩
  | s :: l, x, ⟨h1, h2, h3, h4⟩ => by
    unfold othS
    have h4' : Can (s.hi + 1 - 2) l := h4.weak (by omega)
    obtain ⟨g1, g2, g3⟩ := othS_ok l (s.hi + 1) h4'
    have g1' : Can (s.hi - 1) (othS (s.hi + 1) l) := by rw [show s.hi - 1 = s.hi + 1 - 2 by omega]; exact g1
    have hIn : ∀ r, (x ≤ r ∧ r ≤ 1114111 ∧ ¬ In (s :: l) r) ↔ (x ≤ r ∧ r ≤ s.lo - 1) ∨ (s.hi + 1 ≤ r ∧ r ≤ 1114111 ∧ ¬ In l r) := fun r => by
      rw [In_cons]
      constructor
      · rintro ⟨k1, k2, k3⟩
        by_cases e : r < s.lo
        · exact Or.inl ⟨k1, by omega⟩
        · exact Or.inr ⟨by have : ¬ (s.lo ≤ r ∧ r ≤ s.hi) := fun h => k3 (Or.inl h)
                           omega, k2, fun h => k3 (Or.inr h)⟩
      · rintro (k | ⟨k1, k2, k3⟩)
        · refine ⟨k.1, by omega, ?_⟩
          rintro (h | h)
          · omega
          · have := h4.low h; omega
        · refine ⟨by omega, k2, ?_⟩
          rintro (h | h)
          · omega
          · exact k3 h
    by_cases hx : x < s.lo
    · rw [if_pos hx]
      refine ⟨⟨by show x - 2 + 2 ≤ x; omega, by show x ≤ s.lo - 1; omega, by show s.lo - 1 ≤ 1114111; omega, g1'.weak (by show s.lo - 1 ≤ s.hi - 1; omega)⟩, fun r => ?_, by simp only [List.length_append, List.length_cons, List.length_nil]; omega⟩
      rw [hIn, List.singleton_append, In_cons, g2]
    · rw [if_neg hx, List.nil_append]
      refine ⟨g1'.weak (by omega), fun r => ?_, by simp only [List.length_cons]; omega⟩
      rw [hIn, g2]
      constructor
      · exact fun h => Or.inr h
      · rintro (h | h)
        · omega
        · exact h
/-! ### sizes -/
def sizeS : List Span → Int
  | [] => 0
  | s :: l => (s.hi - s.lo + 1) + sizeS l
noncomputable def cntP (p : Int → Prop) (n : Nat) : Nat := ((List.range n).filter fun (i : Nat) => decide (p (i : Int))).length
theorem cntP_succ (p : Int → Prop) (n : Nat) : cntP p (n + 1) = cntP p n + (if p (n : Int) then 1 else 0) := by
  unfold cntP
  rw [List.range_succ, List.filter_append, List.length_append]
  congr 1
  by_cases h : p (n : Int) <;> simp [h]
theorem cntP_add (p q : Int → Prop) : ∀ n, cntP (fun r => p r ∨ q r) n + cntP (fun r => p r ∧ q r) n = cntP p n + cntP q n
  | 0 => by simp [cntP]
  | n + 1 => by
    have := cntP_add p q n
    rw [cntP_succ, cntP_succ, cntP_succ, cntP_succ]
    by_cases h1 : p (n : Int) <;> by_cases h2 : q (n : Int) <;> simp [h1, h2] <;> omega
theorem cntP_congr {p q : Int → Prop} (h : ∀ r, p r ↔ q r) (n : Nat) : cntP p n = cntP q n := by
  have : p = q := funext fun r => propext (h r)
  rw [this]
theorem cntP_none (n : Nat) : cntP (fun _ => False) n = 0 := by
  induction n with
  | zero => simp [cntP]
  | succ n ih => rw [cntP_succ, ih]; simp
theorem cntP_span {lo hi : Int} (h0 : 0 ≤ lo) (h1 : lo ≤ hi) : ∀ n : Nat, (cntP (fun r => lo ≤ r ∧ r ≤ hi) n : Int) = if (n : Int) ≤ lo then 0 else if (n : Int) ≤ hi then n - lo else hi - lo + 1
  | 0 => by simp [cntP]; intro h; omega
  | n + 1 => by
    have ih := cntP_span h0 h1 n
    rw [cntP_succ]
    by_cases h : lo ≤ (n : Int) ∧ (n : Int) ≤ hi
    · rw [if_pos (c := lo ≤ (n : Int) ∧ (n : Int) ≤ hi) h]
      generalize cntP (fun r => lo ≤ r ∧ r ≤ hi) n = q at *
      split at ih <;> (try split at ih) <;> (split <;> (try split)) <;> omega
    · rw [if_neg (c := lo ≤ (n : Int) ∧ (n : Int) ≤ hi) h]
      generalize cntP (fun r => lo ≤ r ∧ r ≤ hi) n = q at *
      split at ih <;> (try split at ih) <;> (split <;> (try split)) <;> omega
theorem sizeS_cnt : ∀ {l : List Span} {e : Int}, -2 ≤ e → Can e l → sizeS l = (cntP (In l) 1114112 : Int)
  | [], e, _, _ => by
    rw [cntP_congr (q := fun _ => False) (fun r => by simp [In_nil]), cntP_none]; rfl
  | s :: l, e, he, ⟨h1, h2, h3, h4⟩ => by
    have ih := sizeS_cnt (l := l) (e := s.hi) (by omega) h4
    have hadd := cntP_add (fun r => s.lo ≤ r ∧ r ≤ s.hi) (In l) 1114112
    have hz : cntP (fun r => (s.lo ≤ r ∧ r ≤ s.hi) ∧ In l r) 1114112 = 0 := by
      rw [cntP_congr (q := fun _ => False) (fun r => ⟨fun h => by have := h4.low h.2; omega, fun h => h.elim⟩), cntP_none]
    have hs := cntP_span (lo := s.lo) (hi := s.hi) (by omega) h2 1114112
    rw [if_neg (by omega), if_neg (by omega)] at hs
    rw [cntP_congr (q := fun r => (s.lo ≤ r ∧ r ≤ s.hi) ∨ In l r) (fun r => In_cons)]
    unfold sizeS
    omega
/-- sizes of a union and of what is common -/
theorem sizeS_add {x y u i : List Span} (hx : Can (-2) x) (hy : Can (-2) y) (hu : Can (-2) u) (hi : Can (-2) i) (h1 : ∀ r, In u r ↔ In x r ∨ In y r) (h2 : ∀ r, In i r ↔ In x r ∧ In y r) : sizeS u + sizeS i = sizeS x + sizeS y := by
  rw [sizeS_cnt (Int.le_refl _) hx, sizeS_cnt (Int.le_refl _) hy, sizeS_cnt (Int.le_refl _) hu, sizeS_cnt (Int.le_refl _) hi, cntP_congr h1, cntP_congr h2]
  have := cntP_add (In x) (In y) 1114112
  omega
end Go.Proofs.Ytbpophdfnlagdaa.B
