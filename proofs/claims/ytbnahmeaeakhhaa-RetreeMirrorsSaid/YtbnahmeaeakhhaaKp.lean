/- Plain laws: what is asked of equal matching; Kleene's algebra, complements and looks. -/
import Derived.Test.YtbnahmeaeakhhaaK6
namespace Go.Proofs.Ytbnahmeaeakhhaa.B
set_option linter.unusedVariables false
set_option linter.unusedSimpArgs false
open Go Go.RowKit Classical

theorem prs_congr {n : Nat} {R S : Rel} (h : ∀ i j, i ≤ n → j ≤ n → (R i j ↔ S i j)) : prs n R (n + 1) = prs n S (n + 1) := by
  unfold prs
  congr 1
  refine List.map_congr_left fun i hi => ?_
  rw [List.mem_range] at hi
  unfold prow
  congr 1
  refine List.filter_congr fun j hj => ?_
  rw [List.mem_range] at hj
  have := h i j (by omega) (by omega)
  simp [this]

section
variable {t : List Int} {i j : Nat}
theorem Mcat2 (x y : Re) (hi : i ≤ t.length) : M t (.mk 3 [] [x, y] 0 0 false) i j ↔ ∃ k, k ≤ t.length ∧ M t x i k ∧ M t y k j := by
  rw [M3]
  simp only [List.map_cons, List.map_nil, List.foldl_cons, List.foldl_nil, Comp]
  constructor
  · rintro ⟨k, hk, ⟨l, hl, rfl, h1⟩, h2⟩; exact ⟨k, hk, h1, h2⟩
  · rintro ⟨k, hk, h1, h2⟩; exact ⟨k, hk, ⟨i, hi, rfl, h1⟩, h2⟩
theorem Malt2 (x y : Re) : M t (.mk 4 [] [x, y] 0 0 false) i j ↔ M t x i j ∨ M t y i j := by rw [M4]; simp
theorem Mstar1 (x : Re) : M t (.mk 5 [] [x] 0 0 false) i j ↔ Star t.length (M t x) i j := by rw [M5]
theorem Mempty : M t (.mk 1 [] [] 0 0 false) i j ↔ i = j := by rw [M1]
theorem Mand2 (x y : Re) : M t (.mk 7 [] [x, y] 0 0 false) i j ↔ M t x i j ∧ M t y i j := by
  rw [M7]; simp
  exact fun h _ => M_le t x i j h
theorem Mnot1 (x : Re) : M t (.mk 8 [] [x] 0 0 false) i j ↔ i ≤ j ∧ ¬ M t x i j := by rw [M8]
theorem Mlook1 (x : Re) (b : Bool) : M t (.mk 10 [] [x] 0 0 b) i j ↔ i = j ∧ ((∃ k, k ≤ t.length ∧ M t x i k) ↔ b = false) := by rw [M10]
theorem Mnone0 : ¬ M t (.mk 0 [] [] 0 0 false) i j := by apply M0; omega
end

theorem Pow_add {n : Nat} {R : Rel} (k m : Nat) {i l j : Nat} (hl : l ≤ n) (h1 : Pow n R k i l) (h2 : Pow n R m l j) : Pow n R (k + m) i j := by
  induction m generalizing j with
  | zero => cases h2; exact h1
  | succ m ih => obtain ⟨q, hq, h3, h4⟩ := h2; exact ⟨q, hq, ih h3, h4⟩
theorem Star_refl {n : Nat} {R : Rel} (i : Nat) : Star n R i i := ⟨0, rfl⟩
theorem Star_trans {n : Nat} {R : Rel} {i l j : Nat} (hl : l ≤ n) (h1 : Star n R i l) (h2 : Star n R l j) : Star n R i j := by
  obtain ⟨k, h1⟩ := h1; obtain ⟨m, h2⟩ := h2; exact ⟨k + m, Pow_add k m hl h1 h2⟩
theorem Star_Star {n : Nat} {R : Rel} {i j : Nat} (h : Star n (Star n R) i j) : Star n R i j := by
  obtain ⟨k, h⟩ := h
  induction k generalizing j with
  | zero => cases h; exact Star_refl _
  | succ k ih => obtain ⟨l, hl, h1, h2⟩ := h; exact Star_trans hl (ih h1) h2
theorem Star_one {n : Nat} {R : Rel} {i j : Nat} (hi : i ≤ n) (h : R i j) : Star n R i j := ⟨1, i, hi, rfl, h⟩

/-- both are valid, and match the same -/
def Alike (t : List Int) (x y : Re) : Prop := textErr x t 24 = 0 ∧ textErr y t 24 = 0 ∧ prs t.length (M t x) (t.length + 1) = prs t.length (M t y) (t.length + 1)

theorem runesErr_ok {t : List Int} (h : Runes t) : runesErr 24 t = 0 := by
  unfold runesErr
  rw [if_neg (by have := h.1; omega), if_neg]
  intro h2
  obtain ⟨x, hx, h3⟩ := List.any_eq_true.1 h2
  have := h.2 x hx
  simp at h3; omega
theorem errL_all (l : List Re) (left : Int) (h : ∀ x ∈ l, x.err = 0) (hl : (l.length : Int) ≤ left) : errL l left = 0 := by
  induction l generalizing left with
  | nil => rfl
  | cons x l ih =>
    simp only [List.length_cons] at hl
    rw [errL, if_neg (by omega), if_neg (by rw [h x (by simp)]; simp)]
    exact ih _ (fun y hy => h y (by simp [hy])) (by omega)
theorem textErr_good {r : Re} {t : List Int} (hg : Good r) (hl : (pre r).length ≤ 40) (ht : Runes t) : textErr r t 24 = 0 := by
  have h : checkRe r 40 = 0 := errL_all _ _ hg (by omega)
  rw [textErr, if_neg (by simp [h]), runesErr_ok ht]
theorem good_mk {k : Int} {s : List Span} {args : List Re} {mn mx : Int} {ng : Bool} (h : nodeErr k s args.length mn mx ng = 0) (ha : ∀ a ∈ args, Good a) : Good (.mk k s args mn mx ng) := by
  intro x hx
  rw [pre_eq] at hx
  rcases List.mem_cons.1 hx with rfl | hx
  · exact h
  · obtain ⟨l, hl, hx⟩ := List.mem_flatten.1 hx
    obtain ⟨a, ha', rfl⟩ := List.mem_map.1 hl
    exact ha a ha' x hx
theorem good2 {k : Int} {x y : Re} (hk : k = 3 ∨ k = 4 ∨ k = 7) (hx : Good x) (hy : Good y) : Good (.mk k [] [x, y] 0 0 false) :=
  good_mk (by rcases hk with rfl | rfl | rfl <;> simp [nodeErr, need]) (by simp [hx, hy])
theorem good1 {k : Int} {x : Re} (hk : k = 5 ∨ k = 8) (hx : Good x) : Good (.mk k [] [x] 0 0 false) :=
  good_mk (by rcases hk with rfl | rfl <;> simp [nodeErr, need]) (by simp [hx])
theorem goodLook {x : Re} {b : Bool} (hx : Good x) : Good (.mk 10 [] [x] 0 0 b) := good_mk (by simp [nodeErr, need]) (by simp [hx])
theorem good0 {k : Int} (hk : k = 0 ∨ k = 1) : Good (.mk k [] [] 0 0 false) :=
  good_mk (by rcases hk with rfl | rfl <;> simp [nodeErr, need]) (by simp)
theorem len2 (k : Int) (x y : Re) : (pre (.mk k [] [x, y] 0 0 false)).length = (pre x).length + (pre y).length + 1 := by rw [pre_eq]; simp
theorem len1 (k : Int) (x : Re) (b : Bool) : (pre (.mk k [] [x] 0 0 b)).length = (pre x).length + 1 := by rw [pre_eq]; simp
theorem len0 (k : Int) : (pre (.mk k [] [] 0 0 false)).length = 1 := by rw [pre_eq]; simp

theorem kleene1 {t : List Int} {a b c : Re} (ht : Runes t) (ha : Good a) (hb : Good b) (hc : Good c) (hl : (pre a).length + (pre b).length + (pre c).length ≤ 18) : Alike t (.mk 3 [] [a, .mk 3 [] [b, c] 0 0 false] 0 0 false) (.mk 3 [] [.mk 3 [] [a, b] 0 0 false, c] 0 0 false) := by
  refine ⟨textErr_good (good2 (by simp) ha (good2 (by simp) hb hc)) (by simp only [len2]; omega) ht, textErr_good (good2 (by simp) (good2 (by simp) ha hb) hc) (by simp only [len2]; omega) ht, prs_congr fun i j hi hj => ?_⟩
  rw [Mcat2 _ _ hi, Mcat2 _ _ hi]
  constructor
  · rintro ⟨k, hk, h1, h2⟩
    rw [Mcat2 _ _ hk] at h2
    obtain ⟨l, hl, h3, h4⟩ := h2
    exact ⟨l, hl, (Mcat2 _ _ hi).2 ⟨k, hk, h1, h3⟩, h4⟩
  · rintro ⟨k, hk, h1, h2⟩
    rw [Mcat2 _ _ hi] at h1
    obtain ⟨l, hl, h3, h4⟩ := h1
    exact ⟨l, hl, h3, (Mcat2 _ _ hl).2 ⟨k, hk, h4, h2⟩⟩
theorem kleene2 {t : List Int} {a b c : Re} (ht : Runes t) (ha : Good a) (hb : Good b) (hc : Good c) (hl : (pre a).length + (pre b).length + (pre c).length ≤ 18) : Alike t (.mk 3 [] [a, .mk 4 [] [b, c] 0 0 false] 0 0 false) (.mk 4 [] [.mk 3 [] [a, b] 0 0 false, .mk 3 [] [a, c] 0 0 false] 0 0 false) := by
  refine ⟨textErr_good (good2 (by simp) ha (good2 (by simp) hb hc)) (by simp only [len2]; omega) ht, textErr_good (good2 (by simp) (good2 (by simp) ha hb) (good2 (by simp) ha hc)) (by simp only [len2]; omega) ht, prs_congr fun i j hi hj => ?_⟩
  rw [Mcat2 _ _ hi, Malt2, Mcat2 _ _ hi, Mcat2 _ _ hi]
  simp only [Malt2]
  constructor
  · rintro ⟨k, hk, h1, h2 | h2⟩
    · exact Or.inl ⟨k, hk, h1, h2⟩
    · exact Or.inr ⟨k, hk, h1, h2⟩
  · rintro (⟨k, hk, h1, h2⟩ | ⟨k, hk, h1, h2⟩)
    · exact ⟨k, hk, h1, Or.inl h2⟩
    · exact ⟨k, hk, h1, Or.inr h2⟩
theorem kleene3 {t : List Int} {a b c : Re} (ht : Runes t) (ha : Good a) (hb : Good b) (hc : Good c) (hl : (pre a).length + (pre b).length + (pre c).length ≤ 18) : Alike t (.mk 3 [] [.mk 4 [] [a, b] 0 0 false, c] 0 0 false) (.mk 4 [] [.mk 3 [] [a, c] 0 0 false, .mk 3 [] [b, c] 0 0 false] 0 0 false) := by
  refine ⟨textErr_good (good2 (by simp) (good2 (by simp) ha hb) hc) (by simp only [len2]; omega) ht, textErr_good (good2 (by simp) (good2 (by simp) ha hc) (good2 (by simp) hb hc)) (by simp only [len2]; omega) ht, prs_congr fun i j hi hj => ?_⟩
  rw [Mcat2 _ _ hi, Malt2, Mcat2 _ _ hi, Mcat2 _ _ hi]
  simp only [Malt2]
  constructor
  · rintro ⟨k, hk, h1 | h1, h2⟩
    · exact Or.inl ⟨k, hk, h1, h2⟩
    · exact Or.inr ⟨k, hk, h1, h2⟩
  · rintro (⟨k, hk, h1, h2⟩ | ⟨k, hk, h1, h2⟩)
    · exact ⟨k, hk, Or.inl h1, h2⟩
    · exact ⟨k, hk, Or.inr h1, h2⟩
theorem kleene4 {t : List Int} {a b c : Re} (ht : Runes t) (ha : Good a) (hb : Good b) (hc : Good c) (hl : (pre a).length + (pre b).length + (pre c).length ≤ 18) : Alike t (.mk 4 [] [a, b] 0 0 false) (.mk 4 [] [b, a] 0 0 false) := by
  refine ⟨textErr_good (good2 (by simp) ha hb) (by simp only [len2]; omega) ht, textErr_good (good2 (by simp) hb ha) (by simp only [len2]; omega) ht, prs_congr fun i j hi hj => ?_⟩
  rw [Malt2, Malt2]; exact Or.comm
theorem kleene5 {t : List Int} {a b c : Re} (ht : Runes t) (ha : Good a) (hb : Good b) (hc : Good c) (hl : (pre a).length + (pre b).length + (pre c).length ≤ 18) : Alike t (.mk 4 [] [a, a] 0 0 false) a := by
  refine ⟨textErr_good (good2 (by simp) ha ha) (by simp only [len2]; omega) ht, textErr_good ha (by omega) ht, prs_congr fun i j hi hj => ?_⟩
  rw [Malt2]; exact or_self_iff
theorem kleene6 {t : List Int} {a b c : Re} (ht : Runes t) (ha : Good a) (hb : Good b) (hc : Good c) (hl : (pre a).length + (pre b).length + (pre c).length ≤ 18) : Alike t (.mk 5 [] [a] 0 0 false) (.mk 4 [] [.mk 1 [] [] 0 0 false, .mk 3 [] [a, .mk 5 [] [a] 0 0 false] 0 0 false] 0 0 false) := by
  refine ⟨textErr_good (good1 (by simp) ha) (by simp only [len1]; omega) ht, textErr_good (good2 (by simp) (good0 (by simp)) (good2 (by simp) ha (good1 (by simp) ha))) (by simp only [len2, len1, len0]; omega) ht, prs_congr fun i j hi hj => ?_⟩
  rw [Malt2, Mempty, Mcat2 _ _ hi, Mstar1]
  simp only [Mstar1]
  constructor
  · rintro ⟨k, h⟩
    cases k with
    | zero => exact Or.inl h
    | succ k => obtain ⟨l, hl, h1, h2⟩ := (Pow_left k i j hi hj).1 h; exact Or.inr ⟨l, hl, h1, k, h2⟩
  · rintro (rfl | ⟨l, hl, h1, h2⟩)
    · exact Star_refl _
    · exact Star_trans hl (Star_one hi h1) h2
theorem kleene7 {t : List Int} {a b c : Re} (ht : Runes t) (ha : Good a) (hb : Good b) (hc : Good c) (hl : (pre a).length + (pre b).length + (pre c).length ≤ 18) : Alike t (.mk 3 [] [.mk 5 [] [a] 0 0 false, .mk 5 [] [a] 0 0 false] 0 0 false) (.mk 5 [] [a] 0 0 false) := by
  refine ⟨textErr_good (good2 (by simp) (good1 (by simp) ha) (good1 (by simp) ha)) (by simp only [len2, len1]; omega) ht, textErr_good (good1 (by simp) ha) (by simp only [len1]; omega) ht, prs_congr fun i j hi hj => ?_⟩
  rw [Mcat2 _ _ hi, Mstar1]
  simp only [Mstar1]
  constructor
  · rintro ⟨k, hk, h1, h2⟩; exact Star_trans hk h1 h2
  · intro h; exact ⟨i, hi, Star_refl _, h⟩
theorem kleene8 {t : List Int} {a b c : Re} (ht : Runes t) (ha : Good a) (hb : Good b) (hc : Good c) (hl : (pre a).length + (pre b).length + (pre c).length ≤ 18) : Alike t (.mk 5 [] [.mk 5 [] [a] 0 0 false] 0 0 false) (.mk 5 [] [a] 0 0 false) := by
  refine ⟨textErr_good (good1 (by simp) (good1 (by simp) ha)) (by simp only [len1]; omega) ht, textErr_good (good1 (by simp) ha) (by simp only [len1]; omega) ht, prs_congr fun i j hi hj => ?_⟩
  rw [Mstar1, Mstar1]
  have e : M t (.mk 5 [] [a] 0 0 false) = Star t.length (M t a) := by funext i j; exact propext (Mstar1 a)
  rw [e]
  exact ⟨Star_Star, Star_one hi⟩

theorem boole1 {t : List Int} {a b : Re} (ht : Runes t) (ha : Good a) (hb : Good b) (hl : (pre a).length + (pre b).length ≤ 18) : Alike t (.mk 8 [] [.mk 7 [] [a, b] 0 0 false] 0 0 false) (.mk 4 [] [.mk 8 [] [a] 0 0 false, .mk 8 [] [b] 0 0 false] 0 0 false) := by
  refine ⟨textErr_good (good1 (by simp) (good2 (by simp) ha hb)) (by simp only [len1, len2]; omega) ht, textErr_good (good2 (by simp) (good1 (by simp) ha) (good1 (by simp) hb)) (by simp only [len1, len2]; omega) ht, prs_congr fun i j hi hj => ?_⟩
  rw [Mnot1, Mand2, Malt2, Mnot1, Mnot1, Classical.not_and_iff_not_or_not]
  constructor
  · rintro ⟨h1, h2 | h2⟩
    · exact Or.inl ⟨h1, h2⟩
    · exact Or.inr ⟨h1, h2⟩
  · rintro (⟨h1, h2⟩ | ⟨h1, h2⟩)
    · exact ⟨h1, Or.inl h2⟩
    · exact ⟨h1, Or.inr h2⟩
theorem boole2 {t : List Int} {a b : Re} (ht : Runes t) (ha : Good a) (hb : Good b) (hl : (pre a).length + (pre b).length ≤ 18) : Alike t (.mk 8 [] [.mk 8 [] [a] 0 0 false] 0 0 false) a := by
  refine ⟨textErr_good (good1 (by simp) (good1 (by simp) ha)) (by simp only [len1]; omega) ht, textErr_good ha (by omega) ht, prs_congr fun i j hi hj => ?_⟩
  rw [Mnot1, Mnot1]
  constructor
  · rintro ⟨h1, h2⟩
    by_cases h : M t a i j
    · exact h
    · exact absurd ⟨h1, h⟩ h2
  · intro h; exact ⟨M_le t a i j h, fun h2 => h2.2 h⟩
theorem boole3 {t : List Int} {a b : Re} (ht : Runes t) (ha : Good a) (hb : Good b) (hl : (pre a).length + (pre b).length ≤ 18) : Alike t (.mk 7 [] [a, .mk 8 [] [a] 0 0 false] 0 0 false) (.mk 0 [] [] 0 0 false) := by
  refine ⟨textErr_good (good2 (by simp) ha (good1 (by simp) ha)) (by simp only [len1, len2]; omega) ht, textErr_good (good0 (by simp)) (by simp only [len0]; omega) ht, prs_congr fun i j hi hj => ?_⟩
  rw [Mand2, Mnot1]
  exact ⟨fun h => absurd h.1 h.2.2, fun h => absurd h Mnone0⟩
theorem boole4 {t : List Int} {a b : Re} (ht : Runes t) (ha : Good a) (hb : Good b) (hl : (pre a).length + (pre b).length ≤ 18) : Alike t (.mk 7 [] [a, .mk 4 [] [a, b] 0 0 false] 0 0 false) a := by
  refine ⟨textErr_good (good2 (by simp) ha (good2 (by simp) ha hb)) (by simp only [len2]; omega) ht, textErr_good ha (by omega) ht, prs_congr fun i j hi hj => ?_⟩
  rw [Mand2, Malt2]
  exact ⟨fun h => h.1, fun h => ⟨h, Or.inl h⟩⟩
theorem boole5 {t : List Int} {a b : Re} (ht : Runes t) (ha : Good a) (hb : Good b) (hl : (pre a).length + (pre b).length ≤ 18) : Alike t (.mk 10 [] [.mk 10 [] [a] 0 0 true] 0 0 true) (.mk 10 [] [a] 0 0 false) := by
  refine ⟨textErr_good (goodLook (goodLook ha)) (by simp only [len1]; omega) ht, textErr_good (goodLook ha) (by simp only [len1]; omega) ht, prs_congr fun i j hi hj => ?_⟩
  rw [Mlook1, Mlook1]
  simp only [Mlook1]
  refine and_congr_right fun _ => ?_
  constructor
  · intro h
    refine iff_of_true ?_ trivial
    by_cases hx : ∃ k, k ≤ t.length ∧ M t a i k
    · exact hx
    · have : (∃ k, k ≤ t.length ∧ i = k ∧ ((∃ k, k ≤ t.length ∧ M t a i k) ↔ true = false)) := ⟨i, hi, rfl, iff_of_false hx (by simp)⟩
      have := h.1 this
      simp at this
  · intro h
    refine iff_of_false ?_ (by simp)
    rintro ⟨k, -, -, h2⟩
    have h3 := h2.1 (h.2 trivial)
    simp at h3
theorem boole6 {t : List Int} {a b : Re} (ht : Runes t) (ha : Good a) (hb : Good b) (hl : (pre a).length + (pre b).length ≤ 18) : Alike t (.mk 4 [] [.mk 10 [] [a] 0 0 false, .mk 10 [] [a] 0 0 true] 0 0 false) (.mk 1 [] [] 0 0 false) := by
  refine ⟨textErr_good (good2 (by simp) (goodLook ha) (goodLook ha)) (by simp only [len1, len2]; omega) ht, textErr_good (good0 (by simp)) (by simp only [len0]; omega) ht, prs_congr fun i j hi hj => ?_⟩
  rw [Malt2, Mlook1, Mlook1, Mempty]
  constructor
  · rintro (h | h) <;> exact h.1
  · rintro rfl
    by_cases hx : ∃ k, k ≤ t.length ∧ M t a i k
    · exact Or.inl ⟨rfl, iff_of_true hx rfl⟩
    · exact Or.inr ⟨rfl, iff_of_false hx (by simp)⟩
end Go.Proofs.Ytbnahmeaeakhhaa.B
