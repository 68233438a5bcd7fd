/- Plain law: what the definition of matching says, unfolded as the reference unfolds it. No program is in sight here. -/
import Derived.Test.YtbnahmeaeakhhaaRl
namespace Go.Proofs.Ytbnahmeaeakhhaa.B
set_option linter.unusedVariables false
set_option linter.unusedSimpArgs false
open Classical

theorem Pow_le {n : Nat} {R : Rel} (h : ∀ i j, R i j → i ≤ j) : ∀ k i j, Pow n R k i j → i ≤ j := by
  intro k
  induction k with
  | zero => rintro i j rfl; exact Nat.le_refl _
  | succ k ih => rintro i j ⟨l, -, h1, h2⟩; exact Nat.le_trans (ih _ _ h1) (h _ _ h2)
theorem cat_le {n : Nat} : ∀ (l : List Rel) (S : Rel), (∀ R ∈ l, ∀ i j, R i j → i ≤ j) → (∀ i j, S i j → i ≤ j) → ∀ i j, (l.foldl (Comp n) S) i j → i ≤ j := by
  intro l
  induction l with
  | nil => intro S _ h i j; exact h i j
  | cons R l ih =>
    intro S hl h
    exact ih (Comp n S R) (fun R' hR => hl R' (List.mem_cons_of_mem _ hR)) fun i j ⟨k, _, h1, h2⟩ => Nat.le_trans (h _ _ h1) (hl R (List.mem_cons_self ..) _ _ h2)
theorem M_le (t : List Int) (r : Re) : ∀ i j, M t r i j → i ≤ j := by
  induction r using Re.ind with
  | h kind set args mn mx neg ih =>
  have ih' : ∀ R ∈ args.map (M t), ∀ i j, R i j → i ≤ j := fun R hR => by
    obtain ⟨a, ha, rfl⟩ := List.mem_map.1 hR
    exact ih a ha
  have hh : ∀ i j, ((args.map (M t)).headD fun _ _ => False) i j → i ≤ j := by
    intro i j h
    cases hl : args.map (M t) with
    | nil => rw [hl] at h; exact absurd h id
    | cons R l => rw [hl] at h; exact ih' R (by rw [hl]; exact List.mem_cons_self ..) i j h
  intro i j
  rw [M_eq, opM]
  by_cases h1 : kind = 1
  · rw [if_pos h1]; rintro rfl; exact Nat.le_refl _
  rw [if_neg h1]
  by_cases h2 : kind = 2
  · rw [if_pos h2]; rintro ⟨h, -⟩; omega
  rw [if_neg h2]
  by_cases h3 : kind = 3
  · rw [if_pos h3]; exact cat_le _ _ ih' (fun i j h => by subst h; exact Nat.le_refl _) i j
  rw [if_neg h3]
  by_cases h4 : kind = 4
  · rw [if_pos h4]; rintro ⟨R, hR, h⟩; exact ih' R hR i j h
  rw [if_neg h4]
  by_cases h5 : kind = 5
  · rw [if_pos h5]; rintro ⟨k, h⟩; exact Pow_le hh k i j h
  rw [if_neg h5]
  by_cases h6 : kind = 6
  · rw [if_pos h6]; rintro ⟨k, -, -, h⟩; exact Pow_le hh k i j h
  rw [if_neg h6]
  by_cases h7 : kind = 7
  · rw [if_pos h7]; exact fun h => h.1
  rw [if_neg h7]
  by_cases h8 : kind = 8
  · rw [if_pos h8]; exact fun h => h.1
  rw [if_neg h8]
  by_cases h9 : kind = 9
  · rw [if_pos h9]; exact hh i j
  rw [if_neg h9]
  by_cases h10 : kind = 10
  · rw [if_pos h10]; rintro ⟨rfl, -⟩; exact Nat.le_refl _
  rw [if_neg h10]; exact fun h => absurd h id

theorem Comp_assoc {n : Nat} {R S T : Rel} : Comp n (Comp n R S) T = Comp n R (Comp n S T) := by
  funext i j
  refine propext ⟨?_, ?_⟩
  · rintro ⟨k, hk, ⟨l, hl, h1, h2⟩, h3⟩; exact ⟨l, hl, h1, k, hk, h2, h3⟩
  · rintro ⟨l, hl, h1, k, hk, h2, h3⟩; exact ⟨k, hk, ⟨l, hl, h1, h2⟩, h3⟩
theorem foldl_Comp {n : Nat} : ∀ (l : List Rel) (R S : Rel), l.foldl (Comp n) (Comp n R S) = Comp n R (l.foldl (Comp n) S) := by
  intro l
  induction l with
  | nil => intro R S; rfl
  | cons T l ih => intro R S; rw [List.foldl_cons, List.foldl_cons, Comp_assoc, ih]
/-- a concatenation: its first part and the rest -/
theorem cat_cons {n : Nat} (l : List Rel) (R : Rel) (i j : Nat) (hi : i ≤ n) : ((R :: l).foldl (Comp n) fun i j => i = j) i j ↔ (l.foldl (Comp n) R) i j := by
  rw [List.foldl_cons]
  have h : ∀ (l : List Rel) (S T : Rel), (∀ j, S i j ↔ T i j) → ∀ j, ((l.foldl (Comp n) S) i j ↔ (l.foldl (Comp n) T) i j) := by
    intro l
    induction l with
    | nil => intro S T h j; exact h j
    | cons U l ih =>
      intro S T h
      exact ih _ _ fun j => ⟨fun ⟨k, hk, h1, h2⟩ => ⟨k, hk, (h k).1 h1, h2⟩, fun ⟨k, hk, h1, h2⟩ => ⟨k, hk, (h k).2 h1, h2⟩⟩
  refine h l _ _ (fun j => ⟨?_, fun h => ⟨i, hi, rfl, h⟩⟩) j
  rintro ⟨k, -, rfl, h⟩; exact h
theorem cat_two {n : Nat} (l : List Rel) (R S : Rel) (i j : Nat) (hi : i ≤ n) : ((R :: S :: l).foldl (Comp n) fun i j => i = j) i j ↔ ∃ k, k ≤ n ∧ R i k ∧ ((S :: l).foldl (Comp n) fun i j => i = j) k j := by
  rw [cat_cons _ _ _ _ hi, List.foldl_cons, foldl_Comp]
  exact ⟨fun ⟨k, hk, h1, h2⟩ => ⟨k, hk, h1, (cat_cons l S k j hk).2 h2⟩, fun ⟨k, hk, h1, h2⟩ => ⟨k, hk, h1, (cat_cons l S k j hk).1 h2⟩⟩

theorem Pow_left {n : Nat} {R : Rel} : ∀ k i j, i ≤ n → j ≤ n → (Pow n R (k + 1) i j ↔ ∃ l, l ≤ n ∧ R i l ∧ Pow n R k l j) := by
  intro k
  induction k with
  | zero =>
    intro i j hi hj
    exact ⟨fun ⟨l, hl, h1, h2⟩ => ⟨j, hj, by obtain rfl : i = l := h1; exact h2, rfl⟩, fun ⟨l, hl, h1, h2⟩ => ⟨i, hi, rfl, by obtain rfl : l = j := h2; exact h1⟩⟩
  | succ k ih =>
    intro i j hi hj
    constructor
    · rintro ⟨l, hl, h1, h2⟩
      obtain ⟨m, hm, h3, h4⟩ := (ih i l hi hl).1 h1
      exact ⟨m, hm, h3, l, hl, h4, h2⟩
    · rintro ⟨m, hm, h3, l, hl, h4, h2⟩
      exact ⟨l, hl, (ih i l hi hl).2 ⟨m, hm, h3, h4⟩, h2⟩
/-- a star: nothing, or a part that is not empty and then the star -/
theorem Star_left {n : Nat} {R : Rel} (hR : ∀ i j, R i j → i ≤ j) (i j : Nat) (hi : i ≤ n) (hj : j ≤ n) : Star n R i j ↔ i = j ∨ ∃ k, i < k ∧ k ≤ n ∧ R i k ∧ Star n R k j := by
  constructor
  · rintro ⟨k, h⟩
    have aux : ∀ k i, i ≤ n → Pow n R k i j → i = j ∨ ∃ k, i < k ∧ k ≤ n ∧ R i k ∧ Star n R k j := by
      intro k
      induction k with
      | zero => intro i _ h; exact Or.inl h
      | succ k ih =>
        intro i hi h
        obtain ⟨l, hl, h1, h2⟩ := (Pow_left k i j hi hj).1 h
        by_cases e : i = l
        · subst e; exact ih i hi h2
        · exact Or.inr ⟨l, by have := hR _ _ h1; omega, hl, h1, k, h2⟩
    exact aux k i hi h
  · rintro (rfl | ⟨k, h1, h2, h3, m, h4⟩)
    · exact ⟨0, rfl⟩
    · exact ⟨m + 1, (Pow_left m i j hi hj).2 ⟨k, h2, h3, h4⟩⟩

/-- the repetition, from mn to mx times -/
def Rep (n : Nat) (R : Rel) (mn mx : Int) : Rel := fun i j => ∃ k : Nat, mn ≤ k ∧ (k : Int) ≤ mx ∧ Pow n R k i j
theorem Rep_left {n : Nat} {R : Rel} (mn mx : Int) (h0 : 0 ≤ mn) (h1 : 0 ≤ mx) (i j : Nat) (hi : i ≤ n) (hj : j ≤ n) :
    Rep n R mn mx i j ↔ (mn = 0 ∧ i = j) ∨ (mx ≠ 0 ∧ ∃ k, k ≤ n ∧ R i k ∧ Rep n R (max 0 (mn - 1)) (mx - 1) k j) := by
  constructor
  · rintro ⟨k, h2, h3, h4⟩
    cases k with
    | zero => exact Or.inl ⟨by omega, h4⟩
    | succ k =>
      obtain ⟨l, hl, h5, h6⟩ := (Pow_left k i j hi hj).1 h4
      exact Or.inr ⟨by omega, l, hl, h5, k, by omega, by omega, h6⟩
  · rintro (⟨h2, rfl⟩ | ⟨h2, l, hl, h5, k, h6, h7, h8⟩)
    · exact ⟨0, by omega, by omega, rfl⟩
    · exact ⟨k + 1, by omega, by omega, (Pow_left k i j hi hj).2 ⟨l, hl, h5, h8⟩⟩

section
variable (t : List Int) (set : List Span) (args : List Re) (mn mx : Int) (neg : Bool) (i j : Nat)
theorem M1 : M t (.mk 1 set args mn mx neg) i j ↔ i = j := by rw [M_eq, opM, if_pos rfl]
theorem M2 : M t (.mk 2 set args mn mx neg) i j ↔ j = i + 1 ∧ ∃ c, t[i]? = some c ∧ inSet set c := by rw [M_eq, opM, if_neg (by decide), if_pos rfl]
theorem M3 : M t (.mk 3 set args mn mx neg) i j ↔ ((args.map (M t)).foldl (Comp t.length) fun i j => i = j) i j := by
  rw [M_eq, opM, if_neg (by decide), if_neg (by decide), if_pos rfl]
theorem M4 : M t (.mk 4 set args mn mx neg) i j ↔ ∃ a ∈ args, M t a i j := by
  rw [M_eq, opM, if_neg (by decide), if_neg (by decide), if_neg (by decide), if_pos rfl]
  exact ⟨fun ⟨R, hR, h⟩ => by obtain ⟨a, ha, rfl⟩ := List.mem_map.1 hR; exact ⟨a, ha, h⟩, fun ⟨a, ha, h⟩ => ⟨_, List.mem_map.2 ⟨a, ha, rfl⟩, h⟩⟩
theorem M5 (a : Re) (l : List Re) : M t (.mk 5 set (a :: l) mn mx neg) i j ↔ Star t.length (M t a) i j := by
  rw [M_eq, opM, if_neg (by decide), if_neg (by decide), if_neg (by decide), if_neg (by decide), if_pos rfl]; rfl
theorem M6 (a : Re) (l : List Re) : M t (.mk 6 set (a :: l) mn mx neg) i j ↔ Rep t.length (M t a) mn mx i j := by
  rw [M_eq, opM, if_neg (by decide), if_neg (by decide), if_neg (by decide), if_neg (by decide), if_neg (by decide), if_pos rfl]; rfl
theorem M7 : M t (.mk 7 set args mn mx neg) i j ↔ i ≤ j ∧ ∀ a ∈ args, M t a i j := by
  rw [M_eq, opM, if_neg (by decide), if_neg (by decide), if_neg (by decide), if_neg (by decide), if_neg (by decide), if_neg (by decide), if_pos rfl]
  exact ⟨fun ⟨h0, h⟩ => ⟨h0, fun a ha => h _ (List.mem_map.2 ⟨a, ha, rfl⟩)⟩, fun ⟨h0, h⟩ => ⟨h0, fun R hR => by obtain ⟨a, ha, rfl⟩ := List.mem_map.1 hR; exact h a ha⟩⟩
theorem M8 (a : Re) : M t (.mk 8 set [a] mn mx neg) i j ↔ i ≤ j ∧ ¬ M t a i j := by
  rw [M_eq, opM, if_neg (by decide), if_neg (by decide), if_neg (by decide), if_neg (by decide), if_neg (by decide), if_neg (by decide), if_neg (by decide), if_pos rfl]; simp
theorem M9 (a : Re) (l : List Re) : M t (.mk 9 set (a :: l) mn mx neg) i j ↔ M t a i j := by
  rw [M_eq, opM, if_neg (by decide), if_neg (by decide), if_neg (by decide), if_neg (by decide), if_neg (by decide), if_neg (by decide), if_neg (by decide), if_neg (by decide), if_pos rfl]; rfl
theorem M10 (a : Re) (l : List Re) : M t (.mk 10 set (a :: l) mn mx neg) i j ↔ i = j ∧ ((∃ k, k ≤ t.length ∧ M t a i k) ↔ neg = false) := by
  rw [M_eq, opM, if_neg (by decide), if_neg (by decide), if_neg (by decide), if_neg (by decide), if_neg (by decide), if_neg (by decide), if_neg (by decide), if_neg (by decide), if_neg (by decide), if_pos rfl]; rfl
theorem M0 (k : Int) (h : k < 1 ∨ 10 < k) : ¬ M t (.mk k set args mn mx neg) i j := by
  rw [M_eq, opM, if_neg (by omega), if_neg (by omega), if_neg (by omega), if_neg (by omega), if_neg (by omega), if_neg (by omega), if_neg (by omega), if_neg (by omega), if_neg (by omega), if_neg (by omega)]; exact id
end

end Go.Proofs.Ytbnahmeaeakhhaa.B
