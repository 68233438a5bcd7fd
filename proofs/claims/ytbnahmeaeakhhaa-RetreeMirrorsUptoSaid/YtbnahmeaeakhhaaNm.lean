/- The normal form matches the same. No program is in sight here. -/
import Derived.Test.YtbnahmeaeakhhaaNf
namespace Go.Proofs.Ytbnahmeaeakhhaa.B
set_option linter.unusedVariables false
set_option linter.unusedSimpArgs false
open Go Go.RowKit Classical

/-- two expressions match the same parts of a text -/
def Meq (t : List Int) (x y : Re) : Prop := ∀ i j, i ≤ t.length → j ≤ t.length → (M t x i j ↔ M t y i j)
theorem Meq.refl (t : List Int) (x : Re) : Meq t x x := fun _ _ _ _ => Iff.rfl
theorem Meq.trans {t : List Int} {x y z : Re} (h : Meq t x y) (k : Meq t y z) : Meq t x z := fun i j hi hj => (h i j hi hj).trans (k i j hi hj)

/-- one after the other -/
def catM (t : List Int) : List Re → Nat → Nat → Prop
  | [], i, j => i = j
  | a :: l, i, j => ∃ k, k ≤ t.length ∧ M t a i k ∧ catM t l k j
theorem catM_append {t : List Int} (l m : List Re) (i j : Nat) (hi : i ≤ t.length) : catM t (l ++ m) i j ↔ ∃ k, k ≤ t.length ∧ catM t l i k ∧ catM t m k j := by
  induction l generalizing i with
  | nil => simp only [List.nil_append, catM]; exact ⟨fun h => ⟨i, hi, rfl, h⟩, fun ⟨k, _, e, h⟩ => e ▸ h⟩
  | cons a l ih =>
    simp only [List.cons_append, catM]
    constructor
    · rintro ⟨k, hk, h1, h2⟩
      obtain ⟨q, hq, h3, h4⟩ := (ih k hk).1 h2
      exact ⟨q, hq, ⟨k, hk, h1, h3⟩, h4⟩
    · rintro ⟨q, hq, ⟨k, hk, h1, h3⟩, h4⟩
      exact ⟨k, hk, h1, (ih k hk).2 ⟨q, hq, h3, h4⟩⟩
theorem catM_one {t : List Int} (a : Re) (i j : Nat) (hj : j ≤ t.length) : catM t [a] i j ↔ M t a i j := by
  simp only [catM]; exact ⟨fun ⟨k, _, h, e⟩ => e ▸ h, fun h => ⟨j, hj, h, rfl⟩⟩
theorem M3cat {t : List Int} {s : List Span} {mn mx : Int} {ng : Bool} (l : List Re) (i j : Nat) (hi : i ≤ t.length) (hj : j ≤ t.length) : M t (.mk 3 s l mn mx ng) i j ↔ catM t l i j := by
  rw [M3]
  induction l generalizing i with
  | nil => simp [catM]
  | cons a l ih =>
    cases l with
    | nil => rw [catM_one a i j hj, List.map_cons, List.map_nil, cat_cons _ _ _ _ hi]; simp
    | cons b l =>
      rw [List.map_cons, List.map_cons, cat_two _ _ _ _ _ hi]
      show _ ↔ ∃ k, k ≤ t.length ∧ M t a i k ∧ catM t (b :: l) k j
      exact exists_congr fun k => and_congr_right fun hk => and_congr_right fun _ => ih k hk
theorem catM_none {t : List Int} {l : List Re} {a : Re} (ha : a ∈ l) (h0 : a.kind = 0) (i j : Nat) : ¬ catM t l i j := by
  induction l generalizing i with
  | nil => simp at ha
  | cons b l ih =>
    rintro ⟨k, hk, h1, h2⟩
    rcases List.mem_cons.1 ha with rfl | h
    · cases a with
      | mk k' s l' mn mx ng =>
        have e : k' = 0 := h0
        subst e
        exact M0 t s l' mn mx ng i k 0 (by omega) h1
    · exact ih h k h2

theorem Pow_congr {n : Nat} {R S : Rel} (h : ∀ i j, i ≤ n → j ≤ n → (R i j ↔ S i j)) (k : Nat) : ∀ i j, i ≤ n → j ≤ n → (Pow n R k i j ↔ Pow n S k i j) := by
  induction k with
  | zero => intro i j _ _; exact Iff.rfl
  | succ k ih =>
    intro i j hi hj
    exact exists_congr fun l => and_congr_right fun hl => and_congr (ih i l hi hl) (h l j hl hj)

/-- a node over other arguments that match the same -/
theorem Meq_node {t : List Int} {f : Re → Re} {k : Int} {s : List Span} {l : List Re} {mn mx : Int} {ng : Bool} (h : ∀ a ∈ l, Meq t (f a) a) : Meq t (.mk k s (l.map f) mn mx ng) (.mk k s l mn mx ng) := by
  intro i j hi hj
  have hhead : ∀ i j, i ≤ t.length → j ≤ t.length → (((l.map f).map (M t)).headD (fun _ _ => False) i j ↔ (l.map (M t)).headD (fun _ _ => False) i j) := by
    intro i j hi hj
    cases l with
    | nil => exact Iff.rfl
    | cons a l => exact h a (by simp) i j hi hj
  by_cases h3 : k = 3
  · subst h3
    rw [M3cat _ _ _ hi hj, M3cat _ _ _ hi hj]
    have : ∀ (l : List Re), (∀ a ∈ l, Meq t (f a) a) → ∀ i, i ≤ t.length → (catM t (l.map f) i j ↔ catM t l i j) := by
      intro l
      induction l with
      | nil => intro _ i _; exact Iff.rfl
      | cons a l ih =>
        intro h i hi
        simp only [List.map_cons, catM]
        exact exists_congr fun q => and_congr_right fun hq => and_congr (h a (by simp) i q hi hq) (ih (fun b hb => h b (by simp [hb])) q hq)
    exact this l h i hi
  · rw [M_eq, M_eq]
    unfold opM
    split
    · exact Iff.rfl
    · split
      · exact Iff.rfl
      · split
        · constructor
          · rintro ⟨R, hR, h1⟩
            obtain ⟨b, hb, rfl⟩ := List.mem_map.1 hR
            obtain ⟨a, ha, rfl⟩ := List.mem_map.1 hb
            exact ⟨_, List.mem_map.2 ⟨a, ha, rfl⟩, (h a ha i j hi hj).1 h1⟩
          · rintro ⟨R, hR, h1⟩
            obtain ⟨a, ha, rfl⟩ := List.mem_map.1 hR
            exact ⟨_, List.mem_map.2 ⟨f a, List.mem_map.2 ⟨a, ha, rfl⟩, rfl⟩, (h a ha i j hi hj).2 h1⟩
        · split
          · exact exists_congr fun q => Pow_congr hhead q i j hi hj
          · split
            · exact exists_congr fun q => and_congr_right fun _ => and_congr_right fun _ => Pow_congr hhead q i j hi hj
            · split
              · refine and_congr_right fun _ => ⟨fun h1 R hR => ?_, fun h1 R hR => ?_⟩
                · obtain ⟨a, ha, rfl⟩ := List.mem_map.1 hR
                  exact (h a ha i j hi hj).1 (h1 _ (List.mem_map.2 ⟨f a, List.mem_map.2 ⟨a, ha, rfl⟩, rfl⟩))
                · obtain ⟨b, hb, rfl⟩ := List.mem_map.1 hR
                  obtain ⟨a, ha, rfl⟩ := List.mem_map.1 hb
                  exact (h a ha i j hi hj).2 (h1 _ (List.mem_map.2 ⟨a, ha, rfl⟩))
              · split
                · refine and_congr_right fun _ => ⟨fun h1 R hR => ?_, fun h1 R hR => ?_⟩
                  · obtain ⟨a, ha, rfl⟩ := List.mem_map.1 hR
                    exact fun h2 => h1 _ (List.mem_map.2 ⟨f a, List.mem_map.2 ⟨a, ha, rfl⟩, rfl⟩) ((h a ha i j hi hj).2 h2)
                  · obtain ⟨b, hb, rfl⟩ := List.mem_map.1 hR
                    obtain ⟨a, ha, rfl⟩ := List.mem_map.1 hb
                    exact fun h2 => h1 _ (List.mem_map.2 ⟨a, ha, rfl⟩) ((h a ha i j hi hj).1 h2)
                · split
                  · exact hhead i j hi hj
                  · split
                    · refine and_congr_right fun _ => iff_congr (exists_congr fun q => and_congr_right fun hq => hhead i q hi hq) Iff.rfl
                    · exact Iff.rfl

theorem flat1_self (K s l mn mx ng) : flat1 K (.mk K s l mn mx ng) = l := by simp [flat1, Re.kind, Re.args]
theorem flat1_e3 (s l mn mx ng) : flat1 3 (.mk 1 s l mn mx ng) = [] := by simp [flat1, Re.kind]
theorem flat1_n4 (s l mn mx ng) : flat1 4 (.mk 0 s l mn mx ng) = [] := by simp [flat1, Re.kind]
theorem flat1_else {K k : Int} (s l mn mx ng) (h : k ≠ K) (h1 : ¬ (k = 1 ∧ K = 3)) (h2 : ¬ (k = 0 ∧ K = 4)) : flat1 K (.mk k s l mn mx ng) = [.mk k s l mn mx ng] := by
  unfold flat1
  rw [if_neg (show ¬ (Re.mk k s l mn mx ng).kind = K from h), if_neg (fun hh => hh.elim h1 h2)]
theorem flat1_3 {t : List Int} (a : Re) (i j : Nat) (hi : i ≤ t.length) (hj : j ≤ t.length) : catM t (flat1 3 a) i j ↔ M t a i j := by
  cases a with
  | mk k s l mn mx ng =>
    by_cases h3 : k = 3
    · subst h3; rw [flat1_self]; exact (M3cat l i j hi hj).symm
    · by_cases h1 : k = 1
      · subst h1; rw [flat1_e3]; exact (M1 t s l mn mx ng i j).symm
      · rw [flat1_else s l mn mx ng h3 (by omega) (by omega)]; exact catM_one _ i j hj
theorem sevL_3 {t : List Int} (l : List Re) (i j : Nat) (hi : i ≤ t.length) (hj : j ≤ t.length) : catM t (sevL 3 l) i j ↔ catM t l i j := by
  induction l generalizing i with
  | nil => simp [sevL]
  | cons a l ih =>
    have e : sevL 3 (a :: l) = flat1 3 a ++ sevL 3 l := by simp [sevL]
    rw [e, catM_append _ _ _ _ hi]
    simp only [catM]
    exact exists_congr fun k => and_congr_right fun hk => and_congr (flat1_3 a i k hi hk) (ih k hk)
theorem sevEnd_3 {t : List Int} (l : List Re) (i j : Nat) (hi : i ≤ t.length) (hj : j ≤ t.length) : M t (sevEnd 3 l) i j ↔ catM t l i j := by
  match l with
  | [] => simp only [sevEnd, if_true, catM]; exact M1 ..
  | [a] => exact (catM_one a i j hj).symm
  | a :: b :: l => exact M3cat _ i j hi hj
theorem sevF_3 {t : List Int} (s l mn mx ng) : Meq t (sevF 3 l) (.mk 3 s l mn mx ng) := by
  intro i j hi hj
  rw [M3cat _ _ _ hi hj, ← sevL_3 l i j hi hj]
  unfold sevF
  split
  · rename_i h
    obtain ⟨-, a, ha, h0⟩ := h
    exact iff_of_false (M0 t [] [] 0 0 false i j 0 (by omega)) (catM_none ha h0 i j)
  · rw [if_neg (by omega)]; exact sevEnd_3 _ i j hi hj

theorem sevL_4 {t : List Int} (l : List Re) (i j : Nat) : (∃ a ∈ sevL 4 l, M t a i j) ↔ ∃ a ∈ l, M t a i j := by
  constructor
  · rintro ⟨x, hx, h⟩
    obtain ⟨m, hm, hx⟩ := List.mem_flatten.1 hx
    obtain ⟨a, ha, rfl⟩ := List.mem_map.1 hm
    refine ⟨a, ha, ?_⟩
    cases a with
    | mk k s l mn mx ng =>
      by_cases h4 : k = 4
      · subst h4; rw [flat1_self] at hx; exact (M4 ..).2 ⟨x, hx, h⟩
      · by_cases h0 : k = 0
        · subst h0; rw [flat1_n4] at hx; simp at hx
        · rw [flat1_else s l mn mx ng h4 (by omega) (by omega)] at hx
          rw [← List.mem_singleton.1 hx]; exact h
  · rintro ⟨a, ha, h⟩
    cases a with
    | mk k s l' mn mx ng =>
      by_cases h4 : k = 4
      · subst h4
        obtain ⟨x, hx, h⟩ := (M4 ..).1 h
        exact ⟨x, List.mem_flatten.2 ⟨_, List.mem_map.2 ⟨_, ha, rfl⟩, by rw [flat1_self]; exact hx⟩, h⟩
      · by_cases h0 : k = 0
        · subst h0; exact absurd h (M0 t s l' mn mx ng i j 0 (by omega))
        · exact ⟨_, List.mem_flatten.2 ⟨_, List.mem_map.2 ⟨_, ha, rfl⟩, by rw [flat1_else _ _ _ _ _ h4 (by omega) (by omega)]; simp⟩, h⟩
theorem sevEnd_4 {t : List Int} (l : List Re) (i j : Nat) : M t (sevEnd 4 l) i j ↔ ∃ a ∈ l, M t a i j := by
  match l with
  | [] => simp only [sevEnd]; exact iff_of_false (M0 t [] [] 0 0 false i j 0 (by omega)) (by simp)
  | [a] => simp [sevEnd]
  | a :: b :: l => exact M4 ..
theorem sevF_4 {t : List Int} (s l mn mx ng) : Meq t (sevF 4 l) (.mk 4 s l mn mx ng) := by
  intro i j hi hj
  rw [M4, ← sevL_4]
  unfold sevF
  rw [if_neg (fun h => h.1 rfl), if_pos (by omega), sevEnd_4]
  simp only [mem_onceL]

theorem sevL_7 {t : List Int} (l : List Re) (i j : Nat) (hij : i ≤ j) : (∀ a ∈ sevL 7 l, M t a i j) ↔ ∀ a ∈ l, M t a i j := by
  constructor
  · intro h a ha
    cases a with
    | mk k s l' mn mx ng =>
      by_cases h7 : k = 7
      · subst h7
        exact (M7 ..).2 ⟨hij, fun x hx => h x (List.mem_flatten.2 ⟨_, List.mem_map.2 ⟨_, ha, rfl⟩, by rw [flat1_self]; exact hx⟩)⟩
      · exact h _ (List.mem_flatten.2 ⟨_, List.mem_map.2 ⟨_, ha, rfl⟩, by rw [flat1_else _ _ _ _ _ h7 (by omega) (by omega)]; simp⟩)
  · intro h x hx
    obtain ⟨m, hm, hx⟩ := List.mem_flatten.1 hx
    obtain ⟨a, ha, rfl⟩ := List.mem_map.1 hm
    have h1 := h a ha
    cases a with
    | mk k s l mn mx ng =>
      by_cases h7 : k = 7
      · subst h7; rw [flat1_self] at hx; exact ((M7 ..).1 h1).2 x hx
      · rw [flat1_else _ _ _ _ _ h7 (by omega) (by omega)] at hx
        rw [List.mem_singleton.1 hx]; exact h1
theorem sevEnd_7 {t : List Int} (l : List Re) (hl : l ≠ []) (i j : Nat) : M t (sevEnd 7 l) i j ↔ i ≤ j ∧ ∀ a ∈ l, M t a i j := by
  match l, hl with
  | [a], _ => simp only [sevEnd, List.mem_singleton, forall_eq]; exact ⟨fun h => ⟨M_le t a i j h, h⟩, fun h => h.2⟩
  | a :: b :: l, _ => exact M7 ..
theorem sevL_ne (l : List Re) (hl : l ≠ []) (hg : ∀ a ∈ l, Good a) : sevL 7 l ≠ [] := by
  cases l with
  | nil => exact absurd rfl hl
  | cons a l =>
    have e : sevL 7 (a :: l) = flat1 7 a ++ sevL 7 l := by simp [sevL]
    rw [e]
    intro h
    have h1 := (List.append_eq_nil_iff.1 h).1
    have ha := hg a (by simp)
    cases a with
    | mk k s l' mn mx ng =>
      by_cases h7 : k = 7
      · subst h7
        rw [flat1_self] at h1
        have := node_many (good_node ha) (by omega)
        have h2 : l' = [] := h1
        rw [h2] at this; simp at this
      · rw [flat1_else _ _ _ _ _ h7 (by omega) (by omega)] at h1; simp at h1
theorem sevF_7 {t : List Int} (s l mn mx ng) (hl : l ≠ []) (hg : ∀ a ∈ l, Good a) : Meq t (sevF 7 l) (.mk 7 s l mn mx ng) := by
  intro i j hi hj
  rw [M7]
  have h7 : (i ≤ j ∧ ∀ a ∈ l, M t a i j) ↔ (i ≤ j ∧ ∀ a ∈ sevL 7 l, M t a i j) := and_congr_right fun hij => (sevL_7 l i j hij).symm
  rw [h7]
  unfold sevF
  split
  · rename_i h
    obtain ⟨-, a, ha, h0⟩ := h
    refine iff_of_false (M0 t [] [] 0 0 false i j 0 (by omega)) (fun h => ?_)
    have := h.2 a ha
    cases a with
    | mk k s l mn mx ng =>
      have e : k = 0 := h0
      subst e
      exact M0 t s l mn mx ng i j 0 (by omega) this
  · have hne := sevL_ne l hl hg
    have hn2 : onceL (sevL 7 l) ≠ [] := fun h => by
      cases hs : sevL 7 l with
      | nil => exact hne hs
      | cons x m => have := (mem_onceL (sevL 7 l) x).2 (by rw [hs]; simp); rw [h] at this; simp at this
    rw [if_pos (by omega), sevEnd_7 _ hn2]
    simp only [mem_onceL]
end Go.Proofs.Ytbnahmeaeakhhaa.B
