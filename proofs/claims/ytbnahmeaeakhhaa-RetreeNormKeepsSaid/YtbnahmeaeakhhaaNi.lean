/- The normal form matches the same. No program is in sight here. The normal form matches the same; it is its own normal form. No program is in sight here. -/
import Derived.Test.YtbnahmeaeakhhaaNf
namespace Go.Proofs.Ytbnahmeaeakhhaa.B
set_option linter.unusedVariables false
set_option linter.unusedSimpArgs false
open Go Go.RowKit Classical

/-- two expressions match the same parts of a text -/
def Meq (t : List Int) (x y : Re) : Prop := ∀ i j, i ≤ t.length → j ≤ t.length → (M t x i j ↔ M t y i j)
theorem Meq.refl (t : List Int) (x : Re) : Meq t x x := fun _ _ _ _ => Iff.rfl
theorem Meq.trans {t : List Int} {x y z : Re} (h : Meq t x y) (k : Meq t y z) : Meq t x z := fun i j hi hj => (h i j hi hj).trans (k i j hi hj)

/-- one after the other -/
def catM (t : List Int) : List Re → Nat → Nat → Prop
  | [], i, j => i = j
  | a :: l, i, j => ∃ k, k ≤ t.length ∧ M t a i k ∧ catM t l k j
theorem catM_append {t : List Int} (l m : List Re) (i j : Nat) (hi : i ≤ t.length) : catM t (l ++ m) i j ↔ ∃ k, k ≤ t.length ∧ catM t l i k ∧ catM t m k j := by
  induction l generalizing i with
  | nil => simp only [List.nil_append, catM]; exact ⟨fun h => ⟨i, hi, rfl, h⟩, fun ⟨k, _, e, h⟩ => e ▸ h⟩
  | cons a l ih =>
    simp only [List.cons_append, catM]
    constructor
    · rintro ⟨k, hk, h1, h2⟩
      obtain ⟨q, hq, h3, h4⟩ := (ih k hk).1 h2
      exact ⟨q, hq, ⟨k, hk, h1, h3⟩, h4⟩
    · rintro ⟨q, hq, ⟨k, hk, h1, h3⟩, h4⟩
      exact ⟨k, hk, h1, (ih k hk).2 ⟨q, hq, h3, h4⟩⟩
theorem catM_one {t : List Int} (a : Re) (i j : Nat) (hj : j ≤ t.length) : catM t [a] i j ↔ M t a i j := by
  simp only [catM]; exact ⟨fun ⟨k, _, h, e⟩ => e ▸ h, fun h => ⟨j, hj, h, rfl⟩⟩
theorem M3cat {t : List Int} {s : List Span} {mn mx : Int} {ng : Bool} (l : List Re) (i j : Nat) (hi : i ≤ t.length) (hj : j ≤ t.length) : M t (.mk 3 s l mn mx ng) i j ↔ catM t l i j := by
  rw [M3]
  induction l generalizing i with
  | nil => simp [catM]
  | cons a l ih =>
    cases l with
    | nil => rw [catM_one a i j hj, List.map_cons, List.map_nil, cat_cons _ _ _ _ hi]; simp
    | cons b l =>
      rw [List.map_cons, List.map_cons, cat_two _ _ _ _ _ hi]
      show _ ↔ ∃ k, k ≤ t.length ∧ M t a i k ∧ catM t (b :: l) k j
      exact exists_congr fun k => and_congr_right fun hk => and_congr_right fun _ => ih k hk
theorem catM_none {t : List Int} {l : List Re} {a : Re} (ha : a ∈ l) (h0 : a.kind = 0) (i j : Nat) : ¬ catM t l i j := by
  induction l generalizing i with
  | nil => simp at ha
  | cons b l ih =>
    rintro ⟨k, hk, h1, h2⟩
    rcases List.mem_cons.1 ha with rfl | h
    · cases a with
      | mk k' s l' mn mx ng =>
        have e : k' = 0 := h0
        subst e
        exact M0 t s l' mn mx ng i k 0 (by omega) h1
    · exact ih h k h2

theorem Pow_congr {n : Nat} {R S : Rel} (h : ∀ i j, i ≤ n → j ≤ n → (R i j ↔ S i j)) (k : Nat) : ∀ i j, i ≤ n → j ≤ n → (Pow n R k i j ↔ Pow n S k i j) := by
  induction k with
  | zero => intro i j _ _; exact Iff.rfl
  | succ k ih =>
    intro i j hi hj
    exact exists_congr fun l => and_congr_right fun hl => and_congr (ih i l hi hl) (h l j hl hj)

/-- a node over other arguments that match the same -/
theorem Meq_node {t : List Int} {f : Re → Re} {k : Int} {s : List Span} {l : List Re} {mn mx : Int} {ng : Bool} (h : ∀ a ∈ l, Meq t (f a) a) : Meq t (.mk k s (l.map f) mn mx ng) (.mk k s l mn mx ng) := by
  intro i j hi hj
  have hhead : ∀ i j, i ≤ t.length → j ≤ t.length → (((l.map f).map (M t)).headD (fun _ _ => False) i j ↔ (l.map (M t)).headD (fun _ _ => False) i j) := by
    intro i j hi hj
    cases l with
    | nil => exact Iff.rfl
    | cons a l => exact h a (by simp) i j hi hj
  by_cases h3 : k = 3
  · subst h3
    rw [M3cat _ _ _ hi hj, M3cat _ _ _ hi hj]
    have : ∀ (l : List Re), (∀ a ∈ l, Meq t (f a) a) → ∀ i, i ≤ t.length → (catM t (l.map f) i j ↔ catM t l i j) := by
      intro l
      induction l with
      | nil => intro _ i _; exact Iff.rfl
      | cons a l ih =>
        intro h i hi
        simp only [List.map_cons, catM]
        exact exists_congr fun q => and_congr_right fun hq => and_congr (h a (by simp) i q hi hq) (ih (fun b hb => h b (by simp [hb])) q hq)
    exact this l h i hi
  · rw [M_eq, M_eq]
    unfold opM
    split
    · exact Iff.rfl
    · split
      · exact Iff.rfl
      · split
        · constructor
          · rintro ⟨R, hR, h1⟩
            obtain ⟨b, hb, rfl⟩ := List.mem_map.1 hR
            obtain ⟨a, ha, rfl⟩ := List.mem_map.1 hb
            exact ⟨_, List.mem_map.2 ⟨a, ha, rfl⟩, (h a ha i j hi hj).1 h1⟩
          · rintro ⟨R, hR, h1⟩
            obtain ⟨a, ha, rfl⟩ := List.mem_map.1 hR
            exact ⟨_, List.mem_map.2 ⟨f a, List.mem_map.2 ⟨a, ha, rfl⟩, rfl⟩, (h a ha i j hi hj).2 h1⟩
        · split
          · exact exists_congr fun q => Pow_congr hhead q i j hi hj
          · split
            · exact exists_congr fun q => and_congr_right fun _ => and_congr_right fun _ => Pow_congr hhead q i j hi hj
            · split
              · refine and_congr_right fun _ => ⟨fun h1 R hR => ?_, fun h1 R hR => ?_⟩
                · obtain ⟨a, ha, rfl⟩ := List.mem_map.1 hR
                  exact (h a ha i j hi hj).1 (h1 _ (List.mem_map.2 ⟨f a, List.mem_map.2 ⟨a, ha, rfl⟩, rfl⟩))
                · obtain ⟨b, hb, rfl⟩ := List.mem_map.1 hR
                  obtain ⟨a, ha, rfl⟩ := List.mem_map.1 hb
                  exact (h a ha i j hi hj).2 (h1 _ (List.mem_map.2 ⟨a, ha, rfl⟩))
              · split
                · refine and_congr_right fun _ => ⟨fun h1 R hR => ?_, fun h1 R hR => ?_⟩
                  · obtain ⟨a, ha, rfl⟩ := List.mem_map.1 hR
                    exact fun h2 => h1 _ (List.mem_map.2 ⟨f a, List.mem_map.2 ⟨a, ha, rfl⟩, rfl⟩) ((h a ha i j hi hj).2 h2)
                  · obtain ⟨b, hb, rfl⟩ := List.mem_map.1 hR
                    obtain ⟨a, ha, rfl⟩ := List.mem_map.1 hb
                    exact fun h2 => h1 _ (List.mem_map.2 ⟨a, ha, rfl⟩) ((h a ha i j hi hj).1 h2)
                · split
                  · exact hhead i j hi hj
                  · split
                    · refine and_congr_right fun _ => iff_congr (exists_congr fun q => and_congr_right fun hq => hhead i q hi hq) Iff.rfl
                    · exact Iff.rfl

theorem flat1_self (K s l mn mx ng) : flat1 K (.mk K s l mn mx ng) = l := by simp [flat1, Re.kind, Re.args]
theorem flat1_e3 (s l mn mx ng) : flat1 3 (.mk 1 s l mn mx ng) = [] := by simp [flat1, Re.kind]
theorem flat1_n4 (s l mn mx ng) : flat1 4 (.mk 0 s l mn mx ng) = [] := by simp [flat1, Re.kind]
theorem flat1_else {K k : Int} (s l mn mx ng) (h : k ≠ K) (h1 : ¬ (k = 1 ∧ K = 3)) (h2 : ¬ (k = 0 ∧ K = 4)) : flat1 K (.mk k s l mn mx ng) = [.mk k s l mn mx ng] := by
  unfold flat1
  rw [if_neg (show ¬ (Re.mk k s l mn mx ng).kind = K from h), if_neg (fun hh => hh.elim h1 h2)]
theorem flat1_3 {t : List Int} (a : Re) (i j : Nat) (hi : i ≤ t.length) (hj : j ≤ t.length) : catM t (flat1 3 a) i j ↔ M t a i j := by
  cases a with
  | mk k s l mn mx ng =>
    by_cases h3 : k = 3
    · subst h3; rw [flat1_self]; exact (M3cat l i j hi hj).symm
    · by_cases h1 : k = 1
      · subst h1; rw [flat1_e3]; exact (M1 t s l mn mx ng i j).symm
      · rw [flat1_else s l mn mx ng h3 (by omega) (by omega)]; exact catM_one _ i j hj
theorem sevL_3 {t : List Int} (l : List Re) (i j : Nat) (hi : i ≤ t.length) (hj : j ≤ t.length) : catM t (sevL 3 l) i j ↔ catM t l i j := by
  induction l generalizing i with
  | nil => simp [sevL]
  | cons a l ih =>
    have e : sevL 3 (a :: l) = flat1 3 a ++ sevL 3 l := by simp [sevL]
    rw [e, catM_append _ _ _ _ hi]
    simp only [catM]
    exact exists_congr fun k => and_congr_right fun hk => and_congr (flat1_3 a i k hi hk) (ih k hk)
theorem sevEnd_3 {t : List Int} (l : List Re) (i j : Nat) (hi : i ≤ t.length) (hj : j ≤ t.length) : M t (sevEnd 3 l) i j ↔ catM t l i j := by
  match l with
  | [] => simp only [sevEnd, if_true, catM]; exact M1 ..
  | [a] => exact (catM_one a i j hj).symm
  | a :: b :: l => exact M3cat _ i j hi hj
theorem sevF_3 {t : List Int} (s l mn mx ng) : Meq t (sevF 3 l) (.mk 3 s l mn mx ng) := by
  intro i j hi hj
  rw [M3cat _ _ _ hi hj, ← sevL_3 l i j hi hj]
  unfold sevF
  split
  · rename_i h
    obtain ⟨-, a, ha, h0⟩ := h
    exact iff_of_false (M0 t [] [] 0 0 false i j 0 (by omega)) (catM_none ha h0 i j)
  · rw [if_neg (by omega)]; exact sevEnd_3 _ i j hi hj

theorem sevL_4 {t : List Int} (l : List Re) (i j : Nat) : (∃ a ∈ sevL 4 l, M t a i j) ↔ ∃ a ∈ l, M t a i j := by
  constructor
  · rintro ⟨x, hx, h⟩
    obtain ⟨m, hm, hx⟩ := List.mem_flatten.1 hx
    obtain ⟨a, ha, rfl⟩ := List.mem_map.1 hm
    refine ⟨a, ha, ?_⟩
    cases a with
    | mk k s l mn mx ng =>
      by_cases h4 : k = 4
      · subst h4; rw [flat1_self] at hx; exact (M4 ..).2 ⟨x, hx, h⟩
      · by_cases h0 : k = 0
        · subst h0; rw [flat1_n4] at hx; simp at hx
        · rw [flat1_else s l mn mx ng h4 (by omega) (by omega)] at hx
          rw [← List.mem_singleton.1 hx]; exact h
  · rintro ⟨a, ha, h⟩
    cases a with
    | mk k s l' mn mx ng =>
      by_cases h4 : k = 4
      · subst h4
        obtain ⟨x, hx, h⟩ := (M4 ..).1 h
        exact ⟨x, List.mem_flatten.2 ⟨_, List.mem_map.2 ⟨_, ha, rfl⟩, by rw [flat1_self]; exact hx⟩, h⟩
      · by_cases h0 : k = 0
        · subst h0; exact absurd h (M0 t s l' mn mx ng i j 0 (by omega))
        · exact ⟨_, List.mem_flatten.2 ⟨_, List.mem_map.2 ⟨_, ha, rfl⟩, by rw [flat1_else _ _ _ _ _ h4 (by omega) (by omega)]; simp⟩, h⟩
theorem sevEnd_4 {t : List Int} (l : List Re) (i j : Nat) : M t (sevEnd 4 l) i j ↔ ∃ a ∈ l, M t a i j := by
  match l with
  | [] => simp only [sevEnd]; exact iff_of_false (M0 t [] [] 0 0 false i j 0 (by omega)) (by simp)
  | [a] => simp [sevEnd]
  | a :: b :: l => exact M4 ..
theorem sevF_4 {t : List Int} (s l mn mx ng) : Meq t (sevF 4 l) (.mk 4 s l mn mx ng) := by
  intro i j hi hj
  rw [M4, ← sevL_4]
  unfold sevF
  rw [if_neg (fun h => h.1 rfl), if_pos (by omega), sevEnd_4]
  simp only [mem_onceL]

theorem sevL_7 {t : List Int} (l : List Re) (i j : Nat) (hij : i ≤ j) : (∀ a ∈ sevL 7 l, M t a i j) ↔ ∀ a ∈ l, M t a i j := by
  constructor
  · intro h a ha
    cases a with
    | mk k s l' mn mx ng =>
      by_cases h7 : k = 7
      · subst h7
        exact (M7 ..).2 ⟨hij, fun x hx => h x (List.mem_flatten.2 ⟨_, List.mem_map.2 ⟨_, ha, rfl⟩, by rw [flat1_self]; exact hx⟩)⟩
      · exact h _ (List.mem_flatten.2 ⟨_, List.mem_map.2 ⟨_, ha, rfl⟩, by rw [flat1_else _ _ _ _ _ h7 (by omega) (by omega)]; simp⟩)
  · intro h x hx
    obtain ⟨m, hm, hx⟩ := List.mem_flatten.1 hx
    obtain ⟨a, ha, rfl⟩ := List.mem_map.1 hm
    have h1 := h a ha
    cases a with
    | mk k s l mn mx ng =>
      by_cases h7 : k = 7
      · subst h7; rw [flat1_self] at hx; exact ((M7 ..).1 h1).2 x hx
      · rw [flat1_else _ _ _ _ _ h7 (by omega) (by omega)] at hx
        rw [List.mem_singleton.1 hx]; exact h1
theorem sevEnd_7 {t : List Int} (l : List Re) (hl : l ≠ []) (i j : Nat) : M t (sevEnd 7 l) i j ↔ i ≤ j ∧ ∀ a ∈ l, M t a i j := by
  match l, hl with
  | [a], _ => simp only [sevEnd, List.mem_singleton, forall_eq]; exact ⟨fun h => ⟨M_le t a i j h, h⟩, fun h => h.2⟩
  | a :: b :: l, _ => exact M7 ..
theorem sevL_ne (l : List Re) (hl : l ≠ []) (hg : ∀ a ∈ l, Good a) : sevL 7 l ≠ [] := by
  cases l with
  | nil => exact absurd rfl hl
  | cons a l =>
    have e : sevL 7 (a :: l) = flat1 7 a ++ sevL 7 l := by simp [sevL]
    rw [e]
    intro h
    have h1 := (List.append_eq_nil_iff.1 h).1
    have ha := hg a (by simp)
    cases a with
    | mk k s l' mn mx ng =>
      by_cases h7 : k = 7
      · subst h7
        rw [flat1_self] at h1
        have := node_many (good_node ha) (by omega)
        have h2 : l' = [] := h1
        rw [h2] at this; simp at this
      · rw [flat1_else _ _ _ _ _ h7 (by omega) (by omega)] at h1; simp at h1
theorem sevF_7 {t : List Int} (s l mn mx ng) (hl : l ≠ []) (hg : ∀ a ∈ l, Good a) : Meq t (sevF 7 l) (.mk 7 s l mn mx ng) := by
  intro i j hi hj
  rw [M7]
  have h7 : (i ≤ j ∧ ∀ a ∈ l, M t a i j) ↔ (i ≤ j ∧ ∀ a ∈ sevL 7 l, M t a i j) := and_congr_right fun hij => (sevL_7 l i j hij).symm
  rw [h7]
  unfold sevF
  split
  · rename_i h
    obtain ⟨-, a, ha, h0⟩ := h
    refine iff_of_false (M0 t [] [] 0 0 false i j 0 (by omega)) (fun h => ?_)
    have := h.2 a ha
    cases a with
    | mk k s l mn mx ng =>
      have e : k = 0 := h0
      subst e
      exact M0 t s l mn mx ng i j 0 (by omega) this
  · have hne := sevL_ne l hl hg
    have hn2 : onceL (sevL 7 l) ≠ [] := fun h => by
      cases hs : sevL 7 l with
      | nil => exact hne hs
      | cons x m => have := (mem_onceL (sevL 7 l) x).2 (by rw [hs]; simp); rw [h] at this; simp at this
    rw [if_pos (by omega), sevEnd_7 _ hn2]
    simp only [mem_onceL]
end Go.Proofs.Ytbnahmeaeakhhaa.B

namespace Go.Proofs.Ytbnahmeaeakhhaa.B
set_option linter.unusedVariables false
set_option linter.unusedSimpArgs false
open Go Go.RowKit Classical

theorem Pow_id {n : Nat} {R : Rel} (h : ∀ i j, i ≤ n → j ≤ n → (R i j ↔ i = j)) (k : Nat) : ∀ i j, i ≤ n → j ≤ n → (Pow n R k i j ↔ i = j) := by
  induction k with
  | zero => intro i j _ _; exact Iff.rfl
  | succ k ih =>
    intro i j hi hj
    constructor
    · rintro ⟨l, hl, h1, h2⟩; exact ((ih i l hi hl).1 h1).trans ((h l j hl hj).1 h2)
    · rintro rfl; exact ⟨i, hi, (ih i i hi hi).2 rfl, (h i i hi hi).2 rfl⟩
theorem Pow_none {n : Nat} {R : Rel} (h : ∀ i j, ¬ R i j) (k : Nat) (i j : Nat) : Pow n R k i j ↔ k = 0 ∧ i = j := by
  cases k with
  | zero => simp [Pow]
  | succ k => exact iff_of_false (fun ⟨l, _, _, h2⟩ => h l j h2) (fun h => by omega)
theorem Pow_Star {n : Nat} {R : Rel} (k : Nat) {i j : Nat} (h : Pow n (Star n R) k i j) : Star n R i j := by
  induction k generalizing j with
  | zero => cases h; exact Star_refl _
  | succ k ih => obtain ⟨l, hl, h1, h2⟩ := h; exact Star_trans hl (ih h1) h2
theorem Star_Pow {n : Nat} {R : Rel} (k : Nat) {i j : Nat} (hi : i ≤ n) (hj : j ≤ n) (h : Star n R i j) : Pow n (Star n R) (k + 1) i j := by
  induction k generalizing j with
  | zero => exact ⟨i, hi, rfl, h⟩
  | succ k ih => exact ⟨j, hj, ih hj h, Star_refl _⟩

theorem M6r {t : List Int} {s mn mx ng} (a : Re) (l : List Re) (i j : Nat) : M t (.mk 6 s (a :: l) mn mx ng) i j ↔ ∃ k : Nat, mn ≤ k ∧ (k : Int) ≤ mx ∧ Pow t.length (M t a) k i j := by rw [M6]; rfl
theorem kind_mk {r : Re} {k : Int} (h : r.kind = k) : ∃ s l mn mx ng, r = .mk k s l mn mx ng := by
  cases r with
  | mk k' s l mn mx ng => exact ⟨s, l, mn, mx, ng, by rw [show k' = k from h]⟩

theorem repF_M {t : List Int} {k : Int} {s : List Span} {a : Re} {mn mx : Int} {ng : Bool} (hk : k = 5 ∨ k = 6) (hg : Good (.mk k s [a] mn mx ng)) : Meq t (repF k s a [] mn mx ng) (.mk k s [a] mn mx ng) := by
  have hga := good_args hg a (by simp)
  intro i j hi hj
  unfold repF
  rcases hk with rfl | rfl
  · rw [M5]
    split
    · rename_i h
      rw [show emptyRe = Re.mk 1 [] [] 0 0 false from rfl, M1]
      rcases h with h | ⟨h, -⟩ | ⟨h, -⟩
      · obtain ⟨s', l', a', b', c', rfl⟩ := kind_mk h
        exact ⟨fun e => e ▸ Star_refl _, fun ⟨q, hq⟩ => (Pow_id (fun i j _ _ => M1 t s' l' a' b' c' i j) q i j hi hj).1 hq⟩
      · obtain ⟨s', l', a', b', c', rfl⟩ := kind_mk h
        exact ⟨fun e => e ▸ Star_refl _, fun ⟨q, hq⟩ => ((Pow_none (fun i j => M0 t s' l' a' b' c' i j 0 (by omega)) q i j).1 hq).2⟩
      · omega
    · rename_i h
      split
      · rename_i h'
        rcases h' with h' | h' | ⟨h', -⟩
        · exact absurd (Or.inr (Or.inl ⟨h', Or.inl rfl⟩)) h
        · obtain ⟨s', l', a', b', c', rfl⟩ := kind_mk h'
          obtain ⟨x, rfl⟩ := List.length_eq_one_iff.1 (node_one (good_node hga) (by omega))
          have e : M t (.mk 5 s' [x] a' b' c') = Star t.length (M t x) := by funext i j; exact propext (M5 ..)
          rw [e]
          exact ⟨Star_one hi, Star_Star⟩
        · omega
      · exact (M5 ..)
  · obtain ⟨m1, m2, m3⟩ := node_rep (good_node hg)
    rw [M6r]
    split
    · rename_i h
      rw [show emptyRe = Re.mk 1 [] [] 0 0 false from rfl, M1]
      rcases h with h | ⟨h, h2⟩ | ⟨-, h⟩
      · obtain ⟨s', l', a', b', c', rfl⟩ := kind_mk h
        have hp := fun q => Pow_id (R := M t (.mk 1 s' l' a' b' c')) (fun i j _ _ => M1 t s' l' a' b' c' i j) q i j hi hj
        exact ⟨fun e => ⟨mn.toNat, by omega, by omega, (hp _).2 e⟩, fun ⟨q, _, _, hq⟩ => (hp q).1 hq⟩
      · obtain ⟨s', l', a', b', c', rfl⟩ := kind_mk h
        have h2 : mn = 0 := by omega
        subst h2
        have hp := fun q => Pow_none (n := t.length) (R := M t (.mk 0 s' l' a' b' c')) (fun i j => M0 t s' l' a' b' c' i j 0 (by omega)) q i j
        exact ⟨fun e => ⟨0, by omega, by omega, (hp 0).2 ⟨rfl, e⟩⟩, fun ⟨q, _, _, hq⟩ => ((hp q).1 hq).2⟩
      · subst h
        constructor
        · exact fun e => ⟨0, by omega, by omega, e⟩
        · rintro ⟨q, -, h3, hq⟩
          obtain rfl : q = 0 := by omega
          exact hq
    · rename_i h
      have hmx : mx ≠ 0 := fun e => h (Or.inr (Or.inr ⟨rfl, e⟩))
      split
      · rename_i h'
        rcases h' with h' | h' | ⟨-, h1, h2⟩
        · have hmn : mn ≠ 0 := fun e => h (Or.inr (Or.inl ⟨h', Or.inr e⟩))
          obtain ⟨s', l', a', b', c', rfl⟩ := kind_mk h'
          refine iff_of_false (M0 t s' l' a' b' c' i j 0 (by omega)) ?_
          rintro ⟨q, h3, -, hq⟩
          have := ((Pow_none (fun i j => M0 t s' l' a' b' c' i j 0 (by omega)) q i j).1 hq).1
          omega
        · obtain ⟨s', l', a', b', c', rfl⟩ := kind_mk h'
          obtain ⟨x, rfl⟩ := List.length_eq_one_iff.1 (node_one (good_node hga) (by omega))
          have e : M t (.mk 5 s' [x] a' b' c') = Star t.length (M t x) := by funext i j; exact propext (M5 ..)
          rw [e]
          constructor
          · intro hq
            obtain ⟨q, hq2⟩ : ∃ q : Nat, mx = ((q + 1 : Nat) : Int) := ⟨mx.toNat - 1, by omega⟩
            exact ⟨q + 1, by omega, by omega, Star_Pow q hi hj hq⟩
          · rintro ⟨q, -, -, hq⟩; exact Pow_Star q hq
        · subst h1; subst h2
          constructor
          · intro hq; exact ⟨1, by omega, by omega, i, hi, rfl, hq⟩
          · rintro ⟨q, h3, h4, hq⟩
            obtain rfl : q = 1 := by omega
            obtain ⟨l, hl, e, h5⟩ := hq
            have e : i = l := e
            rw [e]; exact h5
      · exact (M6r ..)

theorem normTop_M {t : List Int} {k : Int} {s : List Span} {l : List Re} {mn mx : Int} {ng : Bool} (hg : Good (.mk k s l mn mx ng)) : Meq t (normTop k s l mn mx ng) (.mk k s l mn mx ng) := by
  have hn := good_node hg
  have hga := good_args hg
  unfold normTop
  split
  · rename_i h
    rcases h with rfl | rfl | rfl
    · exact sevF_3 _ _ _ _ _
    · exact sevF_4 _ _ _ _ _
    · exact sevF_7 _ _ _ _ _ (fun e => by have := node_many hn (by omega); rw [e] at this; simp at this) hga
  · match l, hg, hn, hga with
    | [], _, _, _ => exact Meq.refl _ _
    | a :: rest, hg, hn, hga =>
      simp only
      split
      · rename_i h
        have := node_one hn (by omega)
        obtain rfl : rest = [] := by cases rest with | nil => rfl | cons => simp at this
        exact repF_M h hg
      · split
        · rename_i h8
          subst h8
          have := node_one hn (by omega)
          obtain rfl : rest = [] := by cases rest with | nil => rfl | cons => simp at this
          split
          · rename_i h
            obtain ⟨s', l', a', b', c', rfl⟩ := kind_mk h
            obtain ⟨x, rfl⟩ := List.length_eq_one_iff.1 (node_one (good_node (hga (.mk 8 s' l' a' b' c') (by simp))) (by omega))
            intro i j hi hj
            rw [M8, M8]
            show M t x i j ↔ _
            constructor
            · intro h; exact ⟨M_le t x i j h, fun h2 => h2.2 h⟩
            · rintro ⟨h1, h2⟩
              by_cases h : M t x i j
              · exact h
              · exact absurd ⟨h1, h⟩ h2
          · exact Meq.refl _ _
        · split
          · rename_i h10
            subst h10
            have := node_one hn (by omega)
            obtain rfl : rest = [] := by cases rest with | nil => rfl | cons => simp at this
            intro i j hi hj
            have he : M t emptyRe i j ↔ i = j := M1 ..
            have hno : ¬ M t noneRe i j := M0 t [] [] 0 0 false i j 0 (by omega)
            split
            · rename_i h
              obtain ⟨s', l', a', b', c', rfl⟩ := kind_mk h
              have hex : ∃ k, k ≤ t.length ∧ M t (.mk 1 s' l' a' b' c') i k := ⟨i, hi, (M1 ..).2 rfl⟩
              rw [M10]
              cases ng with
              | true => rw [if_pos rfl]; exact iff_of_false hno (fun h => by have := h.2.1 hex; simp at this)
              | false => rw [if_neg (by simp), he]; exact ⟨fun h => ⟨h, fun _ => rfl, fun _ => hex⟩, fun h => h.1⟩
            · split
              · rename_i h
                obtain ⟨s', l', a', b', c', rfl⟩ := kind_mk h
                have hex : ¬ ∃ k, k ≤ t.length ∧ M t (.mk 0 s' l' a' b' c') i k := fun ⟨k, _, h⟩ => M0 t s' l' a' b' c' i k 0 (by omega) h
                rw [M10]
                cases ng with
                | true => rw [if_pos rfl, he]; exact ⟨fun h => ⟨h, fun h2 => absurd h2 hex, fun h2 => by simp at h2⟩, fun h => h.1⟩
                | false => rw [if_neg (by simp)]; exact iff_of_false hno (fun h => hex (h.2.2 rfl))
              · exact Iff.rfl
          · exact Meq.refl _ _

theorem normF_M {t : List Int} (r : Re) (hg : Good r) : Meq t (normF r) r := by
  induction r using Re.ind with
  | h k s args mn mx ng ih =>
    have hga := good_args hg
    rw [normF_eq]
    have h1 : Good (.mk k s (args.map normF) mn mx ng) := good_mk (by rw [List.length_map]; exact good_node hg) fun a ha => by
      obtain ⟨b, hb, rfl⟩ := List.mem_map.1 ha; exact (normF_ok b (hga b hb)).1
    exact (normTop_M h1).trans (Meq_node fun a ha => ih a ha (hga a ha))

/-! ### its own normal form -/
def IsN : Re → Prop
  | .mk k s args mn mx ng => normTop k s args mn mx ng = .mk k s args mn mx ng ∧ ∀ a : {x // x ∈ args}, IsN a.1
decreasing_by simp_wf; have := List.sizeOf_lt_of_mem a.2; omega
theorem IsN_iff (k s args mn mx ng) : IsN (.mk k s args mn mx ng) ↔ normTop k s args mn mx ng = .mk k s args mn mx ng ∧ ∀ a ∈ args, IsN a := by
  rw [IsN]; exact and_congr_right fun _ => ⟨fun h a ha => h ⟨a, ha⟩, fun h a => h a.1 a.2⟩
theorem normF_of_IsN (r : Re) (h : IsN r) : normF r = r := by
  induction r using Re.ind with
  | h k s args mn mx ng ih =>
    obtain ⟨h1, h2⟩ := (IsN_iff ..).1 h
    rw [normF_eq, show args.map normF = args from (List.map_congr_left fun a ha => ih a ha (h2 a ha)).trans (by simp), h1]
theorem IsN_none : IsN noneRe := by unfold noneRe; rw [IsN_iff]; exact ⟨by simp [normTop], by simp⟩
theorem IsN_empty : IsN emptyRe := by unfold emptyRe; rw [IsN_iff]; exact ⟨by simp [normTop], by simp⟩
theorem IsN_args {r : Re} (h : IsN r) : ∀ a ∈ r.args, IsN a := by cases r; exact ((IsN_iff ..).1 h).2

def Clean (K : Int) (a : Re) : Prop := a.kind ≠ K ∧ ¬ (a.kind = 1 ∧ K = 3) ∧ ¬ (a.kind = 0 ∧ K = 4)
theorem flat1_clean {K : Int} {a : Re} (h : Clean K a) : flat1 K a = [a] := by unfold flat1; rw [if_neg h.1, if_neg (fun hh => hh.elim h.2.1 h.2.2)]
theorem sevL_clean {K : Int} {l : List Re} (h : ∀ a ∈ l, Clean K a) : sevL K l = l := by
  induction l with
  | nil => rfl
  | cons a l ih =>
    have e : sevL K (a :: l) = flat1 K a ++ sevL K l := by simp [sevL]
    rw [e, flat1_clean (h a (by simp)), ih fun b hb => h b (by simp [hb])]; rfl
theorem sz_flat1_lt {K : Int} {a : Re} (h : ¬ Clean K a) : szL (flat1 K a) < sz a := by
  have h1 := sz_args a
  have h2 := sz_pos a
  unfold flat1
  split
  · omega
  · rename_i h3
    split
    · simp [szL]; omega
    · rename_i h4; exact absurd ⟨h3, fun h => h4 (Or.inl h), fun h => h4 (Or.inr h)⟩ h
theorem sz_sevL_lt {K : Int} {l : List Re} (h : ∃ a ∈ l, ¬ Clean K a) : szL (sevL K l) < szL l := by
  induction l with
  | nil => obtain ⟨a, ha, -⟩ := h; simp at ha
  | cons b l ih =>
    have e : sevL K (b :: l) = flat1 K b ++ sevL K l := by simp [sevL]
    rw [e, szL_append, szL_cons]
    obtain ⟨a, ha, hc⟩ := h
    rcases List.mem_cons.1 ha with rfl | ha
    · have := sz_flat1_lt hc; have := sz_sevL K l; omega
    · have := ih ⟨a, ha, hc⟩; have := sz_flat1 K b; omega
/-- what is not turned is clean -/
theorem clean_of {K : Int} {s l mn mx ng} (hK : K = 3 ∨ K = 4 ∨ K = 7) (h : sevF K l = .mk K s l mn mx ng) : ∀ a ∈ l, Clean K a := by
  intro a ha
  by_cases hc : Clean K a
  · exact hc
  exfalso
  have hlt := sz_sevL_lt ⟨a, ha, hc⟩
  have hsz : sz (sevF K l) = szL l + 1 := by rw [h, sz_mk]
  have hle : ∀ m : List Re, szL m < szL l → sz (sevEnd K m) ≤ szL l := by
    intro m hm
    match m with
    | [] => have := len_szL l; have h3 : 0 < l.length := List.length_pos_of_mem ha; simp only [sevEnd]; split <;> simp [sz_empty, sz_none] <;> omega
    | [x] => simp only [sevEnd]; rw [szL_cons] at hm; omega
    | x :: y :: m => simp only [sevEnd]; rw [sz_mk]; omega
  unfold sevF at hsz
  split at hsz
  · rw [sz_none] at hsz; have h3 := len_szL l; have : 0 < l.length := List.length_pos_of_mem ha; omega
  · split at hsz
    · have := hle _ (Nat.lt_of_le_of_lt (sz_onceL _) hlt); omega
    · have := hle _ hlt; omega
theorem foldOnce_nodup {l o : List Re} (h : (o ++ l).Nodup) : l.foldl (fun o a => if a ∈ o then o else o ++ [a]) o = o ++ l := by
  induction l generalizing o with
  | nil => simp
  | cons x l ih =>
    have hx : x ∉ o := fun hx => by
      rw [List.nodup_append] at h
      exact h.2.2 x hx x (by simp) rfl
    rw [List.foldl_cons, if_neg hx, ih (by simpa using h)]; simp
theorem nodup_foldOnce (l : List Re) : ∀ o : List Re, o.Nodup → (l.foldl (fun o a => if a ∈ o then o else o ++ [a]) o).Nodup := by
  induction l with
  | nil => intro o h; exact h
  | cons x l ih =>
    intro o h
    rw [List.foldl_cons]
    refine ih _ ?_
    split
    · exact h
    · rename_i hx
      rw [List.nodup_append]
      exact ⟨h, by simp, fun a ha b hb => by rw [List.mem_singleton.1 hb]; exact fun e => hx (e ▸ ha)⟩
theorem onceL_twice (l : List Re) : onceL (onceL l) = onceL l := by
  have h : (onceL l).Nodup := nodup_foldOnce l [] (by simp)
  have := foldOnce_nodup (l := onceL l) (o := []) (by simpa using h)
  simpa [onceL] using this

theorem sevF_IsN {K : Int} (hK : K = 3 ∨ K = 4 ∨ K = 7) {l : List Re} (hl : ∀ a ∈ l, IsN a) : IsN (sevF K l) := by
  have hcl : ∀ a ∈ sevL K l, Clean K a ∧ IsN a := by
    intro x hx
    obtain ⟨m, hm, hx⟩ := List.mem_flatten.1 hx
    obtain ⟨a, ha, rfl⟩ := List.mem_map.1 hm
    by_cases hc : Clean K a
    · rw [flat1_clean hc] at hx; rw [List.mem_singleton.1 hx]; exact ⟨hc, hl a ha⟩
    · by_cases hk : a.kind = K
      · obtain ⟨s', l', a', b', c', rfl⟩ := kind_mk hk
        rw [flat1_self] at hx
        have hN := (IsN_iff ..).1 (hl _ ha)
        have h1 := hN.1
        unfold normTop at h1
        rw [if_pos hK] at h1
        exact ⟨clean_of hK h1 x hx, hN.2 x hx⟩
      · unfold flat1 at hx
        rw [if_neg hk] at hx
        split at hx
        · simp at hx
        · rename_i h4; exact absurd ⟨hk, fun h => h4 (Or.inl h), fun h => h4 (Or.inr h)⟩ hc
  have hend : ∀ m : List Re, (∀ a ∈ m, Clean K a ∧ IsN a) → ¬ (K ≠ 4 ∧ ∃ a ∈ m, a.kind = 0) → (K ≠ 3 → onceL m = m) → IsN (sevEnd K m) := by
    intro m hm h0 ho
    match m, hm, h0, ho with
    | [], _, _, _ => simp only [sevEnd]; split; exact IsN_empty; exact IsN_none
    | [a], hm, _, _ => exact (hm a (by simp)).2
    | a :: b :: m, hm, h0, ho =>
      simp only [sevEnd]
      rw [IsN_iff]
      refine ⟨?_, fun x hx => (hm x hx).2⟩
      unfold normTop
      rw [if_pos hK]
      have hs := sevL_clean (K := K) (l := a :: b :: m) fun x hx => (hm x hx).1
      unfold sevF
      rw [hs, if_neg h0]
      split
      · rename_i h3; rw [ho h3]; rfl
      · rfl
  unfold sevF
  split
  · exact IsN_none
  · rename_i h0
    split
    · refine hend _ (fun a ha => hcl a ((mem_onceL _ _).1 ha)) (fun h => h0 ⟨h.1, ?_⟩) (fun _ => onceL_twice _)
      obtain ⟨a, ha, h1⟩ := h.2
      exact ⟨a, (mem_onceL _ _).1 ha, h1⟩
    · rename_i h3; exact hend _ hcl h0 (fun h => absurd h h3)

theorem normTop_IsN {k : Int} {s : List Span} {l : List Re} {mn mx : Int} {ng : Bool} (hl : ∀ a ∈ l, IsN a) : IsN (normTop k s l mn mx ng) := by
  unfold normTop
  split
  · exact sevF_IsN ‹_› hl
  · rename_i h347
    match l, hl with
    | [], _ => rw [IsN_iff]; exact ⟨by unfold normTop; rw [if_neg h347], by simp⟩
    | a :: rest, hl =>
      have ha := hl a (by simp)
      have hsame : normTop k s (a :: rest) mn mx ng = .mk k s (a :: rest) mn mx ng → IsN (.mk k s (a :: rest) mn mx ng) := fun h => (IsN_iff ..).2 ⟨h, hl⟩
      simp only
      split
      · rename_i h56
        unfold repF
        split
        · exact IsN_empty
        · rename_i h1
          split
          · exact ha
          · rename_i h2
            refine hsame ?_
            unfold normTop
            rw [if_neg h347]; simp only
            rw [if_pos h56]; unfold repF; rw [if_neg h1, if_neg h2]
      · rename_i h56
        split
        · rename_i h8
          split
          · have hq := IsN_args ha
            cases h9 : a.args with
            | nil => exact IsN_none
            | cons x m => exact hq x (by rw [h9]; simp)
          · rename_i h1
            refine hsame ?_
            unfold normTop
            rw [if_neg h347]; simp only
            rw [if_neg h56, if_pos h8, if_neg h1]
        · rename_i h8
          split
          · rename_i h10
            split
            · split; exact IsN_none; exact IsN_empty
            · rename_i h1
              split
              · split; exact IsN_empty; exact IsN_none
              · rename_i h0
                refine hsame ?_
                unfold normTop
                rw [if_neg h347]; simp only
                rw [if_neg h56, if_neg h8, if_pos h10, if_neg h1, if_neg h0]
          · rename_i h10
            refine hsame ?_
            unfold normTop
            rw [if_neg h347]; simp only
            rw [if_neg h56, if_neg h8, if_neg h10]
theorem normF_IsN (r : Re) : IsN (normF r) := by
  induction r using Re.ind with
  | h k s args mn mx ng ih =>
    rw [normF_eq]
    exact normTop_IsN fun a ha => by obtain ⟨b, hb, rfl⟩ := List.mem_map.1 ha; exact ih b hb
theorem normF_twice (r : Re) : normF (normF r) = normF r := normF_of_IsN _ (normF_IsN r)
end Go.Proofs.Ytbnahmeaeakhhaa.B
