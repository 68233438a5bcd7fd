/- The normal form as a plain function: it is valid, and not larger. -/
import Derived.Test.YtbnahmeaeakhhaaN7a
import Derived.Test.YtbnahmeaeakhhaaKp
namespace Go.Proofs.Ytbnahmeaeakhhaa.B
set_option linter.unusedVariables false
set_option linter.unusedSimpArgs false
open Go Go.RowKit Classical

noncomputable def normTop (k : Int) (s : List Span) (l : List Re) (mn mx : Int) (ng : Bool) : Re :=
  if k = 3 ∨ k = 4 ∨ k = 7 then sevF k l
  else match l with
    | [] => .mk k s [] mn mx ng
    | a :: rest =>
      if k = 5 ∨ k = 6 then repF k s a rest mn mx ng
      else if k = 8 then (if a.kind = 8 then a.args.headD noneRe else .mk k s (a :: rest) mn mx ng)
      else if k = 10 then (if a.kind = 1 then (if ng then noneRe else emptyRe) else if a.kind = 0 then (if ng then emptyRe else noneRe) else .mk k s (a :: rest) mn mx ng)
      else .mk k s (a :: rest) mn mx ng
noncomputable def normF : Re → Re
  | .mk k s args mn mx ng => normTop k s (args.attach.map fun ⟨a, _⟩ => normF a) mn mx ng
decreasing_by simp_wf; have := List.sizeOf_lt_of_mem ‹_›; omega
theorem normF_eq (k s args mn mx ng) : normF (.mk k s args mn mx ng) = normTop k s (args.map normF) mn mx ng := by rw [normF]; simp

/-- how many nodes -/
def sz (r : Re) : Nat := (pre r).length
def szL (l : List Re) : Nat := (l.map sz).sum
theorem sz_mk (k s args mn mx ng) : sz (.mk k s args mn mx ng) = szL args + 1 := by
  unfold sz szL; rw [pre_eq, List.length_cons, List.length_flatten, List.map_map]; rfl
theorem sz_pos (r : Re) : 1 ≤ sz r := by cases r; rw [sz_mk]; omega
theorem szL_cons (a : Re) (l : List Re) : szL (a :: l) = sz a + szL l := by simp [szL]
theorem szL_nil : szL [] = 0 := rfl
theorem szL_append (l m : List Re) : szL (l ++ m) = szL l + szL m := by simp [szL]
theorem len_szL (l : List Re) : l.length ≤ szL l := by
  induction l with
  | nil => simp
  | cons a l ih => rw [szL_cons, List.length_cons]; have := sz_pos a; omega
theorem sz_args (r : Re) : szL r.args + 1 = sz r := by cases r; rw [sz_mk]; rfl
theorem sz_flat1 (K : Int) (a : Re) : szL (flat1 K a) ≤ sz a := by
  unfold flat1
  split
  · have := sz_args a; omega
  · split
    · simp [szL]
    · simp [szL]
theorem sz_sevL (K : Int) (l : List Re) : szL (sevL K l) ≤ szL l := by
  induction l with
  | nil => simp [sevL, szL]
  | cons a l ih =>
    have e : sevL K (a :: l) = flat1 K a ++ sevL K l := by simp [sevL]
    rw [e, szL_append, szL_cons]; have := sz_flat1 K a; omega
theorem foldOnce_sz (l o : List Re) : szL (l.foldl (fun o a => if a ∈ o then o else o ++ [a]) o) ≤ szL o + szL l := by
  induction l generalizing o with
  | nil => simp [szL]
  | cons x l ih =>
    rw [List.foldl_cons, szL_cons]
    refine Nat.le_trans (ih _) ?_
    split
    · omega
    · rw [szL_append, szL_cons, szL_nil]; omega
theorem sz_onceL (l : List Re) : szL (onceL l) ≤ szL l := by have := foldOnce_sz l []; simpa [onceL, szL] using this
theorem mem_foldOnce (l o : List Re) (a : Re) : a ∈ l.foldl (fun o a => if a ∈ o then o else o ++ [a]) o ↔ a ∈ o ∨ a ∈ l := by
  induction l generalizing o with
  | nil => simp
  | cons x l ih =>
    rw [List.foldl_cons, ih]
    split
    · rename_i h; simp only [List.mem_cons]
      constructor
      · rintro (h1 | h1)
        · exact Or.inl h1
        · exact Or.inr (Or.inr h1)
      · rintro (h1 | rfl | h1)
        · exact Or.inl h1
        · exact Or.inl h
        · exact Or.inr h1
    · rw [List.mem_append, List.mem_singleton, List.mem_cons, or_assoc]
theorem mem_onceL (l : List Re) (a : Re) : a ∈ onceL l ↔ a ∈ l := by have := mem_foldOnce l [] a; simpa [onceL] using this

theorem good_args {k s args mn mx ng} (h : Good (.mk k s args mn mx ng)) : ∀ a ∈ args, Good a := fun a ha x hx => h x (by rw [pre_eq]; exact List.mem_cons_of_mem _ (List.mem_flatten.2 ⟨_, List.mem_map.2 ⟨a, ha, rfl⟩, hx⟩))
theorem good_args' {r : Re} (h : Good r) : ∀ a ∈ r.args, Good a := by cases r; exact good_args h
theorem good_node {k s args mn mx ng} (h : Good (.mk k s args mn mx ng)) : nodeErr k s args.length mn mx ng = 0 := by
  have := h (.mk k s args mn mx ng) (by rw [pre_eq]; exact List.mem_cons_self ..)
  exact this
theorem good_none : Good noneRe := good0 (Or.inl rfl)
theorem good_empty : Good emptyRe := good0 (Or.inr rfl)
theorem sz_none : sz noneRe = 1 := by unfold noneRe; rw [sz_mk]; rfl
theorem sz_empty : sz emptyRe = 1 := by unfold emptyRe; rw [sz_mk]; rfl
theorem good_sevL {K : Int} {l : List Re} (h : ∀ a ∈ l, Good a) : ∀ a ∈ sevL K l, Good a := fun x hx => by
  obtain ⟨m, hm, hx⟩ := List.mem_flatten.1 hx
  obtain ⟨a, ha, rfl⟩ := List.mem_map.1 hm
  unfold flat1 at hx
  split at hx
  · exact good_args' (h a ha) x hx
  · split at hx
    · simp at hx
    · rw [List.mem_singleton.1 hx]; exact h a ha
theorem node_many_ok {K : Int} (hK : K = 3 ∨ K = 4 ∨ K = 7) {n : Nat} (hn : 2 ≤ n) : nodeErr K [] n 0 0 false = 0 := by
  rcases hK with rfl | rfl | rfl <;> · unfold nodeErr; rw [if_neg (by omega), if_neg (by simp [need]; omega)]; simp
theorem sevEnd_ok {K : Int} (hK : K = 3 ∨ K = 4 ∨ K = 7) {l : List Re} (h : ∀ a ∈ l, Good a) : Good (sevEnd K l) ∧ sz (sevEnd K l) ≤ szL l + 1 := by
  match l, h with
  | [], _ => simp only [sevEnd]; split; exact ⟨good_empty, by rw [sz_empty]; omega⟩; exact ⟨good_none, by rw [sz_none]; omega⟩
  | [a], h => simp only [sevEnd]; exact ⟨h a (by simp), by rw [szL_cons]; omega⟩
  | a :: b :: l, h => simp only [sevEnd]; exact ⟨good_mk (node_many_ok hK (by simp)) h, by rw [sz_mk]; omega⟩
theorem sevF_ok {K : Int} (hK : K = 3 ∨ K = 4 ∨ K = 7) {l : List Re} (h : ∀ a ∈ l, Good a) : Good (sevF K l) ∧ sz (sevF K l) ≤ szL l + 1 := by
  unfold sevF
  have h1 := sz_sevL K l
  have h2 := sz_onceL (sevL K l)
  split
  · exact ⟨good_none, by rw [sz_none]; omega⟩
  · split
    · obtain ⟨q1, q2⟩ := sevEnd_ok hK (l := onceL (sevL K l)) fun a ha => good_sevL h a ((mem_onceL _ _).1 ha)
      exact ⟨q1, by omega⟩
    · obtain ⟨q1, q2⟩ := sevEnd_ok hK (good_sevL (K := K) h)
      exact ⟨q1, by omega⟩
theorem repF_ok {k s a rest mn mx ng} (h : Good (.mk k s (a :: rest) mn mx ng)) : Good (repF k s a rest mn mx ng) ∧ sz (repF k s a rest mn mx ng) ≤ szL (a :: rest) + 1 := by
  unfold repF
  have := sz_pos a
  split
  · exact ⟨good_empty, by rw [sz_empty]; omega⟩
  · split
    · exact ⟨good_args h a (by simp), by rw [szL_cons]; omega⟩
    · exact ⟨h, by rw [sz_mk]; omega⟩
theorem normTop_ok {k s l mn mx ng} (h : nodeErr k s l.length mn mx ng = 0) (hl : ∀ a ∈ l, Good a) : Good (normTop k s l mn mx ng) ∧ sz (normTop k s l mn mx ng) ≤ szL l + 1 := by
  have hg := good_mk (k := k) (s := s) (mn := mn) (mx := mx) (ng := ng) h hl
  unfold normTop
  split
  · exact sevF_ok ‹_› hl
  · match l, hl, hg with
    | [], _, hg => exact ⟨hg, by rw [sz_mk]; omega⟩
    | a :: rest, hl, hg =>
      have ha := hl a (by simp)
      simp only
      split
      · exact repF_ok hg
      · split
        · split
          · have hq := good_args' ha
            have hz := sz_args a
            cases h8 : a.args with
            | nil => simp only [List.headD]; exact ⟨good_none, by rw [sz_none]; omega⟩
            | cons x m =>
              simp only [List.headD]
              rw [h8] at hq hz
              rw [szL_cons] at hz ⊢
              exact ⟨hq x (by simp), by omega⟩
          · exact ⟨hg, by rw [sz_mk]; omega⟩
        · split
          · split
            · split
              · exact ⟨good_none, by rw [sz_none]; omega⟩
              · exact ⟨good_empty, by rw [sz_empty]; omega⟩
            · split
              · split
                · exact ⟨good_empty, by rw [sz_empty]; omega⟩
                · exact ⟨good_none, by rw [sz_none]; omega⟩
              · exact ⟨hg, by rw [sz_mk]; omega⟩
          · exact ⟨hg, by rw [sz_mk]; omega⟩
theorem normF_ok (r : Re) (h : Good r) : Good (normF r) ∧ sz (normF r) ≤ sz r := by
  induction r using Re.ind with
  | h k s args mn mx ng ih =>
    have ha := good_args h
    have h1 : ∀ a ∈ args.map normF, Good a := fun a ha' => by obtain ⟨b, hb, rfl⟩ := List.mem_map.1 ha'; exact (ih b hb (ha b hb)).1
    have h2 : szL (args.map normF) ≤ szL args := by
      clear h h1
      induction args with
      | nil => simp
      | cons a l ihl =>
        rw [List.map_cons, szL_cons, szL_cons]
        have := (ih a (by simp) (ha a (by simp))).2
        have := ihl (fun b hb => ih b (by simp [hb])) (fun b hb => ha b (by simp [hb]))
        omega
    obtain ⟨q1, q2⟩ := normTop_ok (k := k) (s := s) (mn := mn) (mx := mx) (ng := ng) (by rw [List.length_map]; exact good_node h) h1
    rw [normF_eq, sz_mk]
    exact ⟨q1, by omega⟩
end Go.Proofs.Ytbnahmeaeakhhaa.B
