/- Packing: plain steps. No program is in sight here. -/
import Derived.Test.YtbnahmeaeakhhaaQ2
namespace Go.Proofs.Ytbnahmeaeakhhaa.Q
set_option linter.unusedVariables false
set_option linter.unusedSimpArgs false
open Go Go.RowKit
theorem drop_getD {α : Type} (l : List α) (d : α) (j : Nat) (h : j < l.length) : l.drop j = l.getD j d :: l.drop (j + 1) := by
  rw [List.drop_eq_getElem_cons h, List.getD_eq_getElem?_getD, List.getElem?_eq_getElem h]; rfl
theorem rowIn_step {n : Nat} {row : List Int} {j : Nat} (hj : j < row.length) : rowIn n row j ↔ (-1 ≤ row.getD j 0 ∧ row.getD j 0 < n) ∧ rowIn n row (j + 1) := by
  constructor
  · intro h; exact ⟨h j (Nat.le_refl _) hj, fun i h1 h2 => h i (by omega) h2⟩
  · rintro ⟨h1, h2⟩ i h3 h4
    by_cases e : i = j
    · subst e; exact h1
    · exact h2 i (by omega) h4
theorem rowsIn_step {n : Nat} {acc : List Int} {next : List (List Int)} {j : Nat} (hj : j < next.length) : rowsIn n acc next j ↔ (-1 ≤ acc.getD j 0 ∧ rowIn n (next.getD j []) 0) ∧ rowsIn n acc next (j + 1) := by
  constructor
  · intro h; exact ⟨h j (Nat.le_refl _) hj, fun i h1 h2 => h i (by omega) h2⟩
  · rintro ⟨h1, h2⟩ i h3 h4
    by_cases e : i = j
    · subst e; exact h1
    · exact h2 i (by omega) h4
theorem rowsForm_step {n : Nat} {next : List (List Int)} {j : Nat} (hj : j < next.length) : rowsForm n next j ↔ ((next.getD j []).length = n ∧ n ≠ 0) ∧ rowsForm n next (j + 1) := by
  constructor
  · intro h; exact ⟨h j (Nat.le_refl _) hj, fun i h1 h2 => h i (by omega) h2⟩
  · rintro ⟨h1, h2⟩ i h3 h4
    by_cases e : i = j
    · subst e; exact h1
    · exact h2 i (by omega) h4
end Go.Proofs.Ytbnahmeaeakhhaa.Q
