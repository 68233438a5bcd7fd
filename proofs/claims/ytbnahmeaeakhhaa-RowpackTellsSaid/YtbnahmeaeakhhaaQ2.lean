/- Tables, as numbers: plain. No program is in sight here. -/
import Derived.Test.YtbnahmeaeakhhaaVq
namespace Go.Proofs.Ytbnahmeaeakhhaa.Q
set_option linter.unusedVariables false
set_option linter.unusedSimpArgs false
open Go Go.RowKit
theorem getD_at {xs : List Int} {j : Nat} (h : j < xs.length) : xs.getD j 0 = xs[j] := by simp [List.getD_eq_getElem?_getD, h]
end Go.Proofs.Ytbnahmeaeakhhaa.Q
