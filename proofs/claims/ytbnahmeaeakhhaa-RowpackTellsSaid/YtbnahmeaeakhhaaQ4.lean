/- A literal becomes known. -/
import Derived.Test.YtbnahmeaeakhhaaBd
import Derived.Test.YtbnahmeaeakhhaaQ3
import Derived.Test.YtbnahmeaeakhhaaV7
namespace Go.Proofs.Ytbnahmeaeakhhaa.B
set_option linter.unusedVariables false
set_option linter.unusedSimpArgs false
open Go Go.RowKit

theorem lit_extq {α : Type} {k : Kd α} {H0 H : PH} {w0 w : World} {e : TypeId} {xs : List α} (hx : Ext H0 H w0 w) (cs : Array Value) (henc : EncL k H xs cs.toList) (hl : xs.length ≤ 140737488355328) :
    ∃ H', Ext H0 H' w0 (w.alloc (.cells cs e)) ∧ H.le H' ∧ SlR k H' (some ⟨w.heap.size, 0, none⟩) xs.length xs.length xs := by
  obtain ⟨H', h1, h2, ⟨A, c, e1, h3⟩, -⟩ := (Own.lit (k := k) (e := e) (xs := xs) (base := w.heap.size) hx.sat cs (Nat.le_refl _) henc (by unfold maxLen; omega)).freezeE (hx.alloc _) hx.size hl
  cases e1
  exact ⟨H', h1, h2, h3⟩
end Go.Proofs.Ytbnahmeaeakhhaa.B
