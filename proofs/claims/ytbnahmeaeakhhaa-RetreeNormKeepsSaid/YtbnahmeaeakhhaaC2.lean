/- Contracts: retree.args, retree.node. -/
import Derived.Test.YtbnahmeaeakhhaaC1
namespace Go.Proofs.Ytbnahmeaeakhhaa.B
set_option linter.unusedVariables false
set_option linter.unusedSimpArgs false
open Go Go.RowKit

def manyK (kind : Int) : Bool := decide (kind = 3) || decide (kind = 4) || decide (kind = 7)

set_option maxHeartbeats 1000000 in
theorem args_any (kind : Int) (w : World) (h0 : 0 ≤ kind) (h1 : kind ≤ 10) :
    Calls Try.prog 187 #[.int .i64 kind] w fun e w' => e = .returned (.tuple #[.int .i64 (need kind), .bool (manyK kind)]) ∧ w = w' := by
  obtain rfl | rfl | rfl | rfl | rfl | rfl | rfl | rfl | rfl | rfl | rfl : kind = 0 ∨ kind = 1 ∨ kind = 2 ∨ kind = 3 ∨ kind = 4 ∨ kind = 5 ∨ kind = 6 ∨ kind = 7 ∨ kind = 8 ∨ kind = 9 ∨ kind = 10 := by omega
  all_goals
    go_enter Try.func187, Try.ntmps187
    go_wp2
    go_ret2
    exact ⟨rfl, rfl⟩

end Go.Proofs.Ytbnahmeaeakhhaa.B
