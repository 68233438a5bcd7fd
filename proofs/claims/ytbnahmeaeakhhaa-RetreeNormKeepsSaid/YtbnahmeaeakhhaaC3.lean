/- Contracts: retree.node at every kind, retree.walk, retree.Fits, retree.Check. -/
import Derived.Test.YtbnahmeaeakhhaaC2a
import Derived.Test.YtbnahmeaeakhhaaC2b
import Derived.Test.YtbnahmeaeakhhaaC2c
import Derived.Test.YtbnahmeaeakhhaaC2d
import Derived.Test.YtbnahmeaeakhhaaC2e
import Derived.Test.YtbnahmeaeakhhaaC2f
namespace Go.Proofs.Ytbnahmeaeakhhaa.B
set_option linter.unusedVariables false
set_option linter.unusedSimpArgs false
open Go Go.RowKit

set_option maxHeartbeats 400000 in
theorem node_out (k : Int) (v1 v2 : Value) (mn mx : Int) (neg : Bool) (w : World) (h : k < 0 ∨ 10 < k) :
    Calls Try.prog 181 #[.agg #[.int .i64 k, v1, v2, .int .i64 mn, .int .i64 mx, .bool neg]] w fun e w' => e = .returned (.int .i64 1) ∧ Below w.heap.size w w' := by
  by_cases h1 : k < 0
  · go_enter Try.func181, Try.ntmps181
    go_wp2
    go_ret
    exact ⟨rfl, (Below.refl _ _).alloc (Nat.le_refl _) _⟩
  · have h2 : 10 < k := by omega
    clear h
    go_enter Try.func181, Try.ntmps181
    go_wp2
    go_ret
    exact ⟨rfl, (Below.refl _ _).alloc (Nat.le_refl _) _⟩

theorem node_any (H : PH) (r : Re) (cs : List Value) (w : World) (hr : RdRe H r cs) (hs : Sat w H) :
    Calls Try.prog 181 #[.agg cs.toArray] w fun e w' => e = .returned (.int .i64 r.err) ∧ Below w.heap.size w w' := by
  cases r with
  | mk k set args mn mx neg =>
  obtain ⟨A1, c1, A, c, rfl, h1, h2⟩ := hr.open
  have hn := h2.2.2.2.1
  by_cases hk : k < 0 ∨ 10 < k
  · refine (node_out k _ _ mn mx neg w hk).mono fun e w' ⟨he, hb⟩ => ⟨?_, hb⟩
    rw [he]; simp [Re.err, nodeErr, Re.kind, hk]
  · obtain rfl | rfl | rfl | rfl | rfl | rfl | rfl | rfl | rfl | rfl | rfl : k = 0 ∨ k = 1 ∨ k = 2 ∨ k = 3 ∨ k = 4 ∨ k = 5 ∨ k = 6 ∨ k = 7 ∨ k = 8 ∨ k = 9 ∨ k = 10 := by omega
    · exact node_any0 H set A1 A _ c1 _ c mn mx neg w h1 hs hn
    · exact node_any1 H set A1 A _ c1 _ c mn mx neg w h1 hs hn
    · exact node_any2 H set A1 A _ c1 _ c mn mx neg w h1 hs hn
    · exact node_any3 H set A1 A _ c1 _ c mn mx neg w h1 hs hn
    · exact node_any4 H set A1 A _ c1 _ c mn mx neg w h1 hs hn
    · exact node_any5 H set A1 A _ c1 _ c mn mx neg w h1 hs hn
    · exact node_any6 H set A1 A _ c1 _ c mn mx neg w h1 hs hn
    · exact node_any7 H set A1 A _ c1 _ c mn mx neg w h1 hs hn
    · exact node_any8 H set A1 A _ c1 _ c mn mx neg w h1 hs hn
    · exact node_any9 H set A1 A _ c1 _ c mn mx neg w h1 hs hn
    · exact node_any10 H set A1 A _ c1 _ c mn mx neg w h1 hs hn

end Go.Proofs.Ytbnahmeaeakhhaa.B
