/- Contracts: retree.node at the kinds 4 (printed by mk_node.py). -/
import Derived.Test.YtbnahmeaeakhhaaC2
namespace Go.Proofs.Ytbnahmeaeakhhaa.B
set_option linter.unusedVariables false
set_option linter.unusedSimpArgs false
open Go Go.RowKit

set_option maxHeartbeats 4000000 in
set_option maxRecDepth 100000 in
theorem node_any4 (H : PH) (set : List Span) (A1 A : Option Addr) (n1 c1 n c : Nat) (mn mx : Int) (neg : Bool) (w : World) (hl : SlR kSpan H A1 n1 c1 set) (hs : Sat w H) (hn : n ≤ 140737488355328) :
    Calls Try.prog 181 #[.agg #[.int .i64 4, .slice A1 n1 c1, .slice A n c, .int .i64 mn, .int .i64 mx, .bool neg]] w fun e w' =>
      e = .returned (.int .i64 (nodeErr 4 set n mn mx neg)) ∧ Below w.heap.size w w' := by
  have hl1 := hl.1
  have hl2 := hl.2.2.2.1
  subst hl1
  go_enter Try.func181, Try.ntmps181
  go_wp2_with fail
  refine (args_any _ _ (by omega) (by omega)).mono ?_
  rintro e w1 ⟨rfl, rfl⟩
  simp only [need, manyK]
  go_wp2_with fail
  go_quiet (fail)
  by_cases d1 : n < 2
  · skip
    go_wp2_with fail
    go_ret
    exact ⟨by (first | (simp [nodeErr, need]; done) | (simp [nodeErr, need, *]; done) | (simp [nodeErr, need]; omega) | (simp [nodeErr, need, *]; omega)), ((Below.refl _ _).alloc (Nat.le_refl _) _).drewN _⟩
  · skip
    by_cases d2 : 2 < n
    · skip
      by_cases d3 : 0 < set.length
      · skip
        go_wp2_with fail
        go_ret
        exact ⟨by (first | (simp [nodeErr, need]; done) | (simp [nodeErr, need, *]; done) | (simp [nodeErr, need]; omega) | (simp [nodeErr, need, *]; omega)), ((Below.refl _ _).alloc (Nat.le_refl _) _).drewN _⟩
      · skip
        obtain rfl : set = [] := List.eq_nil_of_length_eq_zero (by omega)
        clear d3
        by_cases d4 : mn ≠ 0
        · skip
          go_wp2_with fail
          go_ret
          exact ⟨by (first | (simp [nodeErr, need]; done) | (simp [nodeErr, need, *]; done) | (simp [nodeErr, need]; omega) | (simp [nodeErr, need, *]; omega)), ((Below.refl _ _).alloc (Nat.le_refl _) _).drewN _⟩
        · skip
          obtain rfl : mn = 0 := by omega
          clear d4
          by_cases d5 : mx ≠ 0
          · skip
            go_wp2_with fail
            go_ret
            exact ⟨by (first | (simp [nodeErr, need]; done) | (simp [nodeErr, need, *]; done) | (simp [nodeErr, need]; omega) | (simp [nodeErr, need, *]; omega)), ((Below.refl _ _).alloc (Nat.le_refl _) _).drewN _⟩
          · skip
            obtain rfl : mx = 0 := by omega
            clear d5
            cases neg with
            | true =>
              go_wp2_with fail
              go_ret
              exact ⟨by (first | (simp [nodeErr, need]; done) | (simp [nodeErr, need, *]; done) | (simp [nodeErr, need]; omega) | (simp [nodeErr, need, *]; omega)), ((Below.refl _ _).alloc (Nat.le_refl _) _).drewN _⟩
            | false =>
              go_wp2_with fail
              go_ret
              exact ⟨by (first | (simp [nodeErr, need]; done) | (simp [nodeErr, need, *]; done) | (simp [nodeErr, need]; omega) | (simp [nodeErr, need, *]; omega)), ((Below.refl _ _).alloc (Nat.le_refl _) _).drewN _⟩
    · skip
      by_cases d3 : 0 < set.length
      · skip
        go_wp2_with fail
        go_ret
        exact ⟨by (first | (simp [nodeErr, need]; done) | (simp [nodeErr, need, *]; done) | (simp [nodeErr, need]; omega) | (simp [nodeErr, need, *]; omega)), ((Below.refl _ _).alloc (Nat.le_refl _) _).drewN _⟩
      · skip
        obtain rfl : set = [] := List.eq_nil_of_length_eq_zero (by omega)
        clear d3
        by_cases d4 : mn ≠ 0
        · skip
          go_wp2_with fail
          go_ret
          exact ⟨by (first | (simp [nodeErr, need]; done) | (simp [nodeErr, need, *]; done) | (simp [nodeErr, need]; omega) | (simp [nodeErr, need, *]; omega)), ((Below.refl _ _).alloc (Nat.le_refl _) _).drewN _⟩
        · skip
          obtain rfl : mn = 0 := by omega
          clear d4
          by_cases d5 : mx ≠ 0
          · skip
            go_wp2_with fail
            go_ret
            exact ⟨by (first | (simp [nodeErr, need]; done) | (simp [nodeErr, need, *]; done) | (simp [nodeErr, need]; omega) | (simp [nodeErr, need, *]; omega)), ((Below.refl _ _).alloc (Nat.le_refl _) _).drewN _⟩
          · skip
            obtain rfl : mx = 0 := by omega
            clear d5
            cases neg with
            | true =>
              go_wp2_with fail
              go_ret
              exact ⟨by (first | (simp [nodeErr, need]; done) | (simp [nodeErr, need, *]; done) | (simp [nodeErr, need]; omega) | (simp [nodeErr, need, *]; omega)), ((Below.refl _ _).alloc (Nat.le_refl _) _).drewN _⟩
            | false =>
              go_wp2_with fail
              go_ret
              exact ⟨by (first | (simp [nodeErr, need]; done) | (simp [nodeErr, need, *]; done) | (simp [nodeErr, need]; omega) | (simp [nodeErr, need, *]; omega)), ((Below.refl _ _).alloc (Nat.le_refl _) _).drewN _⟩
end Go.Proofs.Ytbnahmeaeakhhaa.B
