/- Contracts: parlref1.CheckNode at the kinds 0, 1, 2 (printed by mk_cnode.py). -/
import Derived.Test.YtbnahmeaeakhhaaC5
namespace Go.Proofs.Ytbnahmeaeakhhaa.B
set_option linter.unusedVariables false
set_option linter.unusedSimpArgs false
open Go Go.RowKit

set_option maxHeartbeats 4000000 in
set_option maxRecDepth 100000 in
theorem cnode_any0 (H : PH) (set : List Span) (A1 A : Option Addr) (n1 c1 n c : Nat) (mn mx : Int) (neg : Bool) (w : World) (hl : SlR kSpan H A1 n1 c1 set) (hs : Sat w H) (hn : n ≤ 140737488355328) :
    Calls Try.prog 92 #[.agg #[.int .i64 0, .slice A1 n1 c1, .slice A n c, .int .i64 mn, .int .i64 mx, .bool neg]] w fun e w' =>
      e = .returned (.int .i64 (nodeErr 0 set n mn mx neg)) ∧ Below w.heap.size w w' := by
  have hl1 := hl.1
  have hl2 := hl.2.2.2.1
  subst hl1
  by_cases d2 : 0 < n
  · skip
    go_enter Try.func92, Try.ntmps92
    go_wp2_with (go_at_call 145; refine (need_any _ _ (by omega) (by omega)).mono ?_; rintro e w1 ⟨rfl, rfl⟩; simp only [need])
    go_ret
    exact ⟨by (first | (simp [nodeErr, need]; done) | (simp [nodeErr, need, *]; done) | (simp [nodeErr, need]; omega) | (simp [nodeErr, need, *]; omega)), (by repeat (first | exact Below.refl _ _ | apply bA))⟩
  · skip
    by_cases d3 : 0 < set.length
    · skip
      go_enter Try.func92, Try.ntmps92
      go_wp2_with (go_at_call 145; refine (need_any _ _ (by omega) (by omega)).mono ?_; rintro e w1 ⟨rfl, rfl⟩; simp only [need])
      go_ret
      exact ⟨by (first | (simp [nodeErr, need]; done) | (simp [nodeErr, need, *]; done) | (simp [nodeErr, need]; omega) | (simp [nodeErr, need, *]; omega)), (by repeat (first | exact Below.refl _ _ | apply bA))⟩
    · skip
      obtain rfl : set = [] := List.eq_nil_of_length_eq_zero (by omega)
      clear d3
      by_cases d5 : mx ≠ 0
      · skip
        go_enter Try.func92, Try.ntmps92
        go_wp2_with (go_at_call 145; refine (need_any _ _ (by omega) (by omega)).mono ?_; rintro e w1 ⟨rfl, rfl⟩; simp only [need])
        go_ret
        exact ⟨by (first | (simp [nodeErr, need]; done) | (simp [nodeErr, need, *]; done) | (simp [nodeErr, need]; omega) | (simp [nodeErr, need, *]; omega)), (by repeat (first | exact Below.refl _ _ | apply bA))⟩
      · skip
        obtain rfl : mx = 0 := by omega
        clear d5
        by_cases d4 : mn ≠ 0
        · skip
          go_enter Try.func92, Try.ntmps92
          go_wp2_with (go_at_call 145; refine (need_any _ _ (by omega) (by omega)).mono ?_; rintro e w1 ⟨rfl, rfl⟩; simp only [need])
          go_ret
          exact ⟨by (first | (simp [nodeErr, need]; done) | (simp [nodeErr, need, *]; done) | (simp [nodeErr, need]; omega) | (simp [nodeErr, need, *]; omega)), (by repeat (first | exact Below.refl _ _ | apply bA))⟩
        · skip
          obtain rfl : mn = 0 := by omega
          clear d4
          cases neg with
          | true =>
            go_enter Try.func92, Try.ntmps92
            go_wp2_with (go_at_call 145; refine (need_any _ _ (by omega) (by omega)).mono ?_; rintro e w1 ⟨rfl, rfl⟩; simp only [need])
            go_ret
            exact ⟨by (first | (simp [nodeErr, need]; done) | (simp [nodeErr, need, *]; done) | (simp [nodeErr, need]; omega) | (simp [nodeErr, need, *]; omega)), (by repeat (first | exact Below.refl _ _ | apply bA))⟩
          | false =>
            go_enter Try.func92, Try.ntmps92
            go_wp2_with (go_at_call 145; refine (need_any _ _ (by omega) (by omega)).mono ?_; rintro e w1 ⟨rfl, rfl⟩; simp only [need])
            go_ret
            exact ⟨by (first | (simp [nodeErr, need]; done) | (simp [nodeErr, need, *]; done) | (simp [nodeErr, need]; omega) | (simp [nodeErr, need, *]; omega)), (by repeat (first | exact Below.refl _ _ | apply bA))⟩

set_option maxHeartbeats 4000000 in
set_option maxRecDepth 100000 in
theorem cnode_any1 (H : PH) (set : List Span) (A1 A : Option Addr) (n1 c1 n c : Nat) (mn mx : Int) (neg : Bool) (w : World) (hl : SlR kSpan H A1 n1 c1 set) (hs : Sat w H) (hn : n ≤ 140737488355328) :
    Calls Try.prog 92 #[.agg #[.int .i64 1, .slice A1 n1 c1, .slice A n c, .int .i64 mn, .int .i64 mx, .bool neg]] w fun e w' =>
      e = .returned (.int .i64 (nodeErr 1 set n mn mx neg)) ∧ Below w.heap.size w w' := by
  have hl1 := hl.1
  have hl2 := hl.2.2.2.1
  subst hl1
  by_cases d2 : 0 < n
  · skip
    go_enter Try.func92, Try.ntmps92
    go_wp2_with (go_at_call 145; refine (need_any _ _ (by omega) (by omega)).mono ?_; rintro e w1 ⟨rfl, rfl⟩; simp only [need])
    go_ret
    exact ⟨by (first | (simp [nodeErr, need]; done) | (simp [nodeErr, need, *]; done) | (simp [nodeErr, need]; omega) | (simp [nodeErr, need, *]; omega)), (by repeat (first | exact Below.refl _ _ | apply bA))⟩
  · skip
    by_cases d3 : 0 < set.length
    · skip
      go_enter Try.func92, Try.ntmps92
      go_wp2_with (go_at_call 145; refine (need_any _ _ (by omega) (by omega)).mono ?_; rintro e w1 ⟨rfl, rfl⟩; simp only [need])
      go_ret
      exact ⟨by (first | (simp [nodeErr, need]; done) | (simp [nodeErr, need, *]; done) | (simp [nodeErr, need]; omega) | (simp [nodeErr, need, *]; omega)), (by repeat (first | exact Below.refl _ _ | apply bA))⟩
    · skip
      obtain rfl : set = [] := List.eq_nil_of_length_eq_zero (by omega)
      clear d3
      by_cases d5 : mx ≠ 0
      · skip
        go_enter Try.func92, Try.ntmps92
        go_wp2_with (go_at_call 145; refine (need_any _ _ (by omega) (by omega)).mono ?_; rintro e w1 ⟨rfl, rfl⟩; simp only [need])
        go_ret
        exact ⟨by (first | (simp [nodeErr, need]; done) | (simp [nodeErr, need, *]; done) | (simp [nodeErr, need]; omega) | (simp [nodeErr, need, *]; omega)), (by repeat (first | exact Below.refl _ _ | apply bA))⟩
      · skip
        obtain rfl : mx = 0 := by omega
        clear d5
        by_cases d4 : mn ≠ 0
        · skip
          go_enter Try.func92, Try.ntmps92
          go_wp2_with (go_at_call 145; refine (need_any _ _ (by omega) (by omega)).mono ?_; rintro e w1 ⟨rfl, rfl⟩; simp only [need])
          go_ret
          exact ⟨by (first | (simp [nodeErr, need]; done) | (simp [nodeErr, need, *]; done) | (simp [nodeErr, need]; omega) | (simp [nodeErr, need, *]; omega)), (by repeat (first | exact Below.refl _ _ | apply bA))⟩
        · skip
          obtain rfl : mn = 0 := by omega
          clear d4
          cases neg with
          | true =>
            go_enter Try.func92, Try.ntmps92
            go_wp2_with (go_at_call 145; refine (need_any _ _ (by omega) (by omega)).mono ?_; rintro e w1 ⟨rfl, rfl⟩; simp only [need])
            go_ret
            exact ⟨by (first | (simp [nodeErr, need]; done) | (simp [nodeErr, need, *]; done) | (simp [nodeErr, need]; omega) | (simp [nodeErr, need, *]; omega)), (by repeat (first | exact Below.refl _ _ | apply bA))⟩
          | false =>
            go_enter Try.func92, Try.ntmps92
            go_wp2_with (go_at_call 145; refine (need_any _ _ (by omega) (by omega)).mono ?_; rintro e w1 ⟨rfl, rfl⟩; simp only [need])
            go_ret
            exact ⟨by (first | (simp [nodeErr, need]; done) | (simp [nodeErr, need, *]; done) | (simp [nodeErr, need]; omega) | (simp [nodeErr, need, *]; omega)), (by repeat (first | exact Below.refl _ _ | apply bA))⟩

set_option maxHeartbeats 4000000 in
set_option maxRecDepth 100000 in
theorem cnode_any2 (H : PH) (set : List Span) (A1 A : Option Addr) (n1 c1 n c : Nat) (mn mx : Int) (neg : Bool) (w : World) (hl : SlR kSpan H A1 n1 c1 set) (hs : Sat w H) (hn : n ≤ 140737488355328) :
    Calls Try.prog 92 #[.agg #[.int .i64 2, .slice A1 n1 c1, .slice A n c, .int .i64 mn, .int .i64 mx, .bool neg]] w fun e w' =>
      e = .returned (.int .i64 (nodeErr 2 set n mn mx neg)) ∧ Below w.heap.size w w' := by
  have hl1 := hl.1
  have hl2 := hl.2.2.2.1
  subst hl1
  by_cases d2 : 0 < n
  · skip
    go_enter Try.func92, Try.ntmps92
    go_wp2_with (go_at_call 145; refine (need_any _ _ (by omega) (by omega)).mono ?_; rintro e w1 ⟨rfl, rfl⟩; simp only [need])
    go_ret
    exact ⟨by (first | (simp [nodeErr, need]; done) | (simp [nodeErr, need, *]; done) | (simp [nodeErr, need]; omega) | (simp [nodeErr, need, *]; omega)), (by repeat (first | exact Below.refl _ _ | apply bA))⟩
  · skip
    by_cases d5 : mx ≠ 0
    · skip
      go_enter Try.func92, Try.ntmps92
      go_wp2_with (go_at_call 145; refine (need_any _ _ (by omega) (by omega)).mono ?_; rintro e w1 ⟨rfl, rfl⟩; simp only [need])
      go_ret
      exact ⟨by (first | (simp [nodeErr, need]; done) | (simp [nodeErr, need, *]; done) | (simp [nodeErr, need]; omega) | (simp [nodeErr, need, *]; omega)), (by repeat (first | exact Below.refl _ _ | apply bA))⟩
    · skip
      obtain rfl : mx = 0 := by omega
      clear d5
      by_cases d4 : mn ≠ 0
      · skip
        go_enter Try.func92, Try.ntmps92
        go_wp2_with (go_at_call 145; refine (need_any _ _ (by omega) (by omega)).mono ?_; rintro e w1 ⟨rfl, rfl⟩; simp only [need])
        go_ret
        exact ⟨by (first | (simp [nodeErr, need]; done) | (simp [nodeErr, need, *]; done) | (simp [nodeErr, need]; omega) | (simp [nodeErr, need, *]; omega)), (by repeat (first | exact Below.refl _ _ | apply bA))⟩
      · skip
        obtain rfl : mn = 0 := by omega
        clear d4
        cases neg with
        | true =>
          go_enter Try.func92, Try.ntmps92
          go_wp2_with (go_at_call 145; refine (need_any _ _ (by omega) (by omega)).mono ?_; rintro e w1 ⟨rfl, rfl⟩; simp only [need])
          go_ret
          exact ⟨by (first | (simp [nodeErr, need]; done) | (simp [nodeErr, need, *]; done) | (simp [nodeErr, need]; omega) | (simp [nodeErr, need, *]; omega)), (by repeat (first | exact Below.refl _ _ | apply bA))⟩
        | false =>
          go_enter Try.func92, Try.ntmps92
          go_wp2_with (go_at_call 145; refine (need_any _ _ (by omega) (by omega)).mono ?_; rintro e w1 ⟨rfl, rfl⟩; simp only [need])
          refine (checkSet_any H set _ _ _ _ hl (hs.below (by repeat (first | exact Below.refl _ _ | apply bA)))).mono ?_
          rintro e w1 ⟨rfl, hb1⟩
          have hb2 : Below w.heap.size w w1 := bT (by repeat (first | exact Below.refl _ _ | apply bA)) hb1
          by_cases d7 : setErr set = 0
          · rw [d7]
            have D7 := Aside.mk d7
            clear d7
            have f0 : w1.cell? ⟨w.heap.size, 0, none⟩ = some (.int .i64 2) := cell_box (w := w) (cs := #[.int .i64 2, .slice A1 set.length c1, .slice A n c, .int .i64 0, .int .i64 0, .bool false]) (t := 25) (bT (by repeat (first | exact Below.refl _ _ | apply bA)) hb1) 0
            have f1 : w1.cell? ⟨w.heap.size, 1, none⟩ = some (.slice A1 set.length c1) := cell_box (w := w) (cs := #[.int .i64 2, .slice A1 set.length c1, .slice A n c, .int .i64 0, .int .i64 0, .bool false]) (t := 25) (bT (by repeat (first | exact Below.refl _ _ | apply bA)) hb1) 1
            by_cases d8 : set.length = 0
            · go_wp2_with fail
              go_ret
              exact ⟨by have := D7.out; first | (simp [nodeErr, need, *]; done) | (simp [nodeErr, need, *]; omega), hb2⟩
            · go_wp2_with fail
              go_ret
              exact ⟨by have := D7.out; first | (simp [nodeErr, need, *]; done) | (simp [nodeErr, need, *]; omega), hb2⟩
          · have D7 := Aside.mk d7
            go_wp2_with fail
            go_ret
            exact ⟨by have := D7.out; simp [nodeErr, need, *], hb2⟩
end Go.Proofs.Ytbnahmeaeakhhaa.B
