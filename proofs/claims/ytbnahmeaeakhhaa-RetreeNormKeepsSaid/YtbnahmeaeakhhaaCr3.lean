/- Contract: relation.times. -/
import Derived.Test.YtbnahmeaeakhhaaCr2
import Derived.Deep.RegionWith
namespace Go.Proofs.Ytbnahmeaeakhhaa.B
set_option linter.unusedVariables false
set_option linter.unusedSimpArgs false
open Go Go.RowKit

/-- between low and k - 1 steps -/
def TimesK (n : Nat) (R : Rel) (low : Int) (k : Nat) : Rel := fun i j => ∃ l : Nat, low ≤ l ∧ l < k ∧ Pow n R l i j

set_option maxRecDepth 100000 in
set_option maxHeartbeats 400000 in
theorem times_any (n : Nat) (R : Rel) (A : Option Addr) (c : Nat) (low high : Int) (w : World) (hn : n ≤ 24) (ha : WR .u32 w A (n + 1) c (rows n R)) (hl : 0 ≤ low) (hh0 : 0 ≤ high) (hh : high ≤ 100) :
    Calls Try.prog 135 #[.slice A (n + 1) c, .int .i64 low, .int .i64 high] w fun e w' => ∃ v, e = .returned v ∧ Own (kI .u32) 112 w' w.heap.size emp v (rows n (fun i j => ∃ k : Nat, low ≤ k ∧ (k : Int) ≤ high ∧ Pow n R k i j)) ∧ Below w.heap.size w w' := by
  have hmk := run_mk (P := Try.prog) 110 112 Try.underlying110 info112 rfl (n + 1) (by omega) (by unfold maxLen; omega) ((n : Int) + 1) (by omega)
  have hac := ha.2.1
  have hz0 : rows n (TimesK n R low 0) = List.replicate (n + 1) 0 := by
    rw [← rows_none]; exact rows_congr fun i j _ _ => by simp [TimesK]
  have hwr : IntKind.i64.wrap (n : Int) = n := IntWalk.i64_in _ (by omega)
  go_enter Try.func135, Try.ntmps135
  go_upto_region 1 with (fail)
  go_cut [7, 8] (fun o p wc => ∃ (A1 A2 : Option Addr) (c1 c2 : Nat), o = .slice A1 (n + 1) c1 ∧ p = .slice A2 (n + 1) c2 ∧ Own (kI .u32) 112 wc w.heap.size emp o (rows n (TimesK n R low 0)) ∧ Own (kI .u32) 112 wc w.heap.size emp p (rows n (Pow n R 0)) ∧ Below w.heap.size w wc)
  case first =>
    go_region_with (go_at_call 131; with_reducible refine (one_any0 n _ hn).mono ?_; rintro e w1 ⟨v1, rfl, ho1, hb1⟩)
    all_goals
      go_wp2_with fail
      go_meet
      obtain ⟨A1, c1, e1, -, -⟩ := ho1.wr (by rw [rows_length]; omega)
      rw [rows_length] at e1
      subst e1
    · refine ⟨_, _, _, _, rfl, rfl, ?_, ho1.rebase (by simp), ((Below.refl _ _).alloc (Nat.le_refl _) _).drew.trans (hb1.mono (by simp))⟩
      rw [hz0]
      exact (own_mk (k := kI .u32) (sat_emp _) rfl rfl (n + 1) (by unfold maxLen; omega) (Nat.le_refl _)).drew.below (sat_emp _) hb1
    · refine ⟨_, _, _, _, rfl, rfl, ?_, (ho1.rebase (by simp)).alloc (sat_emp _) _, bA ((Below.refl _ _).drew.trans (hb1.mono (by simp))) _⟩
      rw [hz0]
      exact own_mk (k := kI .u32) (sat_emp _) rfl rfl (n + 1) (by unfold maxLen; omega) hb1.size
  case rest =>
    obtain ⟨A1, A2, c1, c2, rfl, rfl, ho1, hp1, hb1⟩ := hcut
    clear hmk hwr
    go_wp2_with fail
    go_loopw [7, 8, 9] (fun o p i wr => ∃ (k : Nat) (A1 A2 : Option Addr) (c1 c2 : Nat), (k : Int) ≤ high + 1 ∧ i = .int .i64 k ∧ o = .slice A1 (n + 1) c1 ∧ p = .slice A2 (n + 1) c2 ∧ Own (kI .u32) 112 wr w.heap.size emp o (rows n (TimesK n R low k)) ∧ Own (kI .u32) 112 wr w.heap.size emp p (rows n (Pow n R k)) ∧ Below w.heap.size w wr) (fun _ _ i _ => (high + 1 - intOf i).toNat)
    case atStart => exact ⟨0, A1, A2, c1, c2, by omega, rfl, rfl, rfl, ho1, hp1, hb1⟩
    case round =>
      obtain ⟨k, A3, A4, c3, c4, hk, rfl, rfl, rfl, ho3, hp3, hb3⟩ := hrel
      obtain ⟨_, _, e5, hw5, -⟩ := ho3.wr (by rw [rows_length]; omega)
      obtain ⟨_, _, e6, hw6, -⟩ := hp3.wr (by rw [rows_length]; omega)
      rw [rows_length] at e5 hw5 e6 hw6
      cases e5
      cases e6
      have HO := Aside.mk (And.intro ho3 hp3)
      clear ho3 hp3
      by_cases hkh : (k : Int) ≤ high
      · by_cases hlow : low ≤ k
        · go_wp2_with fail
          refine (or_any n _ _ _ _ _ _ wr hn hw5 hw6).mono ?_
          rintro e w7 ⟨v7, rfl, ho7, hb7⟩
          obtain ⟨A7, c7, e7, -, -⟩ := ho7.wr (by rw [rows_length]; omega)
          rw [rows_length] at e7
          subst e7
          have HO7 := Aside.mk ho7
          clear ho7
          go_wp2_with fail
          refine (then_any n _ _ _ _ _ _ w7 hn (hw6.below hb7) (ha.below (bT hb3 hb7))).mono ?_
          rintro e w8 ⟨v8, rfl, ho8, hb8⟩
          obtain ⟨A8, c8, e8, -, -⟩ := ho8.wr (by rw [rows_length]; omega)
          rw [rows_length] at e8
          subst e8
          go_wp2_with fail
          go_roundw
          case rel =>
            refine ⟨k + 1, A7, A8, c7, c8, by omega, by go_num, rfl, rfl, ?_, ho8.rebase (Nat.le_trans hb3.size hb7.size), bT hb3 (bT hb7 hb8)⟩
            have e : rows n (fun i j => TimesK n R low k i j ∨ Pow n R k i j) = rows n (TimesK n R low (k + 1)) := rows_congr fun i j _ _ => by
              simp only [TimesK]
              constructor
              · rintro (⟨l, h1, h2, h3⟩ | h)
                · exact ⟨l, h1, by omega, h3⟩
                · exact ⟨k, hlow, by omega, h⟩
              · rintro ⟨l, h1, h2, h3⟩
                by_cases hl : l = k
                · subst hl; exact Or.inr h3
                · exact Or.inl ⟨l, h1, by omega, h3⟩
            rw [← e]
            exact (HO7.out.rebase hb3.size).below (sat_emp _) hb8
          case measure => simp [intOf]; omega
        · go_wp2_with fail
          refine (then_any n _ _ _ _ _ _ wr hn hw6 (ha.below hb3)).mono ?_
          rintro e w8 ⟨v8, rfl, ho8, hb8⟩
          obtain ⟨A8, c8, e8, -, -⟩ := ho8.wr (by rw [rows_length]; omega)
          rw [rows_length] at e8
          subst e8
          go_wp2_with fail
          go_roundw
          case rel =>
            refine ⟨k + 1, A3, A8, c3, c8, by omega, by go_num, rfl, rfl, ?_, ho8.rebase hb3.size, bT hb3 hb8⟩
            have e : rows n (TimesK n R low k) = rows n (TimesK n R low (k + 1)) := rows_congr fun i j _ _ => by
              simp only [TimesK]
              constructor
              · rintro ⟨l, h1, h2, h3⟩; exact ⟨l, h1, by omega, h3⟩
              · rintro ⟨l, h1, h2, h3⟩; exact ⟨l, h1, by omega, h3⟩
            rw [← e]
            exact HO.out.1.below (sat_emp _) hb8
          case measure => simp [intOf]; omega
      · go_wp2_with fail
        go_ret
        refine ⟨_, rfl, ?_, hb3⟩
        have e : rows n (TimesK n R low k) = rows n (fun i j => ∃ k : Nat, low ≤ k ∧ (k : Int) ≤ high ∧ Pow n R k i j) := rows_congr fun i j _ _ => by
          simp only [TimesK]
          constructor
          · rintro ⟨l, h1, h2, h3⟩; exact ⟨l, h1, by omega, h3⟩
          · rintro ⟨l, h1, h2, h3⟩; exact ⟨l, h1, by omega, h3⟩
        rw [← e]
        exact HO.out.1
end Go.Proofs.Ytbnahmeaeakhhaa.B
