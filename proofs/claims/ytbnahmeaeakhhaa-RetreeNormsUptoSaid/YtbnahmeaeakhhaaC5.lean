/- Contracts of the reference: goodSpan, CheckSet, need, runes. -/
import Derived.Test.YtbnahmeaeakhhaaProg
import Derived.Test.YtbnahmeaeakhhaaC1
import Derived.Test.YtbnahmeaeakhhaaBb
import Derived.Test.YtbnahmeaeakhhaaTe
namespace Go.Proofs.Ytbnahmeaeakhhaa.B
set_option linter.unusedVariables false
set_option linter.unusedSimpArgs false
open Go Go.RowKit

set_option maxHeartbeats 400000 in
theorem goodSpan_any (lo hi : Int) (w : World) :
    Calls Try.prog 172 #[.agg #[.int .i64 lo, .int .i64 hi]] w fun e w' => e = .returned (.bool (goodSpan ⟨lo, hi⟩)) ∧ Below w.heap.size w w' := by
  by_cases h1 : 0 ≤ lo
  · by_cases h2 : lo ≤ hi
    · by_cases h3 : hi ≤ 1114111
      all_goals
        go_enter Try.func172, Try.ntmps172
        go_wp2
        go_ret
        exact ⟨by simp [goodSpan]; omega, (Below.refl _ _).alloc (Nat.le_refl _) _⟩
    · go_enter Try.func172, Try.ntmps172
      go_wp2
      go_ret
      exact ⟨by simp [goodSpan]; omega, (Below.refl _ _).alloc (Nat.le_refl _) _⟩
  · go_enter Try.func172, Try.ntmps172
    go_wp2
    go_ret
    exact ⟨by simp [goodSpan]; omega, (Below.refl _ _).alloc (Nat.le_refl _) _⟩

theorem setGo_drop (l : List Span) (e : Int) (k : Nat) (hk : k < l.length) (hg : goodSpan l[k] = true) (ho : ¬ l[k].lo < e + 2) : setGo e (l.drop k) = setGo l[k].hi (l.drop (k+1)) := by
  rw [List.drop_eq_getElem_cons hk]; simp [setGo, hg]; omega

set_option maxHeartbeats 1000000 in
theorem checkSet_any (H : PH) (l : List Span) (A : Option Addr) (n c : Nat) (w : World) (hl : SlR kSpan H A n c l) (hs : Sat w H) :
    Calls Try.prog 146 #[.slice A n c] w fun e w' => e = .returned (.int .i64 (setErr l)) ∧ Below w.heap.size w w' := by
  obtain ⟨rfl, h1, h2, h3, h4, hrow⟩ := hl
  by_cases hbig : 16 < l.length
  · go_enter Try.func146, Try.ntmps146
    go_wp2
    go_ret
    exact ⟨by simp [setErr, hbig], Below.refl _ _⟩
  · go_enter Try.func146, Try.ntmps146
    go_wp2_with fail
    go_loopw [3, 11] (fun en i wr => ∃ (k : Nat) (z : Int), k ≤ l.length ∧ i = .int .i64 k ∧ en = .int .i64 z ∧ -2 ≤ z ∧ z ≤ 1114111 ∧ Aside (setErr l = setGo z (l.drop k)) ∧ Below w.heap.size w wr) (fun _ i _ => l.length - (intOf i).toNat)
    case atStart => exact ⟨0, -2, by omega, rfl, rfl, by omega, by omega, ⟨by simp [setErr, hbig]⟩, Below.refl _ _⟩
    case round =>
      obtain ⟨k, z, hk, rfl, rfl, hz1, hz2, hgo, hb⟩ := hrel
      by_cases hlt : k < l.length
      · obtain ⟨b, off, cs, rfl, hrd, hcell⟩ := hrow k hlt
        have hsd := setGo_drop l z k hlt
        have hdr : l.drop k = l[k] :: l.drop (k+1) := List.drop_eq_getElem_cons hlt
        generalize l[k] = s at *
        have HS := Aside.mk (And.intro hsd hdr)
        clear hsd hdr
        cases s with
        | mk lo hi =>
        obtain rfl : cs = [.int .i64 lo, .int .i64 hi] := hrd
        have hsr := hs.below hb
        obtain ⟨g0, g1⟩ := at2 hsr hcell
        clear hcell
        simp only [kSpan] at g0 g1
        cases hg : goodSpan ⟨lo, hi⟩ with
        | false =>
          go_wp2_with fail
          refine (goodSpan_any _ _ _).mono ?_
          rintro e w1 ⟨rfl, hb1⟩
          rw [hg]
          go_wp2_with fail
          go_ret
          exact ⟨by rw [hgo.out, HS.out.2]; simp [setGo, hg], (hb.alloc hb.size _).trans (hb1.mono (by have := hb.size; simp; omega))⟩
        | true =>
          have hg' : 0 ≤ lo ∧ lo ≤ hi ∧ hi ≤ 1114111 := by simpa [goodSpan, and_assoc] using hg
          obtain ⟨q1, q2, q3⟩ := hg'
          by_cases hc : lo < z + 2
          all_goals
            go_wp2_with fail
            refine (goodSpan_any _ _ _).mono ?_
            rintro e w1 ⟨rfl, hb1⟩
            rw [hg]
            have hb2 : Below w.heap.size w w1 := (hb.alloc hb.size _).trans (hb1.mono (by have := hb.size; simp; omega))
            have f0 : w1.cell? ⟨wr.heap.size, 0, none⟩ = some (.int .i64 lo) := by rw [hb1.cell (by simp)]; simp
            have f1 : w1.cell? ⟨wr.heap.size, 1, none⟩ = some (.int .i64 hi) := by rw [hb1.cell (by simp)]; simp
            go_wp2_with fail
          · go_ret
            exact ⟨by rw [hgo.out, HS.out.2]; simp [setGo, hg]; omega, hb2⟩
          · go_roundw
            case rel => exact ⟨k + 1, hi, by omega, by go_num, rfl, by omega, by omega, ⟨by rw [hgo.out]; exact HS.out.1 hg (by omega)⟩, hb2⟩
            case measure => simp [intOf]; omega
      · go_wp2
        go_ret
        exact ⟨by rw [hgo.out, List.drop_of_length_le (by omega)]; rfl, hb⟩

def needRow : Obj := .cells #[.int .i64 0, .int .i64 0, .int .i64 0, .int .i64 2, .int .i64 2, .int .i64 1, .int .i64 1, .int .i64 2, .int .i64 1, .int .i64 1, .int .i64 1] 3
set_option maxHeartbeats 1000000 in
theorem need_any (kind : Int) (w : World) (h0 : 0 ≤ kind) (h1 : kind ≤ 10) :
    Calls Try.prog 145 #[.int .i64 kind] w fun e w' => e = .returned (.int .i64 (need kind)) ∧ w' = w.alloc needRow := by
  obtain rfl | rfl | rfl | rfl | rfl | rfl | rfl | rfl | rfl | rfl | rfl : kind = 0 ∨ kind = 1 ∨ kind = 2 ∨ kind = 3 ∨ kind = 4 ∨ kind = 5 ∨ kind = 6 ∨ kind = 7 ∨ kind = 8 ∨ kind = 9 ∨ kind = 10 := by omega
  all_goals
    go_enter Try.func145, Try.ntmps145
    go_wp2
    go_ret
    exact ⟨rfl, rfl⟩

set_option maxHeartbeats 1000000 in
theorem runes_any (H : PH) (t : List Int) (A : Option Addr) (n c : Nat) (most : Int) (w : World) (hl : SlR (kI .i64) H A n c t) (hs : Sat w H) :
    Calls Try.prog 80 #[.slice A n c, .int .i64 most] w fun e w' => e = .returned (.int .i64 (runesErr most t)) ∧ w = w' := by
  obtain ⟨rfl, h1, h2, h3, h4, hrow⟩ := hl
  by_cases hbig : (t.length : Int) > most
  · go_enter Try.func80, Try.ntmps80
    go_wp2
    go_ret
    exact ⟨by simp [runesErr, hbig], rfl⟩
  · go_enter Try.func80, Try.ntmps80
    go_wp2_with fail
    go_loop [13] (fun i => ∃ k : Nat, k ≤ t.length ∧ i = .int .i64 k ∧ Aside ((t.take k).any (fun c => decide (c < 0) || decide (1114111 < c)) = false)) (fun i => t.length - (intOf i).toNat)
    case atStart => exact ⟨0, by omega, rfl, ⟨by simp⟩⟩
    case round =>
      obtain ⟨k, hk, rfl, hgo⟩ := hrel
      by_cases hlt : k < t.length
      · obtain ⟨b, off, cs, rfl, hrd, hcell⟩ := hrow k hlt
        have hsn := List.take_succ_eq_append_getElem hlt
        have hmem : t[k] ∈ t := List.getElem_mem _
        generalize t[k] = z at *
        have HS := Aside.mk (And.intro hsn hmem)
        clear hsn hmem
        obtain rfl : cs = [.int .i64 z] := hrd
        have g0 := at1 hs hcell
        clear hcell
        simp only [kI, Nat.mul_one] at g0
        by_cases q1 : z < 0
        · go_wp2_with fail
          go_ret
          exact ⟨by rw [runesErr, if_neg (by omega), if_pos (List.any_eq_true.2 ⟨z, HS.out.2, by simp [q1]⟩)]; rfl, rfl⟩
        · by_cases q2 : 1114111 < z
          · go_wp2_with fail
            go_ret
            exact ⟨by rw [runesErr, if_neg (by omega), if_pos (List.any_eq_true.2 ⟨z, HS.out.2, by simp [q2]⟩)]; rfl, rfl⟩
          · go_wp2_with fail
            go_round
            case rel => exact ⟨k + 1, by omega, by go_num, ⟨by rw [HS.out.1, List.any_append, hgo.out]; simp; omega⟩⟩
            case measure => simp [intOf]; omega
      · go_wp2
        go_ret
        have hgo' := hgo.out
        rw [List.take_of_length_le (by omega)] at hgo'
        exact ⟨by rw [runesErr, if_neg (by omega), hgo']; rfl, rfl⟩
end Go.Proofs.Ytbnahmeaeakhhaa.B
