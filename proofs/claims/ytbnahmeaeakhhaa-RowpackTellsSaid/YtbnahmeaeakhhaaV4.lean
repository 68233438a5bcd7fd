/- rowpack.entries, rowpack.place, by hand. -/
import Derived.Test.YtbnahmeaeakhhaaProg
import Derived.Test.YtbnahmeaeakhhaaBd
import Derived.Test.YtbnahmeaeakhhaaVq
namespace Go.Proofs.Ytbnahmeaeakhhaa.B
set_option linter.unusedVariables false
set_option linter.unusedSimpArgs false
open Go Go.RowKit Go.Proofs.Ytbnahmeaeakhhaa.Q

set_option maxHeartbeats 2000000 in
theorem entries_hand {A : Option Addr} {c : Nat} {row : List Int} {w : World} (h : WR .i64 w A row.length c row) (hl : row.length ≤ 100000) :
    Calls Try.prog 114 #[.slice A row.length c] w fun e w' => e = .returned (.int .i64 (cntF row)) ∧ w' = w := by
  replace h := Aside.mk h
  go_enter Try.func114, Try.ntmps114
  go_wp2_with fail
  go_loopw [3, 8] (fun s3 s8 wr => ∃ k : Nat, k ≤ row.length ∧ wr = w ∧ s3 = .int .i64 (cntF (row.take k)) ∧ s8 = .int .i64 k) (fun _ s8 _ => row.length - (intOf s8).toNat)
  case atStart => exact ⟨0, by omega, rfl, rfl, rfl⟩
  case round =>
    obtain ⟨k, hk, rfl, rfl, rfl⟩ := hrel
    by_cases hlt : k < row.length
    case pos =>
      have hli : (k : Int) < (row.length : Int) := by omega
      obtain ⟨b, o, eA, hc⟩ := h.out.atD k hlt
      subst eA
      have hst := cntF_take hlt
      have hbd := cntF_bd (row.take k)
      have htl : (row.take k).length = k := by simp; omega
      generalize cntF (row.take k) = z at *
      by_cases hp : 0 ≤ row.getD k 0
      case pos =>
        rw [if_pos hp] at hst
        replace hst := Aside.mk hst
        have hw : IntKind.i64.wrap (z + 1) = z + 1 := by rw [IntWalk.i64_in _ (by omega)]
        clear hbd htl
        generalize row.getD k 0 = y at *
        go_wp2_with fail
        go_roundw
        case rel => exact ⟨k + 1, by omega, by trivial, by rw [hst.out], by go_num⟩
        case measure => first | (simp [intOf]; done) | (simp [intOf]; omega)
      case neg =>
        rw [if_neg hp, Int.add_zero] at hst
        replace hst := Aside.mk hst
        clear hbd htl
        generalize row.getD k 0 = y at *
        go_wp2_with fail
        go_roundw
        case rel => exact ⟨k + 1, by omega, by trivial, by rw [hst.out], by go_num⟩
        case measure => first | (simp [intOf]; done) | (simp [intOf]; omega)
    case neg =>
      have hli : ¬ (k : Int) < (row.length : Int) := by omega
      have hk2 : row.take k = row := List.take_of_length_le (by omega)
      rw [hk2]
      go_wp2_with fail
      go_ret
      exact ⟨rfl, rfl⟩

def freeB (own row : List Int) (b j : Nat) : Prop := ∀ i, i < j → 0 ≤ row.getD i 0 → b + i < own.length → own.getD (b + i) 0 < 0
theorem freeB_step {own row : List Int} {b j : Nat} : freeB own row b (j + 1) ↔ freeB own row b j ∧ (0 ≤ row.getD j 0 → b + j < own.length → own.getD (b + j) 0 < 0) :=
  ⟨fun h => ⟨fun i hi => h i (by omega), h j (by omega)⟩, fun h i hi => by
    by_cases e : i = j
    · subst e; exact h.2
    · exact h.1 i (by omega)⟩
theorem freeB_all {own row : List Int} {b : Nat} : freeAt own row b ↔ freeB own row b row.length := ⟨fun h i hi => h i (Nat.zero_le _) hi, fun h i _ hi => h i hi⟩
theorem placeN_eq {own row : List Int} {b : Nat} (h : freeAt own row b) (hn : ∀ c, c < b → ¬ freeAt own row c) : placeN own row = b := by
  obtain ⟨h1, h2, -⟩ := placeN_spec own row
  rcases Nat.lt_trichotomy (placeN own row) b with g | g | g
  · exact absurd h1 (hn _ g)
  · exact g
  · exact absurd h (h2 _ g)

set_option maxHeartbeats 4000000 in
theorem place_hand {A A2 : Option Addr} {c c2 : Nat} {own row : List Int} {w : World} (h : WR .i64 w A own.length c own) (h2 : WR .i64 w A2 row.length c2 row) (hl : own.length ≤ 100000) (hl2 : row.length ≤ 100000) :
    Calls Try.prog 115 #[.slice A own.length c, .slice A2 row.length c2] w fun e w' => e = .returned (.int .i64 (placeN own row)) ∧ w' = w := by
  replace h := Aside.mk h
  replace h2 := Aside.mk h2
  go_enter Try.func115, Try.ntmps115
  go_wp2_with fail
  go_loopw [5] (fun s5 wr => ∃ b : Nat, b ≤ own.length ∧ wr = w ∧ s5 = .int .i64 b ∧ Aside (∀ c, c < b → ¬ freeAt own row c)) (fun s5 _ => own.length - (intOf s5).toNat)
  case atStart => exact ⟨0, by omega, rfl, rfl, ⟨fun c hc => by omega⟩⟩
  case round =>
    obtain ⟨b, hb, rfl, rfl, hno⟩ := hrel
    go_wp2_with fail
    go_loopw [6, 13] (fun s6 s13 wq => ∃ (j : Nat) (f : Bool), j ≤ row.length ∧ wq = wr ∧ s6 = .bool f ∧ s13 = .int .i64 j ∧ Aside (f = true ↔ freeB own row b j)) (fun _ s13 _ => row.length - (intOf s13).toNat)
    case atStart => exact ⟨0, true, by omega, rfl, rfl, rfl, ⟨⟨fun _ i hi => by omega, fun _ => rfl⟩⟩⟩
    case round =>
      obtain ⟨j, f, hj, rfl, rfl, rfl, hf⟩ := hrel
      have hbj : (b : Int) + 1 ≤ 100001 := by omega
      by_cases hlt : j < row.length
      case pos =>
        have hli : (j : Int) < (row.length : Int) := by omega
        obtain ⟨b1, o1, eA, hc⟩ := h2.out.atD j hlt
        subst eA
        have hst := freeB_step (own := own) (row := row) (b := b) (j := j)
        generalize row.getD j 0 = x at *
        have hq : IntKind.i64.wrap ((b : Int) + (j : Int)) = ((b + j : Nat) : Int) := by rw [IntWalk.i64_in _ (by omega)]; omega
        obtain ⟨q, hq2⟩ : ∃ q, q = b + j := ⟨_, rfl⟩
        rw [← hq2] at hq hst
        replace hq2 := Aside.mk hq2
        replace hst := Aside.mk hst
        cases f with
        | false =>
          go_wp2_with fail
          go_roundw
          case rel => exact ⟨j + 1, false, by omega, by trivial, rfl, by go_num, ⟨⟨fun h => (by cases h), fun h => absurd (hf.out.2 (hst.out.1 h).1) (by decide)⟩⟩⟩
          case measure => first | (simp [intOf]; done) | (simp [intOf]; omega)
        | true =>
          by_cases x1 : x < 0
          case pos =>
            go_wp2_with fail
            go_roundw
            case rel => exact ⟨j + 1, true, by omega, by trivial, rfl, by go_num, ⟨⟨fun _ => hst.out.2 ⟨hf.out.1 rfl, fun h => by omega⟩, fun _ => rfl⟩⟩⟩
            case measure => first | (simp [intOf]; done) | (simp [intOf]; omega)
          case neg =>
            by_cases x2 : (own.length : Int) ≤ (q : Int)
            case pos =>
              go_wp2_with fail
              go_roundw
              case rel => exact ⟨j + 1, true, by omega, by trivial, rfl, by go_num, ⟨⟨fun _ => hst.out.2 ⟨hf.out.1 rfl, fun _ h => by omega⟩, fun _ => rfl⟩⟩⟩
              case measure => first | (simp [intOf]; done) | (simp [intOf]; omega)
            case neg =>
              have hqi : (q : Int) < (own.length : Int) := by omega
              obtain ⟨b2, o2, eA, hc2⟩ := h.out.atD q (by omega)
              subst eA
              have hst2 := Aside.mk (fun (h : freeB own row b (j + 1)) => (hst.out.1 h).2 (by omega) (by omega))
              have hst3 := Aside.mk (fun (h : own.getD q 0 < 0) => hst.out.2 ⟨hf.out.1 rfl, fun _ _ => h⟩)
              generalize own.getD q 0 = y at *
              by_cases x3 : y < 0
              case pos =>
                go_wp2_with fail
                go_roundw
                case rel => exact ⟨j + 1, true, by omega, by trivial, rfl, by go_num, ⟨⟨fun _ => hst3.out (by omega), fun _ => rfl⟩⟩⟩
                case measure => first | (simp [intOf]; done) | (simp [intOf]; omega)
              case neg =>
                go_wp2_with fail
                go_roundw
                case rel => exact ⟨j + 1, false, by omega, by trivial, rfl, by go_num, ⟨⟨fun h => (by cases h), fun h => absurd (hst2.out h) (by omega)⟩⟩⟩
                case measure => first | (simp [intOf]; done) | (simp [intOf]; omega)
      case neg =>
        have hli : ¬ (j : Int) < (row.length : Int) := by omega
        have hje : j = row.length := by omega
        subst hje
        cases f with
        | true =>
          have hfin := Aside.mk (placeN_eq (freeB_all.2 (hf.out.1 rfl)) hno.out)
          go_wp2_with fail
          go_ret
          exact ⟨by rw [hfin.out]; rfl, rfl⟩
        | false =>
          have hnf : Aside (¬ freeAt own row b) := ⟨fun h => absurd (hf.out.2 (freeB_all.1 h)) (by decide)⟩
          have hbl : b < own.length := by
            rcases Nat.lt_or_ge b own.length with g | g
            · exact g
            · exact absurd (freeAt_end own row b g) hnf.out
          have hno2 : Aside (∀ c, c < b + 1 → ¬ freeAt own row c) := ⟨fun c hc => by
            by_cases e : c = b
            · subst e; exact hnf.out
            · exact hno.out c (by omega)⟩
          go_wp2_with fail
          go_roundw
          case rel => exact ⟨b + 1, by omega, by trivial, by go_num, hno2⟩
          case measure => first | (simp [intOf]; done) | (simp [intOf]; omega)
end Go.Proofs.Ytbnahmeaeakhhaa.B
