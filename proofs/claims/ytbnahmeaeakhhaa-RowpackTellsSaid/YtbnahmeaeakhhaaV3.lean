/- dfa.Check, by hand: dfaErr. -/
import Derived.Test.YtbnahmeaeakhhaaProg
import Derived.Test.YtbnahmeaeakhhaaBd
import Derived.Test.YtbnahmeaeakhhaaVq
namespace Go.Proofs.Ytbnahmeaeakhhaa.B
set_option linter.unusedVariables false
set_option linter.unusedSimpArgs false
open Go Go.RowKit Go.Proofs.Ytbnahmeaeakhhaa.Q Classical
set_option maxRecDepth 100000 in
set_option maxHeartbeats 16000000 in
theorem dfaCheck_hand {H : PH} {st : Int} {A1 A2 : Option Addr} {c1 c2 : Nat} {acc : List Int} {next : List (List Int)} {w : World} (h1 : SlR (kI .i64) H A1 acc.length c1 acc) (h2 : SlR (kS (kI .i64)) H A2 next.length c2 next) (hs : Sat w H) :
    Calls Try.prog 96 #[.agg #[.int .i64 st, .slice A1 acc.length c1, .slice A2 next.length c2]] w fun e w' => e = .returned (.int .i64 (dfaErr st acc next)) ∧ Below w.heap.size w w' := by
  have hx := Aside.mk (Ext.refl hs)
  replace h1 := Aside.mk h1
  replace h2 := Aside.mk h2
  go_enter Try.func96, Try.ntmps96
  go_upto_region 1 with (fail)
  have hszw := hx.out.size
  have kd_ : (w.alloc (.cells #[.int .i64 st, .slice A1 acc.length c1, .slice A2 next.length c2] 58)).heap[w.heap.size]? = some (.cells #[.int .i64 st, .slice A1 acc.length c1, .slice A2 next.length c2] 58) := (heap_alloc_new _ _)
  have nd := Aside.mk (fun o => hx.out.sat.new (b := w.heap.size) (show w.heap.size ≤ _ by omega) o)
  replace hx := Aside.mk ((hx.out.alloc (.cells #[.int .i64 st, .slice A1 acc.length c1, .slice A2 next.length c2] 58)))
  generalize (w.alloc (.cells #[.int .i64 st, .slice A1 acc.length c1, .slice A2 next.length c2] 58)) = W1 at *
  have kd := Aside.mk kd_
  clear kd_
  obtain ⟨H1, hx2, hle, Bd, hold⟩ := box_freeze hx.out (by omega) kd.out nd.out
  replace h1 := Aside.mk (h1.out.mono hle)
  replace h2 := Aside.mk (h2.out.mono hle)
  replace hx := Aside.mk hx2
  replace Bd := Aside.mk Bd
  clear hle hold hx2 kd nd
  by_cases a1 : (200 : Int) < next.length
  case pos =>
    have hte : Aside (dfaErr st acc next = 2) := ⟨by unfold dfaErr; rw [if_pos (by omega)]⟩
    have lqd : w.heap.size < W1.heap.size := hx.out.sat.lt (Bd.out 0 _ rfl)
    have cd0 : W1.cell? ⟨w.heap.size, 0, none⟩ = some (.int .i64 st) := hx.out.sat _ _ _ (Bd.out 0 _ rfl)
    have cd1 : W1.cell? ⟨w.heap.size, 1, none⟩ = some (.slice A1 acc.length c1) := hx.out.sat _ _ _ (Bd.out 1 _ rfl)
    have cd2 : W1.cell? ⟨w.heap.size, 2, none⟩ = some (.slice A2 next.length c2) := hx.out.sat _ _ _ (Bd.out 2 _ rfl)
    go_wp2_with fail
    clear lqd cd0 cd1 cd2
    go_ret
    exact ⟨by rw [hte.out]; rfl, hx.out.below⟩
  case neg =>
    have lqd : w.heap.size < W1.heap.size := hx.out.sat.lt (Bd.out 0 _ rfl)
    have cd0 : W1.cell? ⟨w.heap.size, 0, none⟩ = some (.int .i64 st) := hx.out.sat _ _ _ (Bd.out 0 _ rfl)
    have cd1 : W1.cell? ⟨w.heap.size, 1, none⟩ = some (.slice A1 acc.length c1) := hx.out.sat _ _ _ (Bd.out 1 _ rfl)
    have cd2 : W1.cell? ⟨w.heap.size, 2, none⟩ = some (.slice A2 next.length c2) := hx.out.sat _ _ _ (Bd.out 2 _ rfl)
    go_upto_region 3 with (fail)
    clear lqd cd0 cd1 cd2
    have hn200 : next.length ≤ 200 := by omega
    clear a1
    by_cases b1 : (next.length : Int) = 0
    case pos =>
      obtain rfl : next = [] := List.eq_nil_of_length_eq_zero (by omega)
      clear b1
      have hte : Aside (dfaErr st acc [] = 3) := ⟨by unfold dfaErr; rw [if_neg (by simp), if_pos (by simp)]⟩
      have lqd : w.heap.size < W1.heap.size := hx.out.sat.lt (Bd.out 0 _ rfl)
      have cd0 : W1.cell? ⟨w.heap.size, 0, none⟩ = some (.int .i64 st) := hx.out.sat _ _ _ (Bd.out 0 _ rfl)
      have cd1 : W1.cell? ⟨w.heap.size, 1, none⟩ = some (.slice A1 acc.length c1) := hx.out.sat _ _ _ (Bd.out 1 _ rfl)
      have cd2 : W1.cell? ⟨w.heap.size, 2, none⟩ = some (.slice A2 0 c2) := hx.out.sat _ _ _ (Bd.out 2 _ rfl)
      go_wp2_with fail
      clear lqd cd0 cd1 cd2
      go_ret
      exact ⟨by rw [hte.out]; rfl, hx.out.below⟩
    case neg =>
      have qb1 : ((next.length : Int) == 0) = false := beq_eq_false_iff_ne.2 b1
      have hpos : 0 < next.length := by omega
      replace b1 := Aside.mk b1
      by_cases b2 : (acc.length : Int) = next.length
      case neg =>
        have qb2 : ((acc.length : Int) == (next.length : Int)) = false := beq_eq_false_iff_ne.2 b2
        have hte : Aside (dfaErr st acc next = 3) := ⟨by unfold dfaErr; rw [if_neg (by omega), if_pos (by omega)]⟩
        replace b2 := Aside.mk b2
        have lqd : w.heap.size < W1.heap.size := hx.out.sat.lt (Bd.out 0 _ rfl)
        have cd0 : W1.cell? ⟨w.heap.size, 0, none⟩ = some (.int .i64 st) := hx.out.sat _ _ _ (Bd.out 0 _ rfl)
        have cd1 : W1.cell? ⟨w.heap.size, 1, none⟩ = some (.slice A1 acc.length c1) := hx.out.sat _ _ _ (Bd.out 1 _ rfl)
        have cd2 : W1.cell? ⟨w.heap.size, 2, none⟩ = some (.slice A2 next.length c2) := hx.out.sat _ _ _ (Bd.out 2 _ rfl)
        go_wp2_with fail
        clear lqd cd0 cd1 cd2
        go_ret
        exact ⟨by rw [hte.out]; rfl, hx.out.below⟩
      case pos =>
        have qb2 : ((acc.length : Int) == (next.length : Int)) = true := beq_iff_eq.2 b2
        have e1 : Aside (acc.length = next.length) := ⟨by omega⟩
        replace b2 := Aside.mk b2
        have lqd : w.heap.size < W1.heap.size := hx.out.sat.lt (Bd.out 0 _ rfl)
        have cd0 : W1.cell? ⟨w.heap.size, 0, none⟩ = some (.int .i64 st) := hx.out.sat _ _ _ (Bd.out 0 _ rfl)
        have cd1 : W1.cell? ⟨w.heap.size, 1, none⟩ = some (.slice A1 acc.length c1) := hx.out.sat _ _ _ (Bd.out 1 _ rfl)
        have cd2 : W1.cell? ⟨w.heap.size, 2, none⟩ = some (.slice A2 next.length c2) := hx.out.sat _ _ _ (Bd.out 2 _ rfl)
        go_upto_region 5 with (fail)
        clear lqd cd0 cd1 cd2
        clear qb1 qb2
        obtain ⟨b0, o0, Ar, cr, eA, hcr, -⟩ := h2.out.rowD hx.out.sat 0 hpos
        subst eA
        rw [Nat.add_zero] at hcr
        have hT : dfaErr st acc next = if 16 < (next.getD 0 []).length then 2 else if ¬ rowsForm (next.getD 0 []).length next 0 then 3 else if ¬ (0 ≤ st ∧ st < next.length ∧ rowsIn next.length acc next 0) then 1 else 0 := by have := e1.out; unfold dfaErr; rw [if_neg (by omega), if_neg (by omega)]
        generalize (next.getD 0 []).length = C at *
        replace hT := Aside.mk hT
        have hnl : (0 : Int) < (next.length : Int) := by omega
        have lqd : w.heap.size < W1.heap.size := hx.out.sat.lt (Bd.out 0 _ rfl)
        have cd0 : W1.cell? ⟨w.heap.size, 0, none⟩ = some (.int .i64 st) := hx.out.sat _ _ _ (Bd.out 0 _ rfl)
        have cd1 : W1.cell? ⟨w.heap.size, 1, none⟩ = some (.slice A1 acc.length c1) := hx.out.sat _ _ _ (Bd.out 1 _ rfl)
        have cd2 : W1.cell? ⟨w.heap.size, 2, none⟩ = some (.slice (some ⟨b0, o0, none⟩) next.length c2) := hx.out.sat _ _ _ (Bd.out 2 _ rfl)
        go_upto_region 6 with (fail)
        clear lqd cd0 cd1 cd2
        clear hcr
        by_cases a2 : (16 : Int) < C
        case pos =>
          have lqd : w.heap.size < W1.heap.size := hx.out.sat.lt (Bd.out 0 _ rfl)
          have cd0 : W1.cell? ⟨w.heap.size, 0, none⟩ = some (.int .i64 st) := hx.out.sat _ _ _ (Bd.out 0 _ rfl)
          have cd1 : W1.cell? ⟨w.heap.size, 1, none⟩ = some (.slice A1 acc.length c1) := hx.out.sat _ _ _ (Bd.out 1 _ rfl)
          have cd2 : W1.cell? ⟨w.heap.size, 2, none⟩ = some (.slice (some ⟨b0, o0, none⟩) next.length c2) := hx.out.sat _ _ _ (Bd.out 2 _ rfl)
          go_wp2_with fail
          clear lqd cd0 cd1 cd2
          go_ret
          exact ⟨by rw [hT.out, if_pos (by omega)]; rfl, hx.out.below⟩
        case neg =>
          have lqd : w.heap.size < W1.heap.size := hx.out.sat.lt (Bd.out 0 _ rfl)
          have cd0 : W1.cell? ⟨w.heap.size, 0, none⟩ = some (.int .i64 st) := hx.out.sat _ _ _ (Bd.out 0 _ rfl)
          have cd1 : W1.cell? ⟨w.heap.size, 1, none⟩ = some (.slice A1 acc.length c1) := hx.out.sat _ _ _ (Bd.out 1 _ rfl)
          have cd2 : W1.cell? ⟨w.heap.size, 2, none⟩ = some (.slice (some ⟨b0, o0, none⟩) next.length c2) := hx.out.sat _ _ _ (Bd.out 2 _ rfl)
          go_upto_region 8 with (fail)
          clear lqd cd0 cd1 cd2
          replace hT := Aside.mk (hT.out.trans (if_neg (by omega)))
          have hC16 : C ≤ 16 := by omega
          clear a2
          have lqd : w.heap.size < W1.heap.size := hx.out.sat.lt (Bd.out 0 _ rfl)
          have cd0 : W1.cell? ⟨w.heap.size, 0, none⟩ = some (.int .i64 st) := hx.out.sat _ _ _ (Bd.out 0 _ rfl)
          have cd1 : W1.cell? ⟨w.heap.size, 1, none⟩ = some (.slice A1 acc.length c1) := hx.out.sat _ _ _ (Bd.out 1 _ rfl)
          have cd2 : W1.cell? ⟨w.heap.size, 2, none⟩ = some (.slice (some ⟨b0, o0, none⟩) next.length c2) := hx.out.sat _ _ _ (Bd.out 2 _ rfl)
          go_wp2_with fail
          clear lqd cd0 cd1 cd2
          go_loopw [37] (fun s37 wr => ∃ (k : Nat) (Hk : PH), k ≤ next.length ∧ s37 = .int .i64 k ∧ Aside (∀ s, s < k → (next.getD s []).length = C ∧ C ≠ 0) ∧ Aside (Ext H Hk w wr) ∧ Aside (SlR (kI .i64) Hk A1 acc.length c1 acc) ∧ Aside (SlR (kS (kI .i64)) Hk (some ⟨b0, o0, none⟩) next.length c2 next) ∧ Aside (BoxH Hk (w.heap.size) [.int .i64 st, .slice A1 acc.length c1, .slice (some ⟨b0, o0, none⟩) next.length c2])) (fun s37 _ => next.length - (intOf s37).toNat)
          case atStart => exact ⟨0, _, by omega, rfl, ⟨fun s h => by omega⟩, hx, h1, h2, Bd⟩
          case round =>
            clear hx h1 h2 Bd
            obtain ⟨k, Hk, hk, rfl, hf, hx, h1, h2, Bd⟩ := hrel
            by_cases hlt : k < next.length
            case pos =>
              have hli : (k : Int) < (next.length : Int) := by omega
              obtain ⟨b9, o9, Ar, cr, eA, hcr, hrow⟩ := h2.out.rowD hx.out.sat k (hlt)
              cases eA
              clear hrow
              have hlen := Aside.mk (show ∀ L : Nat, L = (next.getD k []).length → (L ≠ C ∨ C = 0) → dfaErr st acc next = 3 from fun L hL h => by rw [hT.out, if_pos (fun hr => by have := hr k (Nat.zero_le _) hlt; omega)])
              generalize hL : (next.getD k []).length = L at *
              replace hL := Aside.mk hL
              by_cases x1 : (L : Int) = C
              case neg =>
                have hte := Aside.mk (hlen.out L rfl (Or.inl (by omega)))
                have q1 : ((L : Int) == (C : Int)) = false := beq_eq_false_iff_ne.2 x1
                have q1n : ((L : Int) != (C : Int)) = true := bne_iff_ne.2 x1
                clear x1
                have lqd : w.heap.size < wr.heap.size := hx.out.sat.lt (Bd.out 0 _ rfl)
                have cd0 : wr.cell? ⟨w.heap.size, 0, none⟩ = some (.int .i64 st) := hx.out.sat _ _ _ (Bd.out 0 _ rfl)
                have cd1 : wr.cell? ⟨w.heap.size, 1, none⟩ = some (.slice A1 acc.length c1) := hx.out.sat _ _ _ (Bd.out 1 _ rfl)
                have cd2 : wr.cell? ⟨w.heap.size, 2, none⟩ = some (.slice (some ⟨b0, o0, none⟩) next.length c2) := hx.out.sat _ _ _ (Bd.out 2 _ rfl)
                go_wp2_with fail
                clear lqd cd0 cd1 cd2
                go_ret
                exact ⟨by rw [hte.out]; rfl, hx.out.below⟩
              case pos =>
                have q1 : ((L : Int) == (C : Int)) = true := beq_iff_eq.2 x1
                have q1n : ((L : Int) != (C : Int)) = false := by rw [x1]; exact bne_self_eq_false _
                by_cases x2 : (C : Int) = 0
                case pos =>
                  have hte := Aside.mk (hlen.out L rfl (Or.inr (by omega)))
                  have q2 : ((C : Int) == 0) = true := beq_iff_eq.2 x2
                  clear x1 x2
                  have lqd : w.heap.size < wr.heap.size := hx.out.sat.lt (Bd.out 0 _ rfl)
                  have cd0 : wr.cell? ⟨w.heap.size, 0, none⟩ = some (.int .i64 st) := hx.out.sat _ _ _ (Bd.out 0 _ rfl)
                  have cd1 : wr.cell? ⟨w.heap.size, 1, none⟩ = some (.slice A1 acc.length c1) := hx.out.sat _ _ _ (Bd.out 1 _ rfl)
                  have cd2 : wr.cell? ⟨w.heap.size, 2, none⟩ = some (.slice (some ⟨b0, o0, none⟩) next.length c2) := hx.out.sat _ _ _ (Bd.out 2 _ rfl)
                  go_wp2_with fail
                  clear lqd cd0 cd1 cd2
                  go_ret
                  exact ⟨by rw [hte.out]; rfl, hx.out.below⟩
                case neg =>
                  have q2 : ((C : Int) == 0) = false := beq_eq_false_iff_ne.2 x2
                  have hf2 : Aside (∀ s, s < k + 1 → (next.getD s []).length = C ∧ C ≠ 0) := ⟨fun s h => by
                      by_cases e : s = k
                      · subst e; rw [hL.out]; omega
                      · exact hf.out s (by omega)⟩
                  clear x1 x2 hlen
                  have lqd : w.heap.size < wr.heap.size := hx.out.sat.lt (Bd.out 0 _ rfl)
                  have cd0 : wr.cell? ⟨w.heap.size, 0, none⟩ = some (.int .i64 st) := hx.out.sat _ _ _ (Bd.out 0 _ rfl)
                  have cd1 : wr.cell? ⟨w.heap.size, 1, none⟩ = some (.slice A1 acc.length c1) := hx.out.sat _ _ _ (Bd.out 1 _ rfl)
                  have cd2 : wr.cell? ⟨w.heap.size, 2, none⟩ = some (.slice (some ⟨b0, o0, none⟩) next.length c2) := hx.out.sat _ _ _ (Bd.out 2 _ rfl)
                  go_wp2_with fail
                  clear lqd cd0 cd1 cd2
                  go_roundw
                  case rel => exact ⟨k + 1, _, by omega, by go_num, hf2, hx, h1, h2, Bd⟩
                  case measure => (first | (simp [intOf]; done) | (simp [intOf]; omega))
            case neg =>
              have hli : ¬ (k : Int) < (next.length : Int) := by omega
              have hform : rowsForm C next 0 := fun s _ hs => hf.out s (by omega)
              replace hT := Aside.mk (hT.out.trans (if_neg (fun h => h hform)))
              replace hform := Aside.mk hform
              clear hf
              have lqd : w.heap.size < wr.heap.size := hx.out.sat.lt (Bd.out 0 _ rfl)
              have cd0 : wr.cell? ⟨w.heap.size, 0, none⟩ = some (.int .i64 st) := hx.out.sat _ _ _ (Bd.out 0 _ rfl)
              have cd1 : wr.cell? ⟨w.heap.size, 1, none⟩ = some (.slice A1 acc.length c1) := hx.out.sat _ _ _ (Bd.out 1 _ rfl)
              have cd2 : wr.cell? ⟨w.heap.size, 2, none⟩ = some (.slice (some ⟨b0, o0, none⟩) next.length c2) := hx.out.sat _ _ _ (Bd.out 2 _ rfl)
              go_upto_region 14 with (fail)
              clear lqd cd0 cd1 cd2
              by_cases d1 : st < 0
              case pos =>
                have lqd : w.heap.size < wr.heap.size := hx.out.sat.lt (Bd.out 0 _ rfl)
                have cd0 : wr.cell? ⟨w.heap.size, 0, none⟩ = some (.int .i64 st) := hx.out.sat _ _ _ (Bd.out 0 _ rfl)
                have cd1 : wr.cell? ⟨w.heap.size, 1, none⟩ = some (.slice A1 acc.length c1) := hx.out.sat _ _ _ (Bd.out 1 _ rfl)
                have cd2 : wr.cell? ⟨w.heap.size, 2, none⟩ = some (.slice (some ⟨b0, o0, none⟩) next.length c2) := hx.out.sat _ _ _ (Bd.out 2 _ rfl)
                go_wp2_with fail
                clear lqd cd0 cd1 cd2
                go_ret
                exact ⟨by rw [hT.out, if_pos (fun h => by omega)]; rfl, hx.out.below⟩
              case neg =>
                by_cases d2 : (next.length : Int) ≤ st
                case pos =>
                  have lqd : w.heap.size < wr.heap.size := hx.out.sat.lt (Bd.out 0 _ rfl)
                  have cd0 : wr.cell? ⟨w.heap.size, 0, none⟩ = some (.int .i64 st) := hx.out.sat _ _ _ (Bd.out 0 _ rfl)
                  have cd1 : wr.cell? ⟨w.heap.size, 1, none⟩ = some (.slice A1 acc.length c1) := hx.out.sat _ _ _ (Bd.out 1 _ rfl)
                  have cd2 : wr.cell? ⟨w.heap.size, 2, none⟩ = some (.slice (some ⟨b0, o0, none⟩) next.length c2) := hx.out.sat _ _ _ (Bd.out 2 _ rfl)
                  go_wp2_with fail
                  clear lqd cd0 cd1 cd2
                  go_ret
                  exact ⟨by rw [hT.out, if_pos (fun h => by omega)]; rfl, hx.out.below⟩
                case neg =>
                  have lqd : w.heap.size < wr.heap.size := hx.out.sat.lt (Bd.out 0 _ rfl)
                  have cd0 : wr.cell? ⟨w.heap.size, 0, none⟩ = some (.int .i64 st) := hx.out.sat _ _ _ (Bd.out 0 _ rfl)
                  have cd1 : wr.cell? ⟨w.heap.size, 1, none⟩ = some (.slice A1 acc.length c1) := hx.out.sat _ _ _ (Bd.out 1 _ rfl)
                  have cd2 : wr.cell? ⟨w.heap.size, 2, none⟩ = some (.slice (some ⟨b0, o0, none⟩) next.length c2) := hx.out.sat _ _ _ (Bd.out 2 _ rfl)
                  go_upto_region 16 with (fail)
                  clear lqd cd0 cd1 cd2
                  have hst0 := Aside.mk (show 0 ≤ st ∧ st < next.length by omega)
                  clear d1 d2 hli hk
                  have hbad := Aside.mk (show ∀ s, s < next.length → ¬ (-1 ≤ acc.getD s 0 ∧ rowIn next.length (next.getD s []) 0) → dfaErr st acc next = 1 from fun s hs h => by rw [hT.out, if_pos (fun h3 => h (h3.2.2 s (Nat.zero_le _) hs))])
                  have lqd : w.heap.size < wr.heap.size := hx.out.sat.lt (Bd.out 0 _ rfl)
                  have cd0 : wr.cell? ⟨w.heap.size, 0, none⟩ = some (.int .i64 st) := hx.out.sat _ _ _ (Bd.out 0 _ rfl)
                  have cd1 : wr.cell? ⟨w.heap.size, 1, none⟩ = some (.slice A1 acc.length c1) := hx.out.sat _ _ _ (Bd.out 1 _ rfl)
                  have cd2 : wr.cell? ⟨w.heap.size, 2, none⟩ = some (.slice (some ⟨b0, o0, none⟩) next.length c2) := hx.out.sat _ _ _ (Bd.out 2 _ rfl)
                  go_wp2_with fail
                  clear lqd cd0 cd1 cd2
                  go_loopw [64] (fun s64 wr => ∃ (k : Nat) (Hk : PH), k ≤ next.length ∧ s64 = .int .i64 k ∧ Aside (∀ s, s < k → -1 ≤ acc.getD s 0 ∧ rowIn next.length (next.getD s []) 0) ∧ Aside (Ext H Hk w wr) ∧ Aside (SlR (kI .i64) Hk A1 acc.length c1 acc) ∧ Aside (SlR (kS (kI .i64)) Hk (some ⟨b0, o0, none⟩) next.length c2 next) ∧ Aside (BoxH Hk (w.heap.size) [.int .i64 st, .slice A1 acc.length c1, .slice (some ⟨b0, o0, none⟩) next.length c2])) (fun s64 _ => next.length - (intOf s64).toNat)
                  case atStart => exact ⟨0, _, by omega, rfl, ⟨fun s h => by omega⟩, hx, h1, h2, Bd⟩
                  case round =>
                    clear hx h1 h2 Bd
                    obtain ⟨k, Hk, hk, rfl, hf, hx, h1, h2, Bd⟩ := hrel
                    by_cases hlt : k < next.length
                    case pos =>
                      have hli : (k : Int) < (next.length : Int) := by omega
                      have hla : (k : Int) < (acc.length : Int) := by have := e1.out; omega
                      obtain ⟨b9, o9, Ar, cr, eA, hcr, hrow⟩ := h2.out.rowD hx.out.sat k (hlt)
                      cases eA
                      replace hrow := Aside.mk hrow
                      obtain ⟨b5, o5, eA, hca⟩ := (h1.out.wr hx.out.sat).atD k (by have := e1.out; omega)
                      subst eA
                      have hb1 := Aside.mk (hbad.out k hlt)
                      have hfs := Aside.mk (show (-1 ≤ acc.getD k 0 ∧ rowIn next.length (next.getD k []) 0) → ∀ s, s < k + 1 → -1 ≤ acc.getD s 0 ∧ rowIn next.length (next.getD s []) 0 from fun h s hs => by
                          by_cases e : s = k
                          · subst e; exact h
                          · exact hf.out s (by omega))
                      generalize acc.getD k 0 = x at *
                      have hcl : (next.getD k []).length = C := (hform.out k (Nat.zero_le _) hlt).1
                      generalize next.getD k [] = row at *
                      have hrl : row.length ≤ 16 := by omega
                      replace hcl := Aside.mk hcl
                      by_cases x1 : x < -1
                      case pos =>
                        have hte := Aside.mk (hb1.out (fun h => by omega))
                        have lqd : w.heap.size < wr.heap.size := hx.out.sat.lt (Bd.out 0 _ rfl)
                        have cd0 : wr.cell? ⟨w.heap.size, 0, none⟩ = some (.int .i64 st) := hx.out.sat _ _ _ (Bd.out 0 _ rfl)
                        have cd1 : wr.cell? ⟨w.heap.size, 1, none⟩ = some (.slice (some ⟨b5, o5, none⟩) acc.length c1) := hx.out.sat _ _ _ (Bd.out 1 _ rfl)
                        have cd2 : wr.cell? ⟨w.heap.size, 2, none⟩ = some (.slice (some ⟨b0, o0, none⟩) next.length c2) := hx.out.sat _ _ _ (Bd.out 2 _ rfl)
                        go_wp2_with fail
                        clear lqd cd0 cd1 cd2
                        go_ret
                        exact ⟨by rw [hte.out]; rfl, hx.out.below⟩
                      case neg =>
                        have hx1 := Aside.mk (show -1 ≤ x by omega)
                        obtain ⟨wo, rfl⟩ : ∃ wo : World, wo = wr := ⟨_, rfl⟩
                        have lqd : w.heap.size < wo.heap.size := hx.out.sat.lt (Bd.out 0 _ rfl)
                        have cd0 : wo.cell? ⟨w.heap.size, 0, none⟩ = some (.int .i64 st) := hx.out.sat _ _ _ (Bd.out 0 _ rfl)
                        have cd1 : wo.cell? ⟨w.heap.size, 1, none⟩ = some (.slice (some ⟨b5, o5, none⟩) acc.length c1) := hx.out.sat _ _ _ (Bd.out 1 _ rfl)
                        have cd2 : wo.cell? ⟨w.heap.size, 2, none⟩ = some (.slice (some ⟨b0, o0, none⟩) next.length c2) := hx.out.sat _ _ _ (Bd.out 2 _ rfl)
                        go_wp2_with fail
                        clear lqd cd0 cd1 cd2
                        clear hcr hca x1
                        go_loopw [77] (fun s77 wr => ∃ (j : Nat) (Hq : PH), j ≤ row.length ∧ s77 = .int .i64 j ∧ Aside (∀ c, c < j → -1 ≤ row.getD c 0 ∧ row.getD c 0 < next.length) ∧ Aside (Ext H Hq w wr) ∧ Aside (SlR (kI .i64) Hq (some ⟨b5, o5, none⟩) acc.length c1 acc) ∧ Aside (SlR (kS (kI .i64)) Hq (some ⟨b0, o0, none⟩) next.length c2 next) ∧ Aside (SlR (kI .i64) Hq Ar row.length cr row) ∧ Aside (BoxH Hq (w.heap.size) [.int .i64 st, .slice (some ⟨b5, o5, none⟩) acc.length c1, .slice (some ⟨b0, o0, none⟩) next.length c2])) (fun s77 _ => row.length - (intOf s77).toNat)
                        case atStart => exact ⟨0, _, by omega, rfl, ⟨fun s h => by omega⟩, hx, h1, h2, hrow, Bd⟩
                        case round =>
                          clear hx h1 h2 hrow Bd
                          obtain ⟨j, Hq, hj, rfl, hg, hx, h1, h2, hrow, Bd⟩ := hrel
                          by_cases hlj : j < row.length
                          case pos =>
                            have hlji : (j : Int) < (row.length : Int) := by omega
                            obtain ⟨b6, o6, eA, hcj⟩ := (hrow.out.wr hx.out.sat).atD j hlj
                            subst eA
                            have hr1 := Aside.mk (show ¬ (-1 ≤ row.getD j 0 ∧ row.getD j 0 < next.length) → dfaErr st acc next = 1 from fun h => hb1.out (fun h3 => h (h3.2 j (Nat.zero_le _) hlj)))
                            have hg2 := Aside.mk (show (-1 ≤ row.getD j 0 ∧ row.getD j 0 < next.length) → ∀ c, c < j + 1 → -1 ≤ row.getD c 0 ∧ row.getD c 0 < next.length from fun h c hc => by
                                by_cases e : c = j
                                · subst e; exact h
                                · exact hg.out c (by omega))
                            generalize row.getD j 0 = y at *
                            by_cases y1 : y < -1
                            case pos =>
                              have hte := Aside.mk (hr1.out (fun h => by omega))
                              have lqd : w.heap.size < wr.heap.size := hx.out.sat.lt (Bd.out 0 _ rfl)
                              have cd0 : wr.cell? ⟨w.heap.size, 0, none⟩ = some (.int .i64 st) := hx.out.sat _ _ _ (Bd.out 0 _ rfl)
                              have cd1 : wr.cell? ⟨w.heap.size, 1, none⟩ = some (.slice (some ⟨b5, o5, none⟩) acc.length c1) := hx.out.sat _ _ _ (Bd.out 1 _ rfl)
                              have cd2 : wr.cell? ⟨w.heap.size, 2, none⟩ = some (.slice (some ⟨b0, o0, none⟩) next.length c2) := hx.out.sat _ _ _ (Bd.out 2 _ rfl)
                              go_wp2_with fail
                              clear lqd cd0 cd1 cd2
                              go_ret
                              exact ⟨by rw [hte.out]; rfl, hx.out.below⟩
                            case neg =>
                              by_cases y2 : (next.length : Int) ≤ y
                              case pos =>
                                have hte := Aside.mk (hr1.out (fun h => by omega))
                                have lqd : w.heap.size < wr.heap.size := hx.out.sat.lt (Bd.out 0 _ rfl)
                                have cd0 : wr.cell? ⟨w.heap.size, 0, none⟩ = some (.int .i64 st) := hx.out.sat _ _ _ (Bd.out 0 _ rfl)
                                have cd1 : wr.cell? ⟨w.heap.size, 1, none⟩ = some (.slice (some ⟨b5, o5, none⟩) acc.length c1) := hx.out.sat _ _ _ (Bd.out 1 _ rfl)
                                have cd2 : wr.cell? ⟨w.heap.size, 2, none⟩ = some (.slice (some ⟨b0, o0, none⟩) next.length c2) := hx.out.sat _ _ _ (Bd.out 2 _ rfl)
                                go_wp2_with fail
                                clear lqd cd0 cd1 cd2
                                go_ret
                                exact ⟨by rw [hte.out]; rfl, hx.out.below⟩
                              case neg =>
                                replace hg2 := Aside.mk (hg2.out ⟨by omega, by omega⟩)
                                have lqd : w.heap.size < wr.heap.size := hx.out.sat.lt (Bd.out 0 _ rfl)
                                have cd0 : wr.cell? ⟨w.heap.size, 0, none⟩ = some (.int .i64 st) := hx.out.sat _ _ _ (Bd.out 0 _ rfl)
                                have cd1 : wr.cell? ⟨w.heap.size, 1, none⟩ = some (.slice (some ⟨b5, o5, none⟩) acc.length c1) := hx.out.sat _ _ _ (Bd.out 1 _ rfl)
                                have cd2 : wr.cell? ⟨w.heap.size, 2, none⟩ = some (.slice (some ⟨b0, o0, none⟩) next.length c2) := hx.out.sat _ _ _ (Bd.out 2 _ rfl)
                                go_wp2_with fail
                                clear lqd cd0 cd1 cd2
                                go_roundw
                                case rel => exact ⟨j + 1, _, by omega, by go_num, hg2, hx, h1, h2, hrow, Bd⟩
                                case measure => (first | (simp [intOf]; done) | (simp [intOf]; omega))
                          case neg =>
                            have hlji : ¬ (j : Int) < (row.length : Int) := by omega
                            have hf2 := Aside.mk (hfs.out ⟨hx1.out, fun c _ hc => hg.out c (by omega)⟩)
                            clear hrow
                            have lqd : w.heap.size < wr.heap.size := hx.out.sat.lt (Bd.out 0 _ rfl)
                            have cd0 : wr.cell? ⟨w.heap.size, 0, none⟩ = some (.int .i64 st) := hx.out.sat _ _ _ (Bd.out 0 _ rfl)
                            have cd1 : wr.cell? ⟨w.heap.size, 1, none⟩ = some (.slice (some ⟨b5, o5, none⟩) acc.length c1) := hx.out.sat _ _ _ (Bd.out 1 _ rfl)
                            have cd2 : wr.cell? ⟨w.heap.size, 2, none⟩ = some (.slice (some ⟨b0, o0, none⟩) next.length c2) := hx.out.sat _ _ _ (Bd.out 2 _ rfl)
                            go_wp2_with fail
                            clear lqd cd0 cd1 cd2
                            go_roundw
                            case rel => exact ⟨k + 1, _, by omega, by go_num, hf2, hx, h1, h2, Bd⟩
                            case measure => (first | (simp [intOf]; done) | (simp [intOf]; omega))
                    case neg =>
                      have hli : ¬ (k : Int) < (next.length : Int) := by omega
                      have hte := Aside.mk (hT.out.trans (if_neg (fun h => h ⟨hst0.out.1, hst0.out.2, fun s _ hs => hf.out s (by omega)⟩)))
                      have lqd : w.heap.size < wr.heap.size := hx.out.sat.lt (Bd.out 0 _ rfl)
                      have cd0 : wr.cell? ⟨w.heap.size, 0, none⟩ = some (.int .i64 st) := hx.out.sat _ _ _ (Bd.out 0 _ rfl)
                      have cd1 : wr.cell? ⟨w.heap.size, 1, none⟩ = some (.slice A1 acc.length c1) := hx.out.sat _ _ _ (Bd.out 1 _ rfl)
                      have cd2 : wr.cell? ⟨w.heap.size, 2, none⟩ = some (.slice (some ⟨b0, o0, none⟩) next.length c2) := hx.out.sat _ _ _ (Bd.out 2 _ rfl)
                      go_wp2_with fail
                      clear lqd cd0 cd1 cd2
                      go_ret
                      exact ⟨by rw [hte.out]; rfl, hx.out.below⟩
end Go.Proofs.Ytbnahmeaeakhhaa.B
