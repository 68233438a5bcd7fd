/- The reference's CheckDfa: dfaErr. The reference's DfaEqual, where both read the same. parllaw1.RowpackTells: the walk. -/
import Derived.Test.YtbnahmeaeakhhaaProg
import Derived.Test.YtbnahmeaeakhhaaBd
import Derived.Test.YtbnahmeaeakhhaaVq
import Derived.Test.YtbnahmeaeakhhaaV5
import Derived.Test.YtbnahmeaeakhhaaT4
import Derived.Test.YtbnahmeaeakhhaaRr
import Derived.Test.YtbnahmeaeakhhaaU9
import Derived.Test.YtbnahmeaeakhhaaU1
import Derived.Test.YtbnahmeaeakhhaaT9
namespace Go.Proofs.Ytbnahmeaeakhhaa.B
set_option linter.unusedVariables false
set_option linter.unusedSimpArgs false
open Go Go.RowKit Go.Proofs.Ytbnahmeaeakhhaa.Q Classical
set_option maxRecDepth 100000 in
set_option maxHeartbeats 16000000 in
theorem refDfa_hand {H : PH} {st : Int} {A1 A2 : Option Addr} {c1 c2 : Nat} {acc : List Int} {next : List (List Int)} {w : World} (h1 : SlR (kI .i64) H A1 acc.length c1 acc) (h2 : SlR (kS (kI .i64)) H A2 next.length c2 next) (hs : Sat w H) :
    Calls Try.prog 38 #[.agg #[.int .i64 st, .slice A1 acc.length c1, .slice A2 next.length c2]] w fun e w' => e = .returned (.int .i64 (dfaErr st acc next)) ∧ Below w.heap.size w w' := by
  have hx := Aside.mk (Ext.refl hs)
  replace h1 := Aside.mk h1
  replace h2 := Aside.mk h2
  go_enter Try.func38, Try.ntmps38
  go_upto_region 1 with (fail)
  have hszw := hx.out.size
  have kd_ : (w.alloc (.cells #[.int .i64 st, .slice A1 acc.length c1, .slice A2 next.length c2] 58)).heap[w.heap.size]? = some (.cells #[.int .i64 st, .slice A1 acc.length c1, .slice A2 next.length c2] 58) := (heap_alloc_new _ _)
  have nd := Aside.mk (fun o => hx.out.sat.new (b := w.heap.size) (show w.heap.size ≤ _ by omega) o)
  replace hx := Aside.mk ((hx.out.alloc (.cells #[.int .i64 st, .slice A1 acc.length c1, .slice A2 next.length c2] 58)))
  generalize (w.alloc (.cells #[.int .i64 st, .slice A1 acc.length c1, .slice A2 next.length c2] 58)) = W1 at *
  have kd := Aside.mk kd_
  clear kd_
  obtain ⟨H1, hx2, hle, Bd, hold⟩ := box_freeze hx.out (by omega) kd.out nd.out
  replace h1 := Aside.mk (h1.out.mono hle)
  replace h2 := Aside.mk (h2.out.mono hle)
  replace hx := Aside.mk hx2
  replace Bd := Aside.mk Bd
  clear hle hold hx2 kd nd
  by_cases a1 : (200 : Int) < next.length
  case pos =>
    have hte : Aside (dfaErr st acc next = 2) := ⟨by unfold dfaErr; rw [if_pos (by omega)]⟩
    have lqd : w.heap.size < W1.heap.size := hx.out.sat.lt (Bd.out 0 _ rfl)
    have cd0 : W1.cell? ⟨w.heap.size, 0, none⟩ = some (.int .i64 st) := hx.out.sat _ _ _ (Bd.out 0 _ rfl)
    have cd1 : W1.cell? ⟨w.heap.size, 1, none⟩ = some (.slice A1 acc.length c1) := hx.out.sat _ _ _ (Bd.out 1 _ rfl)
    have cd2 : W1.cell? ⟨w.heap.size, 2, none⟩ = some (.slice A2 next.length c2) := hx.out.sat _ _ _ (Bd.out 2 _ rfl)
    go_wp2_with fail
    clear lqd cd0 cd1 cd2
    go_ret
    exact ⟨by rw [hte.out]; rfl, hx.out.below⟩
  case neg =>
    have lqd : w.heap.size < W1.heap.size := hx.out.sat.lt (Bd.out 0 _ rfl)
    have cd0 : W1.cell? ⟨w.heap.size, 0, none⟩ = some (.int .i64 st) := hx.out.sat _ _ _ (Bd.out 0 _ rfl)
    have cd1 : W1.cell? ⟨w.heap.size, 1, none⟩ = some (.slice A1 acc.length c1) := hx.out.sat _ _ _ (Bd.out 1 _ rfl)
    have cd2 : W1.cell? ⟨w.heap.size, 2, none⟩ = some (.slice A2 next.length c2) := hx.out.sat _ _ _ (Bd.out 2 _ rfl)
    go_upto_region 4 with (fail)
    clear lqd cd0 cd1 cd2
    have hn200 : next.length ≤ 200 := by omega
    clear a1
    by_cases b1 : (next.length : Int) = 0
    case pos =>
      obtain rfl : next = [] := List.eq_nil_of_length_eq_zero (by omega)
      clear b1
      have hte : Aside (dfaErr st acc [] = 3) := ⟨by unfold dfaErr; rw [if_neg (by simp), if_pos (by simp)]⟩
      have lqd : w.heap.size < W1.heap.size := hx.out.sat.lt (Bd.out 0 _ rfl)
      have cd0 : W1.cell? ⟨w.heap.size, 0, none⟩ = some (.int .i64 st) := hx.out.sat _ _ _ (Bd.out 0 _ rfl)
      have cd1 : W1.cell? ⟨w.heap.size, 1, none⟩ = some (.slice A1 acc.length c1) := hx.out.sat _ _ _ (Bd.out 1 _ rfl)
      have cd2 : W1.cell? ⟨w.heap.size, 2, none⟩ = some (.slice A2 0 c2) := hx.out.sat _ _ _ (Bd.out 2 _ rfl)
      go_wp2_with fail
      clear lqd cd0 cd1 cd2
      go_ret
      exact ⟨by rw [hte.out]; rfl, hx.out.below⟩
    case neg =>
      have qb1 : ((next.length : Int) == 0) = false := beq_eq_false_iff_ne.2 b1
      have hpos : 0 < next.length := by omega
      replace b1 := Aside.mk b1
      by_cases b2 : (acc.length : Int) = next.length
      case neg =>
        have qb2 : ((acc.length : Int) == (next.length : Int)) = false := beq_eq_false_iff_ne.2 b2
        have hte : Aside (dfaErr st acc next = 3) := ⟨by unfold dfaErr; rw [if_neg (by omega), if_pos (by omega)]⟩
        replace b2 := Aside.mk b2
        have lqd : w.heap.size < W1.heap.size := hx.out.sat.lt (Bd.out 0 _ rfl)
        have cd0 : W1.cell? ⟨w.heap.size, 0, none⟩ = some (.int .i64 st) := hx.out.sat _ _ _ (Bd.out 0 _ rfl)
        have cd1 : W1.cell? ⟨w.heap.size, 1, none⟩ = some (.slice A1 acc.length c1) := hx.out.sat _ _ _ (Bd.out 1 _ rfl)
        have cd2 : W1.cell? ⟨w.heap.size, 2, none⟩ = some (.slice A2 next.length c2) := hx.out.sat _ _ _ (Bd.out 2 _ rfl)
        go_wp2_with fail
        clear lqd cd0 cd1 cd2
        go_ret
        exact ⟨by rw [hte.out]; rfl, hx.out.below⟩
      case pos =>
        have qb2 : ((acc.length : Int) == (next.length : Int)) = true := beq_iff_eq.2 b2
        have e1 : Aside (acc.length = next.length) := ⟨by omega⟩
        replace b2 := Aside.mk b2
        have lqd : w.heap.size < W1.heap.size := hx.out.sat.lt (Bd.out 0 _ rfl)
        have cd0 : W1.cell? ⟨w.heap.size, 0, none⟩ = some (.int .i64 st) := hx.out.sat _ _ _ (Bd.out 0 _ rfl)
        have cd1 : W1.cell? ⟨w.heap.size, 1, none⟩ = some (.slice A1 acc.length c1) := hx.out.sat _ _ _ (Bd.out 1 _ rfl)
        have cd2 : W1.cell? ⟨w.heap.size, 2, none⟩ = some (.slice A2 next.length c2) := hx.out.sat _ _ _ (Bd.out 2 _ rfl)
        go_upto_region 6 with (fail)
        clear lqd cd0 cd1 cd2
        clear qb1 qb2
        obtain ⟨b0, o0, Ar, cr, eA, hcr, -⟩ := h2.out.rowD hx.out.sat 0 hpos
        subst eA
        rw [Nat.add_zero] at hcr
        have hT : dfaErr st acc next = if 16 < (next.getD 0 []).length then 2 else if ¬ rowsForm (next.getD 0 []).length next 0 then 3 else if ¬ (0 ≤ st ∧ st < next.length ∧ rowsIn next.length acc next 0) then 1 else 0 := by have := e1.out; unfold dfaErr; rw [if_neg (by omega), if_neg (by omega)]
        generalize hC : (next.getD 0 []).length = C at *
        replace hT := Aside.mk hT
        replace hC := Aside.mk hC
        have hnl : (0 : Int) < (next.length : Int) := by omega
        by_cases a2 : (16 : Int) < C
        case pos =>
          have lqd : w.heap.size < W1.heap.size := hx.out.sat.lt (Bd.out 0 _ rfl)
          have cd0 : W1.cell? ⟨w.heap.size, 0, none⟩ = some (.int .i64 st) := hx.out.sat _ _ _ (Bd.out 0 _ rfl)
          have cd1 : W1.cell? ⟨w.heap.size, 1, none⟩ = some (.slice A1 acc.length c1) := hx.out.sat _ _ _ (Bd.out 1 _ rfl)
          have cd2 : W1.cell? ⟨w.heap.size, 2, none⟩ = some (.slice (some ⟨b0, o0, none⟩) next.length c2) := hx.out.sat _ _ _ (Bd.out 2 _ rfl)
          go_wp2_with fail
          clear lqd cd0 cd1 cd2
          go_ret
          exact ⟨by rw [hT.out, if_pos (by omega)]; rfl, hx.out.below⟩
        case neg =>
          have lqd : w.heap.size < W1.heap.size := hx.out.sat.lt (Bd.out 0 _ rfl)
          have cd0 : W1.cell? ⟨w.heap.size, 0, none⟩ = some (.int .i64 st) := hx.out.sat _ _ _ (Bd.out 0 _ rfl)
          have cd1 : W1.cell? ⟨w.heap.size, 1, none⟩ = some (.slice A1 acc.length c1) := hx.out.sat _ _ _ (Bd.out 1 _ rfl)
          have cd2 : W1.cell? ⟨w.heap.size, 2, none⟩ = some (.slice (some ⟨b0, o0, none⟩) next.length c2) := hx.out.sat _ _ _ (Bd.out 2 _ rfl)
          go_upto_region 8 with (fail)
          clear lqd cd0 cd1 cd2
          clear hcr
          replace hT := Aside.mk (hT.out.trans (if_neg (by omega)))
          have hC16 : C ≤ 16 := by omega
          clear a2
          have lqd : w.heap.size < W1.heap.size := hx.out.sat.lt (Bd.out 0 _ rfl)
          have cd0 : W1.cell? ⟨w.heap.size, 0, none⟩ = some (.int .i64 st) := hx.out.sat _ _ _ (Bd.out 0 _ rfl)
          have cd1 : W1.cell? ⟨w.heap.size, 1, none⟩ = some (.slice A1 acc.length c1) := hx.out.sat _ _ _ (Bd.out 1 _ rfl)
          have cd2 : W1.cell? ⟨w.heap.size, 2, none⟩ = some (.slice (some ⟨b0, o0, none⟩) next.length c2) := hx.out.sat _ _ _ (Bd.out 2 _ rfl)
          go_wp2_with fail
          clear lqd cd0 cd1 cd2
          go_loopw [34] (fun s34 wr => ∃ (k : Nat) (Hk : PH), k ≤ next.length ∧ s34 = .int .i64 k ∧ Aside (∀ s, s < k → (next.getD s []).length = C ∧ C ≠ 0) ∧ Aside (Ext H Hk w wr) ∧ Aside (SlR (kI .i64) Hk A1 acc.length c1 acc) ∧ Aside (SlR (kS (kI .i64)) Hk (some ⟨b0, o0, none⟩) next.length c2 next) ∧ Aside (BoxH Hk (w.heap.size) [.int .i64 st, .slice A1 acc.length c1, .slice (some ⟨b0, o0, none⟩) next.length c2])) (fun s34 _ => next.length - (intOf s34).toNat)
          case atStart => exact ⟨0, _, by omega, rfl, ⟨fun s h => by omega⟩, hx, h1, h2, Bd⟩
          case round =>
            clear hx h1 h2 Bd
            obtain ⟨k, Hk, hk, rfl, hf, hx, h1, h2, Bd⟩ := hrel
            by_cases hlt : k < next.length
            case pos =>
              have hli : (k : Int) < (next.length : Int) := by omega
              obtain ⟨b9, o9, Ar, cr, eA, hcr, hrow⟩ := h2.out.rowD hx.out.sat k (hlt)
              cases eA
              clear hrow
              obtain ⟨b8, o8, Ar0, cr0, eA, hcr0, -⟩ := h2.out.rowD hx.out.sat 0 hpos
              cases eA
              rw [Nat.add_zero, hC.out] at hcr0
              have hlen := Aside.mk (show ∀ L : Nat, L = (next.getD k []).length → (L ≠ C ∨ C = 0) → dfaErr st acc next = 3 from fun L hL h => by rw [hT.out, if_pos (fun hr => by have := hr k (Nat.zero_le _) hlt; omega)])
              generalize hL : (next.getD k []).length = L at *
              replace hL := Aside.mk hL
              by_cases x1 : (L : Int) = C
              case neg =>
                have hte := Aside.mk (hlen.out L rfl (Or.inl (by omega)))
                have q1 : ((L : Int) == (C : Int)) = false := beq_eq_false_iff_ne.2 x1
                have q1n : ((L : Int) != (C : Int)) = true := bne_iff_ne.2 x1
                clear x1
                have lqd : w.heap.size < wr.heap.size := hx.out.sat.lt (Bd.out 0 _ rfl)
                have cd0 : wr.cell? ⟨w.heap.size, 0, none⟩ = some (.int .i64 st) := hx.out.sat _ _ _ (Bd.out 0 _ rfl)
                have cd1 : wr.cell? ⟨w.heap.size, 1, none⟩ = some (.slice A1 acc.length c1) := hx.out.sat _ _ _ (Bd.out 1 _ rfl)
                have cd2 : wr.cell? ⟨w.heap.size, 2, none⟩ = some (.slice (some ⟨b0, o0, none⟩) next.length c2) := hx.out.sat _ _ _ (Bd.out 2 _ rfl)
                go_wp2_with fail
                clear lqd cd0 cd1 cd2
                go_ret
                exact ⟨by rw [hte.out]; rfl, hx.out.below⟩
              case pos =>
                have q1 : ((L : Int) == (C : Int)) = true := beq_iff_eq.2 x1
                have q1n : ((L : Int) != (C : Int)) = false := by rw [x1]; exact bne_self_eq_false _
                by_cases x2 : (L : Int) = 0
                case pos =>
                  have hte := Aside.mk (hlen.out L rfl (Or.inr (by omega)))
                  have q2 : ((L : Int) == 0) = true := beq_iff_eq.2 x2
                  clear x1 x2
                  have lqd : w.heap.size < wr.heap.size := hx.out.sat.lt (Bd.out 0 _ rfl)
                  have cd0 : wr.cell? ⟨w.heap.size, 0, none⟩ = some (.int .i64 st) := hx.out.sat _ _ _ (Bd.out 0 _ rfl)
                  have cd1 : wr.cell? ⟨w.heap.size, 1, none⟩ = some (.slice A1 acc.length c1) := hx.out.sat _ _ _ (Bd.out 1 _ rfl)
                  have cd2 : wr.cell? ⟨w.heap.size, 2, none⟩ = some (.slice (some ⟨b0, o0, none⟩) next.length c2) := hx.out.sat _ _ _ (Bd.out 2 _ rfl)
                  go_wp2_with fail
                  clear lqd cd0 cd1 cd2
                  go_ret
                  exact ⟨by rw [hte.out]; rfl, hx.out.below⟩
                case neg =>
                  have q2 : ((L : Int) == 0) = false := beq_eq_false_iff_ne.2 x2
                  have hf2 : Aside (∀ s, s < k + 1 → (next.getD s []).length = C ∧ C ≠ 0) := ⟨fun s h => by
                      by_cases e : s = k
                      · subst e; rw [hL.out]; omega
                      · exact hf.out s (by omega)⟩
                  clear x1 x2 hlen
                  have lqd : w.heap.size < wr.heap.size := hx.out.sat.lt (Bd.out 0 _ rfl)
                  have cd0 : wr.cell? ⟨w.heap.size, 0, none⟩ = some (.int .i64 st) := hx.out.sat _ _ _ (Bd.out 0 _ rfl)
                  have cd1 : wr.cell? ⟨w.heap.size, 1, none⟩ = some (.slice A1 acc.length c1) := hx.out.sat _ _ _ (Bd.out 1 _ rfl)
                  have cd2 : wr.cell? ⟨w.heap.size, 2, none⟩ = some (.slice (some ⟨b0, o0, none⟩) next.length c2) := hx.out.sat _ _ _ (Bd.out 2 _ rfl)
                  go_wp2_with fail
                  clear lqd cd0 cd1 cd2
                  go_roundw
                  case rel => exact ⟨k + 1, _, by omega, by go_num, hf2, hx, h1, h2, Bd⟩
                  case measure => (first | (simp [intOf]; done) | (simp [intOf]; omega))
            case neg =>
              have hli : ¬ (k : Int) < (next.length : Int) := by omega
              have hform : rowsForm C next 0 := fun s _ hs => hf.out s (by omega)
              replace hT := Aside.mk (hT.out.trans (if_neg (fun h => h hform)))
              replace hform := Aside.mk hform
              clear hf
              have lqd : w.heap.size < wr.heap.size := hx.out.sat.lt (Bd.out 0 _ rfl)
              have cd0 : wr.cell? ⟨w.heap.size, 0, none⟩ = some (.int .i64 st) := hx.out.sat _ _ _ (Bd.out 0 _ rfl)
              have cd1 : wr.cell? ⟨w.heap.size, 1, none⟩ = some (.slice A1 acc.length c1) := hx.out.sat _ _ _ (Bd.out 1 _ rfl)
              have cd2 : wr.cell? ⟨w.heap.size, 2, none⟩ = some (.slice (some ⟨b0, o0, none⟩) next.length c2) := hx.out.sat _ _ _ (Bd.out 2 _ rfl)
              go_upto_region 14 with (fail)
              clear lqd cd0 cd1 cd2
              go_cut [6] (fun s6 wc => ∃ b : Bool, s6 = .bool b ∧ Aside (b = true ↔ (0 ≤ st ∧ st < next.length)) ∧ Aside (Ext H Hk w wc))
              case first =>
                have lqd : w.heap.size < wr.heap.size := hx.out.sat.lt (Bd.out 0 _ rfl)
                have cd0 : wr.cell? ⟨w.heap.size, 0, none⟩ = some (.int .i64 st) := hx.out.sat _ _ _ (Bd.out 0 _ rfl)
                have cd1 : wr.cell? ⟨w.heap.size, 1, none⟩ = some (.slice A1 acc.length c1) := hx.out.sat _ _ _ (Bd.out 1 _ rfl)
                have cd2 : wr.cell? ⟨w.heap.size, 2, none⟩ = some (.slice (some ⟨b0, o0, none⟩) next.length c2) := hx.out.sat _ _ _ (Bd.out 2 _ rfl)
                by_cases d1 : 0 ≤ st
                case pos =>
                  by_cases d2 : st < next.length
                  case pos =>
                    go_wp2_with fail
                    go_meet
                    exact ⟨true, rfl, ⟨by simp [d1, d2]⟩, hx⟩
                  case neg =>
                    go_wp2_with fail
                    go_meet
                    exact ⟨false, rfl, ⟨by simp [d1, d2]⟩, hx⟩
                case neg =>
                  go_wp2_with fail
                  go_meet
                  exact ⟨false, rfl, ⟨⟨fun h => (by cases h), fun h => by omega⟩⟩, hx⟩
              case rest =>
                clear hx
                obtain ⟨b0_, rfl, hb0, hx⟩ := hcut
                have lqd : w.heap.size < wc.heap.size := hx.out.sat.lt (Bd.out 0 _ rfl)
                have cd0 : wc.cell? ⟨w.heap.size, 0, none⟩ = some (.int .i64 st) := hx.out.sat _ _ _ (Bd.out 0 _ rfl)
                have cd1 : wc.cell? ⟨w.heap.size, 1, none⟩ = some (.slice A1 acc.length c1) := hx.out.sat _ _ _ (Bd.out 1 _ rfl)
                have cd2 : wc.cell? ⟨w.heap.size, 2, none⟩ = some (.slice (some ⟨b0, o0, none⟩) next.length c2) := hx.out.sat _ _ _ (Bd.out 2 _ rfl)
                go_wp2_with fail
                clear lqd cd0 cd1 cd2
                clear hli hk
                go_loopw [6, 64] (fun s6 s64 wr => ∃ (k : Nat) (b : Bool) (Hk : PH), k ≤ next.length ∧ s6 = .bool b ∧ s64 = .int .i64 k ∧ Aside (b = true ↔ (0 ≤ st ∧ st < next.length) ∧ ∀ s, s < k → -1 ≤ acc.getD s 0 ∧ rowIn next.length (next.getD s []) 0) ∧ Aside (Ext H Hk w wr) ∧ Aside (SlR (kI .i64) Hk A1 acc.length c1 acc) ∧ Aside (SlR (kS (kI .i64)) Hk (some ⟨b0, o0, none⟩) next.length c2 next) ∧ Aside (BoxH Hk (w.heap.size) [.int .i64 st, .slice A1 acc.length c1, .slice (some ⟨b0, o0, none⟩) next.length c2])) (fun _ s64 _ => next.length - (intOf s64).toNat)
                case atStart => exact ⟨0, b0_, _, by omega, rfl, rfl, ⟨hb0.out.trans ⟨fun h => ⟨h, fun s hs => by omega⟩, fun h => h.1⟩⟩, hx, h1, h2, Bd⟩
                case round =>
                  clear hx h1 h2 Bd
                  obtain ⟨k, b, Hk, hk, rfl, rfl, hb, hx, h1, h2, Bd⟩ := hrel
                  by_cases hlt : k < next.length
                  case pos =>
                    have hli : (k : Int) < (next.length : Int) := by omega
                    have hla : (k : Int) < (acc.length : Int) := by have := e1.out; omega
                    obtain ⟨b9, o9, Ar, cr, eA, hcr, hrow⟩ := h2.out.rowD hx.out.sat k (hlt)
                    cases eA
                    replace hrow := Aside.mk hrow
                    obtain ⟨b5, o5, eA, hca⟩ := (h1.out.wr hx.out.sat).atD k (by have := e1.out; omega)
                    subst eA
                    have hfs := Aside.mk (show ∀ b2 : Bool, (b2 = true ↔ (b = true ∧ -1 ≤ acc.getD k 0) ∧ rowIn next.length (next.getD k []) 0) → (b2 = true ↔ (0 ≤ st ∧ st < next.length) ∧ ∀ s, s < k + 1 → -1 ≤ acc.getD s 0 ∧ rowIn next.length (next.getD s []) 0) from fun b2 h => by
                        rw [h, hb.out]
                        constructor
                        · rintro ⟨⟨⟨g1, g2⟩, g3⟩, g4⟩
                          refine ⟨g1, fun s hs => ?_⟩
                          by_cases e : s = k
                          · subst e; exact ⟨g3, g4⟩
                          · exact g2 s (by omega)
                        · rintro ⟨g1, g2⟩
                          exact ⟨⟨⟨g1, fun s hs => g2 s (by omega)⟩, (g2 k (by omega)).1⟩, (g2 k (by omega)).2⟩)
                    generalize acc.getD k 0 = x at *
                    have hcl : (next.getD k []).length = C := (hform.out k (Nat.zero_le _) hlt).1
                    generalize next.getD k [] = row at *
                    have hrl : row.length ≤ 16 := by omega
                    replace hcl := Aside.mk hcl
                    obtain ⟨wo, rfl⟩ : ∃ wo : World, wo = wr := ⟨_, rfl⟩
                    have lqd : w.heap.size < wo.heap.size := hx.out.sat.lt (Bd.out 0 _ rfl)
                    have cd0 : wo.cell? ⟨w.heap.size, 0, none⟩ = some (.int .i64 st) := hx.out.sat _ _ _ (Bd.out 0 _ rfl)
                    have cd1 : wo.cell? ⟨w.heap.size, 1, none⟩ = some (.slice (some ⟨b5, o5, none⟩) acc.length c1) := hx.out.sat _ _ _ (Bd.out 1 _ rfl)
                    have cd2 : wo.cell? ⟨w.heap.size, 2, none⟩ = some (.slice (some ⟨b0, o0, none⟩) next.length c2) := hx.out.sat _ _ _ (Bd.out 2 _ rfl)
                    go_upto_region 18 with (fail)
                    go_cut [6] (fun s6 wc => ∃ b1 : Bool, s6 = .bool b1 ∧ Aside (b1 = true ↔ (b = true ∧ -1 ≤ x)) ∧ Aside (Ext H Hk w wc))
                    case first =>
                      cases b with
                      | false =>
                        go_wp2_with fail
                        go_meet
                        exact ⟨false, rfl, ⟨by simp⟩, hx⟩
                      | true =>
                        by_cases x1 : -1 ≤ x
                        case pos =>
                          go_wp2_with fail
                          go_meet
                          exact ⟨true, rfl, ⟨by simp [x1]⟩, hx⟩
                        case neg =>
                          go_wp2_with fail
                          go_meet
                          exact ⟨false, rfl, ⟨by simp [x1]⟩, hx⟩
                    case rest =>
                      clear lqd cd0 cd1 cd2
                      clear hcr hca
                      clear hx
                      obtain ⟨b1_, rfl, hb1, hx⟩ := hcut
                      have lqd : w.heap.size < wc.heap.size := hx.out.sat.lt (Bd.out 0 _ rfl)
                      have cd0 : wc.cell? ⟨w.heap.size, 0, none⟩ = some (.int .i64 st) := hx.out.sat _ _ _ (Bd.out 0 _ rfl)
                      have cd1 : wc.cell? ⟨w.heap.size, 1, none⟩ = some (.slice (some ⟨b5, o5, none⟩) acc.length c1) := hx.out.sat _ _ _ (Bd.out 1 _ rfl)
                      have cd2 : wc.cell? ⟨w.heap.size, 2, none⟩ = some (.slice (some ⟨b0, o0, none⟩) next.length c2) := hx.out.sat _ _ _ (Bd.out 2 _ rfl)
                      go_wp2_with fail
                      clear lqd cd0 cd1 cd2
                      go_loopw [6, 80] (fun s6 s80 wr => ∃ (j : Nat) (b2 : Bool) (Hq : PH), j ≤ row.length ∧ s6 = .bool b2 ∧ s80 = .int .i64 j ∧ Aside (b2 = true ↔ (b = true ∧ -1 ≤ x) ∧ ∀ c, c < j → -1 ≤ row.getD c 0 ∧ row.getD c 0 < next.length) ∧ Aside (Ext H Hq w wr) ∧ Aside (SlR (kI .i64) Hq (some ⟨b5, o5, none⟩) acc.length c1 acc) ∧ Aside (SlR (kS (kI .i64)) Hq (some ⟨b0, o0, none⟩) next.length c2 next) ∧ Aside (SlR (kI .i64) Hq Ar row.length cr row) ∧ Aside (BoxH Hq (w.heap.size) [.int .i64 st, .slice (some ⟨b5, o5, none⟩) acc.length c1, .slice (some ⟨b0, o0, none⟩) next.length c2])) (fun _ s80 _ => row.length - (intOf s80).toNat)
                      case atStart => exact ⟨0, b1_, _, by omega, rfl, rfl, ⟨hb1.out.trans ⟨fun h => ⟨h, fun c hc => by omega⟩, fun h => h.1⟩⟩, hx, h1, h2, hrow, Bd⟩
                      case round =>
                        clear hx h1 h2 hrow Bd
                        obtain ⟨j, b2, Hq, hj, rfl, rfl, hg, hx, h1, h2, hrow, Bd⟩ := hrel
                        by_cases hlj : j < row.length
                        case pos =>
                          have hlji : (j : Int) < (row.length : Int) := by omega
                          obtain ⟨b6, o6, eA, hcj⟩ := (hrow.out.wr hx.out.sat).atD j hlj
                          subst eA
                          have hg2 := Aside.mk (show ∀ b3 : Bool, (b3 = true ↔ b2 = true ∧ (-1 ≤ row.getD j 0 ∧ row.getD j 0 < next.length)) → (b3 = true ↔ (b = true ∧ -1 ≤ x) ∧ ∀ c, c < j + 1 → -1 ≤ row.getD c 0 ∧ row.getD c 0 < next.length) from fun b3 h => by
                              rw [h, hg.out]
                              constructor
                              · rintro ⟨⟨g1, g2⟩, g3⟩
                                refine ⟨g1, fun c hc => ?_⟩
                                by_cases e : c = j
                                · subst e; exact g3
                                · exact g2 c (by omega)
                              · rintro ⟨g1, g2⟩
                                exact ⟨⟨g1, fun c hc => g2 c (by omega)⟩, g2 j (by omega)⟩)
                          generalize row.getD j 0 = y at *
                          cases b2 with
                          | false =>
                            have lqd : w.heap.size < wr.heap.size := hx.out.sat.lt (Bd.out 0 _ rfl)
                            have cd0 : wr.cell? ⟨w.heap.size, 0, none⟩ = some (.int .i64 st) := hx.out.sat _ _ _ (Bd.out 0 _ rfl)
                            have cd1 : wr.cell? ⟨w.heap.size, 1, none⟩ = some (.slice (some ⟨b5, o5, none⟩) acc.length c1) := hx.out.sat _ _ _ (Bd.out 1 _ rfl)
                            have cd2 : wr.cell? ⟨w.heap.size, 2, none⟩ = some (.slice (some ⟨b0, o0, none⟩) next.length c2) := hx.out.sat _ _ _ (Bd.out 2 _ rfl)
                            go_wp2_with fail
                            clear lqd cd0 cd1 cd2
                            go_roundw
                            case rel => exact ⟨j + 1, false, _, by omega, rfl, by go_num, ⟨hg2.out false (by simp)⟩, hx, h1, h2, hrow, Bd⟩
                            case measure => (first | (simp [intOf]; done) | (simp [intOf]; omega))
                          | true =>
                            by_cases y1 : -1 ≤ y
                            case neg =>
                              have lqd : w.heap.size < wr.heap.size := hx.out.sat.lt (Bd.out 0 _ rfl)
                              have cd0 : wr.cell? ⟨w.heap.size, 0, none⟩ = some (.int .i64 st) := hx.out.sat _ _ _ (Bd.out 0 _ rfl)
                              have cd1 : wr.cell? ⟨w.heap.size, 1, none⟩ = some (.slice (some ⟨b5, o5, none⟩) acc.length c1) := hx.out.sat _ _ _ (Bd.out 1 _ rfl)
                              have cd2 : wr.cell? ⟨w.heap.size, 2, none⟩ = some (.slice (some ⟨b0, o0, none⟩) next.length c2) := hx.out.sat _ _ _ (Bd.out 2 _ rfl)
                              go_wp2_with fail
                              clear lqd cd0 cd1 cd2
                              go_roundw
                              case rel => exact ⟨j + 1, false, _, by omega, rfl, by go_num, ⟨hg2.out false (by simp [y1])⟩, hx, h1, h2, hrow, Bd⟩
                              case measure => (first | (simp [intOf]; done) | (simp [intOf]; omega))
                            case pos =>
                              by_cases y2 : y < next.length
                              case neg =>
                                have lqd : w.heap.size < wr.heap.size := hx.out.sat.lt (Bd.out 0 _ rfl)
                                have cd0 : wr.cell? ⟨w.heap.size, 0, none⟩ = some (.int .i64 st) := hx.out.sat _ _ _ (Bd.out 0 _ rfl)
                                have cd1 : wr.cell? ⟨w.heap.size, 1, none⟩ = some (.slice (some ⟨b5, o5, none⟩) acc.length c1) := hx.out.sat _ _ _ (Bd.out 1 _ rfl)
                                have cd2 : wr.cell? ⟨w.heap.size, 2, none⟩ = some (.slice (some ⟨b0, o0, none⟩) next.length c2) := hx.out.sat _ _ _ (Bd.out 2 _ rfl)
                                go_wp2_with fail
                                clear lqd cd0 cd1 cd2
                                go_roundw
                                case rel => exact ⟨j + 1, false, _, by omega, rfl, by go_num, ⟨hg2.out false (by simp [y2])⟩, hx, h1, h2, hrow, Bd⟩
                                case measure => (first | (simp [intOf]; done) | (simp [intOf]; omega))
                              case pos =>
                                have lqd : w.heap.size < wr.heap.size := hx.out.sat.lt (Bd.out 0 _ rfl)
                                have cd0 : wr.cell? ⟨w.heap.size, 0, none⟩ = some (.int .i64 st) := hx.out.sat _ _ _ (Bd.out 0 _ rfl)
                                have cd1 : wr.cell? ⟨w.heap.size, 1, none⟩ = some (.slice (some ⟨b5, o5, none⟩) acc.length c1) := hx.out.sat _ _ _ (Bd.out 1 _ rfl)
                                have cd2 : wr.cell? ⟨w.heap.size, 2, none⟩ = some (.slice (some ⟨b0, o0, none⟩) next.length c2) := hx.out.sat _ _ _ (Bd.out 2 _ rfl)
                                go_wp2_with fail
                                clear lqd cd0 cd1 cd2
                                go_roundw
                                case rel => exact ⟨j + 1, true, _, by omega, rfl, by go_num, ⟨hg2.out true (by simp [y1, y2])⟩, hx, h1, h2, hrow, Bd⟩
                                case measure => (first | (simp [intOf]; done) | (simp [intOf]; omega))
                        case neg =>
                          have hlji : ¬ (j : Int) < (row.length : Int) := by omega
                          have hf2 := Aside.mk (hfs.out b2 (hg.out.trans ⟨fun h => ⟨h.1, fun c _ hc => h.2 c (by omega)⟩, fun h => ⟨h.1, fun c hc => h.2 c (Nat.zero_le _) (by omega)⟩⟩))
                          clear hrow
                          have lqd : w.heap.size < wr.heap.size := hx.out.sat.lt (Bd.out 0 _ rfl)
                          have cd0 : wr.cell? ⟨w.heap.size, 0, none⟩ = some (.int .i64 st) := hx.out.sat _ _ _ (Bd.out 0 _ rfl)
                          have cd1 : wr.cell? ⟨w.heap.size, 1, none⟩ = some (.slice (some ⟨b5, o5, none⟩) acc.length c1) := hx.out.sat _ _ _ (Bd.out 1 _ rfl)
                          have cd2 : wr.cell? ⟨w.heap.size, 2, none⟩ = some (.slice (some ⟨b0, o0, none⟩) next.length c2) := hx.out.sat _ _ _ (Bd.out 2 _ rfl)
                          go_wp2_with fail
                          clear lqd cd0 cd1 cd2
                          go_roundw
                          case rel => exact ⟨k + 1, b2, _, by omega, rfl, by go_num, hf2, hx, h1, h2, Bd⟩
                          case measure => (first | (simp [intOf]; done) | (simp [intOf]; omega))
                  case neg =>
                    have hli : ¬ (k : Int) < (next.length : Int) := by omega
                    cases b with
                    | false =>
                      have hte := Aside.mk (hT.out.trans (if_pos (fun h => absurd (hb.out.2 ⟨⟨h.1, h.2.1⟩, fun s hs => h.2.2 s (Nat.zero_le _) (by omega)⟩) (by decide))))
                      have lqd : w.heap.size < wr.heap.size := hx.out.sat.lt (Bd.out 0 _ rfl)
                      have cd0 : wr.cell? ⟨w.heap.size, 0, none⟩ = some (.int .i64 st) := hx.out.sat _ _ _ (Bd.out 0 _ rfl)
                      have cd1 : wr.cell? ⟨w.heap.size, 1, none⟩ = some (.slice A1 acc.length c1) := hx.out.sat _ _ _ (Bd.out 1 _ rfl)
                      have cd2 : wr.cell? ⟨w.heap.size, 2, none⟩ = some (.slice (some ⟨b0, o0, none⟩) next.length c2) := hx.out.sat _ _ _ (Bd.out 2 _ rfl)
                      go_wp2_with fail
                      clear lqd cd0 cd1 cd2
                      go_ret
                      exact ⟨by rw [hte.out]; rfl, hx.out.below⟩
                    | true =>
                      have hte := Aside.mk (hT.out.trans (if_neg (fun h => h ⟨(hb.out.1 rfl).1.1, (hb.out.1 rfl).1.2, fun s _ hs => (hb.out.1 rfl).2 s (by omega)⟩)))
                      have lqd : w.heap.size < wr.heap.size := hx.out.sat.lt (Bd.out 0 _ rfl)
                      have cd0 : wr.cell? ⟨w.heap.size, 0, none⟩ = some (.int .i64 st) := hx.out.sat _ _ _ (Bd.out 0 _ rfl)
                      have cd1 : wr.cell? ⟨w.heap.size, 1, none⟩ = some (.slice A1 acc.length c1) := hx.out.sat _ _ _ (Bd.out 1 _ rfl)
                      have cd2 : wr.cell? ⟨w.heap.size, 2, none⟩ = some (.slice (some ⟨b0, o0, none⟩) next.length c2) := hx.out.sat _ _ _ (Bd.out 2 _ rfl)
                      go_wp2_with fail
                      clear lqd cd0 cd1 cd2
                      go_ret
                      exact ⟨by rw [hte.out]; rfl, hx.out.below⟩
end Go.Proofs.Ytbnahmeaeakhhaa.B

namespace Go.Proofs.Ytbnahmeaeakhhaa.B
set_option linter.unusedVariables false
set_option linter.unusedSimpArgs false
open Go Go.RowKit Go.Proofs.Ytbnahmeaeakhhaa.Q Classical
set_option maxRecDepth 100000 in
set_option maxHeartbeats 16000000 in
theorem refDfaEq_hand (H : PH) (st : Int) (acc : List Int) (next : List (List Int)) (A1 A2 B1 B2 : Option Addr) (c1 c2 d1 d2 : Nat) (w : World) (h1 : SlR (kI .i64) H A1 acc.length c1 acc) (h2 : SlR (kS (kI .i64)) H A2 next.length c2 next) (g1 : SlR (kI .i64) H B1 acc.length d1 acc) (g2 : SlR (kS (kI .i64)) H B2 next.length d2 next) (hs : Sat w H) :
    Calls Try.prog 63 #[.agg #[.int .i64 st, .slice A1 acc.length c1, .slice A2 next.length c2], .agg #[.int .i64 st, .slice B1 acc.length d1, .slice B2 next.length d2]] w fun e w' => e = .returned (.bool true) ∧ Below w.heap.size w w' := by
  have hx := Aside.mk (Ext.refl hs)
  replace h1 := Aside.mk h1
  replace h2 := Aside.mk h2
  replace g1 := Aside.mk g1
  replace g2 := Aside.mk g2
  go_enter Try.func63, Try.ntmps63
  go_upto_region 1 with (fail)
  have hszw := hx.out.size
  have kt_ : ((w.alloc (.cells #[.int .i64 st, .slice A1 acc.length c1, .slice A2 next.length c2] 58)).alloc (.cells #[.int .i64 st, .slice B1 acc.length d1, .slice B2 next.length d2] 58)).heap[w.heap.size]? = some (.cells #[.int .i64 st, .slice A1 acc.length c1, .slice A2 next.length c2] 58) := (boxA (heap_alloc_new _ _) (.cells #[.int .i64 st, .slice B1 acc.length d1, .slice B2 next.length d2] 58))
  have ku_ : ((w.alloc (.cells #[.int .i64 st, .slice A1 acc.length c1, .slice A2 next.length c2] 58)).alloc (.cells #[.int .i64 st, .slice B1 acc.length d1, .slice B2 next.length d2] 58)).heap[w.heap.size + 1]? = some (.cells #[.int .i64 st, .slice B1 acc.length d1, .slice B2 next.length d2] 58) := (by rw [show w.heap.size + 1 = ((w.alloc (.cells #[.int .i64 st, .slice A1 acc.length c1, .slice A2 next.length c2] 58))).heap.size by simp]; exact heap_alloc_new _ _)
  have nt := Aside.mk (fun o => hx.out.sat.new (b := w.heap.size) (show w.heap.size ≤ _ by omega) o)
  have nu := Aside.mk (fun o => hx.out.sat.new (b := w.heap.size + 1) (show w.heap.size ≤ _ by omega) o)
  replace hx := Aside.mk (((hx.out.alloc (.cells #[.int .i64 st, .slice A1 acc.length c1, .slice A2 next.length c2] 58)).alloc (.cells #[.int .i64 st, .slice B1 acc.length d1, .slice B2 next.length d2] 58)))
  generalize ((w.alloc (.cells #[.int .i64 st, .slice A1 acc.length c1, .slice A2 next.length c2] 58)).alloc (.cells #[.int .i64 st, .slice B1 acc.length d1, .slice B2 next.length d2] 58)) = W1 at *
  have kt := Aside.mk kt_
  clear kt_
  have ku := Aside.mk ku_
  clear ku_
  obtain ⟨H1, hx2, hle, Bt, hold⟩ := box_freeze hx.out (by omega) kt.out nt.out
  replace h1 := Aside.mk (h1.out.mono hle)
  replace h2 := Aside.mk (h2.out.mono hle)
  replace g1 := Aside.mk (g1.out.mono hle)
  replace g2 := Aside.mk (g2.out.mono hle)
  replace nu := Aside.mk (fun o => (hold _ o (by omega)).trans (nu.out o))
  replace hx := Aside.mk hx2
  replace Bt := Aside.mk Bt
  clear hle hold hx2 kt nt
  obtain ⟨H1, hx2, hle, Bu, hold⟩ := box_freeze hx.out (by omega) ku.out nu.out
  replace h1 := Aside.mk (h1.out.mono hle)
  replace h2 := Aside.mk (h2.out.mono hle)
  replace g1 := Aside.mk (g1.out.mono hle)
  replace g2 := Aside.mk (g2.out.mono hle)
  replace Bt := Aside.mk (Bt.out.mono hle)
  replace hx := Aside.mk hx2
  replace Bu := Aside.mk Bu
  clear hle hold hx2 ku nu
  have hnb : next.length ≤ 140737488355328 := h2.out.2.2.2.1
  have lqt : w.heap.size < W1.heap.size := hx.out.sat.lt (Bt.out 0 _ rfl)
  have ct0 : W1.cell? ⟨w.heap.size, 0, none⟩ = some (.int .i64 st) := hx.out.sat _ _ _ (Bt.out 0 _ rfl)
  have ct1 : W1.cell? ⟨w.heap.size, 1, none⟩ = some (.slice A1 acc.length c1) := hx.out.sat _ _ _ (Bt.out 1 _ rfl)
  have ct2 : W1.cell? ⟨w.heap.size, 2, none⟩ = some (.slice A2 next.length c2) := hx.out.sat _ _ _ (Bt.out 2 _ rfl)
  have lqu : w.heap.size + 1 < W1.heap.size := hx.out.sat.lt (Bu.out 0 _ rfl)
  have cu0 : W1.cell? ⟨w.heap.size + 1, 0, none⟩ = some (.int .i64 st) := hx.out.sat _ _ _ (Bu.out 0 _ rfl)
  have cu1 : W1.cell? ⟨w.heap.size + 1, 1, none⟩ = some (.slice B1 acc.length d1) := hx.out.sat _ _ _ (Bu.out 1 _ rfl)
  have cu2 : W1.cell? ⟨w.heap.size + 1, 2, none⟩ = some (.slice B2 next.length d2) := hx.out.sat _ _ _ (Bu.out 2 _ rfl)
  go_wp2_with fail
  clear lqt ct0 ct1 ct2 lqu cu0 cu1 cu2
  refine (intsEq_hand _ _ _ _ _ _ _ _ h1.out g1.out hx.out.sat).mono ?_
  rintro e w1 ⟨he, hb9⟩
  obtain rfl : e = .returned (.bool true) := he.trans (retT rfl)
  clear he
  replace hx := Aside.mk (hx.out.then_below hb9)
  clear hb9
  have lqt : w.heap.size < w1.heap.size := hx.out.sat.lt (Bt.out 0 _ rfl)
  have ct0 : w1.cell? ⟨w.heap.size, 0, none⟩ = some (.int .i64 st) := hx.out.sat _ _ _ (Bt.out 0 _ rfl)
  have ct1 : w1.cell? ⟨w.heap.size, 1, none⟩ = some (.slice A1 acc.length c1) := hx.out.sat _ _ _ (Bt.out 1 _ rfl)
  have ct2 : w1.cell? ⟨w.heap.size, 2, none⟩ = some (.slice A2 next.length c2) := hx.out.sat _ _ _ (Bt.out 2 _ rfl)
  have lqu : w.heap.size + 1 < w1.heap.size := hx.out.sat.lt (Bu.out 0 _ rfl)
  have cu0 : w1.cell? ⟨w.heap.size + 1, 0, none⟩ = some (.int .i64 st) := hx.out.sat _ _ _ (Bu.out 0 _ rfl)
  have cu1 : w1.cell? ⟨w.heap.size + 1, 1, none⟩ = some (.slice B1 acc.length d1) := hx.out.sat _ _ _ (Bu.out 1 _ rfl)
  have cu2 : w1.cell? ⟨w.heap.size + 1, 2, none⟩ = some (.slice B2 next.length d2) := hx.out.sat _ _ _ (Bu.out 2 _ rfl)
  go_wp2_with fail
  clear lqt ct0 ct1 ct2 lqu cu0 cu1 cu2
  go_loopw [31] (fun s31 wr => ∃ (k : Nat) (Hk : PH), k ≤ next.length ∧ s31 = .int .i64 k ∧ Aside (Ext H Hk w wr) ∧ Aside (SlR (kI .i64) Hk A1 acc.length c1 acc) ∧ Aside (SlR (kS (kI .i64)) Hk A2 next.length c2 next) ∧ Aside (SlR (kI .i64) Hk B1 acc.length d1 acc) ∧ Aside (SlR (kS (kI .i64)) Hk B2 next.length d2 next) ∧ Aside (BoxH Hk (w.heap.size) [.int .i64 st, .slice A1 acc.length c1, .slice A2 next.length c2]) ∧ Aside (BoxH Hk (w.heap.size + 1) [.int .i64 st, .slice B1 acc.length d1, .slice B2 next.length d2])) (fun s31 _ => next.length - (intOf s31).toNat)
  case atStart => exact ⟨0, _, by omega, rfl, hx, h1, h2, g1, g2, Bt, Bu⟩
  case round =>
    clear hx h1 h2 g1 g2 Bt Bu
    obtain ⟨k, Hk, hk, rfl, hx, h1, h2, g1, g2, Bt, Bu⟩ := hrel
    by_cases hlt : k < next.length
    case pos =>
      have hli : (k : Int) < (next.length : Int) := by omega
      have lqt : w.heap.size < wr.heap.size := hx.out.sat.lt (Bt.out 0 _ rfl)
      have ct0 : wr.cell? ⟨w.heap.size, 0, none⟩ = some (.int .i64 st) := hx.out.sat _ _ _ (Bt.out 0 _ rfl)
      have ct1 : wr.cell? ⟨w.heap.size, 1, none⟩ = some (.slice A1 acc.length c1) := hx.out.sat _ _ _ (Bt.out 1 _ rfl)
      have ct2 : wr.cell? ⟨w.heap.size, 2, none⟩ = some (.slice A2 next.length c2) := hx.out.sat _ _ _ (Bt.out 2 _ rfl)
      have lqu : w.heap.size + 1 < wr.heap.size := hx.out.sat.lt (Bu.out 0 _ rfl)
      have cu0 : wr.cell? ⟨w.heap.size + 1, 0, none⟩ = some (.int .i64 st) := hx.out.sat _ _ _ (Bu.out 0 _ rfl)
      have cu1 : wr.cell? ⟨w.heap.size + 1, 1, none⟩ = some (.slice B1 acc.length d1) := hx.out.sat _ _ _ (Bu.out 1 _ rfl)
      have cu2 : wr.cell? ⟨w.heap.size + 1, 2, none⟩ = some (.slice B2 next.length d2) := hx.out.sat _ _ _ (Bu.out 2 _ rfl)
      go_upto_region 6 with (fail)
      go_cut [45] (fun s45 wc => s45 = .bool false ∧ Aside (Ext H Hk w wc))
      case first =>
        clear lqt ct0 ct1 ct2 lqu cu0 cu1 cu2
        obtain ⟨b5, o5, A5, c5, eA, hc5, hr5⟩ := h2.out.rowD hx.out.sat k hlt
        subst eA
        obtain ⟨b6, o6, A6, c6, eB, hc6, hr6⟩ := g2.out.rowD hx.out.sat k hlt
        subst eB
        clear hc5 hc6 hr5 hr6
        obtain ⟨b5_, o5_, cs5, eA, ⟨A5, c5, ecs, hr5⟩, hc5⟩ := h2.out.row k hlt
        cases eA
        subst ecs
        obtain ⟨b6_, o6_, cs6, eB, ⟨A6, c6, ecs, hr6⟩, hc6⟩ := g2.out.row k hlt
        cases eB
        subst ecs
        have q5 := hc5 0 _ rfl
        have q6 := hc6 0 _ rfl
        simp only [kS, Nat.mul_one, Nat.add_zero] at q5 q6
        clear hc5 hc6
        generalize next[k] = row at *
        replace hr5 := Aside.mk hr5
        replace hr6 := Aside.mk hr6
        replace q5 := Aside.mk q5
        replace q6 := Aside.mk q6
        refine region_seq [34, 35, 36, 37, 38, 39, 40, 41, 42, 43, 44, 45] (by kernel_rfl) (by kernel_rfl) (by kernel_rfl) (by kernel_rfl) hx.out.sat ?_
        refine reg_val (d := 34) (v := ?_) rfl (Or.inl rfl) (fun ρ wρ Hρ hρ => ?_) ?_; rotate_left
        · have k_c := hρ.const; have k_2 : ρ (.tmp 2) = .pointer (some ⟨w.heap.size, 0, none⟩) := hρ.old 2 (by kernel_rfl); (go_simp <;> with_reducible rfl)
        refine reg_val (d := 35) (v := ?_) rfl (Or.inl rfl) (fun ρ wρ Hρ hρ => ?_) ?_; rotate_left
        · have k_c := hρ.const; have k_34 : ρ (.tmp 34) = _ := hρ.dep 34 (by kernel_rfl); have p2 := hρ.sat _ _ _ (Bt.out.mono hρ.ext.le 2 _ rfl); (go_simp <;> with_reducible rfl)
        refine reg_val (d := 36) (v := ?_) rfl (Or.inl rfl) (fun ρ wρ Hρ hρ => ?_) ?_; rotate_left
        · have k_c := hρ.const; have k_5 : ρ (.tmp 5) = .int .i64 k := hρ.old 5 (by kernel_rfl); (go_simp <;> with_reducible rfl)
        refine reg_val (d := 37) (v := ?_) rfl (Or.inl rfl) (fun ρ wρ Hρ hρ => ?_) ?_; rotate_left
        · have k_c := hρ.const; have k_35 : ρ (.tmp 35) = _ := hρ.dep 35 (by kernel_rfl); have k_36 : ρ (.tmp 36) = _ := hρ.dep 36 (by kernel_rfl); (go_simp <;> with_reducible rfl)
        refine reg_val (d := 38) (v := ?_) rfl (Or.inl rfl) (fun ρ wρ Hρ hρ => ?_) ?_; rotate_left
        · have k_c := hρ.const; have k_37 : ρ (.tmp 37) = _ := hρ.dep 37 (by kernel_rfl); have p2 := hρ.sat _ _ _ (hρ.ext.le _ _ _ q5.out); (go_simp <;> with_reducible rfl)
        refine reg_val (d := 39) (v := ?_) rfl (Or.inl rfl) (fun ρ wρ Hρ hρ => ?_) ?_; rotate_left
        · have k_c := hρ.const; have k_3 : ρ (.tmp 3) = .pointer (some ⟨w.heap.size + 1, 0, none⟩) := hρ.old 3 (by kernel_rfl); (go_simp <;> with_reducible rfl)
        refine reg_val (d := 40) (v := ?_) rfl (Or.inl rfl) (fun ρ wρ Hρ hρ => ?_) ?_; rotate_left
        · have k_c := hρ.const; have k_39 : ρ (.tmp 39) = _ := hρ.dep 39 (by kernel_rfl); have p2 := hρ.sat _ _ _ (Bu.out.mono hρ.ext.le 2 _ rfl); (go_simp <;> with_reducible rfl)
        refine reg_val (d := 41) (v := ?_) rfl (Or.inl rfl) (fun ρ wρ Hρ hρ => ?_) ?_; rotate_left
        · have k_c := hρ.const; have k_5 : ρ (.tmp 5) = .int .i64 k := hρ.old 5 (by kernel_rfl); (go_simp <;> with_reducible rfl)
        refine reg_val (d := 42) (v := ?_) rfl (Or.inl rfl) (fun ρ wρ Hρ hρ => ?_) ?_; rotate_left
        · have k_c := hρ.const; have k_40 : ρ (.tmp 40) = _ := hρ.dep 40 (by kernel_rfl); have k_41 : ρ (.tmp 41) = _ := hρ.dep 41 (by kernel_rfl); (go_simp <;> with_reducible rfl)
        refine reg_val (d := 43) (v := ?_) rfl (Or.inl rfl) (fun ρ wρ Hρ hρ => ?_) ?_; rotate_left
        · have k_c := hρ.const; have k_42 : ρ (.tmp 42) = _ := hρ.dep 42 (by kernel_rfl); have p2 := hρ.sat _ _ _ (hρ.ext.le _ _ _ q6.out); (go_simp <;> with_reducible rfl)
        refine reg_call (d := 44) ((.val (.bool true))) 44 rfl rfl Try.func44 (by kernel_rfl) rfl rfl (Or.inl rfl) (fun ρ wρ Hρ hρ => ?_) ?_
        · have k_c := hρ.const; have k_38 : ρ (.tmp 38) = _ := hρ.dep 38 (by kernel_rfl); have k_43 : ρ (.tmp 43) = _ := hρ.dep 43 (by kernel_rfl); simp only [List.map_toArray, List.map_cons, List.map_nil, k_38, k_43]; refine (intsEq_hand _ row row _ _ _ _ _ (hr5.out.mono hρ.ext.le) (hr6.out.mono hρ.ext.le) hρ.sat).mono ?_; rintro e w9 ⟨he, hb9⟩; obtain rfl : e = .returned (.bool true) := he.trans (retT rfl); exact ⟨_, _, rfl, Ext.of_below hρ.sat hb9, rfl⟩
        refine reg_val (d := 45) (v := ?_) rfl (Or.inl rfl) (fun ρ wρ Hρ hρ => ?_) ?_; rotate_left
        · have k_c := hρ.const; have k_44 : ρ (.tmp 44) = _ := hρ.dep 44 (by kernel_rfl); (go_simp <;> with_reducible rfl)
        intro vs wv Hv hv F
        have k_45 : vs 45 = _ := F 45 (by kernel_rfl)
        simp only [setAll, List.setIfInBounds_toArray, List.set_cons_zero, List.set_cons_succ, k_45]
        go_wp2_with fail
        go_meet
        exact ⟨rfl, ⟨hx.out.then_below hv.below⟩⟩
      case rest =>
        clear hx
        obtain ⟨rfl, hx⟩ := hcut
        have lqt : w.heap.size < wc.heap.size := hx.out.sat.lt (Bt.out 0 _ rfl)
        have ct0 : wc.cell? ⟨w.heap.size, 0, none⟩ = some (.int .i64 st) := hx.out.sat _ _ _ (Bt.out 0 _ rfl)
        have ct1 : wc.cell? ⟨w.heap.size, 1, none⟩ = some (.slice A1 acc.length c1) := hx.out.sat _ _ _ (Bt.out 1 _ rfl)
        have ct2 : wc.cell? ⟨w.heap.size, 2, none⟩ = some (.slice A2 next.length c2) := hx.out.sat _ _ _ (Bt.out 2 _ rfl)
        have lqu : w.heap.size + 1 < wc.heap.size := hx.out.sat.lt (Bu.out 0 _ rfl)
        have cu0 : wc.cell? ⟨w.heap.size + 1, 0, none⟩ = some (.int .i64 st) := hx.out.sat _ _ _ (Bu.out 0 _ rfl)
        have cu1 : wc.cell? ⟨w.heap.size + 1, 1, none⟩ = some (.slice B1 acc.length d1) := hx.out.sat _ _ _ (Bu.out 1 _ rfl)
        have cu2 : wc.cell? ⟨w.heap.size + 1, 2, none⟩ = some (.slice B2 next.length d2) := hx.out.sat _ _ _ (Bu.out 2 _ rfl)
        go_wp2_with fail
        clear lqt ct0 ct1 ct2 lqu cu0 cu1 cu2
        go_roundw
        case rel => exact ⟨k + 1, _, by omega, by go_num, hx, h1, h2, g1, g2, Bt, Bu⟩
        case measure => (first | (simp [intOf]; done) | (simp [intOf]; omega))
    case neg =>
      have hli : ¬ (k : Int) < (next.length : Int) := by omega
      have lqt : w.heap.size < wr.heap.size := hx.out.sat.lt (Bt.out 0 _ rfl)
      have ct0 : wr.cell? ⟨w.heap.size, 0, none⟩ = some (.int .i64 st) := hx.out.sat _ _ _ (Bt.out 0 _ rfl)
      have ct1 : wr.cell? ⟨w.heap.size, 1, none⟩ = some (.slice A1 acc.length c1) := hx.out.sat _ _ _ (Bt.out 1 _ rfl)
      have ct2 : wr.cell? ⟨w.heap.size, 2, none⟩ = some (.slice A2 next.length c2) := hx.out.sat _ _ _ (Bt.out 2 _ rfl)
      have lqu : w.heap.size + 1 < wr.heap.size := hx.out.sat.lt (Bu.out 0 _ rfl)
      have cu0 : wr.cell? ⟨w.heap.size + 1, 0, none⟩ = some (.int .i64 st) := hx.out.sat _ _ _ (Bu.out 0 _ rfl)
      have cu1 : wr.cell? ⟨w.heap.size + 1, 1, none⟩ = some (.slice B1 acc.length d1) := hx.out.sat _ _ _ (Bu.out 1 _ rfl)
      have cu2 : wr.cell? ⟨w.heap.size + 1, 2, none⟩ = some (.slice B2 next.length d2) := hx.out.sat _ _ _ (Bu.out 2 _ rfl)
      go_wp2_with fail
      clear lqt ct0 ct1 ct2 lqu cu0 cu1 cu2
      go_ret
      exact ⟨rfl, hx.out.below⟩
theorem refDfaEq_yes {H : PH} {D : Aut} {cs ds : List Value} {w : World} (hT : RdAut H D cs) (hU : RdAut H D ds) (hs : Sat w H) :
    Calls Try.prog 63 #[.agg cs.toArray, .agg ds.toArray] w fun e w' => e = .returned (.bool true) ∧ Below w.heap.size w w' := by
  obtain ⟨A1, c1, A2, c2, rfl, h1, h2⟩ := hT
  obtain ⟨B1, d1, B2, d2, rfl, g1, g2⟩ := hU
  exact refDfaEq_hand H D.st D.acc D.next A1 A2 B1 B2 c1 c2 d1 d2 w h1 h2 g1 g2 hs
end Go.Proofs.Ytbnahmeaeakhhaa.B

namespace Go.Proofs.Ytbnahmeaeakhhaa.B
set_option linter.unusedVariables false
set_option linter.unusedSimpArgs false
open Go Go.RowKit Go.Proofs.Ytbnahmeaeakhhaa.Q Go.Proofs.Ytbnahmeaeakhhaa.S Classical

theorem Own.into3 {k : IntKind} {e : TypeId} {w W : World} {H : PH} {v : Value} {xs : List Int} (h : Own (kI k) e w W.heap.size Go.Proofs.Ytbnahmeaeakhhaa.B.emp v xs) (hs : Sat W H) : Own (kI k) e w W.heap.size H v xs :=
  h.flat (fun b o e => hs.new (h.blk e).1 o)
theorem RdTab.mono {H H' : PH} {T : Tab} {cs : List Value} (hh : H.le H') (h : RdTab H T cs) : RdTab H' T cs := by
  obtain ⟨A1, c1, A2, c2, A3, c3, A4, c4, rfl, h1, h2, h3, h4⟩ := h
  exact ⟨A1, c1, A2, c2, A3, c3, A4, c4, rfl, h1.mono hh, h2.mono hh, h3.mono hh, h4.mono hh⟩
theorem RdAut.mono {H H' : PH} {D : Aut} {cs : List Value} (hh : H.le H') (h : RdAut H D cs) : RdAut H' D cs := by
  obtain ⟨A1, c1, A2, c2, rfl, h1, h2⟩ := h
  exact ⟨A1, c1, A2, c2, rfl, h1.mono hh, h2.mono hh⟩
theorem tabEq_zero {H : PH} {cs : List Value} {w : World} (hT : RdTab H zeroTab cs) (hs : Sat w H) :
    Calls Try.prog 58 #[.agg cs.toArray, .agg #[.int .i64 0, .int .i64 0, .slice none 0 0, .slice none 0 0, .slice none 0 0, .slice none 0 0]] w fun e w' => e = .returned (.bool true) ∧ Below w.heap.size w w' := by
  have hz : RdTab H zeroTab [.int .i64 0, .int .i64 0, .slice none 0 0, .slice none 0 0, .slice none 0 0, .slice none 0 0] := ⟨none, 0, none, 0, none, 0, none, 0, rfl, SlR.nil _ _, SlR.nil _ _, SlR.nil _ _, SlR.nil _ _⟩
  have := tabEq_any hT hz hs (by simp [lenT, zeroTab])
  rw [show decide (zeroTab = zeroTab) = true from decide_eq_true rfl] at this
  exact this
theorem tabEq_same {H : PH} {T : Tab} {cs ds : List Value} {w : World} (hT : RdTab H T cs) (hU : RdTab H T ds) (hs : Sat w H) (h0 : errT T = 0) :
    Calls Try.prog 58 #[.agg cs.toArray, .agg ds.toArray] w fun e w' => e = .returned (.bool true) ∧ Below w.heap.size w w' := by
  have ok := tabErr_ok h0
  have := tabEq_any hT hU hs (by unfold lenT; omega)
  rw [show decide (T = T) = true from decide_eq_true rfl] at this
  exact this
theorem packT_refT {st : Int} {acc : List Int} {next : List (List Int)} {ord : List Int} (h0 : dfaErr st acc next = 0) (hp : ord.Perm (rangeI next.length)) (hs : Srt (keyF next) ord) : packT st acc next ord = refT st acc next := by
  have ok := dfaErr_ok h0
  have e := packGo_ord (cols := (next.getD 0 []).length) (fun s hs => (ok.2.2.2.2.2.1 s (Nat.zero_le _) hs).1) hp hs
  unfold packT refT
  rw [e]
/-- a valid automaton packed: the table of the reference -/
theorem packRef_any {H : PH} {D : Aut} {cs : List Value} {w : World} (hD : RdAut H D cs) (hs : Sat w H) (h0 : dfaErr D.st D.acc D.next = 0) :
    Calls Try.prog 52 #[.agg cs.toArray] w fun e w' => ∃ H' T A1 c1 A2 c2 A3 c3 A4 c4, e = .returned (.tuple #[.agg #[.int .i64 T.st, .int .i64 T.cols, .slice A1 T.acc.length c1, .slice A2 T.base.length c2, .slice A3 T.own.length c3, .slice A4 T.nxt.length c4], .int .i64 0]) ∧
      RdTab H' T [.int .i64 T.st, .int .i64 T.cols, .slice A1 T.acc.length c1, .slice A2 T.base.length c2, .slice A3 T.own.length c3, .slice A4 T.nxt.length c4] ∧ T = refT D.st D.acc D.next ∧ errT T = 0 ∧ autT T = D ∧ T.acc = D.acc ∧ Ext H H' w w' := by
  obtain ⟨A1, c1, A2, c2, rfl, h1, h2⟩ := hD
  refine (pack_any H D.st D.acc D.next A1 A2 c1 c2 w h1 h2 hs).mono ?_
  rintro e w' ⟨H', cs', err, T, rfl, hT, hR, hx⟩
  obtain ⟨e1, e2⟩ := hR
  rw [h0] at e1
  subst e1
  rcases e2 with ⟨h, -⟩ | ⟨-, ord, hp, hsr, rfl⟩
  · exact absurd rfl h
  · obtain ⟨p1, p2, p3, p4⟩ := packT_ok h0 hp
    obtain ⟨B1, d1, B2, d2, B3, d3, B4, d4, rfl, g⟩ := hT
    exact ⟨H', _, B1, d1, B2, d2, B3, d3, B4, d4, rfl, ⟨B1, d1, B2, d2, B3, d3, B4, d4, rfl, g⟩, packT_refT h0 hp hsr, p1, packT_aut h0 hp, rfl, hx⟩
theorem packBad_any {H : PH} {D : Aut} {cs : List Value} {w : World} (hD : RdAut H D cs) (hs : Sat w H) (h0 : dfaErr D.st D.acc D.next ≠ 0) :
    Calls Try.prog 52 #[.agg cs.toArray] w fun e w' => ∃ H' A1 c1 A2 c2 A3 c3 A4 c4, e = .returned (.tuple #[.agg #[.int .i64 0, .int .i64 0, .slice A1 0 c1, .slice A2 0 c2, .slice A3 0 c3, .slice A4 0 c4], .int .i64 (dfaErr D.st D.acc D.next)]) ∧
      RdTab H' zeroTab [.int .i64 0, .int .i64 0, .slice A1 0 c1, .slice A2 0 c2, .slice A3 0 c3, .slice A4 0 c4] ∧ Ext H H' w w' := by
  obtain ⟨A1, c1, A2, c2, rfl, h1, h2⟩ := hD
  refine (pack_any H D.st D.acc D.next A1 A2 c1 c2 w h1 h2 hs).mono ?_
  rintro e w' ⟨H', cs', err, T, rfl, hT, hR, hx⟩
  obtain ⟨e1, e2⟩ := hR
  subst e1
  rcases e2 with ⟨-, rfl⟩ | ⟨h, -⟩
  · obtain ⟨B1, d1, B2, d2, B3, d3, B4, d4, rfl, g⟩ := hT
    exact ⟨H', B1, d1, B2, d2, B3, d3, B4, d4, rfl, ⟨B1, d1, B2, d2, B3, d3, B4, d4, rfl, g⟩, hx⟩
  · exact absurd h h0
theorem checkD_any {H : PH} {D : Aut} {cs : List Value} {w : World} (hD : RdAut H D cs) (hs : Sat w H) : Calls Try.prog 38 #[.agg cs.toArray] w fun e w' => e = .returned (.int .i64 (dfaErr D.st D.acc D.next)) ∧ Below w.heap.size w w' := by
  obtain ⟨A1, c1, A2, c2, rfl, h1, h2⟩ := hD
  exact refDfa_hand h1 h2 hs
theorem packOfD_any {H : PH} {D : Aut} {cs : List Value} {w : World} {T : Tab} (hD : RdAut H D cs) (hs : Sat w H) (h0 : dfaErr D.st D.acc D.next = 0) (hT : T = refT D.st D.acc D.next) : Calls Try.prog 59 #[.agg cs.toArray] w fun e w' => ∃ H' A1 c1 A2 c2 A3 c3 A4 c4, e = .returned (.agg #[.int .i64 T.st, .int .i64 T.cols, .slice A1 T.acc.length c1, .slice A2 T.base.length c2, .slice A3 T.own.length c3, .slice A4 T.nxt.length c4]) ∧
      RdTab H' T [.int .i64 T.st, .int .i64 T.cols, .slice A1 T.acc.length c1, .slice A2 T.base.length c2, .slice A3 T.own.length c3, .slice A4 T.nxt.length c4] ∧ Ext H H' w w' := by
  subst hT
  obtain ⟨A1, c1, A2, c2, rfl, h1, h2⟩ := hD
  refine (packOf_any H D.st D.acc D.next A1 A2 c1 c2 w h1 h2 hs h0).mono ?_
  rintro e w' ⟨H', cs, rfl, hT, hx⟩
  obtain ⟨B1, d1, B2, d2, B3, d3, B4, d4, rfl, g⟩ := hT
  exact ⟨H', B1, d1, B2, d2, B3, d3, B4, d4, rfl, ⟨B1, d1, B2, d2, B3, d3, B4, d4, rfl, g⟩, hx⟩
theorem dfaOk_any {H : PH} {T : Tab} {D : Aut} {cs : List Value} {w : World} (hT : RdTab H T cs) (hs : Sat w H) (h0 : errT T = 0) (hd : autT T = D) :
    Calls Try.prog 61 #[.agg cs.toArray] w fun e w' => ∃ H' A1 c1 A2 c2, e = .returned (.tuple #[.agg #[.int .i64 D.st, .slice A1 D.acc.length c1, .slice A2 D.next.length c2], .int .i64 0]) ∧ RdAut H' D [.int .i64 D.st, .slice A1 D.acc.length c1, .slice A2 D.next.length c2] ∧ Ext H H' w w' := by
  refine (dfaT_any hT hs).mono ?_
  rintro e w' ⟨H', cs', D', rfl, hD, hc, hx⟩
  rw [h0]
  rcases hc with ⟨-, rfl⟩ | ⟨h, -⟩
  · rw [hd] at hD
    obtain ⟨A1, c1, A2, c2, rfl, h1, h2⟩ := hD
    exact ⟨H', A1, c1, A2, c2, rfl, ⟨A1, c1, A2, c2, rfl, h1, h2⟩, hx⟩
  · exact absurd h0 h
theorem bytesOk_any {H : PH} {T : Tab} {cs : List Value} {w : World} (hT : RdTab H T cs) (hs : Sat w H) (h0 : errT T = 0) (hr : InR (numsF T.st T.cols T.acc T.base T.own T.nxt)) :
    Calls Try.prog 60 #[.agg cs.toArray] w fun e w' => ∃ v, e = .returned (.tuple #[v, .int .i64 0]) ∧ Own (kI .u8) 5 w' w.heap.size H v (bytesT T) ∧ Below w.heap.size w w' := by
  refine (Bytes_any hT hs (fun _ => hr)).mono ?_
  rintro e w' ⟨v, rfl, ho, hb⟩
  rw [h0]
  exact ⟨v, rfl, ho.into3 hs, hb⟩
theorem bytesT_len2 {T : Tab} (h : errT T = 0) (hr : InR (numsF T.st T.cols T.acc T.base T.own T.nxt)) : (bytesT T).length ≤ 200000 := by
  unfold bytesT
  rw [if_pos h]
  have ok := tabErr_ok h
  have := bytesF_len hr
  have h2 : (numsF T.st T.cols T.acc T.base T.own T.nxt).length ≤ 10004 := by simp [numsF]; omega
  omega

set_option maxRecDepth 100000 in
set_option maxHeartbeats 32000000 in
theorem rowpackTells_any (H : PH) (D : Aut) (A1 A2 : Option Addr) (c1 c2 : Nat) (w : World) (hD : RdAut H D [.int .i64 D.st, .slice A1 D.acc.length c1, .slice A2 D.next.length c2]) (hs : Sat w H) (hw : ∀ a ∈ D.acc, (Lit.int .i64 a).wf = true) :
    Calls Try.prog 10 #[.agg #[.int .i64 D.st, .slice A1 D.acc.length c1, .slice A2 D.next.length c2]] w fun e w' => e = .returned (.bool true) ∧ Below w.heap.size w w' := by
  replace hw := Aside.mk hw
  generalize hst : D.st = st at *
  generalize hal : D.acc.length = al at *
  generalize hnl : D.next.length = nl at *
  replace hst := Aside.mk hst
  replace hal := Aside.mk hal
  replace hnl := Aside.mk hnl
  have hx := Aside.mk (Ext.refl hs)
  replace hD := Aside.mk hD
  go_enter Try.func10, Try.ntmps10
  go_wp2_with fail
  have hszw := hx.out.size
  have kd_ : (w.alloc (.cells #[.int .i64 st, .slice A1 al c1, .slice A2 nl c2] 58)).heap[w.heap.size]? = some (.cells #[.int .i64 st, .slice A1 al c1, .slice A2 nl c2] 58) := (heap_alloc_new _ _)
  have nd := Aside.mk (fun o => hx.out.sat.new (b := w.heap.size) (show w.heap.size ≤ _ by omega) o)
  replace hx := Aside.mk ((hx.out.alloc (.cells #[.int .i64 st, .slice A1 al c1, .slice A2 nl c2] 58)))
  generalize (w.alloc (.cells #[.int .i64 st, .slice A1 al c1, .slice A2 nl c2] 58)) = W1 at *
  have kd := Aside.mk kd_
  clear kd_
  obtain ⟨H1, hx2, hle, Bd, hold⟩ := box_freeze hx.out (by omega) kd.out nd.out
  replace hD := Aside.mk (hD.out.mono hle)
  replace hx := Aside.mk hx2
  replace Bd := Aside.mk Bd
  clear hle hold hx2 kd nd
  by_cases hz : dfaErr D.st D.acc D.next = 0
  case neg =>
    have hz2 := Aside.mk hz
    obtain ⟨er, her⟩ : ∃ er, er = dfaErr D.st D.acc D.next := ⟨_, rfl⟩
    have ner : (er == 0) = false := beq_eq_false_iff_ne.2 (by rw [her]; exact hz)
    have nner : (er != 0) = true := bne_iff_ne.2 (by rw [her]; exact hz)
    replace her := Aside.mk her
    clear hz
    have lqd : w.heap.size < W1.heap.size := hx.out.sat.lt (Bd.out 0 _ rfl)
    have cd0 : W1.cell? ⟨w.heap.size, 0, none⟩ = some (.int .i64 st) := hx.out.sat _ _ _ (Bd.out 0 _ rfl)
    have cd1 : W1.cell? ⟨w.heap.size, 1, none⟩ = some (.slice A1 al c1) := hx.out.sat _ _ _ (Bd.out 1 _ rfl)
    have cd2 : W1.cell? ⟨w.heap.size, 2, none⟩ = some (.slice A2 nl c2) := hx.out.sat _ _ _ (Bd.out 2 _ rfl)
    go_wp2_with fail
    clear lqd cd0 cd1 cd2
    have hsz := hx.out.size
    refine (packBad_any hD.out hx.out.sat hz2.out).mono ?_
    rintro e w4 ⟨H5, K1, k1, K2, k2, K3, k3, K4, k4, rfl, hK, hx9⟩
    have hle := hx9.le
    replace hD := Aside.mk (hD.out.mono hle)
    replace Bd := Aside.mk (Bd.out.mono hle)
    replace hx := Aside.mk (hx.out.trans hx9)
    clear hle hx9
    clear hsz 
    rw [← her.out]
    replace hK := Aside.mk hK
    have hsz := hx.out.size
    have lqd : w.heap.size < w4.heap.size := hx.out.sat.lt (Bd.out 0 _ rfl)
    have cd0 : w4.cell? ⟨w.heap.size, 0, none⟩ = some (.int .i64 st) := hx.out.sat _ _ _ (Bd.out 0 _ rfl)
    have cd1 : w4.cell? ⟨w.heap.size, 1, none⟩ = some (.slice A1 al c1) := hx.out.sat _ _ _ (Bd.out 1 _ rfl)
    have cd2 : w4.cell? ⟨w.heap.size, 2, none⟩ = some (.slice A2 nl c2) := hx.out.sat _ _ _ (Bd.out 2 _ rfl)
    go_wp2_with fail
    clear lqd cd0 cd1 cd2
    have hszw4 := hx.out.size
    have kt_ : (w4.alloc (.cells #[.int .i64 0, .int .i64 0, .slice K1 0 k1, .slice K2 0 k2, .slice K3 0 k3, .slice K4 0 k4] 85)).heap[w4.heap.size]? = some (.cells #[.int .i64 0, .int .i64 0, .slice K1 0 k1, .slice K2 0 k2, .slice K3 0 k3, .slice K4 0 k4] 85) := (heap_alloc_new _ _)
    have nt := Aside.mk (fun o => hx.out.sat.new (b := w4.heap.size) (show w4.heap.size ≤ _ by omega) o)
    replace hx := Aside.mk ((hx.out.alloc (.cells #[.int .i64 0, .int .i64 0, .slice K1 0 k1, .slice K2 0 k2, .slice K3 0 k3, .slice K4 0 k4] 85)))
    generalize (w4.alloc (.cells #[.int .i64 0, .int .i64 0, .slice K1 0 k1, .slice K2 0 k2, .slice K3 0 k3, .slice K4 0 k4] 85)) = W2 at *
    have kt := Aside.mk kt_
    clear kt_
    obtain ⟨H1, hx2, hle, Bt, hold⟩ := box_freeze hx.out (by omega) kt.out nt.out
    replace hD := Aside.mk (hD.out.mono hle)
    replace hK := Aside.mk (hK.out.mono hle)
    replace Bd := Aside.mk (Bd.out.mono hle)
    replace hx := Aside.mk hx2
    replace Bt := Aside.mk Bt
    clear hle hold hx2 kt nt
    have lqd : w.heap.size < W2.heap.size := hx.out.sat.lt (Bd.out 0 _ rfl)
    have cd0 : W2.cell? ⟨w.heap.size, 0, none⟩ = some (.int .i64 st) := hx.out.sat _ _ _ (Bd.out 0 _ rfl)
    have cd1 : W2.cell? ⟨w.heap.size, 1, none⟩ = some (.slice A1 al c1) := hx.out.sat _ _ _ (Bd.out 1 _ rfl)
    have cd2 : W2.cell? ⟨w.heap.size, 2, none⟩ = some (.slice A2 nl c2) := hx.out.sat _ _ _ (Bd.out 2 _ rfl)
    have lqt : w4.heap.size < W2.heap.size := hx.out.sat.lt (Bt.out 0 _ rfl)
    have ct0 : W2.cell? ⟨w4.heap.size, 0, none⟩ = some (.int .i64 0) := hx.out.sat _ _ _ (Bt.out 0 _ rfl)
    have ct1 : W2.cell? ⟨w4.heap.size, 1, none⟩ = some (.int .i64 0) := hx.out.sat _ _ _ (Bt.out 1 _ rfl)
    have ct2 : W2.cell? ⟨w4.heap.size, 2, none⟩ = some (.slice K1 0 k1) := hx.out.sat _ _ _ (Bt.out 2 _ rfl)
    have ct3 : W2.cell? ⟨w4.heap.size, 3, none⟩ = some (.slice K2 0 k2) := hx.out.sat _ _ _ (Bt.out 3 _ rfl)
    have ct4 : W2.cell? ⟨w4.heap.size, 4, none⟩ = some (.slice K3 0 k3) := hx.out.sat _ _ _ (Bt.out 4 _ rfl)
    have ct5 : W2.cell? ⟨w4.heap.size, 5, none⟩ = some (.slice K4 0 k4) := hx.out.sat _ _ _ (Bt.out 5 _ rfl)
    go_wp2_with fail
    clear lqd cd0 cd1 cd2 lqt ct0 ct1 ct2 ct3 ct4 ct5
    have hsz := hx.out.size
    refine (packBegun_any _ _ hx.out.sat).mono ?_
    rintro e w5 ⟨rfl, hb9⟩
    replace hx := Aside.mk (hx.out.then_below hb9)
    clear hb9
    clear hsz 
    have lqd : w.heap.size < w5.heap.size := hx.out.sat.lt (Bd.out 0 _ rfl)
    have cd0 : w5.cell? ⟨w.heap.size, 0, none⟩ = some (.int .i64 st) := hx.out.sat _ _ _ (Bd.out 0 _ rfl)
    have cd1 : w5.cell? ⟨w.heap.size, 1, none⟩ = some (.slice A1 al c1) := hx.out.sat _ _ _ (Bd.out 1 _ rfl)
    have cd2 : w5.cell? ⟨w.heap.size, 2, none⟩ = some (.slice A2 nl c2) := hx.out.sat _ _ _ (Bd.out 2 _ rfl)
    have lqt : w4.heap.size < w5.heap.size := hx.out.sat.lt (Bt.out 0 _ rfl)
    have ct0 : w5.cell? ⟨w4.heap.size, 0, none⟩ = some (.int .i64 0) := hx.out.sat _ _ _ (Bt.out 0 _ rfl)
    have ct1 : w5.cell? ⟨w4.heap.size, 1, none⟩ = some (.int .i64 0) := hx.out.sat _ _ _ (Bt.out 1 _ rfl)
    have ct2 : w5.cell? ⟨w4.heap.size, 2, none⟩ = some (.slice K1 0 k1) := hx.out.sat _ _ _ (Bt.out 2 _ rfl)
    have ct3 : w5.cell? ⟨w4.heap.size, 3, none⟩ = some (.slice K2 0 k2) := hx.out.sat _ _ _ (Bt.out 3 _ rfl)
    have ct4 : w5.cell? ⟨w4.heap.size, 4, none⟩ = some (.slice K3 0 k3) := hx.out.sat _ _ _ (Bt.out 4 _ rfl)
    have ct5 : w5.cell? ⟨w4.heap.size, 5, none⟩ = some (.slice K4 0 k4) := hx.out.sat _ _ _ (Bt.out 5 _ rfl)
    go_wp2_with fail
    clear lqd cd0 cd1 cd2 lqt ct0 ct1 ct2 ct3 ct4 ct5
    have hsz := hx.out.size
    refine (checkD_any hD.out hx.out.sat).mono ?_
    rintro e w6 ⟨rfl, hb9⟩
    replace hx := Aside.mk (hx.out.then_below hb9)
    clear hb9
    clear hsz 
    rw [← her.out]
    have lqd : w.heap.size < w6.heap.size := hx.out.sat.lt (Bd.out 0 _ rfl)
    have cd0 : w6.cell? ⟨w.heap.size, 0, none⟩ = some (.int .i64 st) := hx.out.sat _ _ _ (Bd.out 0 _ rfl)
    have cd1 : w6.cell? ⟨w.heap.size, 1, none⟩ = some (.slice A1 al c1) := hx.out.sat _ _ _ (Bd.out 1 _ rfl)
    have cd2 : w6.cell? ⟨w.heap.size, 2, none⟩ = some (.slice A2 nl c2) := hx.out.sat _ _ _ (Bd.out 2 _ rfl)
    have lqt : w4.heap.size < w6.heap.size := hx.out.sat.lt (Bt.out 0 _ rfl)
    have ct0 : w6.cell? ⟨w4.heap.size, 0, none⟩ = some (.int .i64 0) := hx.out.sat _ _ _ (Bt.out 0 _ rfl)
    have ct1 : w6.cell? ⟨w4.heap.size, 1, none⟩ = some (.int .i64 0) := hx.out.sat _ _ _ (Bt.out 1 _ rfl)
    have ct2 : w6.cell? ⟨w4.heap.size, 2, none⟩ = some (.slice K1 0 k1) := hx.out.sat _ _ _ (Bt.out 2 _ rfl)
    have ct3 : w6.cell? ⟨w4.heap.size, 3, none⟩ = some (.slice K2 0 k2) := hx.out.sat _ _ _ (Bt.out 3 _ rfl)
    have ct4 : w6.cell? ⟨w4.heap.size, 4, none⟩ = some (.slice K3 0 k3) := hx.out.sat _ _ _ (Bt.out 4 _ rfl)
    have ct5 : w6.cell? ⟨w4.heap.size, 5, none⟩ = some (.slice K4 0 k4) := hx.out.sat _ _ _ (Bt.out 5 _ rfl)
    go_wp2_with fail
    clear lqd cd0 cd1 cd2 lqt ct0 ct1 ct2 ct3 ct4 ct5
    have hsz := hx.out.size
    refine (tabEq_zero hK.out hx.out.sat).mono ?_
    rintro e w7 ⟨rfl, hb9⟩
    replace hx := Aside.mk (hx.out.then_below hb9)
    clear hb9
    clear hsz 
    have lqd : w.heap.size < w7.heap.size := hx.out.sat.lt (Bd.out 0 _ rfl)
    have cd0 : w7.cell? ⟨w.heap.size, 0, none⟩ = some (.int .i64 st) := hx.out.sat _ _ _ (Bd.out 0 _ rfl)
    have cd1 : w7.cell? ⟨w.heap.size, 1, none⟩ = some (.slice A1 al c1) := hx.out.sat _ _ _ (Bd.out 1 _ rfl)
    have cd2 : w7.cell? ⟨w.heap.size, 2, none⟩ = some (.slice A2 nl c2) := hx.out.sat _ _ _ (Bd.out 2 _ rfl)
    have lqt : w4.heap.size < w7.heap.size := hx.out.sat.lt (Bt.out 0 _ rfl)
    have ct0 : w7.cell? ⟨w4.heap.size, 0, none⟩ = some (.int .i64 0) := hx.out.sat _ _ _ (Bt.out 0 _ rfl)
    have ct1 : w7.cell? ⟨w4.heap.size, 1, none⟩ = some (.int .i64 0) := hx.out.sat _ _ _ (Bt.out 1 _ rfl)
    have ct2 : w7.cell? ⟨w4.heap.size, 2, none⟩ = some (.slice K1 0 k1) := hx.out.sat _ _ _ (Bt.out 2 _ rfl)
    have ct3 : w7.cell? ⟨w4.heap.size, 3, none⟩ = some (.slice K2 0 k2) := hx.out.sat _ _ _ (Bt.out 3 _ rfl)
    have ct4 : w7.cell? ⟨w4.heap.size, 4, none⟩ = some (.slice K3 0 k3) := hx.out.sat _ _ _ (Bt.out 4 _ rfl)
    have ct5 : w7.cell? ⟨w4.heap.size, 5, none⟩ = some (.slice K4 0 k4) := hx.out.sat _ _ _ (Bt.out 5 _ rfl)
    go_wp2_with fail
    clear lqd cd0 cd1 cd2 lqt ct0 ct1 ct2 ct3 ct4 ct5
    go_ret
    exact ⟨rfl, hx.out.below⟩
  case pos =>
    replace hz := Aside.mk hz
    have lqd : w.heap.size < W1.heap.size := hx.out.sat.lt (Bd.out 0 _ rfl)
    have cd0 : W1.cell? ⟨w.heap.size, 0, none⟩ = some (.int .i64 st) := hx.out.sat _ _ _ (Bd.out 0 _ rfl)
    have cd1 : W1.cell? ⟨w.heap.size, 1, none⟩ = some (.slice A1 al c1) := hx.out.sat _ _ _ (Bd.out 1 _ rfl)
    have cd2 : W1.cell? ⟨w.heap.size, 2, none⟩ = some (.slice A2 nl c2) := hx.out.sat _ _ _ (Bd.out 2 _ rfl)
    go_wp2_with fail
    clear lqd cd0 cd1 cd2
    have hsz := hx.out.size
    refine (packRef_any hD.out hx.out.sat hz.out).mono ?_
    rintro e w4 ⟨H5, T, K1, k1, K2, k2, K3, k3, K4, k4, rfl, hK, hKr, hK0, hKd, hKa, hx9⟩
    have hle := hx9.le
    replace hD := Aside.mk (hD.out.mono hle)
    replace Bd := Aside.mk (Bd.out.mono hle)
    replace hx := Aside.mk (hx.out.trans hx9)
    clear hle hx9
    clear hsz 
    replace hK := Aside.mk hK
    have hIR := Aside.mk (inR_of hK0 (by rw [hKa]; exact hw.out))
    replace hK0 := Aside.mk hK0
    replace hKd := Aside.mk hKd
    replace hKr := Aside.mk hKr
    clear hKa
    have hsz := hx.out.size
    have lqd : w.heap.size < w4.heap.size := hx.out.sat.lt (Bd.out 0 _ rfl)
    have cd0 : w4.cell? ⟨w.heap.size, 0, none⟩ = some (.int .i64 st) := hx.out.sat _ _ _ (Bd.out 0 _ rfl)
    have cd1 : w4.cell? ⟨w.heap.size, 1, none⟩ = some (.slice A1 al c1) := hx.out.sat _ _ _ (Bd.out 1 _ rfl)
    have cd2 : w4.cell? ⟨w.heap.size, 2, none⟩ = some (.slice A2 nl c2) := hx.out.sat _ _ _ (Bd.out 2 _ rfl)
    go_wp2_with fail
    clear lqd cd0 cd1 cd2
    have hszw4 := hx.out.size
    have kt_ : (w4.alloc (.cells #[.int .i64 T.st, .int .i64 T.cols, .slice K1 T.acc.length k1, .slice K2 T.base.length k2, .slice K3 T.own.length k3, .slice K4 T.nxt.length k4] 85)).heap[w4.heap.size]? = some (.cells #[.int .i64 T.st, .int .i64 T.cols, .slice K1 T.acc.length k1, .slice K2 T.base.length k2, .slice K3 T.own.length k3, .slice K4 T.nxt.length k4] 85) := (heap_alloc_new _ _)
    have nt := Aside.mk (fun o => hx.out.sat.new (b := w4.heap.size) (show w4.heap.size ≤ _ by omega) o)
    replace hx := Aside.mk ((hx.out.alloc (.cells #[.int .i64 T.st, .int .i64 T.cols, .slice K1 T.acc.length k1, .slice K2 T.base.length k2, .slice K3 T.own.length k3, .slice K4 T.nxt.length k4] 85)))
    generalize (w4.alloc (.cells #[.int .i64 T.st, .int .i64 T.cols, .slice K1 T.acc.length k1, .slice K2 T.base.length k2, .slice K3 T.own.length k3, .slice K4 T.nxt.length k4] 85)) = W3 at *
    have kt := Aside.mk kt_
    clear kt_
    obtain ⟨H1, hx2, hle, Bt, hold⟩ := box_freeze hx.out (by omega) kt.out nt.out
    replace hD := Aside.mk (hD.out.mono hle)
    replace hK := Aside.mk (hK.out.mono hle)
    replace Bd := Aside.mk (Bd.out.mono hle)
    replace hx := Aside.mk hx2
    replace Bt := Aside.mk Bt
    clear hle hold hx2 kt nt
    have lqd : w.heap.size < W3.heap.size := hx.out.sat.lt (Bd.out 0 _ rfl)
    have cd0 : W3.cell? ⟨w.heap.size, 0, none⟩ = some (.int .i64 st) := hx.out.sat _ _ _ (Bd.out 0 _ rfl)
    have cd1 : W3.cell? ⟨w.heap.size, 1, none⟩ = some (.slice A1 al c1) := hx.out.sat _ _ _ (Bd.out 1 _ rfl)
    have cd2 : W3.cell? ⟨w.heap.size, 2, none⟩ = some (.slice A2 nl c2) := hx.out.sat _ _ _ (Bd.out 2 _ rfl)
    have lqt : w4.heap.size < W3.heap.size := hx.out.sat.lt (Bt.out 0 _ rfl)
    have ct0 : W3.cell? ⟨w4.heap.size, 0, none⟩ = some (.int .i64 T.st) := hx.out.sat _ _ _ (Bt.out 0 _ rfl)
    have ct1 : W3.cell? ⟨w4.heap.size, 1, none⟩ = some (.int .i64 T.cols) := hx.out.sat _ _ _ (Bt.out 1 _ rfl)
    have ct2 : W3.cell? ⟨w4.heap.size, 2, none⟩ = some (.slice K1 T.acc.length k1) := hx.out.sat _ _ _ (Bt.out 2 _ rfl)
    have ct3 : W3.cell? ⟨w4.heap.size, 3, none⟩ = some (.slice K2 T.base.length k2) := hx.out.sat _ _ _ (Bt.out 3 _ rfl)
    have ct4 : W3.cell? ⟨w4.heap.size, 4, none⟩ = some (.slice K3 T.own.length k3) := hx.out.sat _ _ _ (Bt.out 4 _ rfl)
    have ct5 : W3.cell? ⟨w4.heap.size, 5, none⟩ = some (.slice K4 T.nxt.length k4) := hx.out.sat _ _ _ (Bt.out 5 _ rfl)
    go_wp2_with fail
    clear lqd cd0 cd1 cd2 lqt ct0 ct1 ct2 ct3 ct4 ct5
    have hsz := hx.out.size
    refine (packBegun_any _ _ hx.out.sat).mono ?_
    rintro e w5 ⟨rfl, hb9⟩
    replace hx := Aside.mk (hx.out.then_below hb9)
    clear hb9
    clear hsz 
    have lqd : w.heap.size < w5.heap.size := hx.out.sat.lt (Bd.out 0 _ rfl)
    have cd0 : w5.cell? ⟨w.heap.size, 0, none⟩ = some (.int .i64 st) := hx.out.sat _ _ _ (Bd.out 0 _ rfl)
    have cd1 : w5.cell? ⟨w.heap.size, 1, none⟩ = some (.slice A1 al c1) := hx.out.sat _ _ _ (Bd.out 1 _ rfl)
    have cd2 : w5.cell? ⟨w.heap.size, 2, none⟩ = some (.slice A2 nl c2) := hx.out.sat _ _ _ (Bd.out 2 _ rfl)
    have lqt : w4.heap.size < w5.heap.size := hx.out.sat.lt (Bt.out 0 _ rfl)
    have ct0 : w5.cell? ⟨w4.heap.size, 0, none⟩ = some (.int .i64 T.st) := hx.out.sat _ _ _ (Bt.out 0 _ rfl)
    have ct1 : w5.cell? ⟨w4.heap.size, 1, none⟩ = some (.int .i64 T.cols) := hx.out.sat _ _ _ (Bt.out 1 _ rfl)
    have ct2 : w5.cell? ⟨w4.heap.size, 2, none⟩ = some (.slice K1 T.acc.length k1) := hx.out.sat _ _ _ (Bt.out 2 _ rfl)
    have ct3 : w5.cell? ⟨w4.heap.size, 3, none⟩ = some (.slice K2 T.base.length k2) := hx.out.sat _ _ _ (Bt.out 3 _ rfl)
    have ct4 : w5.cell? ⟨w4.heap.size, 4, none⟩ = some (.slice K3 T.own.length k3) := hx.out.sat _ _ _ (Bt.out 4 _ rfl)
    have ct5 : w5.cell? ⟨w4.heap.size, 5, none⟩ = some (.slice K4 T.nxt.length k4) := hx.out.sat _ _ _ (Bt.out 5 _ rfl)
    go_wp2_with fail
    clear lqd cd0 cd1 cd2 lqt ct0 ct1 ct2 ct3 ct4 ct5
    have hck := Aside.mk (checkD_any hD.out hx.out.sat)
    rw [hz.out] at hck
    refine hck.out.mono ?_
    rintro e w6 ⟨rfl, hb9⟩
    clear hck
    replace hx := Aside.mk (hx.out.then_below hb9)
    clear hb9
    have lqd : w.heap.size < w6.heap.size := hx.out.sat.lt (Bd.out 0 _ rfl)
    have cd0 : w6.cell? ⟨w.heap.size, 0, none⟩ = some (.int .i64 st) := hx.out.sat _ _ _ (Bd.out 0 _ rfl)
    have cd1 : w6.cell? ⟨w.heap.size, 1, none⟩ = some (.slice A1 al c1) := hx.out.sat _ _ _ (Bd.out 1 _ rfl)
    have cd2 : w6.cell? ⟨w.heap.size, 2, none⟩ = some (.slice A2 nl c2) := hx.out.sat _ _ _ (Bd.out 2 _ rfl)
    have lqt : w4.heap.size < w6.heap.size := hx.out.sat.lt (Bt.out 0 _ rfl)
    have ct0 : w6.cell? ⟨w4.heap.size, 0, none⟩ = some (.int .i64 T.st) := hx.out.sat _ _ _ (Bt.out 0 _ rfl)
    have ct1 : w6.cell? ⟨w4.heap.size, 1, none⟩ = some (.int .i64 T.cols) := hx.out.sat _ _ _ (Bt.out 1 _ rfl)
    have ct2 : w6.cell? ⟨w4.heap.size, 2, none⟩ = some (.slice K1 T.acc.length k1) := hx.out.sat _ _ _ (Bt.out 2 _ rfl)
    have ct3 : w6.cell? ⟨w4.heap.size, 3, none⟩ = some (.slice K2 T.base.length k2) := hx.out.sat _ _ _ (Bt.out 3 _ rfl)
    have ct4 : w6.cell? ⟨w4.heap.size, 4, none⟩ = some (.slice K3 T.own.length k3) := hx.out.sat _ _ _ (Bt.out 4 _ rfl)
    have ct5 : w6.cell? ⟨w4.heap.size, 5, none⟩ = some (.slice K4 T.nxt.length k4) := hx.out.sat _ _ _ (Bt.out 5 _ rfl)
    go_wp2_with fail
    clear lqd cd0 cd1 cd2 lqt ct0 ct1 ct2 ct3 ct4 ct5
    have hsz := hx.out.size
    refine (packOfD_any hD.out hx.out.sat hz.out hKr.out).mono ?_
    rintro e w7 ⟨H6, J1, j1, J2, j2, J3, j3, J4, j4, rfl, hJ, hx9⟩
    have hle := hx9.le
    replace hD := Aside.mk (hD.out.mono hle)
    replace hK := Aside.mk (hK.out.mono hle)
    replace Bd := Aside.mk (Bd.out.mono hle)
    replace Bt := Aside.mk (Bt.out.mono hle)
    replace hx := Aside.mk (hx.out.trans hx9)
    clear hle hx9
    clear hsz 
    replace hJ := Aside.mk hJ
    have hsz := hx.out.size
    have lqd : w.heap.size < w7.heap.size := hx.out.sat.lt (Bd.out 0 _ rfl)
    have cd0 : w7.cell? ⟨w.heap.size, 0, none⟩ = some (.int .i64 st) := hx.out.sat _ _ _ (Bd.out 0 _ rfl)
    have cd1 : w7.cell? ⟨w.heap.size, 1, none⟩ = some (.slice A1 al c1) := hx.out.sat _ _ _ (Bd.out 1 _ rfl)
    have cd2 : w7.cell? ⟨w.heap.size, 2, none⟩ = some (.slice A2 nl c2) := hx.out.sat _ _ _ (Bd.out 2 _ rfl)
    have lqt : w4.heap.size < w7.heap.size := hx.out.sat.lt (Bt.out 0 _ rfl)
    have ct0 : w7.cell? ⟨w4.heap.size, 0, none⟩ = some (.int .i64 T.st) := hx.out.sat _ _ _ (Bt.out 0 _ rfl)
    have ct1 : w7.cell? ⟨w4.heap.size, 1, none⟩ = some (.int .i64 T.cols) := hx.out.sat _ _ _ (Bt.out 1 _ rfl)
    have ct2 : w7.cell? ⟨w4.heap.size, 2, none⟩ = some (.slice K1 T.acc.length k1) := hx.out.sat _ _ _ (Bt.out 2 _ rfl)
    have ct3 : w7.cell? ⟨w4.heap.size, 3, none⟩ = some (.slice K2 T.base.length k2) := hx.out.sat _ _ _ (Bt.out 3 _ rfl)
    have ct4 : w7.cell? ⟨w4.heap.size, 4, none⟩ = some (.slice K3 T.own.length k3) := hx.out.sat _ _ _ (Bt.out 4 _ rfl)
    have ct5 : w7.cell? ⟨w4.heap.size, 5, none⟩ = some (.slice K4 T.nxt.length k4) := hx.out.sat _ _ _ (Bt.out 5 _ rfl)
    go_wp2_with fail
    clear lqd cd0 cd1 cd2 lqt ct0 ct1 ct2 ct3 ct4 ct5
    have hszw7 := hx.out.size
    have ku_ : (w7.alloc (.cells #[.int .i64 T.st, .int .i64 T.cols, .slice J1 T.acc.length j1, .slice J2 T.base.length j2, .slice J3 T.own.length j3, .slice J4 T.nxt.length j4] 85)).heap[w7.heap.size]? = some (.cells #[.int .i64 T.st, .int .i64 T.cols, .slice J1 T.acc.length j1, .slice J2 T.base.length j2, .slice J3 T.own.length j3, .slice J4 T.nxt.length j4] 85) := (heap_alloc_new _ _)
    have nu := Aside.mk (fun o => hx.out.sat.new (b := w7.heap.size) (show w7.heap.size ≤ _ by omega) o)
    replace hx := Aside.mk ((hx.out.alloc (.cells #[.int .i64 T.st, .int .i64 T.cols, .slice J1 T.acc.length j1, .slice J2 T.base.length j2, .slice J3 T.own.length j3, .slice J4 T.nxt.length j4] 85)))
    generalize (w7.alloc (.cells #[.int .i64 T.st, .int .i64 T.cols, .slice J1 T.acc.length j1, .slice J2 T.base.length j2, .slice J3 T.own.length j3, .slice J4 T.nxt.length j4] 85)) = W4 at *
    have ku := Aside.mk ku_
    clear ku_
    obtain ⟨H1, hx2, hle, Bu, hold⟩ := box_freeze hx.out (by omega) ku.out nu.out
    replace hD := Aside.mk (hD.out.mono hle)
    replace hK := Aside.mk (hK.out.mono hle)
    replace hJ := Aside.mk (hJ.out.mono hle)
    replace Bd := Aside.mk (Bd.out.mono hle)
    replace Bt := Aside.mk (Bt.out.mono hle)
    replace hx := Aside.mk hx2
    replace Bu := Aside.mk Bu
    clear hle hold hx2 ku nu
    have lqd : w.heap.size < W4.heap.size := hx.out.sat.lt (Bd.out 0 _ rfl)
    have cd0 : W4.cell? ⟨w.heap.size, 0, none⟩ = some (.int .i64 st) := hx.out.sat _ _ _ (Bd.out 0 _ rfl)
    have cd1 : W4.cell? ⟨w.heap.size, 1, none⟩ = some (.slice A1 al c1) := hx.out.sat _ _ _ (Bd.out 1 _ rfl)
    have cd2 : W4.cell? ⟨w.heap.size, 2, none⟩ = some (.slice A2 nl c2) := hx.out.sat _ _ _ (Bd.out 2 _ rfl)
    have lqt : w4.heap.size < W4.heap.size := hx.out.sat.lt (Bt.out 0 _ rfl)
    have ct0 : W4.cell? ⟨w4.heap.size, 0, none⟩ = some (.int .i64 T.st) := hx.out.sat _ _ _ (Bt.out 0 _ rfl)
    have ct1 : W4.cell? ⟨w4.heap.size, 1, none⟩ = some (.int .i64 T.cols) := hx.out.sat _ _ _ (Bt.out 1 _ rfl)
    have ct2 : W4.cell? ⟨w4.heap.size, 2, none⟩ = some (.slice K1 T.acc.length k1) := hx.out.sat _ _ _ (Bt.out 2 _ rfl)
    have ct3 : W4.cell? ⟨w4.heap.size, 3, none⟩ = some (.slice K2 T.base.length k2) := hx.out.sat _ _ _ (Bt.out 3 _ rfl)
    have ct4 : W4.cell? ⟨w4.heap.size, 4, none⟩ = some (.slice K3 T.own.length k3) := hx.out.sat _ _ _ (Bt.out 4 _ rfl)
    have ct5 : W4.cell? ⟨w4.heap.size, 5, none⟩ = some (.slice K4 T.nxt.length k4) := hx.out.sat _ _ _ (Bt.out 5 _ rfl)
    have lqu : w7.heap.size < W4.heap.size := hx.out.sat.lt (Bu.out 0 _ rfl)
    have cu0 : W4.cell? ⟨w7.heap.size, 0, none⟩ = some (.int .i64 T.st) := hx.out.sat _ _ _ (Bu.out 0 _ rfl)
    have cu1 : W4.cell? ⟨w7.heap.size, 1, none⟩ = some (.int .i64 T.cols) := hx.out.sat _ _ _ (Bu.out 1 _ rfl)
    have cu2 : W4.cell? ⟨w7.heap.size, 2, none⟩ = some (.slice J1 T.acc.length j1) := hx.out.sat _ _ _ (Bu.out 2 _ rfl)
    have cu3 : W4.cell? ⟨w7.heap.size, 3, none⟩ = some (.slice J2 T.base.length j2) := hx.out.sat _ _ _ (Bu.out 3 _ rfl)
    have cu4 : W4.cell? ⟨w7.heap.size, 4, none⟩ = some (.slice J3 T.own.length j3) := hx.out.sat _ _ _ (Bu.out 4 _ rfl)
    have cu5 : W4.cell? ⟨w7.heap.size, 5, none⟩ = some (.slice J4 T.nxt.length j4) := hx.out.sat _ _ _ (Bu.out 5 _ rfl)
    go_wp2_with fail
    clear lqd cd0 cd1 cd2 lqt ct0 ct1 ct2 ct3 ct4 ct5 lqu cu0 cu1 cu2 cu3 cu4 cu5
    have hsz := hx.out.size
    refine (tabEq_same hK.out hJ.out hx.out.sat hK0.out).mono ?_
    rintro e w8 ⟨rfl, hb9⟩
    replace hx := Aside.mk (hx.out.then_below hb9)
    clear hb9
    clear hsz 
    have lqd : w.heap.size < w8.heap.size := hx.out.sat.lt (Bd.out 0 _ rfl)
    have cd0 : w8.cell? ⟨w.heap.size, 0, none⟩ = some (.int .i64 st) := hx.out.sat _ _ _ (Bd.out 0 _ rfl)
    have cd1 : w8.cell? ⟨w.heap.size, 1, none⟩ = some (.slice A1 al c1) := hx.out.sat _ _ _ (Bd.out 1 _ rfl)
    have cd2 : w8.cell? ⟨w.heap.size, 2, none⟩ = some (.slice A2 nl c2) := hx.out.sat _ _ _ (Bd.out 2 _ rfl)
    have lqt : w4.heap.size < w8.heap.size := hx.out.sat.lt (Bt.out 0 _ rfl)
    have ct0 : w8.cell? ⟨w4.heap.size, 0, none⟩ = some (.int .i64 T.st) := hx.out.sat _ _ _ (Bt.out 0 _ rfl)
    have ct1 : w8.cell? ⟨w4.heap.size, 1, none⟩ = some (.int .i64 T.cols) := hx.out.sat _ _ _ (Bt.out 1 _ rfl)
    have ct2 : w8.cell? ⟨w4.heap.size, 2, none⟩ = some (.slice K1 T.acc.length k1) := hx.out.sat _ _ _ (Bt.out 2 _ rfl)
    have ct3 : w8.cell? ⟨w4.heap.size, 3, none⟩ = some (.slice K2 T.base.length k2) := hx.out.sat _ _ _ (Bt.out 3 _ rfl)
    have ct4 : w8.cell? ⟨w4.heap.size, 4, none⟩ = some (.slice K3 T.own.length k3) := hx.out.sat _ _ _ (Bt.out 4 _ rfl)
    have ct5 : w8.cell? ⟨w4.heap.size, 5, none⟩ = some (.slice K4 T.nxt.length k4) := hx.out.sat _ _ _ (Bt.out 5 _ rfl)
    have lqu : w7.heap.size < w8.heap.size := hx.out.sat.lt (Bu.out 0 _ rfl)
    have cu0 : w8.cell? ⟨w7.heap.size, 0, none⟩ = some (.int .i64 T.st) := hx.out.sat _ _ _ (Bu.out 0 _ rfl)
    have cu1 : w8.cell? ⟨w7.heap.size, 1, none⟩ = some (.int .i64 T.cols) := hx.out.sat _ _ _ (Bu.out 1 _ rfl)
    have cu2 : w8.cell? ⟨w7.heap.size, 2, none⟩ = some (.slice J1 T.acc.length j1) := hx.out.sat _ _ _ (Bu.out 2 _ rfl)
    have cu3 : w8.cell? ⟨w7.heap.size, 3, none⟩ = some (.slice J2 T.base.length j2) := hx.out.sat _ _ _ (Bu.out 3 _ rfl)
    have cu4 : w8.cell? ⟨w7.heap.size, 4, none⟩ = some (.slice J3 T.own.length j3) := hx.out.sat _ _ _ (Bu.out 4 _ rfl)
    have cu5 : w8.cell? ⟨w7.heap.size, 5, none⟩ = some (.slice J4 T.nxt.length j4) := hx.out.sat _ _ _ (Bu.out 5 _ rfl)
    go_wp2_with fail
    clear lqd cd0 cd1 cd2 lqt ct0 ct1 ct2 ct3 ct4 ct5 lqu cu0 cu1 cu2 cu3 cu4 cu5
    have hbl := bytesT_len2 hK0.out hIR.out
    have hsz := hx.out.size
    refine (bytesOk_any hK.out hx.out.sat hK0.out hIR.out).mono ?_
    rintro e w9 ⟨v, rfl, ho, hb9⟩
    replace hx := Aside.mk (hx.out.then_below hb9)
    clear hb9
    obtain ⟨Bo, bo, ev, -, -, -, -⟩ := ho.form
    subst ev
    replace ho := Aside.mk ho
    obtain ⟨H1, hx2, hle, ⟨Bo_, bo_, e1, ho⟩, hold⟩ := ho.out.freezeE hx.out (by omega) (by omega)
    cases e1
    replace hD := Aside.mk (hD.out.mono hle)
    replace hK := Aside.mk (hK.out.mono hle)
    replace hJ := Aside.mk (hJ.out.mono hle)
    replace Bd := Aside.mk (Bd.out.mono hle)
    replace Bt := Aside.mk (Bt.out.mono hle)
    replace Bu := Aside.mk (Bu.out.mono hle)
    replace hx := Aside.mk hx2
    replace ho := Aside.mk ho
    clear hle hold hx2
    clear hsz
    replace hbl := Aside.mk hbl
    have lqd : w.heap.size < w9.heap.size := hx.out.sat.lt (Bd.out 0 _ rfl)
    have cd0 : w9.cell? ⟨w.heap.size, 0, none⟩ = some (.int .i64 st) := hx.out.sat _ _ _ (Bd.out 0 _ rfl)
    have cd1 : w9.cell? ⟨w.heap.size, 1, none⟩ = some (.slice A1 al c1) := hx.out.sat _ _ _ (Bd.out 1 _ rfl)
    have cd2 : w9.cell? ⟨w.heap.size, 2, none⟩ = some (.slice A2 nl c2) := hx.out.sat _ _ _ (Bd.out 2 _ rfl)
    have lqt : w4.heap.size < w9.heap.size := hx.out.sat.lt (Bt.out 0 _ rfl)
    have ct0 : w9.cell? ⟨w4.heap.size, 0, none⟩ = some (.int .i64 T.st) := hx.out.sat _ _ _ (Bt.out 0 _ rfl)
    have ct1 : w9.cell? ⟨w4.heap.size, 1, none⟩ = some (.int .i64 T.cols) := hx.out.sat _ _ _ (Bt.out 1 _ rfl)
    have ct2 : w9.cell? ⟨w4.heap.size, 2, none⟩ = some (.slice K1 T.acc.length k1) := hx.out.sat _ _ _ (Bt.out 2 _ rfl)
    have ct3 : w9.cell? ⟨w4.heap.size, 3, none⟩ = some (.slice K2 T.base.length k2) := hx.out.sat _ _ _ (Bt.out 3 _ rfl)
    have ct4 : w9.cell? ⟨w4.heap.size, 4, none⟩ = some (.slice K3 T.own.length k3) := hx.out.sat _ _ _ (Bt.out 4 _ rfl)
    have ct5 : w9.cell? ⟨w4.heap.size, 5, none⟩ = some (.slice K4 T.nxt.length k4) := hx.out.sat _ _ _ (Bt.out 5 _ rfl)
    have lqu : w7.heap.size < w9.heap.size := hx.out.sat.lt (Bu.out 0 _ rfl)
    have cu0 : w9.cell? ⟨w7.heap.size, 0, none⟩ = some (.int .i64 T.st) := hx.out.sat _ _ _ (Bu.out 0 _ rfl)
    have cu1 : w9.cell? ⟨w7.heap.size, 1, none⟩ = some (.int .i64 T.cols) := hx.out.sat _ _ _ (Bu.out 1 _ rfl)
    have cu2 : w9.cell? ⟨w7.heap.size, 2, none⟩ = some (.slice J1 T.acc.length j1) := hx.out.sat _ _ _ (Bu.out 2 _ rfl)
    have cu3 : w9.cell? ⟨w7.heap.size, 3, none⟩ = some (.slice J2 T.base.length j2) := hx.out.sat _ _ _ (Bu.out 3 _ rfl)
    have cu4 : w9.cell? ⟨w7.heap.size, 4, none⟩ = some (.slice J3 T.own.length j3) := hx.out.sat _ _ _ (Bu.out 4 _ rfl)
    have cu5 : w9.cell? ⟨w7.heap.size, 5, none⟩ = some (.slice J4 T.nxt.length j4) := hx.out.sat _ _ _ (Bu.out 5 _ rfl)
    go_wp2_with fail
    clear lqd cd0 cd1 cd2 lqt ct0 ct1 ct2 ct3 ct4 ct5 lqu cu0 cu1 cu2 cu3 cu4 cu5
    have hsz := hx.out.size
    refine (dfaOk_any hK.out hx.out.sat hK0.out hKd.out).mono ?_
    rintro e w10 ⟨H7, L1, l1, L2, l2, rfl, hL, hx9⟩
    have hle := hx9.le
    replace hD := Aside.mk (hD.out.mono hle)
    replace hK := Aside.mk (hK.out.mono hle)
    replace hJ := Aside.mk (hJ.out.mono hle)
    replace ho := Aside.mk (ho.out.mono hle)
    replace Bd := Aside.mk (Bd.out.mono hle)
    replace Bt := Aside.mk (Bt.out.mono hle)
    replace Bu := Aside.mk (Bu.out.mono hle)
    replace hx := Aside.mk (hx.out.trans hx9)
    clear hle hx9
    rw [hst.out, hal.out, hnl.out] at hL ⊢
    replace hL := Aside.mk hL
    have hsz := hx.out.size
    have lqd : w.heap.size < w10.heap.size := hx.out.sat.lt (Bd.out 0 _ rfl)
    have cd0 : w10.cell? ⟨w.heap.size, 0, none⟩ = some (.int .i64 st) := hx.out.sat _ _ _ (Bd.out 0 _ rfl)
    have cd1 : w10.cell? ⟨w.heap.size, 1, none⟩ = some (.slice A1 al c1) := hx.out.sat _ _ _ (Bd.out 1 _ rfl)
    have cd2 : w10.cell? ⟨w.heap.size, 2, none⟩ = some (.slice A2 nl c2) := hx.out.sat _ _ _ (Bd.out 2 _ rfl)
    have lqt : w4.heap.size < w10.heap.size := hx.out.sat.lt (Bt.out 0 _ rfl)
    have ct0 : w10.cell? ⟨w4.heap.size, 0, none⟩ = some (.int .i64 T.st) := hx.out.sat _ _ _ (Bt.out 0 _ rfl)
    have ct1 : w10.cell? ⟨w4.heap.size, 1, none⟩ = some (.int .i64 T.cols) := hx.out.sat _ _ _ (Bt.out 1 _ rfl)
    have ct2 : w10.cell? ⟨w4.heap.size, 2, none⟩ = some (.slice K1 T.acc.length k1) := hx.out.sat _ _ _ (Bt.out 2 _ rfl)
    have ct3 : w10.cell? ⟨w4.heap.size, 3, none⟩ = some (.slice K2 T.base.length k2) := hx.out.sat _ _ _ (Bt.out 3 _ rfl)
    have ct4 : w10.cell? ⟨w4.heap.size, 4, none⟩ = some (.slice K3 T.own.length k3) := hx.out.sat _ _ _ (Bt.out 4 _ rfl)
    have ct5 : w10.cell? ⟨w4.heap.size, 5, none⟩ = some (.slice K4 T.nxt.length k4) := hx.out.sat _ _ _ (Bt.out 5 _ rfl)
    have lqu : w7.heap.size < w10.heap.size := hx.out.sat.lt (Bu.out 0 _ rfl)
    have cu0 : w10.cell? ⟨w7.heap.size, 0, none⟩ = some (.int .i64 T.st) := hx.out.sat _ _ _ (Bu.out 0 _ rfl)
    have cu1 : w10.cell? ⟨w7.heap.size, 1, none⟩ = some (.int .i64 T.cols) := hx.out.sat _ _ _ (Bu.out 1 _ rfl)
    have cu2 : w10.cell? ⟨w7.heap.size, 2, none⟩ = some (.slice J1 T.acc.length j1) := hx.out.sat _ _ _ (Bu.out 2 _ rfl)
    have cu3 : w10.cell? ⟨w7.heap.size, 3, none⟩ = some (.slice J2 T.base.length j2) := hx.out.sat _ _ _ (Bu.out 3 _ rfl)
    have cu4 : w10.cell? ⟨w7.heap.size, 4, none⟩ = some (.slice J3 T.own.length j3) := hx.out.sat _ _ _ (Bu.out 4 _ rfl)
    have cu5 : w10.cell? ⟨w7.heap.size, 5, none⟩ = some (.slice J4 T.nxt.length j4) := hx.out.sat _ _ _ (Bu.out 5 _ rfl)
    go_upto_region 12 with (fail)
    clear lqd cd0 cd1 cd2 lqt ct0 ct1 ct2 ct3 ct4 ct5 lqu cu0 cu1 cu2 cu3 cu4 cu5
    have hszw10 := hx.out.size
    have kx_ : (w10.alloc (.cells #[.int .i64 st, .slice L1 al l1, .slice L2 nl l2] 58)).heap[w10.heap.size]? = some (.cells #[.int .i64 st, .slice L1 al l1, .slice L2 nl l2] 58) := (heap_alloc_new _ _)
    have nx := Aside.mk (fun o => hx.out.sat.new (b := w10.heap.size) (show w10.heap.size ≤ _ by omega) o)
    replace hx := Aside.mk ((hx.out.alloc (.cells #[.int .i64 st, .slice L1 al l1, .slice L2 nl l2] 58)))
    generalize (w10.alloc (.cells #[.int .i64 st, .slice L1 al l1, .slice L2 nl l2] 58)) = W5 at *
    have kx := Aside.mk kx_
    clear kx_
    obtain ⟨H1, hx2, hle, Bx, hold⟩ := box_freeze hx.out (by omega) kx.out nx.out
    replace hD := Aside.mk (hD.out.mono hle)
    replace hK := Aside.mk (hK.out.mono hle)
    replace hJ := Aside.mk (hJ.out.mono hle)
    replace ho := Aside.mk (ho.out.mono hle)
    replace hL := Aside.mk (hL.out.mono hle)
    replace Bd := Aside.mk (Bd.out.mono hle)
    replace Bt := Aside.mk (Bt.out.mono hle)
    replace Bu := Aside.mk (Bu.out.mono hle)
    replace hx := Aside.mk hx2
    replace Bx := Aside.mk Bx
    clear hle hold hx2 kx nx
    clear hsz
    obtain ⟨ob, hob⟩ : ∃ ob, ob = bytesT T := ⟨_, rfl⟩
    go_cut [2] (fun s2 wc => s2 = .bool true ∧ Aside (Ext H H1 w wc))
    case first =>
      refine region_seq [49, 50, 51, 52, 53, 54, 55, 56, 57, 58, 59, 60, 61, 62, 63, 64, 65, 66, 67, 2] (by kernel_rfl) (by kernel_rfl) (by kernel_rfl) (by kernel_rfl) hx.out.sat ?_
      refine reg_val (d := 49) (v := ?_) rfl (Or.inl rfl) (fun ρ wρ Hρ hρ => ?_) ?_; rotate_left
      · have k_c := hρ.const; have k_4 : ρ (.tmp 4) = .int .i64 0 := hρ.old 4 (by kernel_rfl); (go_simp <;> with_reducible rfl)
      refine reg_val (d := 50) (v := ?_) rfl (Or.inl rfl) (fun ρ wρ Hρ hρ => ?_) ?_; rotate_left
      · have k_c := hρ.const; have k_49 : ρ (.tmp 49) = _ := hρ.dep 49 (by kernel_rfl); (go_simp <;> with_reducible rfl)
      refine reg_val (d := 51) (v := ?_) rfl (Or.inl rfl) (fun ρ wρ Hρ hρ => ?_) ?_; rotate_left
      · have k_c := hρ.const; have k_50 : ρ (.tmp 50) = _ := hρ.dep 50 (by kernel_rfl); (go_simp <;> with_reducible rfl)
      refine reg_val (d := 52) (v := ?_) rfl (Or.inr ⟨2, true, 51, rfl, by kernel_rfl, by kernel_rfl, rfl⟩) (fun ρ wρ Hρ hρ => ?_) ?_; rotate_left
      · have k_c := hρ.const; have k_9 : ρ (.tmp 9) = .int .i64 0 := hρ.old 9 (by kernel_rfl); (go_simp <;> with_reducible rfl)
      refine reg_val (d := 53) (v := ?_) rfl (Or.inr ⟨2, true, 51, rfl, by kernel_rfl, by kernel_rfl, rfl⟩) (fun ρ wρ Hρ hρ => ?_) ?_; rotate_left
      · have k_c := hρ.const; have k_52 : ρ (.tmp 52) = _ := hρ.dep 52 (by kernel_rfl); (go_simp <;> with_reducible rfl)
      refine reg_val (d := 54) (v := ?_) rfl (Or.inl rfl) (fun ρ wρ Hρ hρ => ?_) ?_; rotate_left
      · have k_c := hρ.const; have k_51 : ρ (.tmp 51) = _ := hρ.dep 51 (by kernel_rfl); have k_53 : ρ (.tmp 53) = _ := hρ.dep 53 (by kernel_rfl); (go_simp <;> with_reducible rfl)
      refine reg_val (d := 55) (v := ?_) rfl (Or.inl rfl) (fun ρ wρ Hρ hρ => ?_) ?_; rotate_left
      · have k_c := hρ.const; have k_54 : ρ (.tmp 54) = _ := hρ.dep 54 (by kernel_rfl); (go_simp <;> with_reducible rfl)
      refine reg_val (d := 56) (v := ?_) rfl (Or.inr ⟨6, true, 55, rfl, by kernel_rfl, by kernel_rfl, rfl⟩) (fun ρ wρ Hρ hρ => ?_) ?_; rotate_left
      · have k_c := hρ.const; have k_7 : ρ (.tmp 7) = .slice Bo (bytesT T).length bo := hρ.old 7 (by kernel_rfl); (go_simp <;> with_reducible rfl)
      refine reg_val (d := 57) (v := ?_) rfl (Or.inr ⟨6, true, 55, rfl, by kernel_rfl, by kernel_rfl, rfl⟩) (fun ρ wρ Hρ hρ => ?_) ?_; rotate_left
      · have k_c := hρ.const; have k_56 : ρ (.tmp 56) = _ := hρ.dep 56 (by kernel_rfl); have hc := run_str ((ho.out.mono hρ.ext.le).wr hρ.sat); (go_simp <;> with_reducible rfl)
      refine reg_val (d := 58) (v := ?_) rfl (Or.inr ⟨6, true, 55, rfl, by kernel_rfl, by kernel_rfl, rfl⟩) (fun ρ wρ Hρ hρ => ?_) ?_; rotate_left
      · have k_c := hρ.const; have k_6 : ρ (.tmp 6) = .pointer (some ⟨w7.heap.size, 0, none⟩) := hρ.old 6 (by kernel_rfl); have p0 := hρ.sat _ _ _ (Bu.out.mono hρ.ext.le 0 _ rfl); have p1 := hρ.sat _ _ _ (Bu.out.mono hρ.ext.le 1 _ rfl); have p2 := hρ.sat _ _ _ (Bu.out.mono hρ.ext.le 2 _ rfl); have p3 := hρ.sat _ _ _ (Bu.out.mono hρ.ext.le 3 _ rfl); have p4 := hρ.sat _ _ _ (Bu.out.mono hρ.ext.le 4 _ rfl); have p5 := hρ.sat _ _ _ (Bu.out.mono hρ.ext.le 5 _ rfl); (go_simp <;> with_reducible rfl)
      refine reg_call (d := 59) ((.any (fun H u => ∃ A c, u = .slice A (bytesT T).length c ∧ SlR (kI .u8) H A (bytesT T).length c (bytesT T)) (fun H H2 v hh ⟨A, c, e, h⟩ => ⟨A, c, e, h.mono hh⟩))) 62 rfl rfl Try.func62 (by kernel_rfl) rfl rfl (Or.inr ⟨6, true, 55, rfl, by kernel_rfl, by kernel_rfl, rfl⟩) (fun ρ wρ Hρ hρ => ?_) ?_
      · have k_c := hρ.const; have k_58 : ρ (.tmp 58) = _ := hρ.dep 58 (by kernel_rfl); simp only [List.map_toArray, List.map_cons, List.map_nil, k_58]; refine (tabBytes_any (hJ.out.mono hρ.ext.le) hρ.sat hK0.out hIR.out).mono ?_; rintro e w9 ⟨v, rfl, ho9, hb9⟩; obtain ⟨H9, hx9, hle9, ⟨A9, c9, e9, hs9⟩, -⟩ := (ho9.into3 hρ.sat).freezeE (Ext.of_below hρ.sat hb9) (Nat.le_refl _) (by have := hbl.out; omega); cases e9; exact ⟨_, H9, rfl, hx9, A9, c9, rfl, hs9⟩
      refine reg_val (d := 60) (v := ?_) rfl (Or.inr ⟨6, true, 55, rfl, by kernel_rfl, by kernel_rfl, rfl⟩) (fun ρ wρ Hρ hρ => ?_) ?_; rotate_left
      · have k_c := hρ.const; obtain ⟨A9, c9, k_59, h9⟩ := hρ.dep 59 (by kernel_rfl); have hc := run_str (h9.wr hρ.sat); (go_simp <;> with_reducible rfl)
      refine reg_val (d := 61) (v := ?_) rfl (Or.inr ⟨6, true, 55, rfl, by kernel_rfl, by kernel_rfl, rfl⟩) (fun ρ wρ Hρ hρ => ?_) ?_; rotate_left
      · have k_c := hρ.const; have k_57 : ρ (.tmp 57) = _ := hρ.dep 57 (by kernel_rfl); have k_60 : ρ (.tmp 60) = _ := hρ.dep 60 (by kernel_rfl); (go_simp <;> with_reducible rfl)
      refine reg_val (d := 62) (v := ?_) rfl (Or.inl rfl) (fun ρ wρ Hρ hρ => ?_) ?_; rotate_left
      · have k_c := hρ.const; have k_55 : ρ (.tmp 55) = _ := hρ.dep 55 (by kernel_rfl); have k_61 : ρ (.tmp 61) = _ := hρ.dep 61 (by kernel_rfl); (go_simp <;> with_reducible rfl)
      refine reg_val (d := 63) (v := ?_) rfl (Or.inl rfl) (fun ρ wρ Hρ hρ => ?_) ?_; rotate_left
      · have k_c := hρ.const; have k_62 : ρ (.tmp 62) = _ := hρ.dep 62 (by kernel_rfl); (go_simp <;> with_reducible rfl)
      refine reg_val (d := 64) (v := ?_) rfl (Or.inr ⟨14, true, 63, rfl, by kernel_rfl, by kernel_rfl, rfl⟩) (fun ρ wρ Hρ hρ => ?_) ?_; rotate_left
      · have k_c := hρ.const; have k_8 : ρ (.tmp 8) = .pointer (some ⟨w10.heap.size, 0, none⟩) := hρ.old 8 (by kernel_rfl); have p0 := hρ.sat _ _ _ (Bx.out.mono hρ.ext.le 0 _ rfl); have p1 := hρ.sat _ _ _ (Bx.out.mono hρ.ext.le 1 _ rfl); have p2 := hρ.sat _ _ _ (Bx.out.mono hρ.ext.le 2 _ rfl); (go_simp <;> with_reducible rfl)
      refine reg_val (d := 65) (v := ?_) rfl (Or.inr ⟨14, true, 63, rfl, by kernel_rfl, by kernel_rfl, rfl⟩) (fun ρ wρ Hρ hρ => ?_) ?_; rotate_left
      · have k_c := hρ.const; have k_1 : ρ (.tmp 1) = .pointer (some ⟨w.heap.size, 0, none⟩) := hρ.old 1 (by kernel_rfl); have p0 := hρ.sat _ _ _ (Bd.out.mono hρ.ext.le 0 _ rfl); have p1 := hρ.sat _ _ _ (Bd.out.mono hρ.ext.le 1 _ rfl); have p2 := hρ.sat _ _ _ (Bd.out.mono hρ.ext.le 2 _ rfl); (go_simp <;> with_reducible rfl)
      refine reg_call (d := 66) ((.val (.bool true))) 63 rfl rfl Try.func63 (by kernel_rfl) rfl rfl (Or.inr ⟨14, true, 63, rfl, by kernel_rfl, by kernel_rfl, rfl⟩) (fun ρ wρ Hρ hρ => ?_) ?_
      · have k_c := hρ.const; have k_64 : ρ (.tmp 64) = _ := hρ.dep 64 (by kernel_rfl); have k_65 : ρ (.tmp 65) = _ := hρ.dep 65 (by kernel_rfl); simp only [List.map_toArray, List.map_cons, List.map_nil, k_64, k_65]; refine (refDfaEq_yes (hL.out.mono hρ.ext.le) (hD.out.mono hρ.ext.le) hρ.sat).mono ?_; rintro e w9 ⟨rfl, hb9⟩; exact ⟨_, _, rfl, Ext.of_below hρ.sat hb9, rfl⟩
      refine reg_val (d := 67) (v := ?_) rfl (Or.inl rfl) (fun ρ wρ Hρ hρ => ?_) ?_; rotate_left
      · have k_c := hρ.const; have k_63 : ρ (.tmp 63) = _ := hρ.dep 63 (by kernel_rfl); have k_66 : ρ (.tmp 66) = _ := hρ.dep 66 (by kernel_rfl); (go_simp <;> with_reducible rfl)
      refine reg_val (d := 2) (v := ?_) rfl (Or.inl rfl) (fun ρ wρ Hρ hρ => ?_) ?_; rotate_left
      · have k_c := hρ.const; have k_67 : ρ (.tmp 67) = _ := hρ.dep 67 (by kernel_rfl); (go_simp <;> with_reducible rfl)
      intro vs wv Hv hv F
      have k_2 : vs 2 = _ := F 2 (by kernel_rfl)
      simp only [setAll, List.setIfInBounds_toArray, List.set_cons_zero, List.set_cons_succ, k_2]
      go_wp2_with fail
      go_meet
      exact ⟨rfl, ⟨hx.out.then_below hv.below⟩⟩
    case rest =>
      obtain ⟨rfl, hx9⟩ := hcut
      go_wp2_with fail
      go_ret
      exact ⟨rfl, hx9.out.below⟩
end Go.Proofs.Ytbnahmeaeakhhaa.B
