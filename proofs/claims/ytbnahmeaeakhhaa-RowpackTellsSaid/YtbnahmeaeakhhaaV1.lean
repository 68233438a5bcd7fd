/- rowpack.Check, by hand: tabErr. -/
import Derived.Test.YtbnahmeaeakhhaaProg
import Derived.Test.YtbnahmeaeakhhaaBd
import Derived.Test.YtbnahmeaeakhhaaVq
namespace Go.Proofs.Ytbnahmeaeakhhaa.B
set_option linter.unusedVariables false
set_option linter.unusedSimpArgs false
open Go Go.RowKit Go.Proofs.Ytbnahmeaeakhhaa.Q Classical
set_option maxRecDepth 100000 in
set_option maxHeartbeats 16000000 in
theorem check_any (H : PH) (st cols : Int) (acc base own nxt : List Int) (A1 A2 A3 A4 : Option Addr) (c1 c2 c3 c4 : Nat) (w : World) (h1 : SlR (kI .i64) H A1 acc.length c1 acc) (h2 : SlR (kI .i64) H A2 base.length c2 base) (h3 : SlR (kI .i64) H A3 own.length c3 own) (h4 : SlR (kI .i64) H A4 nxt.length c4 nxt) (hs : Sat w H) :
    Calls Try.prog 72 #[.agg #[.int .i64 st, .int .i64 cols, .slice A1 acc.length c1, .slice A2 base.length c2, .slice A3 own.length c3, .slice A4 nxt.length c4]] w fun e w' => e = .returned (.int .i64 (tabErr st cols acc base own nxt)) ∧ Below w.heap.size w w' := by
  have hx := Aside.mk (Ext.refl hs)
  replace h1 := Aside.mk h1
  replace h2 := Aside.mk h2
  replace h3 := Aside.mk h3
  replace h4 := Aside.mk h4
  go_enter Try.func72, Try.ntmps72
  go_upto_region 1 with (fail)
  have hszw := hx.out.size
  have kt_ : (w.alloc (.cells #[.int .i64 st, .int .i64 cols, .slice A1 acc.length c1, .slice A2 base.length c2, .slice A3 own.length c3, .slice A4 nxt.length c4] 85)).heap[w.heap.size]? = some (.cells #[.int .i64 st, .int .i64 cols, .slice A1 acc.length c1, .slice A2 base.length c2, .slice A3 own.length c3, .slice A4 nxt.length c4] 85) := (heap_alloc_new _ _)
  have nt := Aside.mk (fun o => hx.out.sat.new (b := w.heap.size) (show w.heap.size ≤ _ by omega) o)
  replace hx := Aside.mk ((hx.out.alloc (.cells #[.int .i64 st, .int .i64 cols, .slice A1 acc.length c1, .slice A2 base.length c2, .slice A3 own.length c3, .slice A4 nxt.length c4] 85)))
  generalize (w.alloc (.cells #[.int .i64 st, .int .i64 cols, .slice A1 acc.length c1, .slice A2 base.length c2, .slice A3 own.length c3, .slice A4 nxt.length c4] 85)) = W1 at *
  have kt := Aside.mk kt_
  clear kt_
  obtain ⟨H1, hx2, hle, Bt, hold⟩ := box_freeze hx.out (by omega) kt.out nt.out
  replace h1 := Aside.mk (h1.out.mono hle)
  replace h2 := Aside.mk (h2.out.mono hle)
  replace h3 := Aside.mk (h3.out.mono hle)
  replace h4 := Aside.mk (h4.out.mono hle)
  replace hx := Aside.mk hx2
  replace Bt := Aside.mk Bt
  clear hle hold hx2 kt nt
  by_cases a1 : (200 : Int) < base.length
  case pos =>
    have hte : tabErr st cols acc base own nxt = 2 := by unfold tabErr; rw [if_pos (by omega)]
    replace hte := Aside.mk hte
    have lqt : w.heap.size < W1.heap.size := hx.out.sat.lt (Bt.out 0 _ rfl)
    obtain ⟨ct0, ct1, ct2, ct3, ct4, ct5⟩ := hb6 hx.out.sat Bt.out
    go_wp2_with fail
    clear lqt ct0 ct1 ct2 ct3 ct4 ct5
    go_ret
    exact ⟨by rw [hte.out]; rfl, hx.out.below⟩
  case neg =>
    by_cases a2 : 16 < cols
    case pos =>
      have hte : tabErr st cols acc base own nxt = 2 := by unfold tabErr; rw [if_pos (by omega)]
      replace hte := Aside.mk hte
      have lqt : w.heap.size < W1.heap.size := hx.out.sat.lt (Bt.out 0 _ rfl)
      obtain ⟨ct0, ct1, ct2, ct3, ct4, ct5⟩ := hb6 hx.out.sat Bt.out
      go_wp2_with fail
      clear lqt ct0 ct1 ct2 ct3 ct4 ct5
      go_ret
      exact ⟨by rw [hte.out]; rfl, hx.out.below⟩
    case neg =>
      by_cases a3 : (3200 : Int) < own.length
      case pos =>
        have hte : tabErr st cols acc base own nxt = 2 := by unfold tabErr; rw [if_pos (by omega)]
        replace hte := Aside.mk hte
        have lqt : w.heap.size < W1.heap.size := hx.out.sat.lt (Bt.out 0 _ rfl)
        obtain ⟨ct0, ct1, ct2, ct3, ct4, ct5⟩ := hb6 hx.out.sat Bt.out
        go_wp2_with fail
        clear lqt ct0 ct1 ct2 ct3 ct4 ct5
        go_ret
        exact ⟨by rw [hte.out]; rfl, hx.out.below⟩
      case neg =>
        have lqt : w.heap.size < W1.heap.size := hx.out.sat.lt (Bt.out 0 _ rfl)
        obtain ⟨ct0, ct1, ct2, ct3, ct4, ct5⟩ := hb6 hx.out.sat Bt.out
        go_upto_region 4 with (fail)
        clear lqt ct0 ct1 ct2 ct3 ct4 ct5
        have a1_ : ¬ (200 : Int) < base.length := by omega
        have a2_ : ¬ 16 < cols := by omega
        have a3_ : ¬ (3200 : Int) < own.length := by omega
        clear a1 a2 a3
        have hA := Aside.mk (And.intro a1_ (And.intro a2_ a3_))
        clear a1_ a2_ a3_
        by_cases b1 : (base.length : Int) = 0
        case pos =>
          obtain rfl : base = [] := List.eq_nil_of_length_eq_zero (by omega)
          have hte : tabErr st cols acc [] own nxt = 3 := by have hA := hA.out; unfold tabErr; rw [if_neg (by omega), if_pos (by simp)]
          replace hte := Aside.mk hte
          clear b1
          have lqt : w.heap.size < W1.heap.size := hx.out.sat.lt (Bt.out 0 _ rfl)
          obtain ⟨ct0, ct1, ct2, ct3, ct4, ct5⟩ := hb6 hx.out.sat Bt.out
          go_wp2_with fail
          clear lqt ct0 ct1 ct2 ct3 ct4 ct5
          go_ret
          exact ⟨by rw [hte.out]; rfl, hx.out.below⟩
        case neg =>
          have qb1 : ((base.length : Int) == 0) = false := beq_eq_false_iff_ne.2 b1
          by_cases b2 : cols < 1
          case pos =>
            have hte : tabErr st cols acc base own nxt = 3 := by have hA := hA.out; unfold tabErr; rw [if_neg (by omega), if_pos (by omega)]
            replace hte := Aside.mk hte
            have lqt : w.heap.size < W1.heap.size := hx.out.sat.lt (Bt.out 0 _ rfl)
            obtain ⟨ct0, ct1, ct2, ct3, ct4, ct5⟩ := hb6 hx.out.sat Bt.out
            go_wp2_with fail
            clear lqt ct0 ct1 ct2 ct3 ct4 ct5
            go_ret
            exact ⟨by rw [hte.out]; rfl, hx.out.below⟩
          case neg =>
            by_cases b3 : (acc.length : Int) = base.length
            case neg =>
              have qb3 : ((acc.length : Int) == (base.length : Int)) = false := beq_eq_false_iff_ne.2 b3
              have hte : tabErr st cols acc base own nxt = 3 := by have hA := hA.out; unfold tabErr; rw [if_neg (by omega), if_pos (by omega)]
              replace hte := Aside.mk hte
              have lqt : w.heap.size < W1.heap.size := hx.out.sat.lt (Bt.out 0 _ rfl)
              obtain ⟨ct0, ct1, ct2, ct3, ct4, ct5⟩ := hb6 hx.out.sat Bt.out
              go_wp2_with fail
              clear lqt ct0 ct1 ct2 ct3 ct4 ct5
              go_ret
              exact ⟨by rw [hte.out]; rfl, hx.out.below⟩
            case pos =>
              have qb3 : ((acc.length : Int) == (base.length : Int)) = true := beq_iff_eq.2 b3
              by_cases b4 : (own.length : Int) = nxt.length
              case neg =>
                have qb4 : ((own.length : Int) == (nxt.length : Int)) = false := beq_eq_false_iff_ne.2 b4
                have hte : tabErr st cols acc base own nxt = 3 := by have hA := hA.out; unfold tabErr; rw [if_neg (by omega), if_pos (by omega)]
                replace hte := Aside.mk hte
                have lqt : w.heap.size < W1.heap.size := hx.out.sat.lt (Bt.out 0 _ rfl)
                obtain ⟨ct0, ct1, ct2, ct3, ct4, ct5⟩ := hb6 hx.out.sat Bt.out
                go_wp2_with fail
                clear lqt ct0 ct1 ct2 ct3 ct4 ct5
                go_ret
                exact ⟨by rw [hte.out]; rfl, hx.out.below⟩
              case pos =>
                have qb4 : ((own.length : Int) == (nxt.length : Int)) = true := beq_iff_eq.2 b4
                have hT : tabErr st cols acc base own nxt = if ¬ (0 ≤ st ∧ st < base.length ∧ rowsOk acc base 0) then 1 else slotErr cols base own nxt own.length 0 := by have hA := hA.out; unfold tabErr; rw [if_neg (by omega), if_neg (by omega)]
                replace hT := Aside.mk hT
                have e1 : acc.length = base.length := by omega
                have e2 : nxt.length = own.length := by omega
                have e3 : base.length ≤ 200 ∧ 0 < base.length ∧ own.length ≤ 3200 ∧ 1 ≤ cols ∧ cols ≤ 16 := by have hA := hA.out; omega
                replace e1 := Aside.mk e1
                replace e2 := Aside.mk e2
                have lqt : w.heap.size < W1.heap.size := hx.out.sat.lt (Bt.out 0 _ rfl)
                obtain ⟨ct0, ct1, ct2, ct3, ct4, ct5⟩ := hb6 hx.out.sat Bt.out
                go_upto_region 6 with (fail)
                clear lqt ct0 ct1 ct2 ct3 ct4 ct5
                clear b1 b2 b3 b4 qb1 qb3 qb4
                go_cut [4] (fun s4 wc => ∃ b : Bool, s4 = .bool b ∧ Aside (b = true ↔ (0 ≤ st ∧ st < base.length)) ∧ Aside (Ext H H1 w wc))
                case first =>
                  have lqt : w.heap.size < W1.heap.size := hx.out.sat.lt (Bt.out 0 _ rfl)
                  obtain ⟨ct0, ct1, ct2, ct3, ct4, ct5⟩ := hb6 hx.out.sat Bt.out
                  by_cases d1 : 0 ≤ st
                  case pos =>
                    by_cases d2 : st < base.length
                    case pos =>
                      go_wp2_with fail
                      go_meet
                      exact ⟨true, rfl, ⟨by simp [d1, d2]⟩, hx⟩
                    case neg =>
                      go_wp2_with fail
                      go_meet
                      exact ⟨false, rfl, ⟨by simp [d1, d2]⟩, hx⟩
                  case neg =>
                    go_wp2_with fail
                    go_meet
                    exact ⟨false, rfl, ⟨⟨fun h => (by cases h), fun h => by omega⟩⟩, hx⟩
                case rest =>
                  clear hx
                  obtain ⟨b0, rfl, hb0, hx⟩ := hcut
                  have lqt : w.heap.size < wc.heap.size := hx.out.sat.lt (Bt.out 0 _ rfl)
                  obtain ⟨ct0, ct1, ct2, ct3, ct4, ct5⟩ := hb6 hx.out.sat Bt.out
                  go_wp2_with fail
                  clear lqt ct0 ct1 ct2 ct3 ct4 ct5
                  go_loopw [4, 57] (fun s4 s57 wr => ∃ (k : Nat) (b : Bool) (Hk : PH), k ≤ base.length ∧ s4 = .bool b ∧ s57 = .int .i64 k ∧ Aside (b = true ↔ (0 ≤ st ∧ st < base.length) ∧ okUpto acc base k) ∧ Aside (Ext H Hk w wr) ∧ Aside (SlR (kI .i64) Hk A1 acc.length c1 acc) ∧ Aside (SlR (kI .i64) Hk A2 base.length c2 base) ∧ Aside (SlR (kI .i64) Hk A3 own.length c3 own) ∧ Aside (SlR (kI .i64) Hk A4 nxt.length c4 nxt) ∧ Aside (BoxH Hk (w.heap.size) [.int .i64 st, .int .i64 cols, .slice A1 acc.length c1, .slice A2 base.length c2, .slice A3 own.length c3, .slice A4 nxt.length c4])) (fun _ s57 _ => base.length - (intOf s57).toNat)
                  case atStart => exact ⟨0, b0, _, by omega, rfl, rfl, ⟨hb0.out.trans ⟨fun h => ⟨h, okUpto_zero _ _⟩, fun h => h.1⟩⟩, hx, h1, h2, h3, h4, Bt⟩
                  case round =>
                    clear hx h1 h2 h3 h4 Bt
                    obtain ⟨k, b, Hk, hk, rfl, rfl, hb, hx, h1, h2, h3, h4, Bt⟩ := hrel
                    by_cases hlt : k < base.length
                    case pos =>
                      have hli : (k : Int) < (base.length : Int) := by omega
                      have hla : (k : Int) < (acc.length : Int) := by have := e1.out; omega
                      obtain ⟨b5, o5, eA, hca⟩ := (h1.out.wr hx.out.sat).atD k (by have := e1.out; omega)
                      subst eA
                      obtain ⟨b6, o6, eA, hcb⟩ := (h2.out.wr hx.out.sat).atD k (hlt)
                      subst eA
                      have hst := okUpto_step (acc := acc) (base := base) (k := k)
                      generalize acc.getD k 0 = x at *
                      generalize base.getD k 0 = y at *
                      replace hst := Aside.mk hst
                      cases b with
                      | false =>
                        have lqt : w.heap.size < wr.heap.size := hx.out.sat.lt (Bt.out 0 _ rfl)
                        obtain ⟨ct0, ct1, ct2, ct3, ct4, ct5⟩ := hb6 hx.out.sat Bt.out
                        go_wp2_with fail
                        clear lqt ct0 ct1 ct2 ct3 ct4 ct5
                        go_roundw
                        case rel => exact ⟨k + 1, false, _, by omega, rfl, by go_num, ⟨⟨fun h => (by cases h), fun h => absurd (hb.out.2 ⟨h.1, (hst.out.1 h.2).1⟩) (by decide)⟩⟩, hx, h1, h2, h3, h4, Bt⟩
                        case measure => (first | (simp [intOf]; done) | (simp [intOf]; omega))
                      | true =>
                        by_cases x1 : -1 ≤ x
                        case neg =>
                          have lqt : w.heap.size < wr.heap.size := hx.out.sat.lt (Bt.out 0 _ rfl)
                          obtain ⟨ct0, ct1, ct2, ct3, ct4, ct5⟩ := hb6 hx.out.sat Bt.out
                          go_wp2_with fail
                          clear lqt ct0 ct1 ct2 ct3 ct4 ct5
                          go_roundw
                          case rel => exact ⟨k + 1, false, _, by omega, rfl, by go_num, ⟨⟨fun h => (by cases h), fun h => absurd (hst.out.1 h.2).2 (by omega)⟩⟩, hx, h1, h2, h3, h4, Bt⟩
                          case measure => (first | (simp [intOf]; done) | (simp [intOf]; omega))
                        case pos =>
                          by_cases x2 : 0 ≤ y
                          case neg =>
                            have lqt : w.heap.size < wr.heap.size := hx.out.sat.lt (Bt.out 0 _ rfl)
                            obtain ⟨ct0, ct1, ct2, ct3, ct4, ct5⟩ := hb6 hx.out.sat Bt.out
                            go_wp2_with fail
                            clear lqt ct0 ct1 ct2 ct3 ct4 ct5
                            go_roundw
                            case rel => exact ⟨k + 1, false, _, by omega, rfl, by go_num, ⟨⟨fun h => (by cases h), fun h => absurd (hst.out.1 h.2).2 (by omega)⟩⟩, hx, h1, h2, h3, h4, Bt⟩
                            case measure => (first | (simp [intOf]; done) | (simp [intOf]; omega))
                          case pos =>
                            by_cases x3 : y < 3200
                            case neg =>
                              have lqt : w.heap.size < wr.heap.size := hx.out.sat.lt (Bt.out 0 _ rfl)
                              obtain ⟨ct0, ct1, ct2, ct3, ct4, ct5⟩ := hb6 hx.out.sat Bt.out
                              go_wp2_with fail
                              clear lqt ct0 ct1 ct2 ct3 ct4 ct5
                              go_roundw
                              case rel => exact ⟨k + 1, false, _, by omega, rfl, by go_num, ⟨⟨fun h => (by cases h), fun h => absurd (hst.out.1 h.2).2 (by omega)⟩⟩, hx, h1, h2, h3, h4, Bt⟩
                              case measure => (first | (simp [intOf]; done) | (simp [intOf]; omega))
                            case pos =>
                              have lqt : w.heap.size < wr.heap.size := hx.out.sat.lt (Bt.out 0 _ rfl)
                              obtain ⟨ct0, ct1, ct2, ct3, ct4, ct5⟩ := hb6 hx.out.sat Bt.out
                              go_wp2_with fail
                              clear lqt ct0 ct1 ct2 ct3 ct4 ct5
                              go_roundw
                              case rel => exact ⟨k + 1, true, _, by omega, rfl, by go_num, ⟨⟨fun _ => ⟨(hb.out.1 rfl).1, hst.out.2 ⟨(hb.out.1 rfl).2, x1, x2, x3⟩⟩, fun _ => rfl⟩⟩, hx, h1, h2, h3, h4, Bt⟩
                              case measure => (first | (simp [intOf]; done) | (simp [intOf]; omega))
                    case neg =>
                      have hli : ¬ (k : Int) < (base.length : Int) := by omega
                      have hke : k = base.length := by omega
                      subst hke
                      cases b with
                      | false =>
                        have lqt : w.heap.size < wr.heap.size := hx.out.sat.lt (Bt.out 0 _ rfl)
                        obtain ⟨ct0, ct1, ct2, ct3, ct4, ct5⟩ := hb6 hx.out.sat Bt.out
                        go_wp2_with fail
                        clear lqt ct0 ct1 ct2 ct3 ct4 ct5
                        go_ret
                        exact ⟨by rw [hT.out, if_pos (fun h => absurd (hb.out.2 ⟨⟨h.1, h.2.1⟩, okUpto_all.1 h.2.2⟩) (by decide))]; rfl, hx.out.below⟩
                      | true =>
                        have hok := okUpto_all.2 (hb.out.1 rfl).2
                        replace hT := Aside.mk (hT.out.trans (if_neg (fun h => h ⟨(hb.out.1 rfl).1.1, (hb.out.1 rfl).1.2, hok⟩)))
                        replace hok := Aside.mk hok
                        clear hb hli
                        have lqt : w.heap.size < wr.heap.size := hx.out.sat.lt (Bt.out 0 _ rfl)
                        obtain ⟨ct0, ct1, ct2, ct3, ct4, ct5⟩ := hb6 hx.out.sat Bt.out
                        go_wp2_with fail
                        clear lqt ct0 ct1 ct2 ct3 ct4 ct5
                        go_loopw [91] (fun s91 wr => ∃ (i : Nat) (Hk : PH), i ≤ own.length ∧ s91 = .int .i64 i ∧ Aside (tabErr st cols acc base own nxt = slotErr cols base own nxt (own.length - i) i) ∧ Aside (Ext H Hk w wr) ∧ Aside (SlR (kI .i64) Hk A1 acc.length c1 acc) ∧ Aside (SlR (kI .i64) Hk A2 base.length c2 base) ∧ Aside (SlR (kI .i64) Hk A3 own.length c3 own) ∧ Aside (SlR (kI .i64) Hk A4 nxt.length c4 nxt) ∧ Aside (BoxH Hk (w.heap.size) [.int .i64 st, .int .i64 cols, .slice A1 acc.length c1, .slice A2 base.length c2, .slice A3 own.length c3, .slice A4 nxt.length c4])) (fun s91 _ => own.length - (intOf s91).toNat)
                        case atStart => exact ⟨0, _, by omega, rfl, ⟨by simpa using hT.out⟩, hx, h1, h2, h3, h4, Bt⟩
                        case round =>
                          clear hx h1 h2 h3 h4 Bt
                          obtain ⟨i, Hk, hi, rfl, hse, hx, h1, h2, h3, h4, Bt⟩ := hrel
                          by_cases hlt : i < own.length
                          case pos =>
                            have hli : (i : Int) < (own.length : Int) := by omega
                            have hln : (i : Int) < (nxt.length : Int) := by have := e2.out; omega
                            have hst := slotErr_step (cols := cols) (base := base) (own := own) (nxt := nxt) (n := own.length) hlt
                            rw [← hse.out] at hst
                            obtain ⟨b5, o5, eA, hca⟩ := (h3.out.wr hx.out.sat).atD i (hlt)
                            subst eA
                            obtain ⟨b6, o6, eA, hcb⟩ := (h4.out.wr hx.out.sat).atD i (by have := e2.out; omega)
                            subst eA
                            generalize own.getD i 0 = x at *
                            generalize nxt.getD i 0 = y at *
                            replace hst := Aside.mk hst
                            by_cases y1 : x < -1
                            case pos =>
                              have lqt : w.heap.size < wr.heap.size := hx.out.sat.lt (Bt.out 0 _ rfl)
                              obtain ⟨ct0, ct1, ct2, ct3, ct4, ct5⟩ := hb6 hx.out.sat Bt.out
                              go_wp2_with fail
                              clear lqt ct0 ct1 ct2 ct3 ct4 ct5
                              go_ret
                              exact ⟨by rw [hst.out, if_pos (by omega)]; rfl, hx.out.below⟩
                            case neg =>
                              by_cases y2 : (base.length : Int) ≤ x
                              case pos =>
                                have lqt : w.heap.size < wr.heap.size := hx.out.sat.lt (Bt.out 0 _ rfl)
                                obtain ⟨ct0, ct1, ct2, ct3, ct4, ct5⟩ := hb6 hx.out.sat Bt.out
                                go_wp2_with fail
                                clear lqt ct0 ct1 ct2 ct3 ct4 ct5
                                go_ret
                                exact ⟨by rw [hst.out, if_pos (by omega)]; rfl, hx.out.below⟩
                              case neg =>
                                by_cases y3 : y < -1
                                case pos =>
                                  have lqt : w.heap.size < wr.heap.size := hx.out.sat.lt (Bt.out 0 _ rfl)
                                  obtain ⟨ct0, ct1, ct2, ct3, ct4, ct5⟩ := hb6 hx.out.sat Bt.out
                                  go_wp2_with fail
                                  clear lqt ct0 ct1 ct2 ct3 ct4 ct5
                                  go_ret
                                  exact ⟨by rw [hst.out, if_pos (by omega)]; rfl, hx.out.below⟩
                                case neg =>
                                  by_cases y4 : (base.length : Int) ≤ y
                                  case pos =>
                                    have lqt : w.heap.size < wr.heap.size := hx.out.sat.lt (Bt.out 0 _ rfl)
                                    obtain ⟨ct0, ct1, ct2, ct3, ct4, ct5⟩ := hb6 hx.out.sat Bt.out
                                    go_wp2_with fail
                                    clear lqt ct0 ct1 ct2 ct3 ct4 ct5
                                    go_ret
                                    exact ⟨by rw [hst.out, if_pos (by omega)]; rfl, hx.out.below⟩
                                  case neg =>
                                    have hst2 := Aside.mk (hst.out.trans (if_neg (by omega)))
                                    by_cases y5 : x < 0
                                    case pos =>
                                      by_cases y6 : y < 0
                                      case pos =>
                                        have hse2 := hst2.out.trans (if_neg (by omega))
                                        have lqt : w.heap.size < wr.heap.size := hx.out.sat.lt (Bt.out 0 _ rfl)
                                        obtain ⟨ct0, ct1, ct2, ct3, ct4, ct5⟩ := hb6 hx.out.sat Bt.out
                                        go_wp2_with fail
                                        have pre0 : x < 0 := by omega
                                        have pre1 : ¬ 0 ≤ x := by omega
                                        have pre2 : y < 0 := by omega
                                        go_big_quiet (fail)
                                        clear pre0 pre1 pre2
                                        replace hx := Aside.mk (hx.out.drewN nq)
                                        go_wp2_with fail
                                        clear lqt ct0 ct1 ct2 ct3 ct4 ct5
                                        go_roundw
                                        case rel => exact ⟨i + 1, _, by omega, by go_num, ⟨hse2⟩, hx, h1, h2, h3, h4, Bt⟩
                                        case measure => (first | (simp [intOf]; done) | (simp [intOf]; omega))
                                      case neg =>
                                        have lqt : w.heap.size < wr.heap.size := hx.out.sat.lt (Bt.out 0 _ rfl)
                                        obtain ⟨ct0, ct1, ct2, ct3, ct4, ct5⟩ := hb6 hx.out.sat Bt.out
                                        go_wp2_with fail
                                        have pre0 : x < 0 := by omega
                                        have pre1 : ¬ 0 ≤ x := by omega
                                        have pre2 : ¬ y < 0 := by omega
                                        go_big_quiet (fail)
                                        clear pre0 pre1 pre2
                                        replace hx := Aside.mk (hx.out.drewN nq)
                                        go_wp2_with fail
                                        clear lqt ct0 ct1 ct2 ct3 ct4 ct5
                                        go_ret
                                        exact ⟨by rw [hst2.out, if_pos (by omega)]; rfl, hx.out.below⟩
                                    case neg =>
                                      by_cases y6 : y < 0
                                      case pos =>
                                        have lqt : w.heap.size < wr.heap.size := hx.out.sat.lt (Bt.out 0 _ rfl)
                                        obtain ⟨ct0, ct1, ct2, ct3, ct4, ct5⟩ := hb6 hx.out.sat Bt.out
                                        go_wp2_with fail
                                        have pre0 : ¬ x < 0 := by omega
                                        have pre1 : 0 ≤ x := by omega
                                        have pre2 : y < 0 := by omega
                                        go_big_quiet (fail)
                                        clear pre0 pre1 pre2
                                        replace hx := Aside.mk (hx.out.drewN nq)
                                        go_wp2_with fail
                                        clear lqt ct0 ct1 ct2 ct3 ct4 ct5
                                        go_ret
                                        exact ⟨by rw [hst2.out, if_pos (by omega)]; rfl, hx.out.below⟩
                                      case neg =>
                                        obtain ⟨m, hm⟩ : ∃ m : Nat, x = (m : Int) := ⟨x.toNat, by omega⟩
                                        subst hm
                                        have hml : (m : Int) < (base.length : Int) := by omega
                                        rw [Int.toNat_natCast] at hst2
                                        have hbd := hok.out m (Nat.zero_le _) (by omega)
                                        obtain ⟨b7, o7, eA, hcm⟩ := (h2.out.wr hx.out.sat).atD m (by omega)
                                        subst eA
                                        generalize base.getD m 0 = z at *
                                        have hw : IntKind.i64.wrap (z + cols) = z + cols := by rw [IntWalk.i64_in _ (by omega)]
                                        have hw2 : IntKind.i64.wrap ((i : Int) - z) = (i : Int) - z := by rw [IntWalk.i64_in _ (by omega)]
                                        by_cases z1 : (i : Int) < z
                                        case pos =>
                                          have lqt : w.heap.size < wr.heap.size := hx.out.sat.lt (Bt.out 0 _ rfl)
                                          obtain ⟨ct0, ct1, ct2, ct3, ct4, ct5⟩ := hb6 hx.out.sat Bt.out
                                          go_wp2_with fail
                                          have pre0 : ¬ (m : Int) < 0 := by omega
                                          have pre1 : 0 ≤ (m : Int) := by omega
                                          have pre2 : ¬ y < 0 := by omega
                                          have pre3 : (i : Int) < z := by omega
                                          go_big_quiet (fail)
                                          clear pre0 pre1 pre2 pre3
                                          replace hx := Aside.mk (hx.out.drewN nq)
                                          go_wp2_with fail
                                          clear lqt ct0 ct1 ct2 ct3 ct4 ct5
                                          go_ret
                                          exact ⟨by rw [hst2.out, if_pos (by omega)]; rfl, hx.out.below⟩
                                        case neg =>
                                          by_cases z2 : z + cols ≤ i
                                          case pos =>
                                            have lqt : w.heap.size < wr.heap.size := hx.out.sat.lt (Bt.out 0 _ rfl)
                                            obtain ⟨ct0, ct1, ct2, ct3, ct4, ct5⟩ := hb6 hx.out.sat Bt.out
                                            go_wp2_with fail
                                            have pre0 : ¬ (m : Int) < 0 := by omega
                                            have pre1 : 0 ≤ (m : Int) := by omega
                                            have pre2 : ¬ y < 0 := by omega
                                            have pre3 : ¬ (i : Int) < z := by omega
                                            have pre4 : z + cols ≤ i := by omega
                                            go_big_quiet (fail)
                                            clear pre0 pre1 pre2 pre3 pre4
                                            replace hx := Aside.mk (hx.out.drewN nq)
                                            go_wp2_with fail
                                            clear lqt ct0 ct1 ct2 ct3 ct4 ct5
                                            go_ret
                                            exact ⟨by rw [hst2.out, if_pos (by omega)]; rfl, hx.out.below⟩
                                          case neg =>
                                            have hse2 := hst2.out.trans (if_neg (by omega))
                                            have lqt : w.heap.size < wr.heap.size := hx.out.sat.lt (Bt.out 0 _ rfl)
                                            obtain ⟨ct0, ct1, ct2, ct3, ct4, ct5⟩ := hb6 hx.out.sat Bt.out
                                            go_wp2_with fail
                                            have pre0 : ¬ (m : Int) < 0 := by omega
                                            have pre1 : 0 ≤ (m : Int) := by omega
                                            have pre2 : ¬ y < 0 := by omega
                                            have pre3 : ¬ (i : Int) < z := by omega
                                            have pre4 : ¬ z + cols ≤ i := by omega
                                            go_big_quiet (fail)
                                            clear pre0 pre1 pre2 pre3 pre4
                                            replace hx := Aside.mk (hx.out.drewN nq)
                                            go_wp2_with fail
                                            clear lqt ct0 ct1 ct2 ct3 ct4 ct5
                                            go_roundw
                                            case rel => exact ⟨i + 1, _, by omega, by go_num, ⟨hse2⟩, hx, h1, h2, h3, h4, Bt⟩
                                            case measure => (first | (simp [intOf]; done) | (simp [intOf]; omega))
                          case neg =>
                            have hli : ¬ (i : Int) < (own.length : Int) := by omega
                            have hie : i = own.length := by omega
                            subst hie
                            have lqt : w.heap.size < wr.heap.size := hx.out.sat.lt (Bt.out 0 _ rfl)
                            obtain ⟨ct0, ct1, ct2, ct3, ct4, ct5⟩ := hb6 hx.out.sat Bt.out
                            go_wp2_with fail
                            clear lqt ct0 ct1 ct2 ct3 ct4 ct5
                            go_ret
                            exact ⟨by rw [hse.out, Nat.sub_self, slotErr]; rfl, hx.out.below⟩
end Go.Proofs.Ytbnahmeaeakhhaa.B
