/- The reference's TableEqual, rowpack.At, by hand. -/
import Derived.Test.YtbnahmeaeakhhaaV1
import Derived.Test.YtbnahmeaeakhhaaV5
namespace Go.Proofs.Ytbnahmeaeakhhaa.B
set_option linter.unusedVariables false
set_option linter.unusedSimpArgs false
open Go Go.RowKit Go.Proofs.Ytbnahmeaeakhhaa.Q Classical
noncomputable def dB (p : Prop) : Bool := decide p
theorem dB_t {p : Prop} (h : p) : Ending.returned (.bool (dB p)) = .returned (.bool true) := retT h
theorem dB_f {p : Prop} (h : ¬ p) : Ending.returned (.bool (dB p)) = .returned (.bool false) := retF h
set_option maxRecDepth 100000 in
set_option maxHeartbeats 16000000 in
theorem tabEq_hand (H : PH) (st cols : Int) (acc base own nxt : List Int) (A1 A2 A3 A4 : Option Addr) (c1 c2 c3 c4 : Nat) (st' cols' : Int) (acc' base' own' nxt' : List Int) (B1 B2 B3 B4 : Option Addr) (d1 d2 d3 d4 : Nat) (w : World) (h1 : SlR (kI .i64) H A1 acc.length c1 acc) (h2 : SlR (kI .i64) H A2 base.length c2 base) (h3 : SlR (kI .i64) H A3 own.length c3 own) (h4 : SlR (kI .i64) H A4 nxt.length c4 nxt) (g1 : SlR (kI .i64) H B1 acc'.length d1 acc') (g2 : SlR (kI .i64) H B2 base'.length d2 base') (g3 : SlR (kI .i64) H B3 own'.length d3 own') (g4 : SlR (kI .i64) H B4 nxt'.length d4 nxt') (hs : Sat w H) :
    Calls Try.prog 58 #[.agg #[.int .i64 st, .int .i64 cols, .slice A1 acc.length c1, .slice A2 base.length c2, .slice A3 own.length c3, .slice A4 nxt.length c4], .agg #[.int .i64 st', .int .i64 cols', .slice B1 acc'.length d1, .slice B2 base'.length d2, .slice B3 own'.length d3, .slice B4 nxt'.length d4]] w fun e w' => e = .returned (.bool (dB (st = st' ∧ cols = cols' ∧ acc = acc' ∧ base = base' ∧ own = own' ∧ nxt = nxt'))) ∧ Below w.heap.size w w' := by
  have hx := Aside.mk (Ext.refl hs)
  replace h1 := Aside.mk h1
  replace h2 := Aside.mk h2
  replace h3 := Aside.mk h3
  replace h4 := Aside.mk h4
  replace g1 := Aside.mk g1
  replace g2 := Aside.mk g2
  replace g3 := Aside.mk g3
  replace g4 := Aside.mk g4
  go_enter Try.func58, Try.ntmps58
  go_upto_region 1 with (fail)
  have hszw := hx.out.size
  have kt_ : ((w.alloc (.cells #[.int .i64 st, .int .i64 cols, .slice A1 acc.length c1, .slice A2 base.length c2, .slice A3 own.length c3, .slice A4 nxt.length c4] 85)).alloc (.cells #[.int .i64 st', .int .i64 cols', .slice B1 acc'.length d1, .slice B2 base'.length d2, .slice B3 own'.length d3, .slice B4 nxt'.length d4] 85)).heap[w.heap.size]? = some (.cells #[.int .i64 st, .int .i64 cols, .slice A1 acc.length c1, .slice A2 base.length c2, .slice A3 own.length c3, .slice A4 nxt.length c4] 85) := (boxA (heap_alloc_new _ _) (.cells #[.int .i64 st', .int .i64 cols', .slice B1 acc'.length d1, .slice B2 base'.length d2, .slice B3 own'.length d3, .slice B4 nxt'.length d4] 85))
  have ku_ : ((w.alloc (.cells #[.int .i64 st, .int .i64 cols, .slice A1 acc.length c1, .slice A2 base.length c2, .slice A3 own.length c3, .slice A4 nxt.length c4] 85)).alloc (.cells #[.int .i64 st', .int .i64 cols', .slice B1 acc'.length d1, .slice B2 base'.length d2, .slice B3 own'.length d3, .slice B4 nxt'.length d4] 85)).heap[w.heap.size + 1]? = some (.cells #[.int .i64 st', .int .i64 cols', .slice B1 acc'.length d1, .slice B2 base'.length d2, .slice B3 own'.length d3, .slice B4 nxt'.length d4] 85) := (by rw [show w.heap.size + 1 = ((w.alloc (.cells #[.int .i64 st, .int .i64 cols, .slice A1 acc.length c1, .slice A2 base.length c2, .slice A3 own.length c3, .slice A4 nxt.length c4] 85))).heap.size by simp]; exact heap_alloc_new _ _)
  have nt := Aside.mk (fun o => hx.out.sat.new (b := w.heap.size) (show w.heap.size ≤ _ by omega) o)
  have nu := Aside.mk (fun o => hx.out.sat.new (b := w.heap.size + 1) (show w.heap.size ≤ _ by omega) o)
  replace hx := Aside.mk (((hx.out.alloc (.cells #[.int .i64 st, .int .i64 cols, .slice A1 acc.length c1, .slice A2 base.length c2, .slice A3 own.length c3, .slice A4 nxt.length c4] 85)).alloc (.cells #[.int .i64 st', .int .i64 cols', .slice B1 acc'.length d1, .slice B2 base'.length d2, .slice B3 own'.length d3, .slice B4 nxt'.length d4] 85)))
  generalize ((w.alloc (.cells #[.int .i64 st, .int .i64 cols, .slice A1 acc.length c1, .slice A2 base.length c2, .slice A3 own.length c3, .slice A4 nxt.length c4] 85)).alloc (.cells #[.int .i64 st', .int .i64 cols', .slice B1 acc'.length d1, .slice B2 base'.length d2, .slice B3 own'.length d3, .slice B4 nxt'.length d4] 85)) = W1 at *
  have kt := Aside.mk kt_
  clear kt_
  have ku := Aside.mk ku_
  clear ku_
  obtain ⟨H1, hx2, hle, Bt, hold⟩ := box_freeze hx.out (by omega) kt.out nt.out
  replace h1 := Aside.mk (h1.out.mono hle)
  replace h2 := Aside.mk (h2.out.mono hle)
  replace h3 := Aside.mk (h3.out.mono hle)
  replace h4 := Aside.mk (h4.out.mono hle)
  replace g1 := Aside.mk (g1.out.mono hle)
  replace g2 := Aside.mk (g2.out.mono hle)
  replace g3 := Aside.mk (g3.out.mono hle)
  replace g4 := Aside.mk (g4.out.mono hle)
  replace nu := Aside.mk (fun o => (hold _ o (by omega)).trans (nu.out o))
  replace hx := Aside.mk hx2
  replace Bt := Aside.mk Bt
  clear hle hold hx2 kt nt
  obtain ⟨H1, hx2, hle, Bu, hold⟩ := box_freeze hx.out (by omega) ku.out nu.out
  replace h1 := Aside.mk (h1.out.mono hle)
  replace h2 := Aside.mk (h2.out.mono hle)
  replace h3 := Aside.mk (h3.out.mono hle)
  replace h4 := Aside.mk (h4.out.mono hle)
  replace g1 := Aside.mk (g1.out.mono hle)
  replace g2 := Aside.mk (g2.out.mono hle)
  replace g3 := Aside.mk (g3.out.mono hle)
  replace g4 := Aside.mk (g4.out.mono hle)
  replace Bt := Aside.mk (Bt.out.mono hle)
  replace hx := Aside.mk hx2
  replace Bu := Aside.mk Bu
  clear hle hold hx2 ku nu
  by_cases e0 : st = st'
  case neg =>
    have q0 : (st == st') = false := beq_eq_false_iff_ne.2 e0
    replace e0 := Aside.mk e0
    have lqt : w.heap.size < W1.heap.size := hx.out.sat.lt (Bt.out 0 _ rfl)
    obtain ⟨ct0, ct1, ct2, ct3, ct4, ct5⟩ := hb6 hx.out.sat Bt.out
    have lqu : w.heap.size + 1 < W1.heap.size := hx.out.sat.lt (Bu.out 0 _ rfl)
    obtain ⟨cu0, cu1, cu2, cu3, cu4, cu5⟩ := hb6 hx.out.sat Bu.out
    go_wp2_with fail
    clear lqt ct0 ct1 ct2 ct3 ct4 ct5 lqu cu0 cu1 cu2 cu3 cu4 cu5
    go_ret
    exact ⟨(dB_f (fun h => e0.out h.1)).symm, hx.out.below⟩
  case pos =>
    have q0 : (st == st') = true := beq_iff_eq.2 e0
    replace e0 := Aside.mk e0
    by_cases e1 : cols = cols'
    case neg =>
      have q1 : (cols == cols') = false := beq_eq_false_iff_ne.2 e1
      replace e1 := Aside.mk e1
      have lqt : w.heap.size < W1.heap.size := hx.out.sat.lt (Bt.out 0 _ rfl)
      obtain ⟨ct0, ct1, ct2, ct3, ct4, ct5⟩ := hb6 hx.out.sat Bt.out
      have lqu : w.heap.size + 1 < W1.heap.size := hx.out.sat.lt (Bu.out 0 _ rfl)
      obtain ⟨cu0, cu1, cu2, cu3, cu4, cu5⟩ := hb6 hx.out.sat Bu.out
      go_wp2_with fail
      clear lqt ct0 ct1 ct2 ct3 ct4 ct5 lqu cu0 cu1 cu2 cu3 cu4 cu5
      go_ret
      exact ⟨(dB_f (fun h => e1.out h.2.1)).symm, hx.out.below⟩
    case pos =>
      have q1 : (cols == cols') = true := beq_iff_eq.2 e1
      replace e1 := Aside.mk e1
      have lqt : w.heap.size < W1.heap.size := hx.out.sat.lt (Bt.out 0 _ rfl)
      obtain ⟨ct0, ct1, ct2, ct3, ct4, ct5⟩ := hb6 hx.out.sat Bt.out
      have lqu : w.heap.size + 1 < W1.heap.size := hx.out.sat.lt (Bu.out 0 _ rfl)
      obtain ⟨cu0, cu1, cu2, cu3, cu4, cu5⟩ := hb6 hx.out.sat Bu.out
      go_wp2_with fail
      clear lqt ct0 ct1 ct2 ct3 ct4 ct5 lqu cu0 cu1 cu2 cu3 cu4 cu5
      clear q0 q1
      refine (intsEq_hand _ _ _ _ _ _ _ _ h1.out g1.out hx.out.sat).mono ?_
      rintro e w2 ⟨he, hb9⟩
      replace hx := Aside.mk (hx.out.then_below hb9)
      clear hb9
      by_cases e2 : acc = acc'
      case neg =>
        obtain rfl : e = .returned (.bool false) := he.trans (retF e2)
        replace e2 := Aside.mk e2
        clear he
        have lqt : w.heap.size < w2.heap.size := hx.out.sat.lt (Bt.out 0 _ rfl)
        obtain ⟨ct0, ct1, ct2, ct3, ct4, ct5⟩ := hb6 hx.out.sat Bt.out
        have lqu : w.heap.size + 1 < w2.heap.size := hx.out.sat.lt (Bu.out 0 _ rfl)
        obtain ⟨cu0, cu1, cu2, cu3, cu4, cu5⟩ := hb6 hx.out.sat Bu.out
        go_wp2_with fail
        clear lqt ct0 ct1 ct2 ct3 ct4 ct5 lqu cu0 cu1 cu2 cu3 cu4 cu5
        go_ret
        exact ⟨(dB_f (fun h => e2.out h.2.2.1)).symm, hx.out.below⟩
      case pos =>
        obtain rfl : e = .returned (.bool true) := he.trans (retT e2)
        replace e2 := Aside.mk e2
        clear he
        have lqt : w.heap.size < w2.heap.size := hx.out.sat.lt (Bt.out 0 _ rfl)
        obtain ⟨ct0, ct1, ct2, ct3, ct4, ct5⟩ := hb6 hx.out.sat Bt.out
        have lqu : w.heap.size + 1 < w2.heap.size := hx.out.sat.lt (Bu.out 0 _ rfl)
        obtain ⟨cu0, cu1, cu2, cu3, cu4, cu5⟩ := hb6 hx.out.sat Bu.out
        go_wp2_with fail
        clear lqt ct0 ct1 ct2 ct3 ct4 ct5 lqu cu0 cu1 cu2 cu3 cu4 cu5
        refine (intsEq_hand _ _ _ _ _ _ _ _ h2.out g2.out hx.out.sat).mono ?_
        rintro e w3 ⟨he, hb9⟩
        replace hx := Aside.mk (hx.out.then_below hb9)
        clear hb9
        by_cases e3 : base = base'
        case neg =>
          obtain rfl : e = .returned (.bool false) := he.trans (retF e3)
          replace e3 := Aside.mk e3
          clear he
          have lqt : w.heap.size < w3.heap.size := hx.out.sat.lt (Bt.out 0 _ rfl)
          obtain ⟨ct0, ct1, ct2, ct3, ct4, ct5⟩ := hb6 hx.out.sat Bt.out
          have lqu : w.heap.size + 1 < w3.heap.size := hx.out.sat.lt (Bu.out 0 _ rfl)
          obtain ⟨cu0, cu1, cu2, cu3, cu4, cu5⟩ := hb6 hx.out.sat Bu.out
          go_wp2_with fail
          clear lqt ct0 ct1 ct2 ct3 ct4 ct5 lqu cu0 cu1 cu2 cu3 cu4 cu5
          go_ret
          exact ⟨(dB_f (fun h => e3.out h.2.2.2.1)).symm, hx.out.below⟩
        case pos =>
          obtain rfl : e = .returned (.bool true) := he.trans (retT e3)
          replace e3 := Aside.mk e3
          clear he
          have lqt : w.heap.size < w3.heap.size := hx.out.sat.lt (Bt.out 0 _ rfl)
          obtain ⟨ct0, ct1, ct2, ct3, ct4, ct5⟩ := hb6 hx.out.sat Bt.out
          have lqu : w.heap.size + 1 < w3.heap.size := hx.out.sat.lt (Bu.out 0 _ rfl)
          obtain ⟨cu0, cu1, cu2, cu3, cu4, cu5⟩ := hb6 hx.out.sat Bu.out
          go_wp2_with fail
          clear lqt ct0 ct1 ct2 ct3 ct4 ct5 lqu cu0 cu1 cu2 cu3 cu4 cu5
          refine (intsEq_hand _ _ _ _ _ _ _ _ h3.out g3.out hx.out.sat).mono ?_
          rintro e w4 ⟨he, hb9⟩
          replace hx := Aside.mk (hx.out.then_below hb9)
          clear hb9
          by_cases e4 : own = own'
          case neg =>
            obtain rfl : e = .returned (.bool false) := he.trans (retF e4)
            replace e4 := Aside.mk e4
            clear he
            have lqt : w.heap.size < w4.heap.size := hx.out.sat.lt (Bt.out 0 _ rfl)
            obtain ⟨ct0, ct1, ct2, ct3, ct4, ct5⟩ := hb6 hx.out.sat Bt.out
            have lqu : w.heap.size + 1 < w4.heap.size := hx.out.sat.lt (Bu.out 0 _ rfl)
            obtain ⟨cu0, cu1, cu2, cu3, cu4, cu5⟩ := hb6 hx.out.sat Bu.out
            go_wp2_with fail
            clear lqt ct0 ct1 ct2 ct3 ct4 ct5 lqu cu0 cu1 cu2 cu3 cu4 cu5
            go_ret
            exact ⟨(dB_f (fun h => e4.out h.2.2.2.2.1)).symm, hx.out.below⟩
          case pos =>
            obtain rfl : e = .returned (.bool true) := he.trans (retT e4)
            replace e4 := Aside.mk e4
            clear he
            have lqt : w.heap.size < w4.heap.size := hx.out.sat.lt (Bt.out 0 _ rfl)
            obtain ⟨ct0, ct1, ct2, ct3, ct4, ct5⟩ := hb6 hx.out.sat Bt.out
            have lqu : w.heap.size + 1 < w4.heap.size := hx.out.sat.lt (Bu.out 0 _ rfl)
            obtain ⟨cu0, cu1, cu2, cu3, cu4, cu5⟩ := hb6 hx.out.sat Bu.out
            go_wp2_with fail
            clear lqt ct0 ct1 ct2 ct3 ct4 ct5 lqu cu0 cu1 cu2 cu3 cu4 cu5
            refine (intsEq_hand _ _ _ _ _ _ _ _ h4.out g4.out hx.out.sat).mono ?_
            rintro e w5 ⟨he, hb9⟩
            replace hx := Aside.mk (hx.out.then_below hb9)
            clear hb9
            by_cases e5 : nxt = nxt'
            case neg =>
              obtain rfl : e = .returned (.bool false) := he.trans (retF e5)
              replace e5 := Aside.mk e5
              clear he
              have lqt : w.heap.size < w5.heap.size := hx.out.sat.lt (Bt.out 0 _ rfl)
              obtain ⟨ct0, ct1, ct2, ct3, ct4, ct5⟩ := hb6 hx.out.sat Bt.out
              have lqu : w.heap.size + 1 < w5.heap.size := hx.out.sat.lt (Bu.out 0 _ rfl)
              obtain ⟨cu0, cu1, cu2, cu3, cu4, cu5⟩ := hb6 hx.out.sat Bu.out
              go_wp2_with fail
              clear lqt ct0 ct1 ct2 ct3 ct4 ct5 lqu cu0 cu1 cu2 cu3 cu4 cu5
              go_ret
              exact ⟨(dB_f (fun h => e5.out h.2.2.2.2.2)).symm, hx.out.below⟩
            case pos =>
              obtain rfl : e = .returned (.bool true) := he.trans (retT e5)
              replace e5 := Aside.mk e5
              clear he
              have lqt : w.heap.size < w5.heap.size := hx.out.sat.lt (Bt.out 0 _ rfl)
              obtain ⟨ct0, ct1, ct2, ct3, ct4, ct5⟩ := hb6 hx.out.sat Bt.out
              have lqu : w.heap.size + 1 < w5.heap.size := hx.out.sat.lt (Bu.out 0 _ rfl)
              obtain ⟨cu0, cu1, cu2, cu3, cu4, cu5⟩ := hb6 hx.out.sat Bu.out
              go_wp2_with fail
              clear lqt ct0 ct1 ct2 ct3 ct4 ct5 lqu cu0 cu1 cu2 cu3 cu4 cu5
              go_ret
              exact ⟨(dB_t ⟨e0.out, e1.out, e2.out, e3.out, e4.out, e5.out⟩).symm, hx.out.below⟩
noncomputable def atP (st cols : Int) (acc base own nxt : List Int) (s c : Int) : Int × Int := if tabErr st cols acc base own nxt ≠ 0 then (0, tabErr st cols acc base own nxt) else if s < 0 ∨ (base.length : Int) ≤ s ∨ c < 0 ∨ cols ≤ c then (0, 1) else (entF base own nxt s c, 0)
set_option maxRecDepth 100000 in
set_option maxHeartbeats 16000000 in
theorem At_hand (H : PH) (st cols : Int) (acc base own nxt : List Int) (A1 A2 A3 A4 : Option Addr) (c1 c2 c3 c4 : Nat) (s c : Int) (w : World) (h1 : SlR (kI .i64) H A1 acc.length c1 acc) (h2 : SlR (kI .i64) H A2 base.length c2 base) (h3 : SlR (kI .i64) H A3 own.length c3 own) (h4 : SlR (kI .i64) H A4 nxt.length c4 nxt) (hs : Sat w H) :
    Calls Try.prog 56 #[.agg #[.int .i64 st, .int .i64 cols, .slice A1 acc.length c1, .slice A2 base.length c2, .slice A3 own.length c3, .slice A4 nxt.length c4], .int .i64 s, .int .i64 c] w fun e w' => e = .returned (.tuple #[.int .i64 (atP st cols acc base own nxt s c).1, .int .i64 (atP st cols acc base own nxt s c).2]) ∧ Below w.heap.size w w' := by
  have hx := Aside.mk (Ext.refl hs)
  replace h1 := Aside.mk h1
  replace h2 := Aside.mk h2
  replace h3 := Aside.mk h3
  replace h4 := Aside.mk h4
  go_enter Try.func56, Try.ntmps56
  go_upto_region 1 with (fail)
  have hszw := hx.out.size
  have kt_ : (w.alloc (.cells #[.int .i64 st, .int .i64 cols, .slice A1 acc.length c1, .slice A2 base.length c2, .slice A3 own.length c3, .slice A4 nxt.length c4] 85)).heap[w.heap.size]? = some (.cells #[.int .i64 st, .int .i64 cols, .slice A1 acc.length c1, .slice A2 base.length c2, .slice A3 own.length c3, .slice A4 nxt.length c4] 85) := (heap_alloc_new _ _)
  have nt := Aside.mk (fun o => hx.out.sat.new (b := w.heap.size) (show w.heap.size ≤ _ by omega) o)
  replace hx := Aside.mk ((hx.out.alloc (.cells #[.int .i64 st, .int .i64 cols, .slice A1 acc.length c1, .slice A2 base.length c2, .slice A3 own.length c3, .slice A4 nxt.length c4] 85)))
  generalize (w.alloc (.cells #[.int .i64 st, .int .i64 cols, .slice A1 acc.length c1, .slice A2 base.length c2, .slice A3 own.length c3, .slice A4 nxt.length c4] 85)) = W1 at *
  have kt := Aside.mk kt_
  clear kt_
  obtain ⟨H1, hx2, hle, Bt, hold⟩ := box_freeze hx.out (by omega) kt.out nt.out
  replace h1 := Aside.mk (h1.out.mono hle)
  replace h2 := Aside.mk (h2.out.mono hle)
  replace h3 := Aside.mk (h3.out.mono hle)
  replace h4 := Aside.mk (h4.out.mono hle)
  replace hx := Aside.mk hx2
  replace Bt := Aside.mk Bt
  clear hle hold hx2 kt nt
  have lqt : w.heap.size < W1.heap.size := hx.out.sat.lt (Bt.out 0 _ rfl)
  obtain ⟨ct0, ct1, ct2, ct3, ct4, ct5⟩ := hb6 hx.out.sat Bt.out
  go_wp2_with fail
  clear lqt ct0 ct1 ct2 ct3 ct4 ct5
  have hsz := hx.out.size
  refine (check_any _ st cols acc base own nxt _ _ _ _ _ _ _ _ _ h1.out h2.out h3.out h4.out hx.out.sat).mono ?_
  rintro e w1 ⟨rfl, hb9⟩
  replace hx := Aside.mk (hx.out.then_below hb9)
  clear hb9
  have hA : atP st cols acc base own nxt s c = if tabErr st cols acc base own nxt ≠ 0 then (0, tabErr st cols acc base own nxt) else if s < 0 ∨ (base.length : Int) ≤ s ∨ c < 0 ∨ cols ≤ c then (0, 1) else (entF base own nxt s c, 0) := rfl
  have hok := fun h => tabErr_ok (st := st) (cols := cols) (acc := acc) (base := base) (own := own) (nxt := nxt) h
  generalize tabErr st cols acc base own nxt = te at *
  replace hA := Aside.mk hA
  replace hok := Aside.mk hok
  by_cases x0 : te = 0
  case neg =>
    have hv := Aside.mk (hA.out.trans (if_pos x0))
    have q0 : (te == 0) = false := beq_eq_false_iff_ne.2 x0
    have q0n : (te != 0) = true := bne_iff_ne.2 x0
    clear x0
    have lqt : w.heap.size < w1.heap.size := hx.out.sat.lt (Bt.out 0 _ rfl)
    obtain ⟨ct0, ct1, ct2, ct3, ct4, ct5⟩ := hb6 hx.out.sat Bt.out
    go_wp2_with fail
    clear lqt ct0 ct1 ct2 ct3 ct4 ct5
    go_ret2
    exact ⟨by rw [hv.out]; rfl, hx.out.below⟩
  case pos =>
    subst x0
    have ok := Aside.mk (hok.out rfl)
    replace hA := Aside.mk (hA.out.trans (if_neg (fun h => h rfl)))
    have lqt : w.heap.size < w1.heap.size := hx.out.sat.lt (Bt.out 0 _ rfl)
    obtain ⟨ct0, ct1, ct2, ct3, ct4, ct5⟩ := hb6 hx.out.sat Bt.out
    go_upto_region 4 with (fail)
    clear lqt ct0 ct1 ct2 ct3 ct4 ct5
    by_cases q1 : s < 0
    case pos =>
      have hv := Aside.mk (hA.out.trans (if_pos (Or.inl q1)))
      have lqt : w.heap.size < w1.heap.size := hx.out.sat.lt (Bt.out 0 _ rfl)
      obtain ⟨ct0, ct1, ct2, ct3, ct4, ct5⟩ := hb6 hx.out.sat Bt.out
      go_wp2_with fail
      clear lqt ct0 ct1 ct2 ct3 ct4 ct5
      go_ret2
      exact ⟨by rw [hv.out]; rfl, hx.out.below⟩
    case neg =>
      by_cases q2 : (base.length : Int) ≤ s
      case pos =>
        have hv := Aside.mk (hA.out.trans (if_pos (Or.inr (Or.inl q2))))
        have lqt : w.heap.size < w1.heap.size := hx.out.sat.lt (Bt.out 0 _ rfl)
        obtain ⟨ct0, ct1, ct2, ct3, ct4, ct5⟩ := hb6 hx.out.sat Bt.out
        go_wp2_with fail
        clear lqt ct0 ct1 ct2 ct3 ct4 ct5
        go_ret2
        exact ⟨by rw [hv.out]; rfl, hx.out.below⟩
      case neg =>
        by_cases q3 : c < 0
        case pos =>
          have hv := Aside.mk (hA.out.trans (if_pos (Or.inr (Or.inr (Or.inl q3)))))
          have lqt : w.heap.size < w1.heap.size := hx.out.sat.lt (Bt.out 0 _ rfl)
          obtain ⟨ct0, ct1, ct2, ct3, ct4, ct5⟩ := hb6 hx.out.sat Bt.out
          go_wp2_with fail
          clear lqt ct0 ct1 ct2 ct3 ct4 ct5
          go_ret2
          exact ⟨by rw [hv.out]; rfl, hx.out.below⟩
        case neg =>
          by_cases q4 : cols ≤ c
          case pos =>
            have hv := Aside.mk (hA.out.trans (if_pos (Or.inr (Or.inr (Or.inr q4)))))
            have lqt : w.heap.size < w1.heap.size := hx.out.sat.lt (Bt.out 0 _ rfl)
            obtain ⟨ct0, ct1, ct2, ct3, ct4, ct5⟩ := hb6 hx.out.sat Bt.out
            go_wp2_with fail
            clear lqt ct0 ct1 ct2 ct3 ct4 ct5
            go_ret2
            exact ⟨by rw [hv.out]; rfl, hx.out.below⟩
          case neg =>
            have hv := Aside.mk (hA.out.trans (if_neg (by rintro (h | h | h | h); exact q1 h; exact q2 h; exact q3 h; exact q4 h)))
            have hr := Aside.mk (And.intro (show 0 ≤ s ∧ s < base.length by omega) (show 0 ≤ c ∧ c < cols by omega))
            have lqt : w.heap.size < w1.heap.size := hx.out.sat.lt (Bt.out 0 _ rfl)
            obtain ⟨ct0, ct1, ct2, ct3, ct4, ct5⟩ := hb6 hx.out.sat Bt.out
            go_wp2_with fail
            clear lqt ct0 ct1 ct2 ct3 ct4 ct5
            refine (at_hand _ st cols acc base own nxt _ _ _ _ _ _ _ _ s c _ h1.out h2.out h3.out h4.out hx.out.sat ok.out.2.2.2.2.2.2.2.2.2.1 ok.out.2.2.2.2.2.2.1 ok.out.2.2.2.2.1 hr.out.1.1 hr.out.1.2 hr.out.2.1 (by have := ok.out.2.2.2.1; have := hr.out.2.2; omega)).mono ?_
            rintro e w2 ⟨rfl, hb9⟩
            replace hx := Aside.mk (hx.out.then_below hb9)
            clear hb9
            go_wp2_with fail
            go_ret2
            exact ⟨by rw [hv.out]; rfl, hx.out.below⟩
end Go.Proofs.Ytbnahmeaeakhhaa.B
