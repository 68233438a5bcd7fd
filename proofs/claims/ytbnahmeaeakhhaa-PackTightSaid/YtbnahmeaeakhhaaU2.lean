/- Contracts: slices.Equal over numbers, slices.EqualFunc over rows; parlkeep1.equal, even, good. -/
import Derived.Test.YtbnahmeaeakhhaaT7
namespace Go.Proofs.Ytbnahmeaeakhhaa.B
set_option linter.unusedVariables false
set_option linter.unusedSimpArgs false
open Go Go.RowKit Go.Proofs.Ytbnahmeaeakhhaa.Q Classical
set_option maxRecDepth 100000 in
set_option maxHeartbeats 8000000 in
theorem eqInts_any (H : PH) (a b : List Int) (A1 A2 : Option Addr) (c1 c2 : Nat) (w : World) (h1 : SlR (kI .i64) H A1 a.length c1 a) (h2 : SlR (kI .i64) H A2 b.length c2 b) (hs : Sat w H) :
    Calls Try.prog 129 #[.slice A1 a.length c1, .slice A2 b.length c2] w fun e w' => e = .returned (.bool (decide (a = b))) ∧ Below w.heap.size w w' := by
  have hx := Aside.mk (Ext.refl hs)
  replace h1 := Aside.mk h1
  replace h2 := Aside.mk h2
  go_enter Try.func129, Try.ntmps129
  by_cases hl : (a.length : Int) = b.length
  case neg =>
    have q1 : ((a.length : Int) == (b.length : Int)) = false := beq_eq_false_iff_ne.2 hl
    have q1n : ((a.length : Int) != (b.length : Int)) = true := bne_iff_ne.2 hl
    replace hl := Aside.mk hl
    go_wp2_with fail
    go_ret
    exact ⟨by rw [retF (p := a = b) (fun h => hl.out (by rw [h]))]; rfl, hx.out.below⟩
  case pos =>
    have q1 : ((a.length : Int) == (b.length : Int)) = true := beq_iff_eq.2 hl
    have q1n : ((a.length : Int) != (b.length : Int)) = false := by rw [hl]; exact bne_self_eq_false _
    have hl2 : a.length = b.length := by omega
    replace hl2 := Aside.mk hl2
    clear hl
    go_wp2_with fail
    clear q1 q1n
    go_loopw [13] (fun s13 wr => ∃ (k : Nat) (Hk : PH), k ≤ a.length ∧ s13 = .int .i64 k ∧ Aside (∀ i : Nat, i < k → a.getD i 0 = b.getD i 0) ∧ Aside (Ext H Hk w wr) ∧ Aside (SlR (kI .i64) Hk A1 a.length c1 a) ∧ Aside (SlR (kI .i64) Hk A2 b.length c2 b)) (fun s13 _ => a.length - (intOf s13).toNat)
    case atStart => exact ⟨0, _, by omega, rfl, ⟨fun i h => by omega⟩, hx, h1, h2⟩
    case round =>
      clear hx h1 h2
      obtain ⟨k, Hk, hk, rfl, hno, hx, h1, h2⟩ := hrel
      by_cases hlt : k < a.length
      case pos =>
        have hli : (k : Int) < (a.length : Int) := by omega
        have hln : (k : Int) < (b.length : Int) := by have := hl2.out; omega
        have hkb : a.length ≤ 140737488355328 := h1.out.2.2.2.1
        obtain ⟨b5, o5, eA, hca⟩ := (h1.out.wr hx.out.sat).atD k (hlt)
        subst eA
        obtain ⟨b6, o6, eA, hcb⟩ := (h2.out.wr hx.out.sat).atD k (by have := hl2.out; omega)
        subst eA
        have hne := Aside.mk (fun (h : ¬ a.getD k 0 = b.getD k 0) => show ¬ a = b from fun e => h (by rw [e]))
        have hno2 := Aside.mk (fun (h : a.getD k 0 = b.getD k 0) => show ∀ i : Nat, i < k + 1 → a.getD i 0 = b.getD i 0 from fun i hi => by
            by_cases e : i = k
            · subst e; exact h
            · exact hno.out i (by omega))
        generalize a.getD k 0 = x at *
        generalize b.getD k 0 = y at *
        go_wp2_with fail
        by_cases x1 : x = y
        case neg =>
          have q1 : (x == y) = false := beq_eq_false_iff_ne.2 x1
          have q1n : (x != y) = true := bne_iff_ne.2 x1
          have hf := Aside.mk (hne.out x1)
          clear x1
          go_big_quiet (fail)
          replace hx := Aside.mk (hx.out.drewN nq)
          go_wp2_with fail
          go_ret
          exact ⟨by rw [retF hf.out]; rfl, hx.out.below⟩
        case pos =>
          have q1 : (x == y) = true := beq_iff_eq.2 x1
          have q1n : (x != y) = false := by rw [x1]; exact bne_self_eq_false _
          have hf := Aside.mk (hno2.out x1)
          clear x1
          go_big_quiet (fail)
          replace hx := Aside.mk (hx.out.drewN nq)
          go_wp2_with fail
          go_roundw
          case rel => exact ⟨k + 1, _, by omega, by go_num, hf, hx, h1, h2⟩
          case measure => (first | (simp [intOf]; done) | (simp [intOf]; omega))
      case neg =>
        have hli : ¬ (k : Int) < (a.length : Int) := by omega
        have hte : Aside (a = b) := ⟨getD_ext hl2.out (fun i hi => hno.out i (by omega))⟩
        go_wp2_with fail
        go_ret
        exact ⟨by rw [retT hte.out]; rfl, hx.out.below⟩
theorem getD_extL {a b : List (List Int)} (hl : a.length = b.length) (h : ∀ i, i < a.length → a.getD i [] = b.getD i []) : a = b := by
  refine List.ext_getElem hl fun i h1 h2 => ?_
  have := h i h1
  rw [List.getD_eq_getElem?_getD, List.getD_eq_getElem?_getD, List.getElem?_eq_getElem h1, List.getElem?_eq_getElem h2] at this
  exact this
set_option maxRecDepth 100000 in
set_option maxHeartbeats 8000000 in
theorem eqRows_any (H : PH) (a b : List (List Int)) (A1 A2 : Option Addr) (c1 c2 : Nat) (w : World) (h1 : SlR (kS (kI .i64)) H A1 a.length c1 a) (h2 : SlR (kS (kI .i64)) H A2 b.length c2 b) (hs : Sat w H) :
    Calls Try.prog 130 #[.slice A1 a.length c1, .slice A2 b.length c2, .func (.func 129) #[] #[]] w fun e w' => e = .returned (.bool (decide (a = b))) ∧ Below w.heap.size w w' := by
  have hx := Aside.mk (Ext.refl hs)
  replace h1 := Aside.mk h1
  replace h2 := Aside.mk h2
  go_enter Try.func130, Try.ntmps130
  by_cases hl : (a.length : Int) = b.length
  case neg =>
    have q1 : ((a.length : Int) == (b.length : Int)) = false := beq_eq_false_iff_ne.2 hl
    have q1n : ((a.length : Int) != (b.length : Int)) = true := bne_iff_ne.2 hl
    replace hl := Aside.mk hl
    go_wp2_with fail
    go_ret
    exact ⟨by rw [retF (p := a = b) (fun h => hl.out (by rw [h]))]; rfl, hx.out.below⟩
  case pos =>
    have q1 : ((a.length : Int) == (b.length : Int)) = true := beq_iff_eq.2 hl
    have q1n : ((a.length : Int) != (b.length : Int)) = false := by rw [hl]; exact bne_self_eq_false _
    have hl2 : a.length = b.length := by omega
    replace hl2 := Aside.mk hl2
    clear hl
    go_wp2_with fail
    clear q1 q1n
    go_loopw [17] (fun s17 wr => ∃ (k : Nat) (Hk : PH), k ≤ a.length ∧ s17 = .int .i64 k ∧ Aside (∀ i : Nat, i < k → a.getD i [] = b.getD i []) ∧ Aside (Ext H Hk w wr) ∧ Aside (SlR (kS (kI .i64)) Hk A1 a.length c1 a) ∧ Aside (SlR (kS (kI .i64)) Hk A2 b.length c2 b)) (fun s17 _ => a.length - (intOf s17).toNat)
    case atStart => exact ⟨0, _, by omega, rfl, ⟨fun i h => by omega⟩, hx, h1, h2⟩
    case round =>
      clear hx h1 h2
      obtain ⟨k, Hk, hk, rfl, hno, hx, h1, h2⟩ := hrel
      by_cases hlt : k < a.length
      case pos =>
        have hli : (k : Int) < (a.length : Int) := by omega
        have hln : (k : Int) < (b.length : Int) := by have := hl2.out; omega
        have hkb : a.length ≤ 140737488355328 := h1.out.2.2.2.1
        obtain ⟨b5, o5, D5, d5, eA, hca, g5⟩ := h1.out.rowD hx.out.sat k (hlt)
        subst eA
        replace g5 := Aside.mk g5
        obtain ⟨b6, o6, D6, d6, eA, hcb, g6⟩ := h2.out.rowD hx.out.sat k (by have := hl2.out; omega)
        subst eA
        replace g6 := Aside.mk g6
        have hne := Aside.mk (fun (h : ¬ a.getD k [] = b.getD k []) => show ¬ a = b from fun e => h (by rw [e]))
        have hno2 := Aside.mk (fun (h : a.getD k [] = b.getD k []) => show ∀ i : Nat, i < k + 1 → a.getD i [] = b.getD i [] from fun i hi => by
            by_cases e : i = k
            · subst e; exact h
            · exact hno.out i (by omega))
        generalize a.getD k [] = x at *
        generalize b.getD k [] = y at *
        go_wp2_with fail
        refine (eqInts_any _ _ _ _ _ _ _ _ g5.out g6.out hx.out.sat).mono ?_
        rintro e w1 ⟨he, hb9⟩
        replace hx := Aside.mk (hx.out.then_below hb9)
        clear hb9
        by_cases x1 : x = y
        case neg =>
          obtain rfl : e = .returned (.bool false) := he.trans (retF x1)
          have hf := Aside.mk (hne.out x1)
          clear x1 he
          go_wp2_with fail
          go_ret
          exact ⟨by rw [retF hf.out]; rfl, hx.out.below⟩
        case pos =>
          obtain rfl : e = .returned (.bool true) := he.trans (retT x1)
          have hf := Aside.mk (hno2.out x1)
          clear x1 he
          go_wp2_with fail
          go_roundw
          case rel => exact ⟨k + 1, _, by omega, by go_num, hf, hx, h1, h2⟩
          case measure => (first | (simp [intOf]; done) | (simp [intOf]; omega))
      case neg =>
        have hli : ¬ (k : Int) < (a.length : Int) := by omega
        have hte : Aside (a = b) := ⟨getD_extL hl2.out (fun i hi => hno.out i (by omega))⟩
        go_wp2_with fail
        go_ret
        exact ⟨by rw [retT hte.out]; rfl, hx.out.below⟩
set_option maxRecDepth 100000 in
set_option maxHeartbeats 16000000 in
theorem kEqual_hand (H : PH) (st : Int) (acc : List Int) (next : List (List Int)) (A1 A2 : Option Addr) (c1 c2 : Nat) (st' : Int) (acc' : List Int) (next' : List (List Int)) (B1 B2 : Option Addr) (d1 d2 : Nat) (w : World) (h1 : SlR (kI .i64) H A1 acc.length c1 acc) (h2 : SlR (kS (kI .i64)) H A2 next.length c2 next) (g1 : SlR (kI .i64) H B1 acc'.length d1 acc') (g2 : SlR (kS (kI .i64)) H B2 next'.length d2 next') (hs : Sat w H) :
    Calls Try.prog 75 #[.agg #[.int .i64 st, .slice A1 acc.length c1, .slice A2 next.length c2], .agg #[.int .i64 st', .slice B1 acc'.length d1, .slice B2 next'.length d2]] w fun e w' => e = .returned (.bool (dB (st = st' ∧ acc = acc' ∧ next = next'))) ∧ Below w.heap.size w w' := by
  have hx := Aside.mk (Ext.refl hs)
  replace h1 := Aside.mk h1
  replace h2 := Aside.mk h2
  replace g1 := Aside.mk g1
  replace g2 := Aside.mk g2
  go_enter Try.func75, Try.ntmps75
  go_upto_region 1 with (fail)
  have hszw := hx.out.size
  have kt_ : ((w.alloc (.cells #[.int .i64 st, .slice A1 acc.length c1, .slice A2 next.length c2] 58)).alloc (.cells #[.int .i64 st', .slice B1 acc'.length d1, .slice B2 next'.length d2] 58)).heap[w.heap.size]? = some (.cells #[.int .i64 st, .slice A1 acc.length c1, .slice A2 next.length c2] 58) := (boxA (heap_alloc_new _ _) (.cells #[.int .i64 st', .slice B1 acc'.length d1, .slice B2 next'.length d2] 58))
  have ku_ : ((w.alloc (.cells #[.int .i64 st, .slice A1 acc.length c1, .slice A2 next.length c2] 58)).alloc (.cells #[.int .i64 st', .slice B1 acc'.length d1, .slice B2 next'.length d2] 58)).heap[w.heap.size + 1]? = some (.cells #[.int .i64 st', .slice B1 acc'.length d1, .slice B2 next'.length d2] 58) := (by rw [show w.heap.size + 1 = ((w.alloc (.cells #[.int .i64 st, .slice A1 acc.length c1, .slice A2 next.length c2] 58))).heap.size by simp]; exact heap_alloc_new _ _)
  have nt := Aside.mk (fun o => hx.out.sat.new (b := w.heap.size) (show w.heap.size ≤ _ by omega) o)
  have nu := Aside.mk (fun o => hx.out.sat.new (b := w.heap.size + 1) (show w.heap.size ≤ _ by omega) o)
  replace hx := Aside.mk (((hx.out.alloc (.cells #[.int .i64 st, .slice A1 acc.length c1, .slice A2 next.length c2] 58)).alloc (.cells #[.int .i64 st', .slice B1 acc'.length d1, .slice B2 next'.length d2] 58)))
  generalize ((w.alloc (.cells #[.int .i64 st, .slice A1 acc.length c1, .slice A2 next.length c2] 58)).alloc (.cells #[.int .i64 st', .slice B1 acc'.length d1, .slice B2 next'.length d2] 58)) = W1 at *
  have kt := Aside.mk kt_
  clear kt_
  have ku := Aside.mk ku_
  clear ku_
  obtain ⟨H1, hx2, hle, Bt, hold⟩ := box_freeze hx.out (by omega) kt.out nt.out
  replace h1 := Aside.mk (h1.out.mono hle)
  replace h2 := Aside.mk (h2.out.mono hle)
  replace g1 := Aside.mk (g1.out.mono hle)
  replace g2 := Aside.mk (g2.out.mono hle)
  replace nu := Aside.mk (fun o => (hold _ o (by omega)).trans (nu.out o))
  replace hx := Aside.mk hx2
  replace Bt := Aside.mk Bt
  clear hle hold hx2 kt nt
  obtain ⟨H1, hx2, hle, Bu, hold⟩ := box_freeze hx.out (by omega) ku.out nu.out
  replace h1 := Aside.mk (h1.out.mono hle)
  replace h2 := Aside.mk (h2.out.mono hle)
  replace g1 := Aside.mk (g1.out.mono hle)
  replace g2 := Aside.mk (g2.out.mono hle)
  replace Bt := Aside.mk (Bt.out.mono hle)
  replace hx := Aside.mk hx2
  replace Bu := Aside.mk Bu
  clear hle hold hx2 ku nu
  by_cases e0 : st = st'
  case neg =>
    have q0 : (st == st') = false := beq_eq_false_iff_ne.2 e0
    replace e0 := Aside.mk e0
    have lqt : w.heap.size < W1.heap.size := hx.out.sat.lt (Bt.out 0 _ rfl)
    have ct0 : W1.cell? ⟨w.heap.size, 0, none⟩ = some (.int .i64 st) := hx.out.sat _ _ _ (Bt.out 0 _ rfl)
    have ct1 : W1.cell? ⟨w.heap.size, 1, none⟩ = some (.slice A1 acc.length c1) := hx.out.sat _ _ _ (Bt.out 1 _ rfl)
    have ct2 : W1.cell? ⟨w.heap.size, 2, none⟩ = some (.slice A2 next.length c2) := hx.out.sat _ _ _ (Bt.out 2 _ rfl)
    have lqu : w.heap.size + 1 < W1.heap.size := hx.out.sat.lt (Bu.out 0 _ rfl)
    have cu0 : W1.cell? ⟨w.heap.size + 1, 0, none⟩ = some (.int .i64 st') := hx.out.sat _ _ _ (Bu.out 0 _ rfl)
    have cu1 : W1.cell? ⟨w.heap.size + 1, 1, none⟩ = some (.slice B1 acc'.length d1) := hx.out.sat _ _ _ (Bu.out 1 _ rfl)
    have cu2 : W1.cell? ⟨w.heap.size + 1, 2, none⟩ = some (.slice B2 next'.length d2) := hx.out.sat _ _ _ (Bu.out 2 _ rfl)
    go_wp2_with fail
    clear lqt ct0 ct1 ct2 lqu cu0 cu1 cu2
    go_ret
    exact ⟨(dB_f (fun h => e0.out h.1)).symm, hx.out.below⟩
  case pos =>
    have q0 : (st == st') = true := beq_iff_eq.2 e0
    replace e0 := Aside.mk e0
    have lqt : w.heap.size < W1.heap.size := hx.out.sat.lt (Bt.out 0 _ rfl)
    have ct0 : W1.cell? ⟨w.heap.size, 0, none⟩ = some (.int .i64 st) := hx.out.sat _ _ _ (Bt.out 0 _ rfl)
    have ct1 : W1.cell? ⟨w.heap.size, 1, none⟩ = some (.slice A1 acc.length c1) := hx.out.sat _ _ _ (Bt.out 1 _ rfl)
    have ct2 : W1.cell? ⟨w.heap.size, 2, none⟩ = some (.slice A2 next.length c2) := hx.out.sat _ _ _ (Bt.out 2 _ rfl)
    have lqu : w.heap.size + 1 < W1.heap.size := hx.out.sat.lt (Bu.out 0 _ rfl)
    have cu0 : W1.cell? ⟨w.heap.size + 1, 0, none⟩ = some (.int .i64 st') := hx.out.sat _ _ _ (Bu.out 0 _ rfl)
    have cu1 : W1.cell? ⟨w.heap.size + 1, 1, none⟩ = some (.slice B1 acc'.length d1) := hx.out.sat _ _ _ (Bu.out 1 _ rfl)
    have cu2 : W1.cell? ⟨w.heap.size + 1, 2, none⟩ = some (.slice B2 next'.length d2) := hx.out.sat _ _ _ (Bu.out 2 _ rfl)
    go_wp2_with fail
    clear lqt ct0 ct1 ct2 lqu cu0 cu1 cu2
    clear q0
    refine (eqInts_any _ _ _ _ _ _ _ _ h1.out g1.out hx.out.sat).mono ?_
    rintro e w1 ⟨he, hb9⟩
    replace hx := Aside.mk (hx.out.then_below hb9)
    clear hb9
    by_cases e1 : acc = acc'
    case neg =>
      obtain rfl : e = .returned (.bool false) := he.trans (retF e1)
      replace e1 := Aside.mk e1
      clear he
      have lqt : w.heap.size < w1.heap.size := hx.out.sat.lt (Bt.out 0 _ rfl)
      have ct0 : w1.cell? ⟨w.heap.size, 0, none⟩ = some (.int .i64 st) := hx.out.sat _ _ _ (Bt.out 0 _ rfl)
      have ct1 : w1.cell? ⟨w.heap.size, 1, none⟩ = some (.slice A1 acc.length c1) := hx.out.sat _ _ _ (Bt.out 1 _ rfl)
      have ct2 : w1.cell? ⟨w.heap.size, 2, none⟩ = some (.slice A2 next.length c2) := hx.out.sat _ _ _ (Bt.out 2 _ rfl)
      have lqu : w.heap.size + 1 < w1.heap.size := hx.out.sat.lt (Bu.out 0 _ rfl)
      have cu0 : w1.cell? ⟨w.heap.size + 1, 0, none⟩ = some (.int .i64 st') := hx.out.sat _ _ _ (Bu.out 0 _ rfl)
      have cu1 : w1.cell? ⟨w.heap.size + 1, 1, none⟩ = some (.slice B1 acc'.length d1) := hx.out.sat _ _ _ (Bu.out 1 _ rfl)
      have cu2 : w1.cell? ⟨w.heap.size + 1, 2, none⟩ = some (.slice B2 next'.length d2) := hx.out.sat _ _ _ (Bu.out 2 _ rfl)
      go_wp2_with fail
      clear lqt ct0 ct1 ct2 lqu cu0 cu1 cu2
      go_ret
      exact ⟨(dB_f (fun h => e1.out h.2.1)).symm, hx.out.below⟩
    case pos =>
      obtain rfl : e = .returned (.bool true) := he.trans (retT e1)
      replace e1 := Aside.mk e1
      clear he
      have lqt : w.heap.size < w1.heap.size := hx.out.sat.lt (Bt.out 0 _ rfl)
      have ct0 : w1.cell? ⟨w.heap.size, 0, none⟩ = some (.int .i64 st) := hx.out.sat _ _ _ (Bt.out 0 _ rfl)
      have ct1 : w1.cell? ⟨w.heap.size, 1, none⟩ = some (.slice A1 acc.length c1) := hx.out.sat _ _ _ (Bt.out 1 _ rfl)
      have ct2 : w1.cell? ⟨w.heap.size, 2, none⟩ = some (.slice A2 next.length c2) := hx.out.sat _ _ _ (Bt.out 2 _ rfl)
      have lqu : w.heap.size + 1 < w1.heap.size := hx.out.sat.lt (Bu.out 0 _ rfl)
      have cu0 : w1.cell? ⟨w.heap.size + 1, 0, none⟩ = some (.int .i64 st') := hx.out.sat _ _ _ (Bu.out 0 _ rfl)
      have cu1 : w1.cell? ⟨w.heap.size + 1, 1, none⟩ = some (.slice B1 acc'.length d1) := hx.out.sat _ _ _ (Bu.out 1 _ rfl)
      have cu2 : w1.cell? ⟨w.heap.size + 1, 2, none⟩ = some (.slice B2 next'.length d2) := hx.out.sat _ _ _ (Bu.out 2 _ rfl)
      go_wp2_with fail
      clear lqt ct0 ct1 ct2 lqu cu0 cu1 cu2
      refine (eqRows_any _ _ _ _ _ _ _ _ h2.out g2.out hx.out.sat).mono ?_
      rintro e w2 ⟨he, hb9⟩
      replace hx := Aside.mk (hx.out.then_below hb9)
      clear hb9
      by_cases e2 : next = next'
      case neg =>
        obtain rfl : e = .returned (.bool false) := he.trans (retF e2)
        replace e2 := Aside.mk e2
        clear he
        have lqt : w.heap.size < w2.heap.size := hx.out.sat.lt (Bt.out 0 _ rfl)
        have ct0 : w2.cell? ⟨w.heap.size, 0, none⟩ = some (.int .i64 st) := hx.out.sat _ _ _ (Bt.out 0 _ rfl)
        have ct1 : w2.cell? ⟨w.heap.size, 1, none⟩ = some (.slice A1 acc.length c1) := hx.out.sat _ _ _ (Bt.out 1 _ rfl)
        have ct2 : w2.cell? ⟨w.heap.size, 2, none⟩ = some (.slice A2 next.length c2) := hx.out.sat _ _ _ (Bt.out 2 _ rfl)
        have lqu : w.heap.size + 1 < w2.heap.size := hx.out.sat.lt (Bu.out 0 _ rfl)
        have cu0 : w2.cell? ⟨w.heap.size + 1, 0, none⟩ = some (.int .i64 st') := hx.out.sat _ _ _ (Bu.out 0 _ rfl)
        have cu1 : w2.cell? ⟨w.heap.size + 1, 1, none⟩ = some (.slice B1 acc'.length d1) := hx.out.sat _ _ _ (Bu.out 1 _ rfl)
        have cu2 : w2.cell? ⟨w.heap.size + 1, 2, none⟩ = some (.slice B2 next'.length d2) := hx.out.sat _ _ _ (Bu.out 2 _ rfl)
        go_wp2_with fail
        clear lqt ct0 ct1 ct2 lqu cu0 cu1 cu2
        go_ret
        exact ⟨(dB_f (fun h => e2.out h.2.2)).symm, hx.out.below⟩
      case pos =>
        obtain rfl : e = .returned (.bool true) := he.trans (retT e2)
        replace e2 := Aside.mk e2
        clear he
        have lqt : w.heap.size < w2.heap.size := hx.out.sat.lt (Bt.out 0 _ rfl)
        have ct0 : w2.cell? ⟨w.heap.size, 0, none⟩ = some (.int .i64 st) := hx.out.sat _ _ _ (Bt.out 0 _ rfl)
        have ct1 : w2.cell? ⟨w.heap.size, 1, none⟩ = some (.slice A1 acc.length c1) := hx.out.sat _ _ _ (Bt.out 1 _ rfl)
        have ct2 : w2.cell? ⟨w.heap.size, 2, none⟩ = some (.slice A2 next.length c2) := hx.out.sat _ _ _ (Bt.out 2 _ rfl)
        have lqu : w.heap.size + 1 < w2.heap.size := hx.out.sat.lt (Bu.out 0 _ rfl)
        have cu0 : w2.cell? ⟨w.heap.size + 1, 0, none⟩ = some (.int .i64 st') := hx.out.sat _ _ _ (Bu.out 0 _ rfl)
        have cu1 : w2.cell? ⟨w.heap.size + 1, 1, none⟩ = some (.slice B1 acc'.length d1) := hx.out.sat _ _ _ (Bu.out 1 _ rfl)
        have cu2 : w2.cell? ⟨w.heap.size + 1, 2, none⟩ = some (.slice B2 next'.length d2) := hx.out.sat _ _ _ (Bu.out 2 _ rfl)
        go_wp2_with fail
        clear lqt ct0 ct1 ct2 lqu cu0 cu1 cu2
        go_ret
        exact ⟨(dB_t ⟨e0.out, e1.out, e2.out⟩).symm, hx.out.below⟩
theorem kEqual_yes {H : PH} {D : Aut} {cs ds : List Value} {w : World} (hT : RdAut H D cs) (hU : RdAut H D ds) (hs : Sat w H) :
    Calls Try.prog 75 #[.agg cs.toArray, .agg ds.toArray] w fun e w' => e = .returned (.bool true) ∧ Below w.heap.size w w' := by
  obtain ⟨A1, c1, A2, c2, rfl, h1, h2⟩ := hT
  obtain ⟨B1, d1, B2, d2, rfl, g1, g2⟩ := hU
  exact (kEqual_hand H D.st D.acc D.next A1 A2 c1 c2 D.st D.acc D.next B1 B2 d1 d2 w h1 h2 g1 g2 hs).mono fun e w' ⟨he, hb⟩ => ⟨he.trans (dB_t ⟨rfl, rfl, rfl⟩), hb⟩
theorem even_any (H : PH) (w : World) (hs : Sat w H) : Calls Try.prog 53 #[] w fun e w' => ∃ H' A1 A2, e = .returned (.agg #[.int .i64 0, .slice A1 2 2, .slice A2 2 2]) ∧ SlR (kI .i64) H' A1 2 2 [0, -1] ∧ SlR (kS (kI .i64)) H' A2 2 2 evN ∧ Ext H H' w w' := by
  have HS := Aside.mk hs
  clear hs
  go_enter Try.func53, Try.ntmps53
  go_wp2_with fail
  obtain ⟨H', x, s1, s4⟩ := ev_lits ((Ext.refl HS.out).alloc (.cells #[.int .i64 0, .slice (some ⟨w.heap.size + 1, 0, none⟩) 2 2, .slice (some ⟨w.heap.size + 1 + 3, 0, none⟩) 2 2] 58))
  have e1 : (w.alloc (.cells #[.int .i64 0, .slice (some ⟨w.heap.size + 1, 0, none⟩) 2 2, .slice (some ⟨w.heap.size + 1 + 3, 0, none⟩) 2 2] 58)).heap.size = w.heap.size + 1 := by simp
  rw [e1] at s1 s4 x
  refine bodyPost_ret (resC rfl _ _ _ rfl (run_loadVar_row _ w.heap.size _ _ _ (0, 0) _ (boxA (boxA (boxA (boxA (boxN w (.cells #[.int .i64 0, .slice (some ⟨w.heap.size + 1, 0, none⟩) 2 2, .slice (some ⟨w.heap.size + 1 + 3, 0, none⟩) 2 2] 58)) _) _) _) _) Try.underlying58 rfl (by kernel_rfl))) rfl ?_
  exact ⟨H', _, _, rfl, s1, s4, x⟩

theorem goodf_any (w : World) : Calls Try.prog 110 #[.int .i64 0] w fun e w' => e = .returned (.bool false) ∧ w = w' := by
  go_enter Try.func110, Try.ntmps110
  go_wp2_with fail
  go_ret
  exact ⟨rfl, rfl⟩

set_option maxHeartbeats 2000000 in
theorem indexGood_any (H : PH) (es : List Int) (A : Option Addr) (n c : Nat) (w : World) (hx : SlR (kI .i64) H A n c es) (hs : Sat w H) (he : ∀ e ∈ es, e = 0) :
    Calls Try.prog 162 #[.slice A n c, .func (.func 110) #[] #[]] w fun e w' => e = .returned (.int .i64 (-1)) ∧ w = w' := by
  obtain rfl := hx.1
  have hc := hx.2.1
  have hlen := hx.2.2.2.1
  have HE := Aside.mk he
  clear he
  go_enter Try.func162, Try.ntmps162
  go_wp2_with fail
  go_loop [8] (fun i => ∃ k : Nat, k ≤ es.length ∧ i = .int .i64 k) (fun i => es.length - (intOf i).toNat)
  case atStart => exact ⟨0, by omega, rfl⟩
  case round =>
    obtain ⟨k, hk, rfl⟩ := hrel
    by_cases hlt : k < es.length
    · have hli : (k : Int) < (es.length : Int) := by omega
      obtain ⟨b1, o1, cs1, rfl, hrd1, hcell1⟩ := hx.row k hlt
      have h0 : es[k] = 0 := HE.out _ (List.getElem_mem hlt)
      rw [h0] at hrd1
      obtain rfl : cs1 = [.int .i64 0] := hrd1
      have g0 := at1 hs hcell1
      simp only [kI, Nat.mul_one] at g0
      clear hcell1 h0
      go_wp2_with fail
      refine (goodf_any w).mono ?_
      rintro e w1 ⟨rfl, rfl⟩
      go_wp2_with fail
      go_round
      case rel => exact ⟨k + 1, by omega, by go_num⟩
      case measure => simp [intOf]; omega
    · obtain rfl : k = es.length := by omega
      go_wp2_with fail
      go_ret
      exact ⟨rfl, rfl⟩

theorem containsGood_any (H : PH) (es : List Int) (A : Option Addr) (n c : Nat) (w : World) (hx : SlR (kI .i64) H A n c es) (hs : Sat w H) (he : ∀ e ∈ es, e = 0) :
    Calls Try.prog 109 #[.slice A n c, .func (.func 110) #[] #[]] w fun e w' => e = .returned (.bool false) ∧ w = w' := by
  have HI := Aside.mk (indexGood_any H es A n c w hx hs he)
  clear hx he
  go_enter Try.func109, Try.ntmps109
  go_wp2_with fail
  refine HI.out.mono ?_
  rintro e w1 ⟨rfl, rfl⟩
  go_wp2_with fail
  go_ret
  exact ⟨rfl, rfl⟩
theorem good_any (H : PH) (es : List Int) (A : Option Addr) (n c : Nat) (w : World) (hx : SlR (kI .i64) H A n c es) (hs : Sat w H) (he : ∀ e ∈ es, e = 0) :
    Calls Try.prog 51 #[.slice A n c] w fun e w' => e = .returned (.bool true) ∧ w = w' := by
  have HI := Aside.mk (containsGood_any H es A n c w hx hs he)
  clear hx he
  go_enter Try.func51, Try.ntmps51
  go_wp2_with fail
  refine HI.out.mono ?_
  rintro e w1 ⟨rfl, rfl⟩
  go_wp2_with fail
  go_ret
  exact ⟨rfl, rfl⟩

end Go.Proofs.Ytbnahmeaeakhhaa.B
