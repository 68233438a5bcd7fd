/- rowpack.at; the reference's Entry, IntsEqual, by hand. -/
import Derived.Test.YtbnahmeaeakhhaaProg
import Derived.Test.YtbnahmeaeakhhaaBd
import Derived.Test.YtbnahmeaeakhhaaVq
namespace Go.Proofs.Ytbnahmeaeakhhaa.B
set_option linter.unusedVariables false
set_option linter.unusedSimpArgs false
open Go Go.RowKit Go.Proofs.Ytbnahmeaeakhhaa.Q Classical
set_option maxRecDepth 100000 in
set_option maxHeartbeats 8000000 in
theorem at_hand (H : PH) (st cols : Int) (acc base own nxt : List Int) (A1 A2 A3 A4 : Option Addr) (c1 c2 c3 c4 : Nat) (s c : Int) (w : World) (h1 : SlR (kI .i64) H A1 acc.length c1 acc) (h2 : SlR (kI .i64) H A2 base.length c2 base) (h3 : SlR (kI .i64) H A3 own.length c3 own) (h4 : SlR (kI .i64) H A4 nxt.length c4 nxt) (hs : Sat w H) (hok : rowsOk acc base 0) (hn : own.length = nxt.length) (hol : own.length ≤ 3200) (hs0 : 0 ≤ s) (hs1 : s < base.length) (hc0 : 0 ≤ c) (hc1 : c ≤ 16) :
    Calls Try.prog 117 #[.agg #[.int .i64 st, .int .i64 cols, .slice A1 acc.length c1, .slice A2 base.length c2, .slice A3 own.length c3, .slice A4 nxt.length c4], .int .i64 s, .int .i64 c] w fun e w' => e = .returned (.int .i64 (entF base own nxt s c)) ∧ Below w.heap.size w w' := by
  obtain ⟨m, hm⟩ : ∃ m : Nat, s = (m : Int) := ⟨s.toNat, by omega⟩
  subst hm
  have hml : (m : Int) < (base.length : Int) := hs1
  clear hs0 hs1
  have hbd := (hok m (Nat.zero_le _) (by omega)).2
  clear hok
  replace hn := Aside.mk hn
  have hx := Aside.mk (Ext.refl hs)
  replace h1 := Aside.mk h1
  replace h2 := Aside.mk h2
  replace h3 := Aside.mk h3
  replace h4 := Aside.mk h4
  go_enter Try.func117, Try.ntmps117
  go_upto_region 1 with (fail)
  have hszw := hx.out.size
  have kt_ : (w.alloc (.cells #[.int .i64 st, .int .i64 cols, .slice A1 acc.length c1, .slice A2 base.length c2, .slice A3 own.length c3, .slice A4 nxt.length c4] 85)).heap[w.heap.size]? = some (.cells #[.int .i64 st, .int .i64 cols, .slice A1 acc.length c1, .slice A2 base.length c2, .slice A3 own.length c3, .slice A4 nxt.length c4] 85) := (heap_alloc_new _ _)
  have nt := Aside.mk (fun o => hx.out.sat.new (b := w.heap.size) (show w.heap.size ≤ _ by omega) o)
  replace hx := Aside.mk ((hx.out.alloc (.cells #[.int .i64 st, .int .i64 cols, .slice A1 acc.length c1, .slice A2 base.length c2, .slice A3 own.length c3, .slice A4 nxt.length c4] 85)))
  generalize (w.alloc (.cells #[.int .i64 st, .int .i64 cols, .slice A1 acc.length c1, .slice A2 base.length c2, .slice A3 own.length c3, .slice A4 nxt.length c4] 85)) = W1 at *
  have kt := Aside.mk kt_
  clear kt_
  obtain ⟨H1, hx2, hle, Bt, hold⟩ := box_freeze hx.out (by omega) kt.out nt.out
  replace h1 := Aside.mk (h1.out.mono hle)
  replace h2 := Aside.mk (h2.out.mono hle)
  replace h3 := Aside.mk (h3.out.mono hle)
  replace h4 := Aside.mk (h4.out.mono hle)
  replace hx := Aside.mk hx2
  replace Bt := Aside.mk Bt
  clear hle hold hx2 kt nt
  have hT : entF base own nxt (m : Int) c = if base.getD m 0 + c < own.length ∧ own.getD (base.getD m 0 + c).toNat 0 = (m : Int) then nxt.getD (base.getD m 0 + c).toNat 0 else -1 := by unfold entF; rw [Int.toNat_natCast]
  obtain ⟨b5, o5, eA, hcb⟩ := (h2.out.wr hx.out.sat).atD m (by omega)
  subst eA
  generalize base.getD m 0 = z at *
  obtain ⟨q, hq⟩ : ∃ q : Nat, z + c = (q : Int) := ⟨(z + c).toNat, by omega⟩
  rw [hq, Int.toNat_natCast] at hT
  have hw : IntKind.i64.wrap (z + c) = (q : Int) := by rw [← hq, IntWalk.i64_in _ (by omega)]
  replace hq := Aside.mk hq
  replace hT := Aside.mk hT
  have lqt : w.heap.size < W1.heap.size := hx.out.sat.lt (Bt.out 0 _ rfl)
  obtain ⟨ct0, ct1, ct2, ct3, ct4, ct5⟩ := hb6 hx.out.sat Bt.out
  go_upto_region 2 with (fail)
  clear lqt ct0 ct1 ct2 ct3 ct4 ct5
  clear hcb hw
  by_cases x1 : (q : Int) < (own.length : Int)
  case neg =>
    replace hT := Aside.mk (hT.out.trans (if_neg (fun h => x1 h.1)))
    have lqt : w.heap.size < W1.heap.size := hx.out.sat.lt (Bt.out 0 _ rfl)
    obtain ⟨ct0, ct1, ct2, ct3, ct4, ct5⟩ := hb6 hx.out.sat Bt.out
    go_wp2_with fail
    clear lqt ct0 ct1 ct2 ct3 ct4 ct5
    go_ret
    exact ⟨by rw [hT.out]; rfl, hx.out.below⟩
  case pos =>
    obtain ⟨b6, o6, eA, hco⟩ := (h3.out.wr hx.out.sat).atD q (by omega)
    subst eA
    obtain ⟨b7, o7, eA, hcn⟩ := (h4.out.wr hx.out.sat).atD q (by have := hn.out; omega)
    subst eA
    have hqn : (q : Int) < (nxt.length : Int) := by have := hn.out; omega
    generalize own.getD q 0 = x at *
    generalize nxt.getD q 0 = y at *
    by_cases x2 : x = (m : Int)
    case neg =>
      have q2 : (x == (m : Int)) = false := beq_eq_false_iff_ne.2 x2
      replace hT := Aside.mk (hT.out.trans (if_neg (fun h => x2 h.2)))
      clear x2
      have lqt : w.heap.size < W1.heap.size := hx.out.sat.lt (Bt.out 0 _ rfl)
      obtain ⟨ct0, ct1, ct2, ct3, ct4, ct5⟩ := hb6 hx.out.sat Bt.out
      go_wp2_with fail
      clear lqt ct0 ct1 ct2 ct3 ct4 ct5
      go_ret
      exact ⟨by rw [hT.out]; rfl, hx.out.below⟩
    case pos =>
      have q2 : (x == (m : Int)) = true := beq_iff_eq.2 x2
      replace hT := Aside.mk (hT.out.trans (if_pos ⟨x1, x2⟩))
      clear x2
      have lqt : w.heap.size < W1.heap.size := hx.out.sat.lt (Bt.out 0 _ rfl)
      obtain ⟨ct0, ct1, ct2, ct3, ct4, ct5⟩ := hb6 hx.out.sat Bt.out
      go_wp2_with fail
      clear lqt ct0 ct1 ct2 ct3 ct4 ct5
      go_ret
      exact ⟨by rw [hT.out]; rfl, hx.out.below⟩
set_option maxRecDepth 100000 in
set_option maxHeartbeats 8000000 in
theorem entry_hand (H : PH) (st cols : Int) (acc base own nxt : List Int) (A1 A2 A3 A4 : Option Addr) (c1 c2 c3 c4 : Nat) (s c : Int) (w : World) (h1 : SlR (kI .i64) H A1 acc.length c1 acc) (h2 : SlR (kI .i64) H A2 base.length c2 base) (h3 : SlR (kI .i64) H A3 own.length c3 own) (h4 : SlR (kI .i64) H A4 nxt.length c4 nxt) (hs : Sat w H) (hok : rowsOk acc base 0) (hn : own.length = nxt.length) (hol : own.length ≤ 3200) (hs0 : 0 ≤ s) (hs1 : s < base.length) (hc0 : 0 ≤ c) (hc1 : c ≤ 16) :
    Calls Try.prog 74 #[.agg #[.int .i64 st, .int .i64 cols, .slice A1 acc.length c1, .slice A2 base.length c2, .slice A3 own.length c3, .slice A4 nxt.length c4], .int .i64 s, .int .i64 c] w fun e w' => e = .returned (.int .i64 (entF base own nxt s c)) ∧ Below w.heap.size w w' := by
  obtain ⟨m, hm⟩ : ∃ m : Nat, s = (m : Int) := ⟨s.toNat, by omega⟩
  subst hm
  have hml : (m : Int) < (base.length : Int) := hs1
  clear hs0 hs1
  have hbd := (hok m (Nat.zero_le _) (by omega)).2
  clear hok
  replace hn := Aside.mk hn
  have hx := Aside.mk (Ext.refl hs)
  replace h1 := Aside.mk h1
  replace h2 := Aside.mk h2
  replace h3 := Aside.mk h3
  replace h4 := Aside.mk h4
  go_enter Try.func74, Try.ntmps74
  go_upto_region 1 with (fail)
  have hszw := hx.out.size
  have kt_ : (w.alloc (.cells #[.int .i64 st, .int .i64 cols, .slice A1 acc.length c1, .slice A2 base.length c2, .slice A3 own.length c3, .slice A4 nxt.length c4] 85)).heap[w.heap.size]? = some (.cells #[.int .i64 st, .int .i64 cols, .slice A1 acc.length c1, .slice A2 base.length c2, .slice A3 own.length c3, .slice A4 nxt.length c4] 85) := (heap_alloc_new _ _)
  have nt := Aside.mk (fun o => hx.out.sat.new (b := w.heap.size) (show w.heap.size ≤ _ by omega) o)
  replace hx := Aside.mk ((hx.out.alloc (.cells #[.int .i64 st, .int .i64 cols, .slice A1 acc.length c1, .slice A2 base.length c2, .slice A3 own.length c3, .slice A4 nxt.length c4] 85)))
  generalize (w.alloc (.cells #[.int .i64 st, .int .i64 cols, .slice A1 acc.length c1, .slice A2 base.length c2, .slice A3 own.length c3, .slice A4 nxt.length c4] 85)) = W1 at *
  have kt := Aside.mk kt_
  clear kt_
  obtain ⟨H1, hx2, hle, Bt, hold⟩ := box_freeze hx.out (by omega) kt.out nt.out
  replace h1 := Aside.mk (h1.out.mono hle)
  replace h2 := Aside.mk (h2.out.mono hle)
  replace h3 := Aside.mk (h3.out.mono hle)
  replace h4 := Aside.mk (h4.out.mono hle)
  replace hx := Aside.mk hx2
  replace Bt := Aside.mk Bt
  clear hle hold hx2 kt nt
  have hT : entF base own nxt (m : Int) c = if base.getD m 0 + c < own.length ∧ own.getD (base.getD m 0 + c).toNat 0 = (m : Int) then nxt.getD (base.getD m 0 + c).toNat 0 else -1 := by unfold entF; rw [Int.toNat_natCast]
  replace hT := Aside.mk hT
  have lqt : w.heap.size < W1.heap.size := hx.out.sat.lt (Bt.out 0 _ rfl)
  obtain ⟨ct0, ct1, ct2, ct3, ct4, ct5⟩ := hb6 hx.out.sat Bt.out
  go_wp2_with fail
  clear lqt ct0 ct1 ct2 ct3 ct4 ct5
  go_loopw [11] (fun s11 wr => ∃ (k : Nat) (Hk : PH), k ≤ own.length ∧ s11 = .int .i64 k ∧ Aside (∀ i : Nat, i < k → ¬ ((i : Int) = base.getD m 0 + c ∧ own.getD i 0 = (m : Int))) ∧ Aside (Ext H Hk w wr) ∧ Aside (SlR (kI .i64) Hk A1 acc.length c1 acc) ∧ Aside (SlR (kI .i64) Hk A2 base.length c2 base) ∧ Aside (SlR (kI .i64) Hk A3 own.length c3 own) ∧ Aside (SlR (kI .i64) Hk A4 nxt.length c4 nxt) ∧ Aside (BoxH Hk (w.heap.size) [.int .i64 st, .int .i64 cols, .slice A1 acc.length c1, .slice A2 base.length c2, .slice A3 own.length c3, .slice A4 nxt.length c4])) (fun s11 _ => own.length - (intOf s11).toNat)
  case atStart => exact ⟨0, _, by omega, rfl, ⟨fun i h => by omega⟩, hx, h1, h2, h3, h4, Bt⟩
  case round =>
    clear hx h1 h2 h3 h4 Bt
    obtain ⟨k, Hk, hk, rfl, hno, hx, h1, h2, h3, h4, Bt⟩ := hrel
    by_cases hlt : k < own.length
    case pos =>
      have hli : (k : Int) < (own.length : Int) := by omega
      have hln : (k : Int) < (nxt.length : Int) := by have := hn.out; omega
      obtain ⟨b5, o5, eA, hcb⟩ := (h2.out.wr hx.out.sat).atD m (by omega)
      subst eA
      obtain ⟨b6, o6, eA, hco⟩ := (h3.out.wr hx.out.sat).atD k (hlt)
      subst eA
      obtain ⟨b7, o7, eA, hcn⟩ := (h4.out.wr hx.out.sat).atD k (by have := hn.out; omega)
      subst eA
      have hno2 := Aside.mk (fun (h : ¬ ((k : Int) = base.getD m 0 + c ∧ own.getD k 0 = (m : Int))) => show ∀ i : Nat, i < k + 1 → ¬ ((i : Int) = base.getD m 0 + c ∧ own.getD i 0 = (m : Int)) from fun i hi => by
          by_cases e : i = k
          · subst e; exact h
          · exact hno.out i (by omega))
      have hyes := Aside.mk (fun (h1 : (k : Int) = base.getD m 0 + c) (h2 : own.getD k 0 = (m : Int)) => show entF base own nxt (m : Int) c = nxt.getD k 0 from by rw [hT.out, ← h1, Int.toNat_natCast, if_pos ⟨by omega, h2⟩])
      generalize own.getD k 0 = x at *
      generalize nxt.getD k 0 = y at *
      generalize base.getD m 0 = z at *
      have hw : IntKind.i64.wrap (z + c) = z + c := by rw [IntWalk.i64_in _ (by omega)]
      by_cases x1 : (k : Int) = z + c
      case neg =>
        have q1 : ((k : Int) == (z + c)) = false := beq_eq_false_iff_ne.2 x1
        have hnn := Aside.mk (hno2.out (fun h => x1 h.1))
        clear x1
        have lqt : w.heap.size < wr.heap.size := hx.out.sat.lt (Bt.out 0 _ rfl)
        obtain ⟨ct0, ct1, ct2, ct3, ct4, ct5⟩ := hb6 hx.out.sat Bt.out
        go_wp2_with fail
        clear lqt ct0 ct1 ct2 ct3 ct4 ct5
        go_roundw
        case rel => exact ⟨k + 1, _, by omega, by go_num, hnn, hx, h1, h2, h3, h4, Bt⟩
        case measure => (first | (simp [intOf]; done) | (simp [intOf]; omega))
      case pos =>
        have q1 : ((k : Int) == (z + c)) = true := beq_iff_eq.2 x1
        by_cases x2 : x = (m : Int)
        case neg =>
          have q2 : (x == (m : Int)) = false := beq_eq_false_iff_ne.2 x2
          have hnn := Aside.mk (hno2.out (fun h => x2 h.2))
          clear x1 x2
          have lqt : w.heap.size < wr.heap.size := hx.out.sat.lt (Bt.out 0 _ rfl)
          obtain ⟨ct0, ct1, ct2, ct3, ct4, ct5⟩ := hb6 hx.out.sat Bt.out
          go_wp2_with fail
          clear lqt ct0 ct1 ct2 ct3 ct4 ct5
          go_roundw
          case rel => exact ⟨k + 1, _, by omega, by go_num, hnn, hx, h1, h2, h3, h4, Bt⟩
          case measure => (first | (simp [intOf]; done) | (simp [intOf]; omega))
        case pos =>
          have q2 : (x == (m : Int)) = true := beq_iff_eq.2 x2
          have hte := Aside.mk (hyes.out x1 x2)
          clear x1 x2
          have lqt : w.heap.size < wr.heap.size := hx.out.sat.lt (Bt.out 0 _ rfl)
          obtain ⟨ct0, ct1, ct2, ct3, ct4, ct5⟩ := hb6 hx.out.sat Bt.out
          go_wp2_with fail
          clear lqt ct0 ct1 ct2 ct3 ct4 ct5
          go_ret
          exact ⟨by rw [hte.out]; rfl, hx.out.below⟩
    case neg =>
      have hli : ¬ (k : Int) < (own.length : Int) := by omega
      have hte : Aside (entF base own nxt (m : Int) c = -1) := ⟨by rw [hT.out, if_neg (fun h => hno.out (base.getD m 0 + c).toNat (by omega) ⟨by omega, h.2⟩)]⟩
      have lqt : w.heap.size < wr.heap.size := hx.out.sat.lt (Bt.out 0 _ rfl)
      obtain ⟨ct0, ct1, ct2, ct3, ct4, ct5⟩ := hb6 hx.out.sat Bt.out
      go_wp2_with fail
      clear lqt ct0 ct1 ct2 ct3 ct4 ct5
      go_ret
      exact ⟨by rw [hte.out]; rfl, hx.out.below⟩
set_option maxRecDepth 100000 in
set_option maxHeartbeats 8000000 in
theorem intsEq_hand (H : PH) (a b : List Int) (A1 A2 : Option Addr) (c1 c2 : Nat) (w : World) (h1 : SlR (kI .i64) H A1 a.length c1 a) (h2 : SlR (kI .i64) H A2 b.length c2 b) (hs : Sat w H) :
    Calls Try.prog 44 #[.slice A1 a.length c1, .slice A2 b.length c2] w fun e w' => e = .returned (.bool (decide (a = b))) ∧ Below w.heap.size w w' := by
  have hx := Aside.mk (Ext.refl hs)
  replace h1 := Aside.mk h1
  replace h2 := Aside.mk h2
  go_enter Try.func44, Try.ntmps44
  by_cases hl : (a.length : Int) = b.length
  case neg =>
    have q1 : ((a.length : Int) == (b.length : Int)) = false := beq_eq_false_iff_ne.2 hl
    have q1n : ((a.length : Int) != (b.length : Int)) = true := bne_iff_ne.2 hl
    replace hl := Aside.mk hl
    go_wp2_with fail
    go_ret
    exact ⟨by rw [retF (p := a = b) (fun h => hl.out (by rw [h]))]; rfl, hx.out.below⟩
  case pos =>
    have q1 : ((a.length : Int) == (b.length : Int)) = true := beq_iff_eq.2 hl
    have q1n : ((a.length : Int) != (b.length : Int)) = false := by rw [hl]; exact bne_self_eq_false _
    have hl2 : a.length = b.length := by omega
    replace hl2 := Aside.mk hl2
    clear hl
    go_wp2_with fail
    clear q1 q1n
    go_loopw [13] (fun s13 wr => ∃ (k : Nat) (Hk : PH), k ≤ a.length ∧ s13 = .int .i64 k ∧ Aside (∀ i : Nat, i < k → a.getD i 0 = b.getD i 0) ∧ Aside (Ext H Hk w wr) ∧ Aside (SlR (kI .i64) Hk A1 a.length c1 a) ∧ Aside (SlR (kI .i64) Hk A2 b.length c2 b)) (fun s13 _ => a.length - (intOf s13).toNat)
    case atStart => exact ⟨0, _, by omega, rfl, ⟨fun i h => by omega⟩, hx, h1, h2⟩
    case round =>
      clear hx h1 h2
      obtain ⟨k, Hk, hk, rfl, hno, hx, h1, h2⟩ := hrel
      by_cases hlt : k < a.length
      case pos =>
        have hli : (k : Int) < (a.length : Int) := by omega
        have hln : (k : Int) < (b.length : Int) := by have := hl2.out; omega
        have hkb : a.length ≤ 140737488355328 := h1.out.2.2.2.1
        obtain ⟨b5, o5, eA, hca⟩ := (h1.out.wr hx.out.sat).atD k (hlt)
        subst eA
        obtain ⟨b6, o6, eA, hcb⟩ := (h2.out.wr hx.out.sat).atD k (by have := hl2.out; omega)
        subst eA
        have hne := Aside.mk (fun (h : ¬ a.getD k 0 = b.getD k 0) => show ¬ a = b from fun e => h (by rw [e]))
        have hno2 := Aside.mk (fun (h : a.getD k 0 = b.getD k 0) => show ∀ i : Nat, i < k + 1 → a.getD i 0 = b.getD i 0 from fun i hi => by
            by_cases e : i = k
            · subst e; exact h
            · exact hno.out i (by omega))
        generalize a.getD k 0 = x at *
        generalize b.getD k 0 = y at *
        go_wp2_with fail
        by_cases x1 : x = y
        case neg =>
          have q1 : (x == y) = false := beq_eq_false_iff_ne.2 x1
          have q1n : (x != y) = true := bne_iff_ne.2 x1
          have hf := Aside.mk (hne.out x1)
          clear x1
          go_big_quiet (fail)
          replace hx := Aside.mk (hx.out.drewN nq)
          go_wp2_with fail
          go_ret
          exact ⟨by rw [retF hf.out]; rfl, hx.out.below⟩
        case pos =>
          have q1 : (x == y) = true := beq_iff_eq.2 x1
          have q1n : (x != y) = false := by rw [x1]; exact bne_self_eq_false _
          have hf := Aside.mk (hno2.out x1)
          clear x1
          go_big_quiet (fail)
          replace hx := Aside.mk (hx.out.drewN nq)
          go_wp2_with fail
          go_roundw
          case rel => exact ⟨k + 1, _, by omega, by go_num, hf, hx, h1, h2⟩
          case measure => (first | (simp [intOf]; done) | (simp [intOf]; omega))
      case neg =>
        have hli : ¬ (k : Int) < (a.length : Int) := by omega
        have hte : Aside (a = b) := ⟨getD_ext hl2.out (fun i hi => hno.out i (by omega))⟩
        go_wp2_with fail
        go_ret
        exact ⟨by rw [retT hte.out]; rfl, hx.out.below⟩
end Go.Proofs.Ytbnahmeaeakhhaa.B
