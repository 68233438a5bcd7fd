/- parllaw1.RowpackReads: the walk. -/
import Derived.Test.YtbnahmeaeakhhaaT9
import Derived.Test.YtbnahmeaeakhhaaQ11
import Derived.Test.YtbnahmeaeakhhaaRr
import Derived.Deep.RegionHeld3
namespace Go.Proofs.Ytbnahmeaeakhhaa.B
set_option linter.unusedVariables false
set_option linter.unusedSimpArgs false
open Go Go.RowKit Go.Proofs.Ytbnahmeaeakhhaa.Q Go.Proofs.Ytbnahmeaeakhhaa.S Classical

theorem Own.into {k : IntKind} {e : TypeId} {w W : World} {H : PH} {v : Value} {xs : List Int} (h : Own (kI k) e w W.heap.size Go.Proofs.Ytbnahmeaeakhhaa.B.emp v xs) (hs : Sat W H) : Own (kI k) e w W.heap.size H v xs :=
  h.flat (fun b o e => hs.new (h.blk e).1 o)
theorem RdTab.mono {H H' : PH} {T : Tab} {cs : List Value} (hh : H.le H') (h : RdTab H T cs) : RdTab H' T cs := by
  obtain ⟨A1, c1, A2, c2, A3, c3, A4, c4, rfl, h1, h2, h3, h4⟩ := h
  exact ⟨A1, c1, A2, c2, A3, c3, A4, c4, rfl, h1.mono hh, h2.mono hh, h3.mono hh, h4.mono hh⟩
theorem RdAut.mono {H H' : PH} {D : Aut} {cs : List Value} (hh : H.le H') (h : RdAut H D cs) : RdAut H' D cs := by
  obtain ⟨A1, c1, A2, c2, rfl, h1, h2⟩ := h
  exact ⟨A1, c1, A2, c2, rfl, h1.mono hh, h2.mono hh⟩

theorem tabEq_zero {H : PH} {cs : List Value} {w : World} (hT : RdTab H zeroTab cs) (hs : Sat w H) :
    Calls Try.prog 58 #[.agg cs.toArray, .agg #[.int .i64 0, .int .i64 0, .slice none 0 0, .slice none 0 0, .slice none 0 0, .slice none 0 0]] w fun e w' => e = .returned (.bool true) ∧ Below w.heap.size w w' := by
  have hz : RdTab H zeroTab [.int .i64 0, .int .i64 0, .slice none 0 0, .slice none 0 0, .slice none 0 0, .slice none 0 0] := ⟨none, 0, none, 0, none, 0, none, 0, rfl, SlR.nil _ _, SlR.nil _ _, SlR.nil _ _, SlR.nil _ _⟩
  have := tabEq_any hT hz hs (by simp [lenT, zeroTab])
  rw [show decide (zeroTab = zeroTab) = true from decide_eq_true rfl] at this
  exact this
theorem refCheck_ok {H : PH} {T : Tab} {cs : List Value} {w : World} (hT : RdTab H T cs) (hs : Sat w H) (h0 : errT T = 0) :
    Calls Try.prog 71 #[.agg cs.toArray] w fun e w' => e = .returned (.int .i64 0) ∧ Below w.heap.size w w' := by
  have := refCheck_any hT hs; rw [h0] at this; exact this
theorem bytesT_len {T : Tab} (hr : errT T = 0 → InR (numsF T.st T.cols T.acc T.base T.own T.nxt)) : (bytesT T).length ≤ 200000 := by
  unfold bytesT
  by_cases h : errT T = 0
  · rw [if_pos h]
    have ok := tabErr_ok h
    have := bytesF_len (hr h)
    have h2 : (numsF T.st T.cols T.acc T.base T.own T.nxt).length ≤ 10004 := by simp [numsF]; omega
    omega
  · rw [if_neg h]; simp

theorem encN_inB : ∀ (n m : Nat), m ≤ n → InB (encN m)
  | n, m, h => by
    by_cases hm : m < 128
    · rw [encN_small hm]; intro x hx; simp at hx; omega
    · rw [encN_big hm]
      intro x hx
      rcases List.mem_cons.1 hx with rfl | hx
      · omega
      · cases n with
        | zero => omega
        | succ n => exact encN_inB n (m / 128) (by omega) x hx
theorem bytesT_inB (T : Tab) : InB (bytesT T) := by
  unfold bytesT
  split
  · intro x hx
    simp only [bytesF, List.mem_flatten, List.mem_map] at hx
    obtain ⟨l, ⟨a, -, rfl⟩, hx⟩ := hx
    exact encN_inB _ _ (Nat.le_refl _) x hx
  · intro x hx; simp at hx
theorem tabEq_same {H : PH} {T : Tab} {cs ds : List Value} {w : World} (hT : RdTab H T cs) (hU : RdTab H T ds) (hs : Sat w H) (h0 : errT T = 0) :
    Calls Try.prog 58 #[.agg cs.toArray, .agg ds.toArray] w fun e w' => e = .returned (.bool true) ∧ Below w.heap.size w w' := by
  have ok := tabErr_ok h0
  have := tabEq_any hT hU hs (by unfold lenT; omega)
  rw [show decide (T = T) = true from decide_eq_true rfl] at this
  exact this

set_option maxRecDepth 100000 in
set_option maxHeartbeats 32000000 in
theorem rowpackReads_any (H : PH) (st cols : Int) (acc base own nxt : List Int) (A1 A2 A3 A4 : Option Addr) (c1 c2 c3 c4 : Nat) (s c : Int) (lb : List Int) (Ab : Option Addr) (nb cb : Nat) (w : World)
    (hT : RdTab H ⟨st, cols, acc, base, own, nxt⟩ [.int .i64 st, .int .i64 cols, .slice A1 acc.length c1, .slice A2 base.length c2, .slice A3 own.length c3, .slice A4 nxt.length c4])
    (hb : SlR (kI .u8) H Ab nb cb lb) (hin : InB lb) (hs : Sat w H) (hr : errT ⟨st, cols, acc, base, own, nxt⟩ = 0 → InR (numsF st cols acc base own nxt)) :
    Calls Try.prog 13 #[.agg #[.int .i64 st, .int .i64 cols, .slice A1 acc.length c1, .slice A2 base.length c2, .slice A3 own.length c3, .slice A4 nxt.length c4], .int .i64 s, .int .i64 c, .slice Ab nb cb] w fun e w' => e = .returned (.bool true) ∧ Below w.heap.size w w' := by
  replace hin := Aside.mk hin
  replace hr := Aside.mk hr
  have hx := Aside.mk (Ext.refl hs)
  replace hT := Aside.mk hT
  replace hb := Aside.mk hb
  go_enter Try.func13, Try.ntmps13
  go_wp2_with fail
  have hszw := hx.out.size
  have kt_ : (w.alloc (.cells #[.int .i64 st, .int .i64 cols, .slice A1 acc.length c1, .slice A2 base.length c2, .slice A3 own.length c3, .slice A4 nxt.length c4] 85)).heap[w.heap.size]? = some (.cells #[.int .i64 st, .int .i64 cols, .slice A1 acc.length c1, .slice A2 base.length c2, .slice A3 own.length c3, .slice A4 nxt.length c4] 85) := (heap_alloc_new _ _)
  have nt := Aside.mk (fun o => hx.out.sat.new (b := w.heap.size) (show w.heap.size ≤ _ by omega) o)
  replace hx := Aside.mk ((hx.out.alloc (.cells #[.int .i64 st, .int .i64 cols, .slice A1 acc.length c1, .slice A2 base.length c2, .slice A3 own.length c3, .slice A4 nxt.length c4] 85)))
  generalize (w.alloc (.cells #[.int .i64 st, .int .i64 cols, .slice A1 acc.length c1, .slice A2 base.length c2, .slice A3 own.length c3, .slice A4 nxt.length c4] 85)) = W1 at *
  have kt := Aside.mk kt_
  clear kt_
  obtain ⟨H1, hx2, hle, Bt, hold⟩ := box_freeze hx.out (by omega) kt.out nt.out
  replace hT := Aside.mk (hT.out.mono hle)
  replace hb := Aside.mk (hb.out.mono hle)
  replace hx := Aside.mk hx2
  replace Bt := Aside.mk Bt
  clear hle hold hx2 kt nt
  have lqt : w.heap.size < W1.heap.size := hx.out.sat.lt (Bt.out 0 _ rfl)
  obtain ⟨ct0, ct1, ct2, ct3, ct4, ct5⟩ := hb6 hx.out.sat Bt.out
  go_wp2_with fail
  clear lqt ct0 ct1 ct2 ct3 ct4 ct5
  have hsz := hx.out.size
  refine (refCheck_any hT.out hx.out.sat).mono ?_
  rintro e w1 ⟨rfl, hb9⟩
  replace hx := Aside.mk (hx.out.then_below hb9)
  clear hb9
  clear hsz 
  have lqt : w.heap.size < w1.heap.size := hx.out.sat.lt (Bt.out 0 _ rfl)
  obtain ⟨ct0, ct1, ct2, ct3, ct4, ct5⟩ := hb6 hx.out.sat Bt.out
  go_wp2_with fail
  clear lqt ct0 ct1 ct2 ct3 ct4 ct5
  have hsz := hx.out.size
  refine (At_any s c hT.out hx.out.sat).mono ?_
  rintro e w2 ⟨rfl, hb9⟩
  replace hx := Aside.mk (hx.out.then_below hb9)
  clear hb9
  clear hsz 
  have lqt : w.heap.size < w2.heap.size := hx.out.sat.lt (Bt.out 0 _ rfl)
  obtain ⟨ct0, ct1, ct2, ct3, ct4, ct5⟩ := hb6 hx.out.sat Bt.out
  go_wp2_with fail
  clear lqt ct0 ct1 ct2 ct3 ct4 ct5
  have hsz := hx.out.size
  refine (dfaT_any hT.out hx.out.sat).mono ?_
  rintro e w3 ⟨H2, csD, D, rfl, hD, hDe, hx9⟩
  have hle := hx9.le
  replace hT := Aside.mk (hT.out.mono hle)
  replace hb := Aside.mk (hb.out.mono hle)
  replace Bt := Aside.mk (Bt.out.mono hle)
  replace hx := Aside.mk (hx.out.trans hx9)
  clear hle hx9
  clear hsz 
  obtain ⟨B1, d1, B2, d2, rfl, hD1, hD2⟩ := hD
  replace hD1 := Aside.mk hD1
  replace hD2 := Aside.mk hD2
  replace hDe := Aside.mk hDe
  have hsz := hx.out.size
  have lqt : w.heap.size < w3.heap.size := hx.out.sat.lt (Bt.out 0 _ rfl)
  obtain ⟨ct0, ct1, ct2, ct3, ct4, ct5⟩ := hb6 hx.out.sat Bt.out
  go_wp2_with fail
  clear lqt ct0 ct1 ct2 ct3 ct4 ct5
  have hszw3 := hx.out.size
  have kd_ : (w3.alloc (.cells #[.int .i64 D.st, .slice B1 D.acc.length d1, .slice B2 D.next.length d2] 58)).heap[w3.heap.size]? = some (.cells #[.int .i64 D.st, .slice B1 D.acc.length d1, .slice B2 D.next.length d2] 58) := (heap_alloc_new _ _)
  have nd := Aside.mk (fun o => hx.out.sat.new (b := w3.heap.size) (show w3.heap.size ≤ _ by omega) o)
  replace hx := Aside.mk ((hx.out.alloc (.cells #[.int .i64 D.st, .slice B1 D.acc.length d1, .slice B2 D.next.length d2] 58)))
  generalize (w3.alloc (.cells #[.int .i64 D.st, .slice B1 D.acc.length d1, .slice B2 D.next.length d2] 58)) = W2 at *
  have kd := Aside.mk kd_
  clear kd_
  obtain ⟨H1, hx2, hle, Bd, hold⟩ := box_freeze hx.out (by omega) kd.out nd.out
  replace hT := Aside.mk (hT.out.mono hle)
  replace hb := Aside.mk (hb.out.mono hle)
  replace hD1 := Aside.mk (hD1.out.mono hle)
  replace hD2 := Aside.mk (hD2.out.mono hle)
  replace Bt := Aside.mk (Bt.out.mono hle)
  replace hx := Aside.mk hx2
  replace Bd := Aside.mk Bd
  clear hle hold hx2 kd nd
  have hbl : (bytesT ⟨st, cols, acc, base, own, nxt⟩).length ≤ 200000 := bytesT_len hr.out
  have lqt : w.heap.size < W2.heap.size := hx.out.sat.lt (Bt.out 0 _ rfl)
  obtain ⟨ct0, ct1, ct2, ct3, ct4, ct5⟩ := hb6 hx.out.sat Bt.out
  have lqd : w3.heap.size < W2.heap.size := hx.out.sat.lt (Bd.out 0 _ rfl)
  have cd0 : W2.cell? ⟨w3.heap.size, 0, none⟩ = some (.int .i64 D.st) := hx.out.sat _ _ _ (Bd.out 0 _ rfl)
  have cd1 : W2.cell? ⟨w3.heap.size, 1, none⟩ = some (.slice B1 D.acc.length d1) := hx.out.sat _ _ _ (Bd.out 1 _ rfl)
  have cd2 : W2.cell? ⟨w3.heap.size, 2, none⟩ = some (.slice B2 D.next.length d2) := hx.out.sat _ _ _ (Bd.out 2 _ rfl)
  go_wp2_with fail
  clear lqt ct0 ct1 ct2 ct3 ct4 ct5 lqd cd0 cd1 cd2
  have hsz := hx.out.size
  refine (Bytes_any hT.out hx.out.sat hr.out).mono ?_
  rintro e w4 ⟨v, rfl, ho, hb9⟩
  replace ho := ho.into hx.out.sat
  replace hx := Aside.mk (hx.out.then_below hb9)
  clear hb9
  obtain ⟨Bo, bo, ev, -, -, -, -⟩ := ho.form
  subst ev
  replace ho := Aside.mk ho
  obtain ⟨H1, hx2, hle, ⟨Bo_, bo_, e1, ho⟩, hold⟩ := ho.out.freezeE hx.out (by omega) (by omega)
  cases e1
  replace hT := Aside.mk (hT.out.mono hle)
  replace hb := Aside.mk (hb.out.mono hle)
  replace hD1 := Aside.mk (hD1.out.mono hle)
  replace hD2 := Aside.mk (hD2.out.mono hle)
  replace Bt := Aside.mk (Bt.out.mono hle)
  replace Bd := Aside.mk (Bd.out.mono hle)
  replace hx := Aside.mk hx2
  replace ho := Aside.mk ho
  clear hle hold hx2
  clear hsz
  clear hbl
  have lqt : w.heap.size < w4.heap.size := hx.out.sat.lt (Bt.out 0 _ rfl)
  obtain ⟨ct0, ct1, ct2, ct3, ct4, ct5⟩ := hb6 hx.out.sat Bt.out
  have lqd : w3.heap.size < w4.heap.size := hx.out.sat.lt (Bd.out 0 _ rfl)
  have cd0 : w4.cell? ⟨w3.heap.size, 0, none⟩ = some (.int .i64 D.st) := hx.out.sat _ _ _ (Bd.out 0 _ rfl)
  have cd1 : w4.cell? ⟨w3.heap.size, 1, none⟩ = some (.slice B1 D.acc.length d1) := hx.out.sat _ _ _ (Bd.out 1 _ rfl)
  have cd2 : w4.cell? ⟨w3.heap.size, 2, none⟩ = some (.slice B2 D.next.length d2) := hx.out.sat _ _ _ (Bd.out 2 _ rfl)
  go_wp2_with fail
  clear lqt ct0 ct1 ct2 ct3 ct4 ct5 lqd cd0 cd1 cd2
  have hsz := hx.out.size
  refine (packBegun_any _ _ hx.out.sat).mono ?_
  rintro e w5 ⟨rfl, hb9⟩
  replace hx := Aside.mk (hx.out.then_below hb9)
  clear hb9
  clear hsz 
  have lqt : w.heap.size < w5.heap.size := hx.out.sat.lt (Bt.out 0 _ rfl)
  obtain ⟨ct0, ct1, ct2, ct3, ct4, ct5⟩ := hb6 hx.out.sat Bt.out
  have lqd : w3.heap.size < w5.heap.size := hx.out.sat.lt (Bd.out 0 _ rfl)
  have cd0 : w5.cell? ⟨w3.heap.size, 0, none⟩ = some (.int .i64 D.st) := hx.out.sat _ _ _ (Bd.out 0 _ rfl)
  have cd1 : w5.cell? ⟨w3.heap.size, 1, none⟩ = some (.slice B1 D.acc.length d1) := hx.out.sat _ _ _ (Bd.out 1 _ rfl)
  have cd2 : w5.cell? ⟨w3.heap.size, 2, none⟩ = some (.slice B2 D.next.length d2) := hx.out.sat _ _ _ (Bd.out 2 _ rfl)
  go_wp2_with fail
  clear lqt ct0 ct1 ct2 ct3 ct4 ct5 lqd cd0 cd1 cd2
  have hsz := hx.out.size
  refine (checkT_any hT.out hx.out.sat).mono ?_
  rintro e w6 ⟨rfl, hb9⟩
  replace hx := Aside.mk (hx.out.then_below hb9)
  clear hb9
  clear hsz 
  have lqt : w.heap.size < w6.heap.size := hx.out.sat.lt (Bt.out 0 _ rfl)
  obtain ⟨ct0, ct1, ct2, ct3, ct4, ct5⟩ := hb6 hx.out.sat Bt.out
  have lqd : w3.heap.size < w6.heap.size := hx.out.sat.lt (Bd.out 0 _ rfl)
  have cd0 : w6.cell? ⟨w3.heap.size, 0, none⟩ = some (.int .i64 D.st) := hx.out.sat _ _ _ (Bd.out 0 _ rfl)
  have cd1 : w6.cell? ⟨w3.heap.size, 1, none⟩ = some (.slice B1 D.acc.length d1) := hx.out.sat _ _ _ (Bd.out 1 _ rfl)
  have cd2 : w6.cell? ⟨w3.heap.size, 2, none⟩ = some (.slice B2 D.next.length d2) := hx.out.sat _ _ _ (Bd.out 2 _ rfl)
  go_wp2_with fail
  clear lqt ct0 ct1 ct2 ct3 ct4 ct5 lqd cd0 cd1 cd2
  have hsz := hx.out.size
  refine (read_any _ lb Ab nb cb _ hb.out hx.out.sat hin.out).mono ?_
  rintro e w7 ⟨H3, csR, errR, R, rfl, hR, hRR, hx9⟩
  have hle := hx9.le
  replace hT := Aside.mk (hT.out.mono hle)
  replace hb := Aside.mk (hb.out.mono hle)
  replace hD1 := Aside.mk (hD1.out.mono hle)
  replace hD2 := Aside.mk (hD2.out.mono hle)
  replace ho := Aside.mk (ho.out.mono hle)
  replace Bt := Aside.mk (Bt.out.mono hle)
  replace Bd := Aside.mk (Bd.out.mono hle)
  replace hx := Aside.mk (hx.out.trans hx9)
  clear hle hx9
  clear hsz 
  obtain ⟨C1, e1, C2, e2, C3, e3, C4, e4, rfl, hR1, hR2, hR3, hR4⟩ := hR
  have hR := Aside.mk (show RdTab H3 R [.int .i64 R.st, .int .i64 R.cols, .slice C1 R.acc.length e1, .slice C2 R.base.length e2, .slice C3 R.own.length e3, .slice C4 R.nxt.length e4] from ⟨C1, e1, C2, e2, C3, e3, C4, e4, rfl, hR1, hR2, hR3, hR4⟩)
  clear hR1 hR2 hR3 hR4
  replace hRR := Aside.mk hRR
  have hsz := hx.out.size
  have lqt : w.heap.size < w7.heap.size := hx.out.sat.lt (Bt.out 0 _ rfl)
  obtain ⟨ct0, ct1, ct2, ct3, ct4, ct5⟩ := hb6 hx.out.sat Bt.out
  have lqd : w3.heap.size < w7.heap.size := hx.out.sat.lt (Bd.out 0 _ rfl)
  have cd0 : w7.cell? ⟨w3.heap.size, 0, none⟩ = some (.int .i64 D.st) := hx.out.sat _ _ _ (Bd.out 0 _ rfl)
  have cd1 : w7.cell? ⟨w3.heap.size, 1, none⟩ = some (.slice B1 D.acc.length d1) := hx.out.sat _ _ _ (Bd.out 1 _ rfl)
  have cd2 : w7.cell? ⟨w3.heap.size, 2, none⟩ = some (.slice B2 D.next.length d2) := hx.out.sat _ _ _ (Bd.out 2 _ rfl)
  go_upto_if 56 with (fail)
  clear lqt ct0 ct1 ct2 ct3 ct4 ct5 lqd cd0 cd1 cd2
  have hszw7 := hx.out.size
  have kr_ : (w7.alloc (.cells #[.int .i64 R.st, .int .i64 R.cols, .slice C1 R.acc.length e1, .slice C2 R.base.length e2, .slice C3 R.own.length e3, .slice C4 R.nxt.length e4] 85)).heap[w7.heap.size]? = some (.cells #[.int .i64 R.st, .int .i64 R.cols, .slice C1 R.acc.length e1, .slice C2 R.base.length e2, .slice C3 R.own.length e3, .slice C4 R.nxt.length e4] 85) := (heap_alloc_new _ _)
  have nr := Aside.mk (fun o => hx.out.sat.new (b := w7.heap.size) (show w7.heap.size ≤ _ by omega) o)
  replace hx := Aside.mk ((hx.out.alloc (.cells #[.int .i64 R.st, .int .i64 R.cols, .slice C1 R.acc.length e1, .slice C2 R.base.length e2, .slice C3 R.own.length e3, .slice C4 R.nxt.length e4] 85)))
  generalize (w7.alloc (.cells #[.int .i64 R.st, .int .i64 R.cols, .slice C1 R.acc.length e1, .slice C2 R.base.length e2, .slice C3 R.own.length e3, .slice C4 R.nxt.length e4] 85)) = W3 at *
  have kr := Aside.mk kr_
  clear kr_
  obtain ⟨H1, hx2, hle, Br, hold⟩ := box_freeze hx.out (by omega) kr.out nr.out
  replace hT := Aside.mk (hT.out.mono hle)
  replace hb := Aside.mk (hb.out.mono hle)
  replace hD1 := Aside.mk (hD1.out.mono hle)
  replace hD2 := Aside.mk (hD2.out.mono hle)
  replace ho := Aside.mk (ho.out.mono hle)
  replace hR := Aside.mk (hR.out.mono hle)
  replace Bt := Aside.mk (Bt.out.mono hle)
  replace Bd := Aside.mk (Bd.out.mono hle)
  replace hx := Aside.mk hx2
  replace Br := Aside.mk Br
  clear hle hold hx2 kr nr
  generalize hET : errT ⟨st, cols, acc, base, own, nxt⟩ = et at *
  replace hET := Aside.mk hET
  go_cut [] (fun wc => Aside (Ext H H1 w wc))
  case first =>
    by_cases hz : errR = 0
    case pos =>
      subst hz
      obtain ⟨q1, q2, q3⟩ := readR_ok hRR.out hin.out rfl
      have hRb : bytesT R = lb := by unfold bytesT; rw [if_pos (show errT R = 0 from q1)]; exact q2.symm
      have RK := Aside.mk (And.intro (show errT R = 0 from q1) (And.intro q3 hRb))
      clear q1 q2 q3 hRb
      go_wp2_with fail
      go_cut [67] (fun s67 wc => s67 = .bool false ∧ Aside (Ext H H1 w wc))
      case first =>
        obtain ⟨r0, r1, r2, r3, r4, r5⟩ := hb6 hx.out.sat Br.out
        go_region_with ((first
            | (go_at_call 71; refine (refCheck_ok hR.out hx.out.sat.drew RK.out.1).mono ?_; rintro e w8 ⟨rfl, hb8⟩; have hs1 := Sat.below hx.out.sat.drew hb8; obtain ⟨p0, p1, p2, p3, p4, p5⟩ := hb6 hs1 Br.out; have hc8 := run_str (hb.out.wr hs1); have hx8 := Aside.mk (hx.out.drew.then_below hb8); clear hb8)
            | (go_at_call 62; refine (tabBytes_any hR.out hs1 RK.out.1 RK.out.2.1).mono ?_; rintro e w9 ⟨v, rfl, ho, hb9⟩; have hs2 := Sat.below hs1 hb9; rw [RK.out.2.2] at ho; obtain ⟨A9, c9, ev, hwr, -⟩ := ho.wr (by have := hb.out.2.2.2.1; have := hb.out.1; omega); subst ev; have hcv := run_str hwr; have hc9 := run_str (hb.out.wr hs2); have hx9 := Aside.mk (hx8.out.then_below hb9); clear hb9 hwr ho)))
        all_goals go_wp2_with fail
        all_goals go_meet
        all_goals exact ⟨rfl, hx9⟩
      case rest =>
        clear hx
        obtain ⟨rfl, hx⟩ := hcut
        go_wp2_with fail
        go_meet
        exact hx
    case neg =>
      have hRz := readR_err hRR.out hz
      subst hRz
      have lqt : w.heap.size < W3.heap.size := hx.out.sat.lt (Bt.out 0 _ rfl)
      obtain ⟨ct0, ct1, ct2, ct3, ct4, ct5⟩ := hb6 hx.out.sat Bt.out
      have lqd : w3.heap.size < W3.heap.size := hx.out.sat.lt (Bd.out 0 _ rfl)
      have cd0 : W3.cell? ⟨w3.heap.size, 0, none⟩ = some (.int .i64 D.st) := hx.out.sat _ _ _ (Bd.out 0 _ rfl)
      have cd1 : W3.cell? ⟨w3.heap.size, 1, none⟩ = some (.slice B1 D.acc.length d1) := hx.out.sat _ _ _ (Bd.out 1 _ rfl)
      have cd2 : W3.cell? ⟨w3.heap.size, 2, none⟩ = some (.slice B2 D.next.length d2) := hx.out.sat _ _ _ (Bd.out 2 _ rfl)
      have lqr : w7.heap.size < W3.heap.size := hx.out.sat.lt (Br.out 0 _ rfl)
      obtain ⟨cr0, cr1, cr2, cr3, cr4, cr5⟩ := hb6 hx.out.sat Br.out
      go_wp2_with fail
      clear lqt ct0 ct1 ct2 ct3 ct4 ct5 lqd cd0 cd1 cd2 lqr cr0 cr1 cr2 cr3 cr4 cr5
      refine (tabEq_zero hR.out hx.out.sat).mono ?_
      rintro e w8 ⟨rfl, hb8⟩
      have hx8 := Aside.mk (hx.out.then_below hb8)
      clear hb8
      go_wp2_with fail
      go_meet
      exact hx8
  case rest =>
    clear hx
    have hx := hcut
    clear hcut
    by_cases hz : et = 0
    case neg =>
      have hnz : errT ⟨st, cols, acc, base, own, nxt⟩ ≠ 0 := by rw [hET.out]; exact hz
      have hav : atV ⟨st, cols, acc, base, own, nxt⟩ s c = (0, et) := by unfold atV; rw [if_pos hnz, hET.out]
      have hbt : bytesT ⟨st, cols, acc, base, own, nxt⟩ = [] := by unfold bytesT; rw [if_neg hnz]
      have hDz : D = zeroAut := hDe.out.elim (fun h => absurd h.1 hz) (fun h => h.2)
      subst hDz
      rw [hbt] at *
      simp only [hav] at *
      clear hav hbt hnz
      have lqt : w.heap.size < wc.heap.size := hx.out.sat.lt (Bt.out 0 _ rfl)
      obtain ⟨ct0, ct1, ct2, ct3, ct4, ct5⟩ := hb6 hx.out.sat Bt.out
      have lqd : w3.heap.size < wc.heap.size := hx.out.sat.lt (Bd.out 0 _ rfl)
      have cd0 : wc.cell? ⟨w3.heap.size, 0, none⟩ = some (.int .i64 0) := hx.out.sat _ _ _ (Bd.out 0 _ rfl)
      have cd1 : wc.cell? ⟨w3.heap.size, 1, none⟩ = some (.slice B1 0 d1) := hx.out.sat _ _ _ (Bd.out 1 _ rfl)
      have cd2 : wc.cell? ⟨w3.heap.size, 2, none⟩ = some (.slice B2 0 d2) := hx.out.sat _ _ _ (Bd.out 2 _ rfl)
      have lqr : w7.heap.size < wc.heap.size := hx.out.sat.lt (Br.out 0 _ rfl)
      obtain ⟨cr0, cr1, cr2, cr3, cr4, cr5⟩ := hb6 hx.out.sat Br.out
      go_wp2_with fail
      clear lqt ct0 ct1 ct2 ct3 ct4 ct5 lqd cd0 cd1 cd2 lqr cr0 cr1 cr2 cr3 cr4 cr5
      go_outline
      go_ret
      exact ⟨rfl, hx.out.below⟩
    case pos =>
      subst hz
      have hD0 := hDe.out.elim (fun h => h.2) (fun h => absurd rfl h.1)
      subst hD0
      have T0 := Aside.mk (show errT ⟨st, cols, acc, base, own, nxt⟩ = 0 from hET.out)
      have IR := Aside.mk (hr.out rfl)
      obtain ⟨nx, hnx⟩ : ∃ nx, nx = (autT ⟨st, cols, acc, base, own, nxt⟩).next := ⟨_, rfl⟩
      rw [← hnx] at hD2 Bd
      have hnl : nx.length = base.length := by rw [hnx]; simp [autT]
      rw [hnl] at hD2 Bd
      replace hnl := Aside.mk hnl
      replace hnx := Aside.mk hnx
      generalize hob : bytesT ⟨st, cols, acc, base, own, nxt⟩ = ob at *
      replace hob := Aside.mk hob
      have lqt : w.heap.size < wc.heap.size := hx.out.sat.lt (Bt.out 0 _ rfl)
      obtain ⟨ct0, ct1, ct2, ct3, ct4, ct5⟩ := hb6 hx.out.sat Bt.out
      have lqd : w3.heap.size < wc.heap.size := hx.out.sat.lt (Bd.out 0 _ rfl)
      have cd0 : wc.cell? ⟨w3.heap.size, 0, none⟩ = some (.int .i64 st) := hx.out.sat _ _ _ (Bd.out 0 _ rfl)
      have cd1 : wc.cell? ⟨w3.heap.size, 1, none⟩ = some (.slice B1 acc.length d1) := hx.out.sat _ _ _ (Bd.out 1 _ rfl)
      have cd2 : wc.cell? ⟨w3.heap.size, 2, none⟩ = some (.slice B2 base.length d2) := hx.out.sat _ _ _ (Bd.out 2 _ rfl)
      have lqr : w7.heap.size < wc.heap.size := hx.out.sat.lt (Br.out 0 _ rfl)
      obtain ⟨cr0, cr1, cr2, cr3, cr4, cr5⟩ := hb6 hx.out.sat Br.out
      go_wp2_with fail
      clear lqt ct0 ct1 ct2 ct3 ct4 ct5 lqd cd0 cd1 cd2 lqr cr0 cr1 cr2 cr3 cr4 cr5
      go_cut [122] (fun s122 wk => s122 = .bool false ∧ Aside (Ext H H1 w wk))
      case first =>
        rename_i K1 a3 K0 a2 J0 K2 a1 a0
        clear a3 a2
        refine region_seq [100, 101, 102, 103, 104, 105, 106, 107, 108, 109, 110, 111, 112, 113, 114, 115, 116, 117, 118, 119, 120, 121, 122] (by kernel_rfl) (by kernel_rfl) (by kernel_rfl) (by kernel_rfl) hx.out.sat ?_
        refine reg_val (d := 100) (v := ?_) rfl (Or.inl rfl) (fun ρ wρ Hρ hρ => ?_) ?_; rotate_left
        · have k_c := hρ.const; have k_13 : ρ (.tmp 13) = .int .i64 0 := hρ.old 13 (by kernel_rfl); (go_simp <;> with_reducible rfl)
        refine reg_val (d := 101) (v := ?_) rfl (Or.inl rfl) (fun ρ wρ Hρ hρ => ?_) ?_; rotate_left
        · have k_c := hρ.const; have k_100 : ρ (.tmp 100) = _ := hρ.dep 100 (by kernel_rfl); (go_simp <;> with_reducible rfl)
        refine reg_val (d := 102) (v := ?_) rfl (Or.inl rfl) (fun ρ wρ Hρ hρ => ?_) ?_; rotate_left
        · have k_c := hρ.const; have k_101 : ρ (.tmp 101) = _ := hρ.dep 101 (by kernel_rfl); (go_simp <;> with_reducible rfl)
        refine reg_val (d := 103) (v := ?_) rfl (Or.inr ⟨2, false, 102, rfl, by kernel_rfl, by kernel_rfl, rfl⟩) (fun ρ wρ Hρ hρ => ?_) ?_; rotate_left
        · have k_c := hρ.const; have k_15 : ρ (.tmp 15) = .int .i64 0 := hρ.old 15 (by kernel_rfl); (go_simp <;> with_reducible rfl)
        refine reg_val (d := 104) (v := ?_) rfl (Or.inr ⟨2, false, 102, rfl, by kernel_rfl, by kernel_rfl, rfl⟩) (fun ρ wρ Hρ hρ => ?_) ?_; rotate_left
        · have k_c := hρ.const; have k_103 : ρ (.tmp 103) = _ := hρ.dep 103 (by kernel_rfl); (go_simp <;> with_reducible rfl)
        refine reg_val (d := 105) (v := ?_) rfl (Or.inl rfl) (fun ρ wρ Hρ hρ => ?_) ?_; rotate_left
        · have k_c := hρ.const; have k_102 : ρ (.tmp 102) = _ := hρ.dep 102 (by kernel_rfl); have k_104 : ρ (.tmp 104) = _ := hρ.dep 104 (by kernel_rfl); (go_simp <;> with_reducible rfl)
        refine reg_val (d := 106) (v := ?_) rfl (Or.inl rfl) (fun ρ wρ Hρ hρ => ?_) ?_; rotate_left
        · have k_c := hρ.const; have k_105 : ρ (.tmp 105) = _ := hρ.dep 105 (by kernel_rfl); (go_simp <;> with_reducible rfl)
        refine reg_val (d := 107) (v := ?_) rfl (Or.inr ⟨6, false, 106, rfl, by kernel_rfl, by kernel_rfl, rfl⟩) (fun ρ wρ Hρ hρ => ?_) ?_; rotate_left
        · have k_c := hρ.const; have k_14 : ρ (.tmp 14) = .slice Bo ob.length bo := hρ.old 14 (by kernel_rfl); (go_simp <;> with_reducible rfl)
        refine reg_val (d := 108) (v := ?_) rfl (Or.inr ⟨6, false, 106, rfl, by kernel_rfl, by kernel_rfl, rfl⟩) (fun ρ wρ Hρ hρ => ?_) ?_; rotate_left
        · have k_c := hρ.const; have k_107 : ρ (.tmp 107) = _ := hρ.dep 107 (by kernel_rfl); have hc := run_str ((ho.out.mono hρ.ext.le).wr hρ.sat); (go_simp <;> with_reducible rfl)
        refine reg_val (d := 109) (v := ?_) rfl (Or.inr ⟨6, false, 106, rfl, by kernel_rfl, by kernel_rfl, rfl⟩) (fun ρ wρ Hρ hρ => ?_) ?_; rotate_left
        · have k_c := hρ.const; have k_4 : ρ (.tmp 4) = .pointer (some ⟨w.heap.size, 0, none⟩) := hρ.old 4 (by kernel_rfl); obtain ⟨p0, p1, p2, p3, p4, p5⟩ := hb6 hρ.sat (Bt.out.mono hρ.ext.le); (go_simp <;> with_reducible rfl)
        refine reg_call (d := 110) ((.any (fun H u => ∃ A c, u = .slice A ob.length c ∧ SlR (kI .u8) H A ob.length c ob) (fun H H2 v hh ⟨A, c, e, h⟩ => ⟨A, c, e, h.mono hh⟩))) 62 rfl rfl Try.func62 (by kernel_rfl) rfl rfl (Or.inr ⟨6, false, 106, rfl, by kernel_rfl, by kernel_rfl, rfl⟩) (fun ρ wρ Hρ hρ => ?_) ?_
        · have k_c := hρ.const; have k_109 : ρ (.tmp 109) = _ := hρ.dep 109 (by kernel_rfl); simp only [List.map_toArray, List.map_cons, List.map_nil, k_109]; refine (tabBytes_any (hT.out.mono hρ.ext.le) hρ.sat T0.out IR.out).mono ?_; rintro e w9 ⟨v, rfl, ho9, hb9⟩; rw [hob.out] at ho9; obtain ⟨H9, hx9, hle9, ⟨A9, c9, e9, hs9⟩, -⟩ := (ho9.into hρ.sat).freezeE (Ext.of_below hρ.sat hb9) (Nat.le_refl _) (by have := ho.out.2.2.2.1; omega); cases e9; exact ⟨_, H9, rfl, hx9, A9, c9, rfl, hs9⟩
        refine reg_val (d := 111) (v := ?_) rfl (Or.inr ⟨6, false, 106, rfl, by kernel_rfl, by kernel_rfl, rfl⟩) (fun ρ wρ Hρ hρ => ?_) ?_; rotate_left
        · have k_c := hρ.const; obtain ⟨A9, c9, k_110, h9⟩ := hρ.dep 110 (by kernel_rfl); have hc := run_str (h9.wr hρ.sat); (go_simp <;> with_reducible rfl)
        refine reg_val (d := 112) (v := ?_) rfl (Or.inr ⟨6, false, 106, rfl, by kernel_rfl, by kernel_rfl, rfl⟩) (fun ρ wρ Hρ hρ => ?_) ?_; rotate_left
        · have k_c := hρ.const; have k_108 : ρ (.tmp 108) = _ := hρ.dep 108 (by kernel_rfl); have k_111 : ρ (.tmp 111) = _ := hρ.dep 111 (by kernel_rfl); (go_simp <;> with_reducible rfl)
        refine reg_val (d := 113) (v := ?_) rfl (Or.inl rfl) (fun ρ wρ Hρ hρ => ?_) ?_; rotate_left
        · have k_c := hρ.const; have k_106 : ρ (.tmp 106) = _ := hρ.dep 106 (by kernel_rfl); have k_112 : ρ (.tmp 112) = _ := hρ.dep 112 (by kernel_rfl); (go_simp <;> with_reducible rfl)
        refine reg_val (d := 114) (v := ?_) rfl (Or.inl rfl) (fun ρ wρ Hρ hρ => ?_) ?_; rotate_left
        · have k_c := hρ.const; have k_113 : ρ (.tmp 113) = _ := hρ.dep 113 (by kernel_rfl); (go_simp <;> with_reducible rfl)
        refine reg_val (d := 115) (v := ?_) rfl (Or.inr ⟨14, false, 114, rfl, by kernel_rfl, by kernel_rfl, rfl⟩) (fun ρ wρ Hρ hρ => ?_) ?_; rotate_left
        · have k_c := hρ.const; have k_12 : ρ (.tmp 12) = .pointer (some ⟨w3.heap.size, 0, none⟩) := hρ.old 12 (by kernel_rfl); (go_simp <;> with_reducible rfl)
        refine reg_val (d := 116) (v := ?_) rfl (Or.inr ⟨14, false, 114, rfl, by kernel_rfl, by kernel_rfl, rfl⟩) (fun ρ wρ Hρ hρ => ?_) ?_; rotate_left
        · have k_c := hρ.const; have k_115 : ρ (.tmp 115) = _ := hρ.dep 115 (by kernel_rfl); have p2 := hρ.sat _ _ _ (Bd.out.mono hρ.ext.le 2 _ rfl); (go_simp <;> with_reducible rfl)
        refine reg_val (d := 117) (v := ?_) rfl (Or.inr ⟨14, false, 114, rfl, by kernel_rfl, by kernel_rfl, rfl⟩) (fun ρ wρ Hρ hρ => ?_) ?_; rotate_left
        · have k_c := hρ.const; have k_116 : ρ (.tmp 116) = _ := hρ.dep 116 (by kernel_rfl); (go_simp <;> with_reducible rfl)
        refine reg_val (d := 118) (v := ?_) rfl (Or.inr ⟨14, false, 114, rfl, by kernel_rfl, by kernel_rfl, rfl⟩) (fun ρ wρ Hρ hρ => ?_) ?_; rotate_left
        · have k_c := hρ.const; have k_4 : ρ (.tmp 4) = .pointer (some ⟨w.heap.size, 0, none⟩) := hρ.old 4 (by kernel_rfl); (go_simp <;> with_reducible rfl)
        refine reg_val (d := 119) (v := ?_) rfl (Or.inr ⟨14, false, 114, rfl, by kernel_rfl, by kernel_rfl, rfl⟩) (fun ρ wρ Hρ hρ => ?_) ?_; rotate_left
        · have k_c := hρ.const; have k_118 : ρ (.tmp 118) = _ := hρ.dep 118 (by kernel_rfl); have p3 := hρ.sat _ _ _ (Bt.out.mono hρ.ext.le 3 _ rfl); (go_simp <;> with_reducible rfl)
        refine reg_val (d := 120) (v := ?_) rfl (Or.inr ⟨14, false, 114, rfl, by kernel_rfl, by kernel_rfl, rfl⟩) (fun ρ wρ Hρ hρ => ?_) ?_; rotate_left
        · have k_c := hρ.const; have k_119 : ρ (.tmp 119) = _ := hρ.dep 119 (by kernel_rfl); (go_simp <;> with_reducible rfl)
        refine reg_val (d := 121) (v := ?_) rfl (Or.inr ⟨14, false, 114, rfl, by kernel_rfl, by kernel_rfl, rfl⟩) (fun ρ wρ Hρ hρ => ?_) ?_; rotate_left
        · have k_c := hρ.const; have k_117 : ρ (.tmp 117) = _ := hρ.dep 117 (by kernel_rfl); have k_120 : ρ (.tmp 120) = _ := hρ.dep 120 (by kernel_rfl); (go_simp <;> with_reducible rfl)
        refine reg_val (d := 122) (v := ?_) rfl (Or.inl rfl) (fun ρ wρ Hρ hρ => ?_) ?_; rotate_left
        · have k_c := hρ.const; have k_114 : ρ (.tmp 114) = _ := hρ.dep 114 (by kernel_rfl); have k_121 : ρ (.tmp 121) = _ := hρ.dep 121 (by kernel_rfl); (go_simp <;> with_reducible rfl)
        intro vs wv Hv hv F
        have k_122 : vs 122 = _ := F 122 (by kernel_rfl)
        simp only [setAll, List.setIfInBounds_toArray, List.set_cons_zero, List.set_cons_succ, k_122]
        go_wp2_with fail
        go_meet
        exact ⟨rfl, ⟨hx.out.then_below hv.below⟩⟩
      case rest =>
        clear hx
        obtain ⟨rfl, hx⟩ := hcut
        obtain ⟨C, hC⟩ : ∃ C : Nat, cols = (C : Int) := ⟨cols.toNat, by have h9 : 1 ≤ cols := (tabErr_ok T0.out).2.2.1; omega⟩
        subst hC
        have OK := Aside.mk (tabErr_ok T0.out)
        have hCb : 1 ≤ C ∧ C ≤ 16 := by have h8 : 1 ≤ (C : Int) := OK.out.2.2.1; have h9 : (C : Int) ≤ 16 := OK.out.2.2.2.1; omega
        have hbl : base.length ≤ 200 := OK.out.1
        have hinob : Aside (InB ob) := ⟨hob.out ▸ bytesT_inB _⟩
        have hob2 : Aside (ob = bytesF (numsF st (C : Int) acc base own nxt)) := ⟨by rw [← hob.out]; unfold bytesT; rw [if_pos T0.out]⟩
        have lqt : w.heap.size < wc.heap.size := hx.out.sat.lt (Bt.out 0 _ rfl)
        obtain ⟨ct0, ct1, ct2, ct3, ct4, ct5⟩ := hb6 hx.out.sat Bt.out
        have lqd : w3.heap.size < wc.heap.size := hx.out.sat.lt (Bd.out 0 _ rfl)
        have cd0 : wc.cell? ⟨w3.heap.size, 0, none⟩ = some (.int .i64 st) := hx.out.sat _ _ _ (Bd.out 0 _ rfl)
        have cd1 : wc.cell? ⟨w3.heap.size, 1, none⟩ = some (.slice B1 acc.length d1) := hx.out.sat _ _ _ (Bd.out 1 _ rfl)
        have cd2 : wc.cell? ⟨w3.heap.size, 2, none⟩ = some (.slice B2 base.length d2) := hx.out.sat _ _ _ (Bd.out 2 _ rfl)
        have lqr : w7.heap.size < wc.heap.size := hx.out.sat.lt (Br.out 0 _ rfl)
        obtain ⟨cr0, cr1, cr2, cr3, cr4, cr5⟩ := hb6 hx.out.sat Br.out
        go_wp2_with fail
        clear lqt ct0 ct1 ct2 ct3 ct4 ct5 lqd cd0 cd1 cd2 lqr cr0 cr1 cr2 cr3 cr4 cr5
        have hsz := hx.out.size
        refine (tabBytes_any hT.out hx.out.sat T0.out IR.out).mono ?_
        rintro e w10 ⟨v, rfl, ho9, hb9⟩
        rw [hob.out] at ho9
        replace ho9 := ho9.into hx.out.sat
        replace hx := Aside.mk (hx.out.then_below hb9)
        clear hb9
        obtain ⟨Bp, bp, ev, -, -, -, -⟩ := ho9.form
        subst ev
        replace ho9 := Aside.mk ho9
        obtain ⟨H1, hx2, hle, ⟨Bp_, bp_, e1, hp⟩, hold⟩ := ho9.out.freezeE hx.out (by omega) (by have := ho.out.2.2.2.1; omega)
        cases e1
        replace hT := Aside.mk (hT.out.mono hle)
        replace hb := Aside.mk (hb.out.mono hle)
        replace hD1 := Aside.mk (hD1.out.mono hle)
        replace hD2 := Aside.mk (hD2.out.mono hle)
        replace ho := Aside.mk (ho.out.mono hle)
        replace hR := Aside.mk (hR.out.mono hle)
        replace Bt := Aside.mk (Bt.out.mono hle)
        replace Bd := Aside.mk (Bd.out.mono hle)
        replace Br := Aside.mk (Br.out.mono hle)
        replace hx := Aside.mk hx2
        replace hp := Aside.mk hp
        clear hle hold hx2
        clear hsz
        have lqt : w.heap.size < w10.heap.size := hx.out.sat.lt (Bt.out 0 _ rfl)
        obtain ⟨ct0, ct1, ct2, ct3, ct4, ct5⟩ := hb6 hx.out.sat Bt.out
        have lqd : w3.heap.size < w10.heap.size := hx.out.sat.lt (Bd.out 0 _ rfl)
        have cd0 : w10.cell? ⟨w3.heap.size, 0, none⟩ = some (.int .i64 st) := hx.out.sat _ _ _ (Bd.out 0 _ rfl)
        have cd1 : w10.cell? ⟨w3.heap.size, 1, none⟩ = some (.slice B1 acc.length d1) := hx.out.sat _ _ _ (Bd.out 1 _ rfl)
        have cd2 : w10.cell? ⟨w3.heap.size, 2, none⟩ = some (.slice B2 base.length d2) := hx.out.sat _ _ _ (Bd.out 2 _ rfl)
        have lqr : w7.heap.size < w10.heap.size := hx.out.sat.lt (Br.out 0 _ rfl)
        obtain ⟨cr0, cr1, cr2, cr3, cr4, cr5⟩ := hb6 hx.out.sat Br.out
        go_wp2_with fail
        clear lqt ct0 ct1 ct2 ct3 ct4 ct5 lqd cd0 cd1 cd2 lqr cr0 cr1 cr2 cr3 cr4 cr5
        have hsz := hx.out.size
        refine (read_any _ ob _ ob.length _ _ hp.out hx.out.sat hinob.out).mono ?_
        rintro e w11 ⟨H5, csV, errV, V, rfl, hV, hVR, hx9⟩
        have hle := hx9.le
        replace hT := Aside.mk (hT.out.mono hle)
        replace hb := Aside.mk (hb.out.mono hle)
        replace hD1 := Aside.mk (hD1.out.mono hle)
        replace hD2 := Aside.mk (hD2.out.mono hle)
        replace ho := Aside.mk (ho.out.mono hle)
        replace hR := Aside.mk (hR.out.mono hle)
        replace hp := Aside.mk (hp.out.mono hle)
        replace Bt := Aside.mk (Bt.out.mono hle)
        replace Bd := Aside.mk (Bd.out.mono hle)
        replace Br := Aside.mk (Br.out.mono hle)
        replace hx := Aside.mk (hx.out.trans hx9)
        clear hle hx9
        clear hsz 
        rw [hob2.out] at hVR
        obtain ⟨rfl, rfl⟩ := readR_back T0.out IR.out hVR
        clear hVR
        obtain ⟨E1, g1, E2, g2, E3, g3, E4, g4, rfl, hV1, hV2, hV3, hV4⟩ := hV
        have hV := Aside.mk (show RdTab H5 ⟨st, (C : Int), acc, base, own, nxt⟩ [.int .i64 st, .int .i64 (C : Int), .slice E1 acc.length g1, .slice E2 base.length g2, .slice E3 own.length g3, .slice E4 nxt.length g4] from ⟨E1, g1, E2, g2, E3, g3, E4, g4, rfl, hV1, hV2, hV3, hV4⟩)
        clear hV1 hV2 hV3 hV4
        have lqt : w.heap.size < w11.heap.size := hx.out.sat.lt (Bt.out 0 _ rfl)
        obtain ⟨ct0, ct1, ct2, ct3, ct4, ct5⟩ := hb6 hx.out.sat Bt.out
        have lqd : w3.heap.size < w11.heap.size := hx.out.sat.lt (Bd.out 0 _ rfl)
        have cd0 : w11.cell? ⟨w3.heap.size, 0, none⟩ = some (.int .i64 st) := hx.out.sat _ _ _ (Bd.out 0 _ rfl)
        have cd1 : w11.cell? ⟨w3.heap.size, 1, none⟩ = some (.slice B1 acc.length d1) := hx.out.sat _ _ _ (Bd.out 1 _ rfl)
        have cd2 : w11.cell? ⟨w3.heap.size, 2, none⟩ = some (.slice B2 base.length d2) := hx.out.sat _ _ _ (Bd.out 2 _ rfl)
        have lqr : w7.heap.size < w11.heap.size := hx.out.sat.lt (Br.out 0 _ rfl)
        obtain ⟨cr0, cr1, cr2, cr3, cr4, cr5⟩ := hb6 hx.out.sat Br.out
        go_wp2_with fail
        clear lqt ct0 ct1 ct2 ct3 ct4 ct5 lqd cd0 cd1 cd2 lqr cr0 cr1 cr2 cr3 cr4 cr5
        have hszw11 := hx.out.size
        have kv_ : (w11.alloc (.cells #[.int .i64 st, .int .i64 (C : Int), .slice E1 acc.length g1, .slice E2 base.length g2, .slice E3 own.length g3, .slice E4 nxt.length g4] 85)).heap[w11.heap.size]? = some (.cells #[.int .i64 st, .int .i64 (C : Int), .slice E1 acc.length g1, .slice E2 base.length g2, .slice E3 own.length g3, .slice E4 nxt.length g4] 85) := (heap_alloc_new _ _)
        have nv := Aside.mk (fun o => hx.out.sat.new (b := w11.heap.size) (show w11.heap.size ≤ _ by omega) o)
        replace hx := Aside.mk ((hx.out.alloc (.cells #[.int .i64 st, .int .i64 (C : Int), .slice E1 acc.length g1, .slice E2 base.length g2, .slice E3 own.length g3, .slice E4 nxt.length g4] 85)))
        generalize (w11.alloc (.cells #[.int .i64 st, .int .i64 (C : Int), .slice E1 acc.length g1, .slice E2 base.length g2, .slice E3 own.length g3, .slice E4 nxt.length g4] 85)) = W4 at *
        have kv := Aside.mk kv_
        clear kv_
        obtain ⟨H1, hx2, hle, Bv, hold⟩ := box_freeze hx.out (by omega) kv.out nv.out
        replace hT := Aside.mk (hT.out.mono hle)
        replace hb := Aside.mk (hb.out.mono hle)
        replace hD1 := Aside.mk (hD1.out.mono hle)
        replace hD2 := Aside.mk (hD2.out.mono hle)
        replace ho := Aside.mk (ho.out.mono hle)
        replace hR := Aside.mk (hR.out.mono hle)
        replace hp := Aside.mk (hp.out.mono hle)
        replace hV := Aside.mk (hV.out.mono hle)
        replace Bt := Aside.mk (Bt.out.mono hle)
        replace Bd := Aside.mk (Bd.out.mono hle)
        replace Br := Aside.mk (Br.out.mono hle)
        replace hx := Aside.mk hx2
        replace Bv := Aside.mk Bv
        clear hle hold hx2 kv nv
        have hsz := hx.out.size
        refine (tabEq_same hV.out hT.out hx.out.sat T0.out).mono ?_
        rintro e w12 ⟨rfl, hb9⟩
        replace hx := Aside.mk (hx.out.then_below hb9)
        clear hb9
        clear hsz
        clear hV hp hR ho hD1
        clear Bv Br hob hob2 hinob IR
        have lqt : w.heap.size < w12.heap.size := hx.out.sat.lt (Bt.out 0 _ rfl)
        obtain ⟨ct0, ct1, ct2, ct3, ct4, ct5⟩ := hb6 hx.out.sat Bt.out
        have lqd : w3.heap.size < w12.heap.size := hx.out.sat.lt (Bd.out 0 _ rfl)
        have cd0 : w12.cell? ⟨w3.heap.size, 0, none⟩ = some (.int .i64 st) := hx.out.sat _ _ _ (Bd.out 0 _ rfl)
        have cd1 : w12.cell? ⟨w3.heap.size, 1, none⟩ = some (.slice B1 acc.length d1) := hx.out.sat _ _ _ (Bd.out 1 _ rfl)
        have cd2 : w12.cell? ⟨w3.heap.size, 2, none⟩ = some (.slice B2 base.length d2) := hx.out.sat _ _ _ (Bd.out 2 _ rfl)
        go_wp2_with fail
        clear lqt ct0 ct1 ct2 ct3 ct4 ct5 lqd cd0 cd1 cd2
        go_loopw [140] (fun s140 wr => ∃ (k : Nat) (Hk : PH), k ≤ base.length ∧ s140 = .int .i64 k ∧ Aside (Ext H Hk w wr) ∧ Aside (RdTab Hk ⟨st, (C : Int), acc, base, own, nxt⟩ [.int .i64 st, .int .i64 (C : Int), .slice A1 acc.length c1, .slice A2 base.length c2, .slice A3 own.length c3, .slice A4 nxt.length c4]) ∧ Aside (SlR (kI .u8) Hk Ab nb cb lb) ∧ Aside (SlR (kS (kI .i64)) Hk B2 base.length d2 nx) ∧ Aside (BoxH Hk (w.heap.size) [.int .i64 st, .int .i64 (C : Int), .slice A1 acc.length c1, .slice A2 base.length c2, .slice A3 own.length c3, .slice A4 nxt.length c4]) ∧ Aside (BoxH Hk (w3.heap.size) [.int .i64 st, .slice B1 acc.length d1, .slice B2 base.length d2])) (fun s140 _ => base.length - (intOf s140).toNat)
        case atStart => exact ⟨0, _, by omega, rfl, hx, hT, hb, hD2, Bt, Bd⟩
        case round =>
          clear hx hT hb hD2 Bt Bd
          obtain ⟨k, Hk, hk, rfl, hx, hT, hb, hD2, Bt, Bd⟩ := hrel
          by_cases hlt : k < base.length
          case pos =>
            have hli : (k : Int) < (base.length : Int) := by omega
            obtain ⟨wo, rfl⟩ : ∃ wo : World, wo = wr := ⟨_, rfl⟩
            have hkn : k < nx.length := by rw [hnl.out]; exact hlt
            have hnk : nx[k] = rowT ⟨st, (C : Int), acc, base, own, nxt⟩ k := by simp only [hnx.out]; simp [autT]
            have hTR : (rowT ⟨st, (C : Int), acc, base, own, nxt⟩ k).length = C := by simp [rowT]
            obtain ⟨b5, o5, cs5, eB, hr5, hc5⟩ := hD2.out.row k hkn
            subst eB
            obtain ⟨A5, c5, rfl, hr5⟩ := hr5
            rw [hnk] at hr5 hc5
            rw [hTR] at hr5 hc5
            have hck : wo.cell? ⟨b5, o5 + k, none⟩ = some (.slice A5 C c5) := by have := hx.out.sat _ _ _ (hc5 0 _ rfl); simpa [kS] using this
            replace hr5 := Aside.mk hr5
            clear hc5 hnk hkn
            replace hTR := Aside.mk hTR
            have lqt : w.heap.size < wo.heap.size := hx.out.sat.lt (Bt.out 0 _ rfl)
            obtain ⟨ct0, ct1, ct2, ct3, ct4, ct5⟩ := hb6 hx.out.sat Bt.out
            have lqd : w3.heap.size < wo.heap.size := hx.out.sat.lt (Bd.out 0 _ rfl)
            have cd0 : wo.cell? ⟨w3.heap.size, 0, none⟩ = some (.int .i64 st) := hx.out.sat _ _ _ (Bd.out 0 _ rfl)
            have cd1 : wo.cell? ⟨w3.heap.size, 1, none⟩ = some (.slice B1 acc.length d1) := hx.out.sat _ _ _ (Bd.out 1 _ rfl)
            have cd2 : wo.cell? ⟨w3.heap.size, 2, none⟩ = some (.slice (some ⟨b5, o5, none⟩) base.length d2) := hx.out.sat _ _ _ (Bd.out 2 _ rfl)
            go_wp2_with fail
            clear lqt ct0 ct1 ct2 ct3 ct4 ct5 lqd cd0 cd1 cd2
            clear hck
            go_loopw [147] (fun s147 wr => ∃ (j : Nat) (Hq : PH), j ≤ C ∧ s147 = .int .i64 j ∧ Aside (Ext H Hq w wr) ∧ Aside (RdTab Hq ⟨st, (C : Int), acc, base, own, nxt⟩ [.int .i64 st, .int .i64 (C : Int), .slice A1 acc.length c1, .slice A2 base.length c2, .slice A3 own.length c3, .slice A4 nxt.length c4]) ∧ Aside (SlR (kI .u8) Hq Ab nb cb lb) ∧ Aside (SlR (kS (kI .i64)) Hq (some ⟨b5, o5, none⟩) base.length d2 nx) ∧ Aside (SlR (kI .i64) Hq A5 C c5 (rowT ⟨st, (C : Int), acc, base, own, nxt⟩ k)) ∧ Aside (BoxH Hq (w.heap.size) [.int .i64 st, .int .i64 (C : Int), .slice A1 acc.length c1, .slice A2 base.length c2, .slice A3 own.length c3, .slice A4 nxt.length c4]) ∧ Aside (BoxH Hq (w3.heap.size) [.int .i64 st, .slice B1 acc.length d1, .slice (some ⟨b5, o5, none⟩) base.length d2])) (fun s147 _ => C - (intOf s147).toNat)
            case atStart => exact ⟨0, _, by omega, rfl, hx, hT, hb, hD2, hr5, Bt, Bd⟩
            case round =>
              clear hx hT hb hD2 hr5 Bt Bd
              obtain ⟨j, Hq, hj, rfl, hx, hT, hb, hD2, hr5, Bt, Bd⟩ := hrel
              by_cases hlj : j < C
              case pos =>
                have hlji : (j : Int) < (C : Int) := by omega
                obtain ⟨b6, o6, eA, hcj⟩ := (hr5.out.wr hx.out.sat).at j (by rw [hTR.out]; exact hlj)
                subst eA
                rw [show (rowT ⟨st, (C : Int), acc, base, own, nxt⟩ k)[j]'(by rw [hTR.out]; exact hlj) = entF base own nxt (k : Int) (j : Int) by simp [rowT]] at hcj
                have lqt : w.heap.size < wr.heap.size := hx.out.sat.lt (Bt.out 0 _ rfl)
                obtain ⟨ct0, ct1, ct2, ct3, ct4, ct5⟩ := hb6 hx.out.sat Bt.out
                have lqd : w3.heap.size < wr.heap.size := hx.out.sat.lt (Bd.out 0 _ rfl)
                have cd0 : wr.cell? ⟨w3.heap.size, 0, none⟩ = some (.int .i64 st) := hx.out.sat _ _ _ (Bd.out 0 _ rfl)
                have cd1 : wr.cell? ⟨w3.heap.size, 1, none⟩ = some (.slice B1 acc.length d1) := hx.out.sat _ _ _ (Bd.out 1 _ rfl)
                have cd2 : wr.cell? ⟨w3.heap.size, 2, none⟩ = some (.slice (some ⟨b5, o5, none⟩) base.length d2) := hx.out.sat _ _ _ (Bd.out 2 _ rfl)
                go_wp2_with fail
                clear lqt ct0 ct1 ct2 ct3 ct4 ct5 lqd cd0 cd1 cd2
                clear hcj
                have hsz := hx.out.size
                refine (entry_any hT.out hx.out.sat T0.out (k : Int) (j : Int) (by omega) (by omega) (by omega) (by omega)).mono ?_
                rintro e w13 ⟨rfl, hb6⟩
                replace hx := Aside.mk (hx.out.then_below hb6)
                clear hb6
                clear hsz 
                go_wp2_with fail
                go_roundw
                case rel => exact ⟨j + 1, _, by omega, by go_num, hx, hT, hb, hD2, hr5, Bt, Bd⟩
                case measure => (first | (simp [intOf]; done) | (simp [intOf]; omega))
              case neg =>
                have hlji : ¬ (j : Int) < (C : Int) := by omega
                clear hr5
                go_wp2_with fail
                go_roundw
                case rel => exact ⟨k + 1, _, by omega, by go_num, hx, hT, hb, hD2, Bt, Bd⟩
                case measure => (first | (simp [intOf]; done) | (simp [intOf]; omega))
          case neg =>
            have hli : ¬ (k : Int) < (base.length : Int) := by omega
            by_cases q1 : s < 0
            case pos =>
              have hav : atV ⟨st, (C : Int), acc, base, own, nxt⟩ s c = (0, 1) := by unfold atV; rw [if_neg (fun h => h T0.out), if_pos (Or.inl q1)]
              simp only [hav]
              clear hav
              have lqt : w.heap.size < wr.heap.size := hx.out.sat.lt (Bt.out 0 _ rfl)
              obtain ⟨ct0, ct1, ct2, ct3, ct4, ct5⟩ := hb6 hx.out.sat Bt.out
              have lqd : w3.heap.size < wr.heap.size := hx.out.sat.lt (Bd.out 0 _ rfl)
              have cd0 : wr.cell? ⟨w3.heap.size, 0, none⟩ = some (.int .i64 st) := hx.out.sat _ _ _ (Bd.out 0 _ rfl)
              have cd1 : wr.cell? ⟨w3.heap.size, 1, none⟩ = some (.slice B1 acc.length d1) := hx.out.sat _ _ _ (Bd.out 1 _ rfl)
              have cd2 : wr.cell? ⟨w3.heap.size, 2, none⟩ = some (.slice B2 base.length d2) := hx.out.sat _ _ _ (Bd.out 2 _ rfl)
              go_wp2_with fail
              clear lqt ct0 ct1 ct2 ct3 ct4 ct5 lqd cd0 cd1 cd2
              go_ret
              exact ⟨rfl, hx.out.below⟩
            case neg =>
              by_cases q2 : (base.length : Int) ≤ s
              case pos =>
                have hav : atV ⟨st, (C : Int), acc, base, own, nxt⟩ s c = (0, 1) := by unfold atV; rw [if_neg (fun h => h T0.out), if_pos (Or.inr (Or.inl q2))]
                simp only [hav]
                clear hav
                have lqt : w.heap.size < wr.heap.size := hx.out.sat.lt (Bt.out 0 _ rfl)
                obtain ⟨ct0, ct1, ct2, ct3, ct4, ct5⟩ := hb6 hx.out.sat Bt.out
                have lqd : w3.heap.size < wr.heap.size := hx.out.sat.lt (Bd.out 0 _ rfl)
                have cd0 : wr.cell? ⟨w3.heap.size, 0, none⟩ = some (.int .i64 st) := hx.out.sat _ _ _ (Bd.out 0 _ rfl)
                have cd1 : wr.cell? ⟨w3.heap.size, 1, none⟩ = some (.slice B1 acc.length d1) := hx.out.sat _ _ _ (Bd.out 1 _ rfl)
                have cd2 : wr.cell? ⟨w3.heap.size, 2, none⟩ = some (.slice B2 base.length d2) := hx.out.sat _ _ _ (Bd.out 2 _ rfl)
                go_wp2_with fail
                clear lqt ct0 ct1 ct2 ct3 ct4 ct5 lqd cd0 cd1 cd2
                go_ret
                exact ⟨rfl, hx.out.below⟩
              case neg =>
                by_cases q3 : c < 0
                case pos =>
                  have hav : atV ⟨st, (C : Int), acc, base, own, nxt⟩ s c = (0, 1) := by unfold atV; rw [if_neg (fun h => h T0.out), if_pos (Or.inr (Or.inr (Or.inl q3)))]
                  simp only [hav]
                  clear hav
                  have lqt : w.heap.size < wr.heap.size := hx.out.sat.lt (Bt.out 0 _ rfl)
                  obtain ⟨ct0, ct1, ct2, ct3, ct4, ct5⟩ := hb6 hx.out.sat Bt.out
                  have lqd : w3.heap.size < wr.heap.size := hx.out.sat.lt (Bd.out 0 _ rfl)
                  have cd0 : wr.cell? ⟨w3.heap.size, 0, none⟩ = some (.int .i64 st) := hx.out.sat _ _ _ (Bd.out 0 _ rfl)
                  have cd1 : wr.cell? ⟨w3.heap.size, 1, none⟩ = some (.slice B1 acc.length d1) := hx.out.sat _ _ _ (Bd.out 1 _ rfl)
                  have cd2 : wr.cell? ⟨w3.heap.size, 2, none⟩ = some (.slice B2 base.length d2) := hx.out.sat _ _ _ (Bd.out 2 _ rfl)
                  go_wp2_with fail
                  clear lqt ct0 ct1 ct2 ct3 ct4 ct5 lqd cd0 cd1 cd2
                  go_ret
                  exact ⟨rfl, hx.out.below⟩
                case neg =>
                  by_cases q4 : (C : Int) ≤ c
                  case pos =>
                    have hav : atV ⟨st, (C : Int), acc, base, own, nxt⟩ s c = (0, 1) := by unfold atV; rw [if_neg (fun h => h T0.out), if_pos (Or.inr (Or.inr (Or.inr q4)))]
                    simp only [hav]
                    clear hav
                    have lqt : w.heap.size < wr.heap.size := hx.out.sat.lt (Bt.out 0 _ rfl)
                    obtain ⟨ct0, ct1, ct2, ct3, ct4, ct5⟩ := hb6 hx.out.sat Bt.out
                    have lqd : w3.heap.size < wr.heap.size := hx.out.sat.lt (Bd.out 0 _ rfl)
                    have cd0 : wr.cell? ⟨w3.heap.size, 0, none⟩ = some (.int .i64 st) := hx.out.sat _ _ _ (Bd.out 0 _ rfl)
                    have cd1 : wr.cell? ⟨w3.heap.size, 1, none⟩ = some (.slice B1 acc.length d1) := hx.out.sat _ _ _ (Bd.out 1 _ rfl)
                    have cd2 : wr.cell? ⟨w3.heap.size, 2, none⟩ = some (.slice B2 base.length d2) := hx.out.sat _ _ _ (Bd.out 2 _ rfl)
                    go_wp2_with fail
                    clear lqt ct0 ct1 ct2 ct3 ct4 ct5 lqd cd0 cd1 cd2
                    go_ret
                    exact ⟨rfl, hx.out.below⟩
                  case neg =>
                    have hav : atV ⟨st, (C : Int), acc, base, own, nxt⟩ s c = (entF base own nxt s c, 0) := by unfold atV; rw [if_neg (fun h => h T0.out), if_neg (by rintro (h | h | h | h); exact q1 h; exact q2 h; exact q3 h; exact q4 h)]
                    simp only [hav]
                    clear hav
                    have lqt : w.heap.size < wr.heap.size := hx.out.sat.lt (Bt.out 0 _ rfl)
                    obtain ⟨ct0, ct1, ct2, ct3, ct4, ct5⟩ := hb6 hx.out.sat Bt.out
                    have lqd : w3.heap.size < wr.heap.size := hx.out.sat.lt (Bd.out 0 _ rfl)
                    have cd0 : wr.cell? ⟨w3.heap.size, 0, none⟩ = some (.int .i64 st) := hx.out.sat _ _ _ (Bd.out 0 _ rfl)
                    have cd1 : wr.cell? ⟨w3.heap.size, 1, none⟩ = some (.slice B1 acc.length d1) := hx.out.sat _ _ _ (Bd.out 1 _ rfl)
                    have cd2 : wr.cell? ⟨w3.heap.size, 2, none⟩ = some (.slice B2 base.length d2) := hx.out.sat _ _ _ (Bd.out 2 _ rfl)
                    go_wp2_with fail
                    clear lqt ct0 ct1 ct2 ct3 ct4 ct5 lqd cd0 cd1 cd2
                    have hsz := hx.out.size
                    refine (entry_any hT.out hx.out.sat T0.out s c (by omega) (by omega) (by omega) (by omega)).mono ?_
                    rintro e w14 ⟨rfl, hb6⟩
                    replace hx := Aside.mk (hx.out.then_below hb6)
                    clear hb6
                    clear hsz 
                    go_wp2_with fail
                    go_ret
                    exact ⟨rfl, hx.out.below⟩
end Go.Proofs.Ytbnahmeaeakhhaa.B
