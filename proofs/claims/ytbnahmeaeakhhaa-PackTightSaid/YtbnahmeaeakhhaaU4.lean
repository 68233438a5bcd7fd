/- parlkeep1.PackBack: the walk. -/
import Derived.Test.YtbnahmeaeakhhaaU1
import Derived.Test.YtbnahmeaeakhhaaU2
import Derived.Test.YtbnahmeaeakhhaaT8
import Derived.Test.YtbnahmeaeakhhaaQ11
import Derived.Test.YtbnahmeaeakhhaaRr
namespace Go.Proofs.Ytbnahmeaeakhhaa.B
set_option linter.unusedVariables false
set_option linter.unusedSimpArgs false
open Go Go.RowKit Go.Proofs.Ytbnahmeaeakhhaa.Q Go.Proofs.Ytbnahmeaeakhhaa.S Classical

theorem Own.into2 {k : IntKind} {e : TypeId} {w W : World} {H : PH} {v : Value} {xs : List Int} (h : Own (kI k) e w W.heap.size Go.Proofs.Ytbnahmeaeakhhaa.B.emp v xs) (hs : Sat W H) : Own (kI k) e w W.heap.size H v xs :=
  h.flat (fun b o e => hs.new (h.blk e).1 o)
theorem RdTab.mono {H H' : PH} {T : Tab} {cs : List Value} (hh : H.le H') (h : RdTab H T cs) : RdTab H' T cs := by
  obtain ⟨A1, c1, A2, c2, A3, c3, A4, c4, rfl, h1, h2, h3, h4⟩ := h
  exact ⟨A1, c1, A2, c2, A3, c3, A4, c4, rfl, h1.mono hh, h2.mono hh, h3.mono hh, h4.mono hh⟩
theorem RdAut.mono {H H' : PH} {D : Aut} {cs : List Value} (hh : H.le H') (h : RdAut H D cs) : RdAut H' D cs := by
  obtain ⟨A1, c1, A2, c2, rfl, h1, h2⟩ := h
  exact ⟨A1, c1, A2, c2, rfl, h1.mono hh, h2.mono hh⟩
theorem checkT2_any {H : PH} {T : Tab} {cs : List Value} {w : World} (hT : RdTab H T cs) (hs : Sat w H) :
    Calls Try.prog 72 #[.agg cs.toArray] w fun e w' => e = .returned (.int .i64 (errT T)) ∧ Below w.heap.size w w' := by
  obtain ⟨A1, c1, A2, c2, A3, c3, A4, c4, rfl, h1, h2, h3, h4⟩ := hT
  exact check_any H T.st T.cols T.acc T.base T.own T.nxt A1 A2 A3 A4 c1 c2 c3 c4 w h1 h2 h3 h4 hs
theorem dfaT2_any {H : PH} {T : Tab} {cs : List Value} {w : World} (hT : RdTab H T cs) (hs : Sat w H) : Calls Try.prog 61 #[.agg cs.toArray] w (DfaPost H w T) := by
  obtain ⟨A1, c1, A2, c2, A3, c3, A4, c4, rfl, h1, h2, h3, h4⟩ := hT
  exact tabDfa_any H T.st T.cols T.acc T.base T.own T.nxt A1 A2 A3 A4 c1 c2 c3 c4 w h1 h2 h3 h4 hs
/-- a valid table unpacked -/
theorem dfaOk_any {H : PH} {T : Tab} {D : Aut} {cs : List Value} {w : World} (hT : RdTab H T cs) (hs : Sat w H) (h0 : errT T = 0) (hd : autT T = D) :
    Calls Try.prog 61 #[.agg cs.toArray] w fun e w' => ∃ H' A1 c1 A2 c2, e = .returned (.tuple #[.agg #[.int .i64 D.st, .slice A1 D.acc.length c1, .slice A2 D.next.length c2], .int .i64 0]) ∧ RdAut H' D [.int .i64 D.st, .slice A1 D.acc.length c1, .slice A2 D.next.length c2] ∧ Ext H H' w w' := by
  refine (dfaT2_any hT hs).mono ?_
  rintro e w' ⟨H', cs', D', rfl, hD, hc, hx⟩
  rw [h0]
  rcases hc with ⟨-, rfl⟩ | ⟨h, -⟩
  · rw [hd] at hD
    obtain ⟨A1, c1, A2, c2, rfl, h1, h2⟩ := hD
    exact ⟨H', A1, c1, A2, c2, rfl, ⟨A1, c1, A2, c2, rfl, h1, h2⟩, hx⟩
  · exact absurd h0 h
/-- a valid automaton packed -/
theorem packOk_any {H : PH} {D : Aut} {cs : List Value} {w : World} (hD : RdAut H D cs) (hs : Sat w H) (h0 : dfaErr D.st D.acc D.next = 0) :
    Calls Try.prog 52 #[.agg cs.toArray] w fun e w' => ∃ H' T A1 c1 A2 c2 A3 c3 A4 c4, e = .returned (.tuple #[.agg #[.int .i64 T.st, .int .i64 T.cols, .slice A1 T.acc.length c1, .slice A2 T.base.length c2, .slice A3 T.own.length c3, .slice A4 T.nxt.length c4], .int .i64 0]) ∧
      RdTab H' T [.int .i64 T.st, .int .i64 T.cols, .slice A1 T.acc.length c1, .slice A2 T.base.length c2, .slice A3 T.own.length c3, .slice A4 T.nxt.length c4] ∧ errT T = 0 ∧ autT T = D ∧ T.acc = D.acc ∧ T.own.length ≤ D.next.length * (D.next.getD 0 []).length ∧ cntF T.own = ((rangeI D.next.length).map fun s => cntF (D.next.getD s.toNat [])).sum ∧ Ext H H' w w' := by
  obtain ⟨A1, c1, A2, c2, rfl, h1, h2⟩ := hD
  refine (pack_any H D.st D.acc D.next A1 A2 c1 c2 w h1 h2 hs).mono ?_
  rintro e w' ⟨H', cs', err, T, rfl, hT, hR, hx⟩
  obtain ⟨e1, e2⟩ := hR
  rw [h0] at e1
  subst e1
  rcases e2 with ⟨h, -⟩ | ⟨-, ord, hp, -, rfl⟩
  · exact absurd rfl h
  · obtain ⟨p1, p2, p3, p4⟩ := packT_ok h0 hp
    obtain ⟨B1, d1, B2, d2, B3, d3, B4, d4, rfl, g⟩ := hT
    exact ⟨H', _, B1, d1, B2, d2, B3, d3, B4, d4, rfl, ⟨B1, d1, B2, d2, B3, d3, B4, d4, rfl, g⟩, p1, packT_aut h0 hp, rfl, p3, p4, hx⟩
theorem packBad_any {H : PH} {D : Aut} {cs : List Value} {w : World} (hD : RdAut H D cs) (hs : Sat w H) (h0 : dfaErr D.st D.acc D.next ≠ 0) :
    Calls Try.prog 52 #[.agg cs.toArray] w fun e w' => ∃ H' A1 c1 A2 c2 A3 c3 A4 c4, e = .returned (.tuple #[.agg #[.int .i64 0, .int .i64 0, .slice A1 0 c1, .slice A2 0 c2, .slice A3 0 c3, .slice A4 0 c4], .int .i64 (dfaErr D.st D.acc D.next)]) ∧
      RdTab H' zeroTab [.int .i64 0, .int .i64 0, .slice A1 0 c1, .slice A2 0 c2, .slice A3 0 c3, .slice A4 0 c4] ∧ Ext H H' w w' := by
  obtain ⟨A1, c1, A2, c2, rfl, h1, h2⟩ := hD
  refine (pack_any H D.st D.acc D.next A1 A2 c1 c2 w h1 h2 hs).mono ?_
  rintro e w' ⟨H', cs', err, T, rfl, hT, hR, hx⟩
  obtain ⟨e1, e2⟩ := hR
  subst e1
  rcases e2 with ⟨-, rfl⟩ | ⟨h, -⟩
  · obtain ⟨B1, d1, B2, d2, B3, d3, B4, d4, rfl, g⟩ := hT
    exact ⟨H', B1, d1, B2, d2, B3, d3, B4, d4, rfl, ⟨B1, d1, B2, d2, B3, d3, B4, d4, rfl, g⟩, hx⟩
  · exact absurd h h0
theorem autT_ev : autT evT = evA := by
  have hp : [0, 1].Perm (rangeI evN.length) := by have : rangeI evN.length = [0, 1] := by decide
                                                  rw [this]
  have h := packT_aut (st := 0) (acc := [0, -1]) (next := evN) (ord := [0, 1]) dfaErr_ev hp
  unfold packT at h
  rw [packGo_ev] at h
  exact h
theorem packEv_any {H : PH} {A1 A2 : Option Addr} {w : World} (h1 : SlR (kI .i64) H A1 2 2 [0, -1]) (h2 : SlR (kS (kI .i64)) H A2 2 2 evN) (hs : Sat w H) :
    Calls Try.prog 52 #[.agg #[.int .i64 0, .slice A1 2 2, .slice A2 2 2]] w fun e w' => ∃ H' A1 c1 A2 c2 A3 c3 A4 c4, e = .returned (.tuple #[.agg #[.int .i64 0, .int .i64 1, .slice A1 2 c1, .slice A2 2 c2, .slice A3 2 c3, .slice A4 2 c4], .int .i64 0]) ∧
      RdTab H' evT [.int .i64 0, .int .i64 1, .slice A1 2 c1, .slice A2 2 c2, .slice A3 2 c3, .slice A4 2 c4] ∧ Ext H H' w w' := by
  refine (pack_any H 0 [0, -1] evN A1 A2 2 2 w h1 h2 hs).mono ?_
  rintro e w2 ⟨H2, cs, err, T, rfl, hT, hR, hx2⟩
  obtain ⟨rfl, rfl⟩ := packR_ev hR
  obtain ⟨B1, d1, B2, d2, B3, d3, B4, d4, rfl, g⟩ := hT
  exact ⟨H2, B1, d1, B2, d2, B3, d3, B4, d4, rfl, ⟨B1, d1, B2, d2, B3, d3, B4, d4, rfl, g⟩, hx2⟩
theorem dfaEv_any {H : PH} {cs : List Value} {w : World} (hT : RdTab H evT cs) (hs : Sat w H) :
    Calls Try.prog 61 #[.agg cs.toArray] w fun e w' => ∃ H' A1 c1 A2 c2, e = .returned (.tuple #[.agg #[.int .i64 0, .slice A1 2 c1, .slice A2 2 c2], .int .i64 0]) ∧ RdAut H' evA [.int .i64 0, .slice A1 2 c1, .slice A2 2 c2] ∧ Ext H H' w w' :=
  dfaOk_any hT hs errT_ev autT_ev
theorem bytesOk_any {H : PH} {T : Tab} {cs : List Value} {w : World} (hT : RdTab H T cs) (hs : Sat w H) (h0 : errT T = 0) (hr : InR (numsF T.st T.cols T.acc T.base T.own T.nxt)) :
    Calls Try.prog 60 #[.agg cs.toArray] w fun e w' => ∃ v, e = .returned (.tuple #[v, .int .i64 0]) ∧ Own (kI .u8) 5 w' w.heap.size H v (bytesT T) ∧ Below w.heap.size w w' := by
  refine (Bytes_any hT hs (fun _ => hr)).mono ?_
  rintro e w' ⟨v, rfl, ho, hb⟩
  rw [h0]
  exact ⟨v, rfl, ho.into2 hs, hb⟩
theorem bytesF_len2 {l : List Int} (h : InR l) : (bytesF l).length ≤ 10 * l.length := by
  induction l with
  | nil => simp [bytesF]
  | cons x l ih =>
    have e : bytesF (x :: l) = encN (x + 1).toNat ++ bytesF l := rfl
    have h1 := encN_le10 (h x (by simp))
    have h2 := ih fun a ha => h a (by simp [ha])
    rw [e, List.length_append, List.length_cons]; omega
theorem bytesT_len2 {T : Tab} (h : errT T = 0) (hr : InR (numsF T.st T.cols T.acc T.base T.own T.nxt)) : (bytesT T).length ≤ 200000 := by
  unfold bytesT
  rw [if_pos h]
  have ok := tabErr_ok h
  have := bytesF_len2 hr
  have h2 : (numsF T.st T.cols T.acc T.base T.own T.nxt).length ≤ 10004 := by simp [numsF]; omega
  omega
theorem encN_inB2 : ∀ (n m : Nat), m ≤ n → InB (encN m)
  | n, m, h => by
    by_cases hm : m < 128
    · rw [encN_small hm]; intro x hx; simp at hx; omega
    · rw [encN_big hm]
      intro x hx
      rcases List.mem_cons.1 hx with rfl | hx
      · omega
      · cases n with
        | zero => omega
        | succ n => exact encN_inB2 n (m / 128) (by omega) x hx
theorem bytesT_inB2 (T : Tab) : InB (bytesT T) := by
  unfold bytesT
  split
  · intro x hx
    simp only [bytesF, List.mem_flatten, List.mem_map] at hx
    obtain ⟨l, ⟨a, -, rfl⟩, hx⟩ := hx
    exact encN_inB2 _ _ (Nat.le_refl _) x hx
  · intro x hx; simp at hx
/-- bytes of a valid table, read -/
theorem readOk_any {H : PH} {T : Tab} {A : Option Addr} {n c : Nat} {w : World} (hl : SlR (kI .u8) H A n c (bytesT T)) (hs : Sat w H) (h0 : errT T = 0) (hr : InR (numsF T.st T.cols T.acc T.base T.own T.nxt)) :
    Calls Try.prog 73 #[.slice A n c] w fun e w' => ∃ H' A1 c1 A2 c2 A3 c3 A4 c4, e = .returned (.tuple #[.agg #[.int .i64 T.st, .int .i64 T.cols, .slice A1 T.acc.length c1, .slice A2 T.base.length c2, .slice A3 T.own.length c3, .slice A4 T.nxt.length c4], .int .i64 0]) ∧
      RdTab H' T [.int .i64 T.st, .int .i64 T.cols, .slice A1 T.acc.length c1, .slice A2 T.base.length c2, .slice A3 T.own.length c3, .slice A4 T.nxt.length c4] ∧ Ext H H' w w' := by
  refine (read_any H (bytesT T) A n c w hl hs (bytesT_inB2 T)).mono ?_
  rintro e w' ⟨H', cs, err, U, rfl, hU, hR, hx⟩
  have e9 : bytesT T = bytesF (numsF T.st T.cols T.acc T.base T.own T.nxt) := by unfold bytesT; rw [if_pos h0]
  rw [e9] at hR
  obtain ⟨rfl, rfl⟩ := readR_back h0 hr hR
  obtain ⟨B1, d1, B2, d2, B3, d3, B4, d4, rfl, g⟩ := hU
  exact ⟨H', B1, d1, B2, d2, B3, d3, B4, d4, rfl, ⟨B1, d1, B2, d2, B3, d3, B4, d4, rfl, g⟩, hx⟩

set_option maxRecDepth 100000 in
set_option maxHeartbeats 32000000 in
theorem packBack_any (H : PH) (D : Aut) (A1 A2 : Option Addr) (c1 c2 : Nat) (w : World) (hD : RdAut H D [.int .i64 D.st, .slice A1 D.acc.length c1, .slice A2 D.next.length c2]) (hs : Sat w H) (hw : ∀ a ∈ D.acc, (Lit.int .i64 a).wf = true) :
    Calls Try.prog 14 #[.agg #[.int .i64 D.st, .slice A1 D.acc.length c1, .slice A2 D.next.length c2]] w fun e w' => e = .returned (.bool true) ∧ Below w.heap.size w w' := by
  replace hw := Aside.mk hw
  generalize hst : D.st = st at *
  generalize hal : D.acc.length = al at *
  generalize hnl : D.next.length = nl at *
  replace hst := Aside.mk hst
  replace hal := Aside.mk hal
  replace hnl := Aside.mk hnl
  have hx := Aside.mk (Ext.refl hs)
  replace hD := Aside.mk hD
  go_enter Try.func14, Try.ntmps14
  go_wp2_with fail
  have hszw := hx.out.size
  have kd_ : (w.alloc (.cells #[.int .i64 st, .slice A1 al c1, .slice A2 nl c2] 58)).heap[w.heap.size]? = some (.cells #[.int .i64 st, .slice A1 al c1, .slice A2 nl c2] 58) := (heap_alloc_new _ _)
  have nd := Aside.mk (fun o => hx.out.sat.new (b := w.heap.size) (show w.heap.size ≤ _ by omega) o)
  replace hx := Aside.mk ((hx.out.alloc (.cells #[.int .i64 st, .slice A1 al c1, .slice A2 nl c2] 58)))
  generalize (w.alloc (.cells #[.int .i64 st, .slice A1 al c1, .slice A2 nl c2] 58)) = W1 at *
  have kd := Aside.mk kd_
  clear kd_
  obtain ⟨H1, hx2, hle, Bd, hold⟩ := box_freeze hx.out (by omega) kd.out nd.out
  replace hD := Aside.mk (hD.out.mono hle)
  replace hx := Aside.mk hx2
  replace Bd := Aside.mk Bd
  clear hle hold hx2 kd nd
  have lqd : w.heap.size < W1.heap.size := hx.out.sat.lt (Bd.out 0 _ rfl)
  have cd0 : W1.cell? ⟨w.heap.size, 0, none⟩ = some (.int .i64 st) := hx.out.sat _ _ _ (Bd.out 0 _ rfl)
  have cd1 : W1.cell? ⟨w.heap.size, 1, none⟩ = some (.slice A1 al c1) := hx.out.sat _ _ _ (Bd.out 1 _ rfl)
  have cd2 : W1.cell? ⟨w.heap.size, 2, none⟩ = some (.slice A2 nl c2) := hx.out.sat _ _ _ (Bd.out 2 _ rfl)
  go_wp2_with fail
  clear lqd cd0 cd1 cd2
  have hsz := hx.out.size
  refine (even_any _ _ hx.out.sat).mono ?_
  rintro e w1 ⟨H2, E1, E2, rfl, hE1, hE2, hx9⟩
  have hle := hx9.le
  replace hD := Aside.mk (hD.out.mono hle)
  replace Bd := Aside.mk (Bd.out.mono hle)
  replace hx := Aside.mk (hx.out.trans hx9)
  clear hle hx9
  clear hsz 
  replace hE1 := Aside.mk hE1
  replace hE2 := Aside.mk hE2
  have lqd : w.heap.size < w1.heap.size := hx.out.sat.lt (Bd.out 0 _ rfl)
  have cd0 : w1.cell? ⟨w.heap.size, 0, none⟩ = some (.int .i64 st) := hx.out.sat _ _ _ (Bd.out 0 _ rfl)
  have cd1 : w1.cell? ⟨w.heap.size, 1, none⟩ = some (.slice A1 al c1) := hx.out.sat _ _ _ (Bd.out 1 _ rfl)
  have cd2 : w1.cell? ⟨w.heap.size, 2, none⟩ = some (.slice A2 nl c2) := hx.out.sat _ _ _ (Bd.out 2 _ rfl)
  go_wp2_with fail
  clear lqd cd0 cd1 cd2
  have hsz := hx.out.size
  refine (packEv_any hE1.out hE2.out hx.out.sat).mono ?_
  rintro e w2 ⟨H3, F1, f1, F2, f2, F3, f3, F4, f4, rfl, hF, hx9⟩
  have hle := hx9.le
  replace hD := Aside.mk (hD.out.mono hle)
  replace hE1 := Aside.mk (hE1.out.mono hle)
  replace hE2 := Aside.mk (hE2.out.mono hle)
  replace Bd := Aside.mk (Bd.out.mono hle)
  replace hx := Aside.mk (hx.out.trans hx9)
  clear hle hx9
  clear hsz 
  replace hF := Aside.mk hF
  clear hE1 hE2
  have hsz := hx.out.size
  have lqd : w.heap.size < w2.heap.size := hx.out.sat.lt (Bd.out 0 _ rfl)
  have cd0 : w2.cell? ⟨w.heap.size, 0, none⟩ = some (.int .i64 st) := hx.out.sat _ _ _ (Bd.out 0 _ rfl)
  have cd1 : w2.cell? ⟨w.heap.size, 1, none⟩ = some (.slice A1 al c1) := hx.out.sat _ _ _ (Bd.out 1 _ rfl)
  have cd2 : w2.cell? ⟨w.heap.size, 2, none⟩ = some (.slice A2 nl c2) := hx.out.sat _ _ _ (Bd.out 2 _ rfl)
  go_wp2_with fail
  clear lqd cd0 cd1 cd2
  have hszw2 := hx.out.size
  have kt_ : (w2.alloc (.cells #[.int .i64 0, .int .i64 1, .slice F1 2 f1, .slice F2 2 f2, .slice F3 2 f3, .slice F4 2 f4] 85)).heap[w2.heap.size]? = some (.cells #[.int .i64 0, .int .i64 1, .slice F1 2 f1, .slice F2 2 f2, .slice F3 2 f3, .slice F4 2 f4] 85) := (heap_alloc_new _ _)
  have nt := Aside.mk (fun o => hx.out.sat.new (b := w2.heap.size) (show w2.heap.size ≤ _ by omega) o)
  replace hx := Aside.mk ((hx.out.alloc (.cells #[.int .i64 0, .int .i64 1, .slice F1 2 f1, .slice F2 2 f2, .slice F3 2 f3, .slice F4 2 f4] 85)))
  generalize (w2.alloc (.cells #[.int .i64 0, .int .i64 1, .slice F1 2 f1, .slice F2 2 f2, .slice F3 2 f3, .slice F4 2 f4] 85)) = W2 at *
  have kt := Aside.mk kt_
  clear kt_
  have lqt : w2.heap.size < W2.heap.size := boxL kt.out
  have ct0 : W2.cell? ⟨w2.heap.size, 0, none⟩ = some (.int .i64 0) := (boxC kt.out 0).1
  have ft0 : W2.frozen? ⟨w2.heap.size, 0, none⟩ = false := (boxC kt.out 0).2
  have ct1 : W2.cell? ⟨w2.heap.size, 1, none⟩ = some (.int .i64 1) := (boxC kt.out 1).1
  have ft1 : W2.frozen? ⟨w2.heap.size, 1, none⟩ = false := (boxC kt.out 1).2
  have ct2 : W2.cell? ⟨w2.heap.size, 2, none⟩ = some (.slice F1 2 f1) := (boxC kt.out 2).1
  have ft2 : W2.frozen? ⟨w2.heap.size, 2, none⟩ = false := (boxC kt.out 2).2
  have ct3 : W2.cell? ⟨w2.heap.size, 3, none⟩ = some (.slice F2 2 f2) := (boxC kt.out 3).1
  have ft3 : W2.frozen? ⟨w2.heap.size, 3, none⟩ = false := (boxC kt.out 3).2
  have ct4 : W2.cell? ⟨w2.heap.size, 4, none⟩ = some (.slice F3 2 f3) := (boxC kt.out 4).1
  have ft4 : W2.frozen? ⟨w2.heap.size, 4, none⟩ = false := (boxC kt.out 4).2
  have ct5 : W2.cell? ⟨w2.heap.size, 5, none⟩ = some (.slice F4 2 f4) := (boxC kt.out 5).1
  have ft5 : W2.frozen? ⟨w2.heap.size, 5, none⟩ = false := (boxC kt.out 5).2
  have lqd : w.heap.size < W2.heap.size := hx.out.sat.lt (Bd.out 0 _ rfl)
  have cd0 : W2.cell? ⟨w.heap.size, 0, none⟩ = some (.int .i64 st) := hx.out.sat _ _ _ (Bd.out 0 _ rfl)
  have cd1 : W2.cell? ⟨w.heap.size, 1, none⟩ = some (.slice A1 al c1) := hx.out.sat _ _ _ (Bd.out 1 _ rfl)
  have cd2 : W2.cell? ⟨w.heap.size, 2, none⟩ = some (.slice A2 nl c2) := hx.out.sat _ _ _ (Bd.out 2 _ rfl)
  go_wp2_with fail
  clear lqt ct0 ft0 ct1 ft1 ct2 ft2 ct3 ft3 ct4 ft4 ct5 ft5 lqd cd0 cd1 cd2
  have hadrt := boxL kt.out
  have hsz := hx.out.size
  refine (dfaEv_any hF.out hx.out.sat).mono ?_
  rintro e w3 ⟨H4, G1, g1, G2, g2, rfl, hG, hx9⟩
  have hle := hx9.le
  replace hD := Aside.mk (hD.out.mono hle)
  replace hF := Aside.mk (hF.out.mono hle)
  replace Bd := Aside.mk (Bd.out.mono hle)
  replace nt := Aside.mk (fun o => (hx9.old _ o (boxL kt.out)).trans (nt.out o))
  replace kt := Aside.mk (box_below kt.out hx9.below)
  replace hx := Aside.mk (hx.out.trans hx9)
  clear hle hx9
  clear hsz hadrt
  replace hG := Aside.mk hG
  clear hF
  have lqt : w2.heap.size < w3.heap.size := boxL kt.out
  have ct0 : w3.cell? ⟨w2.heap.size, 0, none⟩ = some (.int .i64 0) := (boxC kt.out 0).1
  have ft0 : w3.frozen? ⟨w2.heap.size, 0, none⟩ = false := (boxC kt.out 0).2
  have ct1 : w3.cell? ⟨w2.heap.size, 1, none⟩ = some (.int .i64 1) := (boxC kt.out 1).1
  have ft1 : w3.frozen? ⟨w2.heap.size, 1, none⟩ = false := (boxC kt.out 1).2
  have ct2 : w3.cell? ⟨w2.heap.size, 2, none⟩ = some (.slice F1 2 f1) := (boxC kt.out 2).1
  have ft2 : w3.frozen? ⟨w2.heap.size, 2, none⟩ = false := (boxC kt.out 2).2
  have ct3 : w3.cell? ⟨w2.heap.size, 3, none⟩ = some (.slice F2 2 f2) := (boxC kt.out 3).1
  have ft3 : w3.frozen? ⟨w2.heap.size, 3, none⟩ = false := (boxC kt.out 3).2
  have ct4 : w3.cell? ⟨w2.heap.size, 4, none⟩ = some (.slice F3 2 f3) := (boxC kt.out 4).1
  have ft4 : w3.frozen? ⟨w2.heap.size, 4, none⟩ = false := (boxC kt.out 4).2
  have ct5 : w3.cell? ⟨w2.heap.size, 5, none⟩ = some (.slice F4 2 f4) := (boxC kt.out 5).1
  have ft5 : w3.frozen? ⟨w2.heap.size, 5, none⟩ = false := (boxC kt.out 5).2
  have lqd : w.heap.size < w3.heap.size := hx.out.sat.lt (Bd.out 0 _ rfl)
  have cd0 : w3.cell? ⟨w.heap.size, 0, none⟩ = some (.int .i64 st) := hx.out.sat _ _ _ (Bd.out 0 _ rfl)
  have cd1 : w3.cell? ⟨w.heap.size, 1, none⟩ = some (.slice A1 al c1) := hx.out.sat _ _ _ (Bd.out 1 _ rfl)
  have cd2 : w3.cell? ⟨w.heap.size, 2, none⟩ = some (.slice A2 nl c2) := hx.out.sat _ _ _ (Bd.out 2 _ rfl)
  go_upto_region 3 with (fail)
  clear lqt ct0 ft0 ct1 ft1 ct2 ft2 ct3 ft3 ct4 ft4 ct5 ft5 lqd cd0 cd1 cd2
  have hszw3 := hx.out.size
  have habtw3 := boxL kt.out
  have kt_ : (w3.alloc (.cells #[.int .i64 0, .slice G1 2 g1, .slice G2 2 g2] 58)).heap[w2.heap.size]? = some (.cells #[.int .i64 0, .int .i64 1, .slice F1 2 f1, .slice F2 2 f2, .slice F3 2 f3, .slice F4 2 f4] 85) := (boxA kt.out (.cells #[.int .i64 0, .slice G1 2 g1, .slice G2 2 g2] 58))
  have kx_ : (w3.alloc (.cells #[.int .i64 0, .slice G1 2 g1, .slice G2 2 g2] 58)).heap[w3.heap.size]? = some (.cells #[.int .i64 0, .slice G1 2 g1, .slice G2 2 g2] 58) := (heap_alloc_new _ _)
  have nx := Aside.mk (fun o => hx.out.sat.new (b := w3.heap.size) (show w3.heap.size ≤ _ by omega) o)
  replace hx := Aside.mk ((hx.out.alloc (.cells #[.int .i64 0, .slice G1 2 g1, .slice G2 2 g2] 58)))
  generalize (w3.alloc (.cells #[.int .i64 0, .slice G1 2 g1, .slice G2 2 g2] 58)) = W3 at *
  replace kt := Aside.mk kt_
  clear kt_
  have kx := Aside.mk kx_
  clear kx_
  obtain ⟨H1, hx2, hle, Bx, hold⟩ := box_freeze hx.out (by omega) kx.out nx.out
  replace hD := Aside.mk (hD.out.mono hle)
  replace hG := Aside.mk (hG.out.mono hle)
  replace Bd := Aside.mk (Bd.out.mono hle)
  replace nt := Aside.mk (fun o => (hold _ o (by omega)).trans (nt.out o))
  replace hx := Aside.mk hx2
  replace Bx := Aside.mk Bx
  clear hle hold hx2 kx nx
  go_cut [36] (fun s36 wc => s36 = .bool false ∧ Aside (Ext H H1 w wc) ∧ Aside (wc.heap[w2.heap.size]? = some (.cells #[.int .i64 0, .int .i64 1, .slice F1 2 f1, .slice F2 2 f2, .slice F3 2 f3, .slice F4 2 f4] 85)))
  case first =>
    refine region_seq [25, 26, 27, 28, 29, 30, 31, 32, 33, 34, 35, 36] (by kernel_rfl) (by kernel_rfl) (by kernel_rfl) (by kernel_rfl) hx.out.sat ?_
    refine reg_val (d := 25) (v := ?_) rfl (Or.inl rfl) (fun ρ wρ Hρ hρ => ?_) ?_; rotate_left
    · have k_c := hρ.const; have k_4 : ρ (.tmp 4) = .int .i64 0 := hρ.old 4 (by kernel_rfl); (go_simp <;> with_reducible rfl)
    refine reg_val (d := 26) (v := ?_) rfl (Or.inl rfl) (fun ρ wρ Hρ hρ => ?_) ?_; rotate_left
    · have k_c := hρ.const; have k_25 : ρ (.tmp 25) = _ := hρ.dep 25 (by kernel_rfl); (go_simp <;> with_reducible rfl)
    refine reg_val (d := 27) (v := ?_) rfl (Or.inl rfl) (fun ρ wρ Hρ hρ => ?_) ?_; rotate_left
    · have k_c := hρ.const; have k_26 : ρ (.tmp 26) = _ := hρ.dep 26 (by kernel_rfl); (go_simp <;> with_reducible rfl)
    refine reg_val (d := 28) (v := ?_) rfl (Or.inr ⟨2, false, 27, rfl, by kernel_rfl, by kernel_rfl, rfl⟩) (fun ρ wρ Hρ hρ => ?_) ?_; rotate_left
    · have k_c := hρ.const; have k_6 : ρ (.tmp 6) = .int .i64 0 := hρ.old 6 (by kernel_rfl); (go_simp <;> with_reducible rfl)
    refine reg_val (d := 29) (v := ?_) rfl (Or.inr ⟨2, false, 27, rfl, by kernel_rfl, by kernel_rfl, rfl⟩) (fun ρ wρ Hρ hρ => ?_) ?_; rotate_left
    · have k_c := hρ.const; have k_28 : ρ (.tmp 28) = _ := hρ.dep 28 (by kernel_rfl); (go_simp <;> with_reducible rfl)
    refine reg_val (d := 30) (v := ?_) rfl (Or.inl rfl) (fun ρ wρ Hρ hρ => ?_) ?_; rotate_left
    · have k_c := hρ.const; have k_27 : ρ (.tmp 27) = _ := hρ.dep 27 (by kernel_rfl); have k_29 : ρ (.tmp 29) = _ := hρ.dep 29 (by kernel_rfl); (go_simp <;> with_reducible rfl)
    refine reg_val (d := 31) (v := ?_) rfl (Or.inl rfl) (fun ρ wρ Hρ hρ => ?_) ?_; rotate_left
    · have k_c := hρ.const; have k_30 : ρ (.tmp 30) = _ := hρ.dep 30 (by kernel_rfl); (go_simp <;> with_reducible rfl)
    refine reg_val (d := 32) (v := ?_) rfl (Or.inr ⟨6, false, 31, rfl, by kernel_rfl, by kernel_rfl, rfl⟩) (fun ρ wρ Hρ hρ => ?_) ?_; rotate_left
    · have k_c := hρ.const; have k_5 : ρ (.tmp 5) = .pointer (some ⟨w3.heap.size, 0, none⟩) := hρ.old 5 (by kernel_rfl); have p0 := hρ.sat _ _ _ (Bx.out.mono hρ.ext.le 0 _ rfl); have p1 := hρ.sat _ _ _ (Bx.out.mono hρ.ext.le 1 _ rfl); have p2 := hρ.sat _ _ _ (Bx.out.mono hρ.ext.le 2 _ rfl); (go_simp <;> with_reducible rfl)
    refine reg_call (d := 33) ((.any (fun H u => ∃ A1 A2, u = .agg #[.int .i64 0, .slice A1 2 2, .slice A2 2 2] ∧ RdAut H evA [.int .i64 0, .slice A1 2 2, .slice A2 2 2]) (fun H H2 v hh ⟨A1, A2, e, h⟩ => ⟨A1, A2, e, h.mono hh⟩))) 53 rfl rfl Try.func53 (by kernel_rfl) rfl rfl (Or.inr ⟨6, false, 31, rfl, by kernel_rfl, by kernel_rfl, rfl⟩) (fun ρ wρ Hρ hρ => ?_) ?_
    · have k_c := hρ.const; simp only [List.map_toArray, List.map_nil]; refine (even_any _ _ hρ.sat).mono ?_; rintro e w9 ⟨H9, B1, B2, rfl, q1, q2, hx9⟩; exact ⟨_, H9, rfl, hx9, B1, B2, rfl, ⟨B1, 2, B2, 2, rfl, q1, q2⟩⟩
    refine reg_call (d := 34) ((.val (.bool true))) 75 rfl rfl Try.func75 (by kernel_rfl) rfl rfl (Or.inr ⟨6, false, 31, rfl, by kernel_rfl, by kernel_rfl, rfl⟩) (fun ρ wρ Hρ hρ => ?_) ?_
    · have k_c := hρ.const; have k_32 : ρ (.tmp 32) = _ := hρ.dep 32 (by kernel_rfl); obtain ⟨B1, B2, k_33, h33⟩ := hρ.dep 33 (by kernel_rfl); simp only [List.map_toArray, List.map_cons, List.map_nil, k_32, k_33]; refine (kEqual_yes (hG.out.mono hρ.ext.le) h33 hρ.sat).mono ?_; rintro e w9 ⟨rfl, hb9⟩; exact ⟨_, _, rfl, Ext.of_below hρ.sat hb9, rfl⟩
    refine reg_val (d := 35) (v := ?_) rfl (Or.inr ⟨6, false, 31, rfl, by kernel_rfl, by kernel_rfl, rfl⟩) (fun ρ wρ Hρ hρ => ?_) ?_; rotate_left
    · have k_c := hρ.const; have k_34 : ρ (.tmp 34) = _ := hρ.dep 34 (by kernel_rfl); (go_simp <;> with_reducible rfl)
    refine reg_val (d := 36) (v := ?_) rfl (Or.inl rfl) (fun ρ wρ Hρ hρ => ?_) ?_; rotate_left
    · have k_c := hρ.const; have k_31 : ρ (.tmp 31) = _ := hρ.dep 31 (by kernel_rfl); have k_35 : ρ (.tmp 35) = _ := hρ.dep 35 (by kernel_rfl); (go_simp <;> with_reducible rfl)
    intro vs wv Hv hv F
    have k_36 : vs 36 = _ := F 36 (by kernel_rfl)
    simp only [setAll, List.setIfInBounds_toArray, List.set_cons_zero, List.set_cons_succ, k_36]
    go_wp2_with fail
    go_meet
    exact ⟨rfl, ⟨hx.out.then_below hv.below⟩, ⟨box_below kt.out hv.below⟩⟩
  case rest =>
    clear hx kt
    obtain ⟨rfl, hx, kt⟩ := hcut
    clear hG
    clear Bx
    by_cases hz : dfaErr D.st D.acc D.next = 0
    case neg =>
      have hz2 := Aside.mk hz
      obtain ⟨er, her⟩ : ∃ er, er = dfaErr D.st D.acc D.next := ⟨_, rfl⟩
      have ner : (er == 0) = false := beq_eq_false_iff_ne.2 (by rw [her]; exact hz)
      have nner : (er != 0) = true := bne_iff_ne.2 (by rw [her]; exact hz)
      replace her := Aside.mk her
      clear hz
      have lqt : w2.heap.size < wc.heap.size := boxL kt.out
      have ct0 : wc.cell? ⟨w2.heap.size, 0, none⟩ = some (.int .i64 0) := (boxC kt.out 0).1
      have ft0 : wc.frozen? ⟨w2.heap.size, 0, none⟩ = false := (boxC kt.out 0).2
      have ct1 : wc.cell? ⟨w2.heap.size, 1, none⟩ = some (.int .i64 1) := (boxC kt.out 1).1
      have ft1 : wc.frozen? ⟨w2.heap.size, 1, none⟩ = false := (boxC kt.out 1).2
      have ct2 : wc.cell? ⟨w2.heap.size, 2, none⟩ = some (.slice F1 2 f1) := (boxC kt.out 2).1
      have ft2 : wc.frozen? ⟨w2.heap.size, 2, none⟩ = false := (boxC kt.out 2).2
      have ct3 : wc.cell? ⟨w2.heap.size, 3, none⟩ = some (.slice F2 2 f2) := (boxC kt.out 3).1
      have ft3 : wc.frozen? ⟨w2.heap.size, 3, none⟩ = false := (boxC kt.out 3).2
      have ct4 : wc.cell? ⟨w2.heap.size, 4, none⟩ = some (.slice F3 2 f3) := (boxC kt.out 4).1
      have ft4 : wc.frozen? ⟨w2.heap.size, 4, none⟩ = false := (boxC kt.out 4).2
      have ct5 : wc.cell? ⟨w2.heap.size, 5, none⟩ = some (.slice F4 2 f4) := (boxC kt.out 5).1
      have ft5 : wc.frozen? ⟨w2.heap.size, 5, none⟩ = false := (boxC kt.out 5).2
      have lqd : w.heap.size < wc.heap.size := hx.out.sat.lt (Bd.out 0 _ rfl)
      have cd0 : wc.cell? ⟨w.heap.size, 0, none⟩ = some (.int .i64 st) := hx.out.sat _ _ _ (Bd.out 0 _ rfl)
      have cd1 : wc.cell? ⟨w.heap.size, 1, none⟩ = some (.slice A1 al c1) := hx.out.sat _ _ _ (Bd.out 1 _ rfl)
      have cd2 : wc.cell? ⟨w.heap.size, 2, none⟩ = some (.slice A2 nl c2) := hx.out.sat _ _ _ (Bd.out 2 _ rfl)
      go_wp2_with fail
      clear lqt ct0 ft0 ct1 ft1 ct2 ft2 ct3 ft3 ct4 ft4 ct5 ft5 lqd cd0 cd1 cd2
      have hadrt := boxL kt.out
      have hsz := hx.out.size
      refine (packBad_any hD.out hx.out.sat hz2.out).mono ?_
      rintro e w4 ⟨H5, K1, k1, K2, k2, K3, k3, K4, k4, rfl, hK, hx9⟩
      have hle := hx9.le
      replace hD := Aside.mk (hD.out.mono hle)
      replace Bd := Aside.mk (Bd.out.mono hle)
      replace nt := Aside.mk (fun o => (hx9.old _ o (boxL kt.out)).trans (nt.out o))
      replace kt := Aside.mk (box_below kt.out hx9.below)
      replace hx := Aside.mk (hx.out.trans hx9)
      clear hle hx9
      clear hsz hadrt
      rw [← her.out]
      replace hK := Aside.mk hK
      have lqt : w2.heap.size < w4.heap.size := boxL kt.out
      have ct0 : w4.cell? ⟨w2.heap.size, 0, none⟩ = some (.int .i64 0) := (boxC kt.out 0).1
      have ft0 : w4.frozen? ⟨w2.heap.size, 0, none⟩ = false := (boxC kt.out 0).2
      have ct1 : w4.cell? ⟨w2.heap.size, 1, none⟩ = some (.int .i64 1) := (boxC kt.out 1).1
      have ft1 : w4.frozen? ⟨w2.heap.size, 1, none⟩ = false := (boxC kt.out 1).2
      have ct2 : w4.cell? ⟨w2.heap.size, 2, none⟩ = some (.slice F1 2 f1) := (boxC kt.out 2).1
      have ft2 : w4.frozen? ⟨w2.heap.size, 2, none⟩ = false := (boxC kt.out 2).2
      have ct3 : w4.cell? ⟨w2.heap.size, 3, none⟩ = some (.slice F2 2 f2) := (boxC kt.out 3).1
      have ft3 : w4.frozen? ⟨w2.heap.size, 3, none⟩ = false := (boxC kt.out 3).2
      have ct4 : w4.cell? ⟨w2.heap.size, 4, none⟩ = some (.slice F3 2 f3) := (boxC kt.out 4).1
      have ft4 : w4.frozen? ⟨w2.heap.size, 4, none⟩ = false := (boxC kt.out 4).2
      have ct5 : w4.cell? ⟨w2.heap.size, 5, none⟩ = some (.slice F4 2 f4) := (boxC kt.out 5).1
      have ft5 : w4.frozen? ⟨w2.heap.size, 5, none⟩ = false := (boxC kt.out 5).2
      have lqd : w.heap.size < w4.heap.size := hx.out.sat.lt (Bd.out 0 _ rfl)
      have cd0 : w4.cell? ⟨w.heap.size, 0, none⟩ = some (.int .i64 st) := hx.out.sat _ _ _ (Bd.out 0 _ rfl)
      have cd1 : w4.cell? ⟨w.heap.size, 1, none⟩ = some (.slice A1 al c1) := hx.out.sat _ _ _ (Bd.out 1 _ rfl)
      have cd2 : w4.cell? ⟨w.heap.size, 2, none⟩ = some (.slice A2 nl c2) := hx.out.sat _ _ _ (Bd.out 2 _ rfl)
      go_wp2_with fail
      clear lqt ct0 ft0 ct1 ft1 ct2 ft2 ct3 ft3 ct4 ft4 ct5 ft5 lqd cd0 cd1 cd2
      have hsz := hx.out.size
      have kt_ : ((((((w4.setCell ⟨w2.heap.size, 0, none⟩ (.int .i64 0)).setCell ⟨w2.heap.size, 1, none⟩ (.int .i64 0)).setCell ⟨w2.heap.size, 2, none⟩ (.slice K1 0 k1)).setCell ⟨w2.heap.size, 3, none⟩ (.slice K2 0 k2)).setCell ⟨w2.heap.size, 4, none⟩ (.slice K3 0 k3)).setCell ⟨w2.heap.size, 5, none⟩ (.slice K4 0 k4)).heap[w2.heap.size]? = some (.cells #[.int .i64 0, .int .i64 0, .slice K1 0 k1, .slice K2 0 k2, .slice K3 0 k3, .slice K4 0 k4] 85) := (boxS (boxS (boxS (boxS (boxS (boxS kt.out 0 (.int .i64 0)) 1 (.int .i64 0)) 2 (.slice K1 0 k1)) 3 (.slice K2 0 k2)) 4 (.slice K3 0 k3)) 5 (.slice K4 0 k4))
      replace hx := Aside.mk (((((((hx.out.setCell (b := w2.heap.size) (o := 0) (by first | omega | (simp; omega)) nt.out (.int .i64 0)).setCell (b := w2.heap.size) (o := 1) (by first | omega | (simp; omega)) nt.out (.int .i64 0)).setCell (b := w2.heap.size) (o := 2) (by first | omega | (simp; omega)) nt.out (.slice K1 0 k1)).setCell (b := w2.heap.size) (o := 3) (by first | omega | (simp; omega)) nt.out (.slice K2 0 k2)).setCell (b := w2.heap.size) (o := 4) (by first | omega | (simp; omega)) nt.out (.slice K3 0 k3)).setCell (b := w2.heap.size) (o := 5) (by first | omega | (simp; omega)) nt.out (.slice K4 0 k4)))
      generalize ((((((w4.setCell ⟨w2.heap.size, 0, none⟩ (.int .i64 0)).setCell ⟨w2.heap.size, 1, none⟩ (.int .i64 0)).setCell ⟨w2.heap.size, 2, none⟩ (.slice K1 0 k1)).setCell ⟨w2.heap.size, 3, none⟩ (.slice K2 0 k2)).setCell ⟨w2.heap.size, 4, none⟩ (.slice K3 0 k3)).setCell ⟨w2.heap.size, 5, none⟩ (.slice K4 0 k4)) = W4 at *
      replace kt := Aside.mk kt_
      clear kt_
      have lqt : w2.heap.size < W4.heap.size := boxL kt.out
      have ct0 : W4.cell? ⟨w2.heap.size, 0, none⟩ = some (.int .i64 0) := (boxC kt.out 0).1
      have ft0 : W4.frozen? ⟨w2.heap.size, 0, none⟩ = false := (boxC kt.out 0).2
      have ct1 : W4.cell? ⟨w2.heap.size, 1, none⟩ = some (.int .i64 0) := (boxC kt.out 1).1
      have ft1 : W4.frozen? ⟨w2.heap.size, 1, none⟩ = false := (boxC kt.out 1).2
      have ct2 : W4.cell? ⟨w2.heap.size, 2, none⟩ = some (.slice K1 0 k1) := (boxC kt.out 2).1
      have ft2 : W4.frozen? ⟨w2.heap.size, 2, none⟩ = false := (boxC kt.out 2).2
      have ct3 : W4.cell? ⟨w2.heap.size, 3, none⟩ = some (.slice K2 0 k2) := (boxC kt.out 3).1
      have ft3 : W4.frozen? ⟨w2.heap.size, 3, none⟩ = false := (boxC kt.out 3).2
      have ct4 : W4.cell? ⟨w2.heap.size, 4, none⟩ = some (.slice K3 0 k3) := (boxC kt.out 4).1
      have ft4 : W4.frozen? ⟨w2.heap.size, 4, none⟩ = false := (boxC kt.out 4).2
      have ct5 : W4.cell? ⟨w2.heap.size, 5, none⟩ = some (.slice K4 0 k4) := (boxC kt.out 5).1
      have ft5 : W4.frozen? ⟨w2.heap.size, 5, none⟩ = false := (boxC kt.out 5).2
      have lqd : w.heap.size < W4.heap.size := hx.out.sat.lt (Bd.out 0 _ rfl)
      have cd0 : W4.cell? ⟨w.heap.size, 0, none⟩ = some (.int .i64 st) := hx.out.sat _ _ _ (Bd.out 0 _ rfl)
      have cd1 : W4.cell? ⟨w.heap.size, 1, none⟩ = some (.slice A1 al c1) := hx.out.sat _ _ _ (Bd.out 1 _ rfl)
      have cd2 : W4.cell? ⟨w.heap.size, 2, none⟩ = some (.slice A2 nl c2) := hx.out.sat _ _ _ (Bd.out 2 _ rfl)
      go_wp2_with fail
      clear lqt ct0 ft0 ct1 ft1 ct2 ft2 ct3 ft3 ct4 ft4 ct5 ft5 lqd cd0 cd1 cd2
      go_ret
      exact ⟨rfl, hx.out.below⟩
    case pos =>
      replace hz := Aside.mk hz
      have lqt : w2.heap.size < wc.heap.size := boxL kt.out
      have ct0 : wc.cell? ⟨w2.heap.size, 0, none⟩ = some (.int .i64 0) := (boxC kt.out 0).1
      have ft0 : wc.frozen? ⟨w2.heap.size, 0, none⟩ = false := (boxC kt.out 0).2
      have ct1 : wc.cell? ⟨w2.heap.size, 1, none⟩ = some (.int .i64 1) := (boxC kt.out 1).1
      have ft1 : wc.frozen? ⟨w2.heap.size, 1, none⟩ = false := (boxC kt.out 1).2
      have ct2 : wc.cell? ⟨w2.heap.size, 2, none⟩ = some (.slice F1 2 f1) := (boxC kt.out 2).1
      have ft2 : wc.frozen? ⟨w2.heap.size, 2, none⟩ = false := (boxC kt.out 2).2
      have ct3 : wc.cell? ⟨w2.heap.size, 3, none⟩ = some (.slice F2 2 f2) := (boxC kt.out 3).1
      have ft3 : wc.frozen? ⟨w2.heap.size, 3, none⟩ = false := (boxC kt.out 3).2
      have ct4 : wc.cell? ⟨w2.heap.size, 4, none⟩ = some (.slice F3 2 f3) := (boxC kt.out 4).1
      have ft4 : wc.frozen? ⟨w2.heap.size, 4, none⟩ = false := (boxC kt.out 4).2
      have ct5 : wc.cell? ⟨w2.heap.size, 5, none⟩ = some (.slice F4 2 f4) := (boxC kt.out 5).1
      have ft5 : wc.frozen? ⟨w2.heap.size, 5, none⟩ = false := (boxC kt.out 5).2
      have lqd : w.heap.size < wc.heap.size := hx.out.sat.lt (Bd.out 0 _ rfl)
      have cd0 : wc.cell? ⟨w.heap.size, 0, none⟩ = some (.int .i64 st) := hx.out.sat _ _ _ (Bd.out 0 _ rfl)
      have cd1 : wc.cell? ⟨w.heap.size, 1, none⟩ = some (.slice A1 al c1) := hx.out.sat _ _ _ (Bd.out 1 _ rfl)
      have cd2 : wc.cell? ⟨w.heap.size, 2, none⟩ = some (.slice A2 nl c2) := hx.out.sat _ _ _ (Bd.out 2 _ rfl)
      go_wp2_with fail
      clear lqt ct0 ft0 ct1 ft1 ct2 ft2 ct3 ft3 ct4 ft4 ct5 ft5 lqd cd0 cd1 cd2
      have hadrt := boxL kt.out
      have hsz := hx.out.size
      refine (packOk_any hD.out hx.out.sat hz.out).mono ?_
      rintro e w4 ⟨H5, T, K1, k1, K2, k2, K3, k3, K4, k4, rfl, hK, hK0, hKd, hKa, -, -, hx9⟩
      have hle := hx9.le
      replace hD := Aside.mk (hD.out.mono hle)
      replace Bd := Aside.mk (Bd.out.mono hle)
      replace nt := Aside.mk (fun o => (hx9.old _ o (boxL kt.out)).trans (nt.out o))
      replace kt := Aside.mk (box_below kt.out hx9.below)
      replace hx := Aside.mk (hx.out.trans hx9)
      clear hle hx9
      clear hsz hadrt
      replace hK := Aside.mk hK
      have hIR := Aside.mk (inR_of hK0 (by rw [hKa]; exact hw.out))
      replace hK0 := Aside.mk hK0
      replace hKd := Aside.mk hKd
      clear hKa
      have lqt : w2.heap.size < w4.heap.size := boxL kt.out
      have ct0 : w4.cell? ⟨w2.heap.size, 0, none⟩ = some (.int .i64 0) := (boxC kt.out 0).1
      have ft0 : w4.frozen? ⟨w2.heap.size, 0, none⟩ = false := (boxC kt.out 0).2
      have ct1 : w4.cell? ⟨w2.heap.size, 1, none⟩ = some (.int .i64 1) := (boxC kt.out 1).1
      have ft1 : w4.frozen? ⟨w2.heap.size, 1, none⟩ = false := (boxC kt.out 1).2
      have ct2 : w4.cell? ⟨w2.heap.size, 2, none⟩ = some (.slice F1 2 f1) := (boxC kt.out 2).1
      have ft2 : w4.frozen? ⟨w2.heap.size, 2, none⟩ = false := (boxC kt.out 2).2
      have ct3 : w4.cell? ⟨w2.heap.size, 3, none⟩ = some (.slice F2 2 f2) := (boxC kt.out 3).1
      have ft3 : w4.frozen? ⟨w2.heap.size, 3, none⟩ = false := (boxC kt.out 3).2
      have ct4 : w4.cell? ⟨w2.heap.size, 4, none⟩ = some (.slice F3 2 f3) := (boxC kt.out 4).1
      have ft4 : w4.frozen? ⟨w2.heap.size, 4, none⟩ = false := (boxC kt.out 4).2
      have ct5 : w4.cell? ⟨w2.heap.size, 5, none⟩ = some (.slice F4 2 f4) := (boxC kt.out 5).1
      have ft5 : w4.frozen? ⟨w2.heap.size, 5, none⟩ = false := (boxC kt.out 5).2
      have lqd : w.heap.size < w4.heap.size := hx.out.sat.lt (Bd.out 0 _ rfl)
      have cd0 : w4.cell? ⟨w.heap.size, 0, none⟩ = some (.int .i64 st) := hx.out.sat _ _ _ (Bd.out 0 _ rfl)
      have cd1 : w4.cell? ⟨w.heap.size, 1, none⟩ = some (.slice A1 al c1) := hx.out.sat _ _ _ (Bd.out 1 _ rfl)
      have cd2 : w4.cell? ⟨w.heap.size, 2, none⟩ = some (.slice A2 nl c2) := hx.out.sat _ _ _ (Bd.out 2 _ rfl)
      go_wp2_with fail
      clear lqt ct0 ft0 ct1 ft1 ct2 ft2 ct3 ft3 ct4 ft4 ct5 ft5 lqd cd0 cd1 cd2
      have hsz := hx.out.size
      have kt_ : ((((((w4.setCell ⟨w2.heap.size, 0, none⟩ (.int .i64 T.st)).setCell ⟨w2.heap.size, 1, none⟩ (.int .i64 T.cols)).setCell ⟨w2.heap.size, 2, none⟩ (.slice K1 T.acc.length k1)).setCell ⟨w2.heap.size, 3, none⟩ (.slice K2 T.base.length k2)).setCell ⟨w2.heap.size, 4, none⟩ (.slice K3 T.own.length k3)).setCell ⟨w2.heap.size, 5, none⟩ (.slice K4 T.nxt.length k4)).heap[w2.heap.size]? = some (.cells #[.int .i64 T.st, .int .i64 T.cols, .slice K1 T.acc.length k1, .slice K2 T.base.length k2, .slice K3 T.own.length k3, .slice K4 T.nxt.length k4] 85) := (boxS (boxS (boxS (boxS (boxS (boxS kt.out 0 (.int .i64 T.st)) 1 (.int .i64 T.cols)) 2 (.slice K1 T.acc.length k1)) 3 (.slice K2 T.base.length k2)) 4 (.slice K3 T.own.length k3)) 5 (.slice K4 T.nxt.length k4))
      replace hx := Aside.mk (((((((hx.out.setCell (b := w2.heap.size) (o := 0) (by first | omega | (simp; omega)) nt.out (.int .i64 T.st)).setCell (b := w2.heap.size) (o := 1) (by first | omega | (simp; omega)) nt.out (.int .i64 T.cols)).setCell (b := w2.heap.size) (o := 2) (by first | omega | (simp; omega)) nt.out (.slice K1 T.acc.length k1)).setCell (b := w2.heap.size) (o := 3) (by first | omega | (simp; omega)) nt.out (.slice K2 T.base.length k2)).setCell (b := w2.heap.size) (o := 4) (by first | omega | (simp; omega)) nt.out (.slice K3 T.own.length k3)).setCell (b := w2.heap.size) (o := 5) (by first | omega | (simp; omega)) nt.out (.slice K4 T.nxt.length k4)))
      generalize ((((((w4.setCell ⟨w2.heap.size, 0, none⟩ (.int .i64 T.st)).setCell ⟨w2.heap.size, 1, none⟩ (.int .i64 T.cols)).setCell ⟨w2.heap.size, 2, none⟩ (.slice K1 T.acc.length k1)).setCell ⟨w2.heap.size, 3, none⟩ (.slice K2 T.base.length k2)).setCell ⟨w2.heap.size, 4, none⟩ (.slice K3 T.own.length k3)).setCell ⟨w2.heap.size, 5, none⟩ (.slice K4 T.nxt.length k4)) = W5 at *
      replace kt := Aside.mk kt_
      clear kt_
      obtain ⟨H1, hx2, hle, Bt, hold⟩ := box_freeze hx.out (by omega) kt.out nt.out
      replace hD := Aside.mk (hD.out.mono hle)
      replace hK := Aside.mk (hK.out.mono hle)
      replace Bd := Aside.mk (Bd.out.mono hle)
      replace hx := Aside.mk hx2
      replace Bt := Aside.mk Bt
      clear hle hold hx2 kt nt
      clear hsz
      have hsz := hx.out.size
      refine (dfaOk_any hK.out hx.out.sat hK0.out hKd.out).mono ?_
      rintro e w5 ⟨H6, L1, l1, L2, l2, rfl, hL, hx9⟩
      have hle := hx9.le
      replace hD := Aside.mk (hD.out.mono hle)
      replace hK := Aside.mk (hK.out.mono hle)
      replace Bd := Aside.mk (Bd.out.mono hle)
      replace Bt := Aside.mk (Bt.out.mono hle)
      replace hx := Aside.mk (hx.out.trans hx9)
      clear hle hx9
      rw [hst.out, hal.out, hnl.out] at hL ⊢
      replace hL := Aside.mk hL
      have hsz := hx.out.size
      have lqd : w.heap.size < w5.heap.size := hx.out.sat.lt (Bd.out 0 _ rfl)
      have cd0 : w5.cell? ⟨w.heap.size, 0, none⟩ = some (.int .i64 st) := hx.out.sat _ _ _ (Bd.out 0 _ rfl)
      have cd1 : w5.cell? ⟨w.heap.size, 1, none⟩ = some (.slice A1 al c1) := hx.out.sat _ _ _ (Bd.out 1 _ rfl)
      have cd2 : w5.cell? ⟨w.heap.size, 2, none⟩ = some (.slice A2 nl c2) := hx.out.sat _ _ _ (Bd.out 2 _ rfl)
      have lqt : w2.heap.size < w5.heap.size := hx.out.sat.lt (Bt.out 0 _ rfl)
      have ct0 : w5.cell? ⟨w2.heap.size, 0, none⟩ = some (.int .i64 T.st) := hx.out.sat _ _ _ (Bt.out 0 _ rfl)
      have ct1 : w5.cell? ⟨w2.heap.size, 1, none⟩ = some (.int .i64 T.cols) := hx.out.sat _ _ _ (Bt.out 1 _ rfl)
      have ct2 : w5.cell? ⟨w2.heap.size, 2, none⟩ = some (.slice K1 T.acc.length k1) := hx.out.sat _ _ _ (Bt.out 2 _ rfl)
      have ct3 : w5.cell? ⟨w2.heap.size, 3, none⟩ = some (.slice K2 T.base.length k2) := hx.out.sat _ _ _ (Bt.out 3 _ rfl)
      have ct4 : w5.cell? ⟨w2.heap.size, 4, none⟩ = some (.slice K3 T.own.length k3) := hx.out.sat _ _ _ (Bt.out 4 _ rfl)
      have ct5 : w5.cell? ⟨w2.heap.size, 5, none⟩ = some (.slice K4 T.nxt.length k4) := hx.out.sat _ _ _ (Bt.out 5 _ rfl)
      go_wp2_with fail
      clear lqd cd0 cd1 cd2 lqt ct0 ct1 ct2 ct3 ct4 ct5
      have hszw5 := hx.out.size
      have kx_ : (w5.alloc (.cells #[.int .i64 st, .slice L1 al l1, .slice L2 nl l2] 58)).heap[w5.heap.size]? = some (.cells #[.int .i64 st, .slice L1 al l1, .slice L2 nl l2] 58) := (heap_alloc_new _ _)
      have nx := Aside.mk (fun o => hx.out.sat.new (b := w5.heap.size) (show w5.heap.size ≤ _ by omega) o)
      replace hx := Aside.mk ((hx.out.alloc (.cells #[.int .i64 st, .slice L1 al l1, .slice L2 nl l2] 58)))
      generalize (w5.alloc (.cells #[.int .i64 st, .slice L1 al l1, .slice L2 nl l2] 58)) = W6 at *
      have kx := Aside.mk kx_
      clear kx_
      obtain ⟨H1, hx2, hle, Bx, hold⟩ := box_freeze hx.out (by omega) kx.out nx.out
      replace hD := Aside.mk (hD.out.mono hle)
      replace hK := Aside.mk (hK.out.mono hle)
      replace hL := Aside.mk (hL.out.mono hle)
      replace Bd := Aside.mk (Bd.out.mono hle)
      replace Bt := Aside.mk (Bt.out.mono hle)
      replace hx := Aside.mk hx2
      replace Bx := Aside.mk Bx
      clear hle hold hx2 kx nx
      have lqd : w.heap.size < W6.heap.size := hx.out.sat.lt (Bd.out 0 _ rfl)
      have cd0 : W6.cell? ⟨w.heap.size, 0, none⟩ = some (.int .i64 st) := hx.out.sat _ _ _ (Bd.out 0 _ rfl)
      have cd1 : W6.cell? ⟨w.heap.size, 1, none⟩ = some (.slice A1 al c1) := hx.out.sat _ _ _ (Bd.out 1 _ rfl)
      have cd2 : W6.cell? ⟨w.heap.size, 2, none⟩ = some (.slice A2 nl c2) := hx.out.sat _ _ _ (Bd.out 2 _ rfl)
      have lqt : w2.heap.size < W6.heap.size := hx.out.sat.lt (Bt.out 0 _ rfl)
      have ct0 : W6.cell? ⟨w2.heap.size, 0, none⟩ = some (.int .i64 T.st) := hx.out.sat _ _ _ (Bt.out 0 _ rfl)
      have ct1 : W6.cell? ⟨w2.heap.size, 1, none⟩ = some (.int .i64 T.cols) := hx.out.sat _ _ _ (Bt.out 1 _ rfl)
      have ct2 : W6.cell? ⟨w2.heap.size, 2, none⟩ = some (.slice K1 T.acc.length k1) := hx.out.sat _ _ _ (Bt.out 2 _ rfl)
      have ct3 : W6.cell? ⟨w2.heap.size, 3, none⟩ = some (.slice K2 T.base.length k2) := hx.out.sat _ _ _ (Bt.out 3 _ rfl)
      have ct4 : W6.cell? ⟨w2.heap.size, 4, none⟩ = some (.slice K3 T.own.length k3) := hx.out.sat _ _ _ (Bt.out 4 _ rfl)
      have ct5 : W6.cell? ⟨w2.heap.size, 5, none⟩ = some (.slice K4 T.nxt.length k4) := hx.out.sat _ _ _ (Bt.out 5 _ rfl)
      have lqx : w5.heap.size < W6.heap.size := hx.out.sat.lt (Bx.out 0 _ rfl)
      have cx0 : W6.cell? ⟨w5.heap.size, 0, none⟩ = some (.int .i64 st) := hx.out.sat _ _ _ (Bx.out 0 _ rfl)
      have cx1 : W6.cell? ⟨w5.heap.size, 1, none⟩ = some (.slice L1 al l1) := hx.out.sat _ _ _ (Bx.out 1 _ rfl)
      have cx2 : W6.cell? ⟨w5.heap.size, 2, none⟩ = some (.slice L2 nl l2) := hx.out.sat _ _ _ (Bx.out 2 _ rfl)
      go_wp2_with fail
      clear lqd cd0 cd1 cd2 lqt ct0 ct1 ct2 ct3 ct4 ct5 lqx cx0 cx1 cx2
      have hbl := bytesT_len2 hK0.out hIR.out
      have hsz := hx.out.size
      refine (bytesOk_any hK.out hx.out.sat hK0.out hIR.out).mono ?_
      rintro e w6 ⟨v, rfl, ho, hb9⟩
      replace hx := Aside.mk (hx.out.then_below hb9)
      clear hb9
      obtain ⟨Bo, bo, ev, -, -, -, -⟩ := ho.form
      subst ev
      replace ho := Aside.mk ho
      obtain ⟨H1, hx2, hle, ⟨Bo_, bo_, e1, ho⟩, hold⟩ := ho.out.freezeE hx.out (by omega) (by omega)
      cases e1
      replace hD := Aside.mk (hD.out.mono hle)
      replace hK := Aside.mk (hK.out.mono hle)
      replace hL := Aside.mk (hL.out.mono hle)
      replace Bd := Aside.mk (Bd.out.mono hle)
      replace Bt := Aside.mk (Bt.out.mono hle)
      replace Bx := Aside.mk (Bx.out.mono hle)
      replace hx := Aside.mk hx2
      replace ho := Aside.mk ho
      clear hle hold hx2
      clear hsz
      clear hbl
      have lqd : w.heap.size < w6.heap.size := hx.out.sat.lt (Bd.out 0 _ rfl)
      have cd0 : w6.cell? ⟨w.heap.size, 0, none⟩ = some (.int .i64 st) := hx.out.sat _ _ _ (Bd.out 0 _ rfl)
      have cd1 : w6.cell? ⟨w.heap.size, 1, none⟩ = some (.slice A1 al c1) := hx.out.sat _ _ _ (Bd.out 1 _ rfl)
      have cd2 : w6.cell? ⟨w.heap.size, 2, none⟩ = some (.slice A2 nl c2) := hx.out.sat _ _ _ (Bd.out 2 _ rfl)
      have lqt : w2.heap.size < w6.heap.size := hx.out.sat.lt (Bt.out 0 _ rfl)
      have ct0 : w6.cell? ⟨w2.heap.size, 0, none⟩ = some (.int .i64 T.st) := hx.out.sat _ _ _ (Bt.out 0 _ rfl)
      have ct1 : w6.cell? ⟨w2.heap.size, 1, none⟩ = some (.int .i64 T.cols) := hx.out.sat _ _ _ (Bt.out 1 _ rfl)
      have ct2 : w6.cell? ⟨w2.heap.size, 2, none⟩ = some (.slice K1 T.acc.length k1) := hx.out.sat _ _ _ (Bt.out 2 _ rfl)
      have ct3 : w6.cell? ⟨w2.heap.size, 3, none⟩ = some (.slice K2 T.base.length k2) := hx.out.sat _ _ _ (Bt.out 3 _ rfl)
      have ct4 : w6.cell? ⟨w2.heap.size, 4, none⟩ = some (.slice K3 T.own.length k3) := hx.out.sat _ _ _ (Bt.out 4 _ rfl)
      have ct5 : w6.cell? ⟨w2.heap.size, 5, none⟩ = some (.slice K4 T.nxt.length k4) := hx.out.sat _ _ _ (Bt.out 5 _ rfl)
      have lqx : w5.heap.size < w6.heap.size := hx.out.sat.lt (Bx.out 0 _ rfl)
      have cx0 : w6.cell? ⟨w5.heap.size, 0, none⟩ = some (.int .i64 st) := hx.out.sat _ _ _ (Bx.out 0 _ rfl)
      have cx1 : w6.cell? ⟨w5.heap.size, 1, none⟩ = some (.slice L1 al l1) := hx.out.sat _ _ _ (Bx.out 1 _ rfl)
      have cx2 : w6.cell? ⟨w5.heap.size, 2, none⟩ = some (.slice L2 nl l2) := hx.out.sat _ _ _ (Bx.out 2 _ rfl)
      go_wp2_with fail
      clear lqd cd0 cd1 cd2 lqt ct0 ct1 ct2 ct3 ct4 ct5 lqx cx0 cx1 cx2
      have hsz := hx.out.size
      refine (readOk_any ho.out hx.out.sat hK0.out hIR.out).mono ?_
      rintro e w7 ⟨H7, M1, m1, M2, m2, M3, m3, M4, m4, rfl, hM, hx9⟩
      have hle := hx9.le
      replace hD := Aside.mk (hD.out.mono hle)
      replace hK := Aside.mk (hK.out.mono hle)
      replace hL := Aside.mk (hL.out.mono hle)
      replace ho := Aside.mk (ho.out.mono hle)
      replace Bd := Aside.mk (Bd.out.mono hle)
      replace Bt := Aside.mk (Bt.out.mono hle)
      replace Bx := Aside.mk (Bx.out.mono hle)
      replace hx := Aside.mk (hx.out.trans hx9)
      clear hle hx9
      replace hM := Aside.mk hM
      clear ho
      have hsz := hx.out.size
      have lqd : w.heap.size < w7.heap.size := hx.out.sat.lt (Bd.out 0 _ rfl)
      have cd0 : w7.cell? ⟨w.heap.size, 0, none⟩ = some (.int .i64 st) := hx.out.sat _ _ _ (Bd.out 0 _ rfl)
      have cd1 : w7.cell? ⟨w.heap.size, 1, none⟩ = some (.slice A1 al c1) := hx.out.sat _ _ _ (Bd.out 1 _ rfl)
      have cd2 : w7.cell? ⟨w.heap.size, 2, none⟩ = some (.slice A2 nl c2) := hx.out.sat _ _ _ (Bd.out 2 _ rfl)
      have lqt : w2.heap.size < w7.heap.size := hx.out.sat.lt (Bt.out 0 _ rfl)
      have ct0 : w7.cell? ⟨w2.heap.size, 0, none⟩ = some (.int .i64 T.st) := hx.out.sat _ _ _ (Bt.out 0 _ rfl)
      have ct1 : w7.cell? ⟨w2.heap.size, 1, none⟩ = some (.int .i64 T.cols) := hx.out.sat _ _ _ (Bt.out 1 _ rfl)
      have ct2 : w7.cell? ⟨w2.heap.size, 2, none⟩ = some (.slice K1 T.acc.length k1) := hx.out.sat _ _ _ (Bt.out 2 _ rfl)
      have ct3 : w7.cell? ⟨w2.heap.size, 3, none⟩ = some (.slice K2 T.base.length k2) := hx.out.sat _ _ _ (Bt.out 3 _ rfl)
      have ct4 : w7.cell? ⟨w2.heap.size, 4, none⟩ = some (.slice K3 T.own.length k3) := hx.out.sat _ _ _ (Bt.out 4 _ rfl)
      have ct5 : w7.cell? ⟨w2.heap.size, 5, none⟩ = some (.slice K4 T.nxt.length k4) := hx.out.sat _ _ _ (Bt.out 5 _ rfl)
      have lqx : w5.heap.size < w7.heap.size := hx.out.sat.lt (Bx.out 0 _ rfl)
      have cx0 : w7.cell? ⟨w5.heap.size, 0, none⟩ = some (.int .i64 st) := hx.out.sat _ _ _ (Bx.out 0 _ rfl)
      have cx1 : w7.cell? ⟨w5.heap.size, 1, none⟩ = some (.slice L1 al l1) := hx.out.sat _ _ _ (Bx.out 1 _ rfl)
      have cx2 : w7.cell? ⟨w5.heap.size, 2, none⟩ = some (.slice L2 nl l2) := hx.out.sat _ _ _ (Bx.out 2 _ rfl)
      go_wp2_with fail
      clear lqd cd0 cd1 cd2 lqt ct0 ct1 ct2 ct3 ct4 ct5 lqx cx0 cx1 cx2
      have hszw7 := hx.out.size
      have ku_ : (w7.alloc (.cells #[.int .i64 T.st, .int .i64 T.cols, .slice M1 T.acc.length m1, .slice M2 T.base.length m2, .slice M3 T.own.length m3, .slice M4 T.nxt.length m4] 85)).heap[w7.heap.size]? = some (.cells #[.int .i64 T.st, .int .i64 T.cols, .slice M1 T.acc.length m1, .slice M2 T.base.length m2, .slice M3 T.own.length m3, .slice M4 T.nxt.length m4] 85) := (heap_alloc_new _ _)
      have nu := Aside.mk (fun o => hx.out.sat.new (b := w7.heap.size) (show w7.heap.size ≤ _ by omega) o)
      replace hx := Aside.mk ((hx.out.alloc (.cells #[.int .i64 T.st, .int .i64 T.cols, .slice M1 T.acc.length m1, .slice M2 T.base.length m2, .slice M3 T.own.length m3, .slice M4 T.nxt.length m4] 85)))
      generalize (w7.alloc (.cells #[.int .i64 T.st, .int .i64 T.cols, .slice M1 T.acc.length m1, .slice M2 T.base.length m2, .slice M3 T.own.length m3, .slice M4 T.nxt.length m4] 85)) = W7 at *
      have ku := Aside.mk ku_
      clear ku_
      obtain ⟨H1, hx2, hle, Bu, hold⟩ := box_freeze hx.out (by omega) ku.out nu.out
      replace hD := Aside.mk (hD.out.mono hle)
      replace hK := Aside.mk (hK.out.mono hle)
      replace hL := Aside.mk (hL.out.mono hle)
      replace hM := Aside.mk (hM.out.mono hle)
      replace Bd := Aside.mk (Bd.out.mono hle)
      replace Bt := Aside.mk (Bt.out.mono hle)
      replace Bx := Aside.mk (Bx.out.mono hle)
      replace hx := Aside.mk hx2
      replace Bu := Aside.mk Bu
      clear hle hold hx2 ku nu
      have lqd : w.heap.size < W7.heap.size := hx.out.sat.lt (Bd.out 0 _ rfl)
      have cd0 : W7.cell? ⟨w.heap.size, 0, none⟩ = some (.int .i64 st) := hx.out.sat _ _ _ (Bd.out 0 _ rfl)
      have cd1 : W7.cell? ⟨w.heap.size, 1, none⟩ = some (.slice A1 al c1) := hx.out.sat _ _ _ (Bd.out 1 _ rfl)
      have cd2 : W7.cell? ⟨w.heap.size, 2, none⟩ = some (.slice A2 nl c2) := hx.out.sat _ _ _ (Bd.out 2 _ rfl)
      have lqt : w2.heap.size < W7.heap.size := hx.out.sat.lt (Bt.out 0 _ rfl)
      have ct0 : W7.cell? ⟨w2.heap.size, 0, none⟩ = some (.int .i64 T.st) := hx.out.sat _ _ _ (Bt.out 0 _ rfl)
      have ct1 : W7.cell? ⟨w2.heap.size, 1, none⟩ = some (.int .i64 T.cols) := hx.out.sat _ _ _ (Bt.out 1 _ rfl)
      have ct2 : W7.cell? ⟨w2.heap.size, 2, none⟩ = some (.slice K1 T.acc.length k1) := hx.out.sat _ _ _ (Bt.out 2 _ rfl)
      have ct3 : W7.cell? ⟨w2.heap.size, 3, none⟩ = some (.slice K2 T.base.length k2) := hx.out.sat _ _ _ (Bt.out 3 _ rfl)
      have ct4 : W7.cell? ⟨w2.heap.size, 4, none⟩ = some (.slice K3 T.own.length k3) := hx.out.sat _ _ _ (Bt.out 4 _ rfl)
      have ct5 : W7.cell? ⟨w2.heap.size, 5, none⟩ = some (.slice K4 T.nxt.length k4) := hx.out.sat _ _ _ (Bt.out 5 _ rfl)
      have lqx : w5.heap.size < W7.heap.size := hx.out.sat.lt (Bx.out 0 _ rfl)
      have cx0 : W7.cell? ⟨w5.heap.size, 0, none⟩ = some (.int .i64 st) := hx.out.sat _ _ _ (Bx.out 0 _ rfl)
      have cx1 : W7.cell? ⟨w5.heap.size, 1, none⟩ = some (.slice L1 al l1) := hx.out.sat _ _ _ (Bx.out 1 _ rfl)
      have cx2 : W7.cell? ⟨w5.heap.size, 2, none⟩ = some (.slice L2 nl l2) := hx.out.sat _ _ _ (Bx.out 2 _ rfl)
      have lqu : w7.heap.size < W7.heap.size := hx.out.sat.lt (Bu.out 0 _ rfl)
      have cu0 : W7.cell? ⟨w7.heap.size, 0, none⟩ = some (.int .i64 T.st) := hx.out.sat _ _ _ (Bu.out 0 _ rfl)
      have cu1 : W7.cell? ⟨w7.heap.size, 1, none⟩ = some (.int .i64 T.cols) := hx.out.sat _ _ _ (Bu.out 1 _ rfl)
      have cu2 : W7.cell? ⟨w7.heap.size, 2, none⟩ = some (.slice M1 T.acc.length m1) := hx.out.sat _ _ _ (Bu.out 2 _ rfl)
      have cu3 : W7.cell? ⟨w7.heap.size, 3, none⟩ = some (.slice M2 T.base.length m2) := hx.out.sat _ _ _ (Bu.out 3 _ rfl)
      have cu4 : W7.cell? ⟨w7.heap.size, 4, none⟩ = some (.slice M3 T.own.length m3) := hx.out.sat _ _ _ (Bu.out 4 _ rfl)
      have cu5 : W7.cell? ⟨w7.heap.size, 5, none⟩ = some (.slice M4 T.nxt.length m4) := hx.out.sat _ _ _ (Bu.out 5 _ rfl)
      go_wp2_with fail
      clear lqd cd0 cd1 cd2 lqt ct0 ct1 ct2 ct3 ct4 ct5 lqx cx0 cx1 cx2 lqu cu0 cu1 cu2 cu3 cu4 cu5
      have hsz := hx.out.size
      refine (dfaOk_any hM.out hx.out.sat hK0.out hKd.out).mono ?_
      rintro e w8 ⟨H8, N1, n1, N2, n2, rfl, hN, hx9⟩
      have hle := hx9.le
      replace hD := Aside.mk (hD.out.mono hle)
      replace hK := Aside.mk (hK.out.mono hle)
      replace hL := Aside.mk (hL.out.mono hle)
      replace hM := Aside.mk (hM.out.mono hle)
      replace Bd := Aside.mk (Bd.out.mono hle)
      replace Bt := Aside.mk (Bt.out.mono hle)
      replace Bx := Aside.mk (Bx.out.mono hle)
      replace Bu := Aside.mk (Bu.out.mono hle)
      replace hx := Aside.mk (hx.out.trans hx9)
      clear hle hx9
      rw [hst.out, hal.out, hnl.out] at hN ⊢
      replace hN := Aside.mk hN
      clear hM
      clear Bu
      have hsz := hx.out.size
      have lqd : w.heap.size < w8.heap.size := hx.out.sat.lt (Bd.out 0 _ rfl)
      have cd0 : w8.cell? ⟨w.heap.size, 0, none⟩ = some (.int .i64 st) := hx.out.sat _ _ _ (Bd.out 0 _ rfl)
      have cd1 : w8.cell? ⟨w.heap.size, 1, none⟩ = some (.slice A1 al c1) := hx.out.sat _ _ _ (Bd.out 1 _ rfl)
      have cd2 : w8.cell? ⟨w.heap.size, 2, none⟩ = some (.slice A2 nl c2) := hx.out.sat _ _ _ (Bd.out 2 _ rfl)
      have lqt : w2.heap.size < w8.heap.size := hx.out.sat.lt (Bt.out 0 _ rfl)
      have ct0 : w8.cell? ⟨w2.heap.size, 0, none⟩ = some (.int .i64 T.st) := hx.out.sat _ _ _ (Bt.out 0 _ rfl)
      have ct1 : w8.cell? ⟨w2.heap.size, 1, none⟩ = some (.int .i64 T.cols) := hx.out.sat _ _ _ (Bt.out 1 _ rfl)
      have ct2 : w8.cell? ⟨w2.heap.size, 2, none⟩ = some (.slice K1 T.acc.length k1) := hx.out.sat _ _ _ (Bt.out 2 _ rfl)
      have ct3 : w8.cell? ⟨w2.heap.size, 3, none⟩ = some (.slice K2 T.base.length k2) := hx.out.sat _ _ _ (Bt.out 3 _ rfl)
      have ct4 : w8.cell? ⟨w2.heap.size, 4, none⟩ = some (.slice K3 T.own.length k3) := hx.out.sat _ _ _ (Bt.out 4 _ rfl)
      have ct5 : w8.cell? ⟨w2.heap.size, 5, none⟩ = some (.slice K4 T.nxt.length k4) := hx.out.sat _ _ _ (Bt.out 5 _ rfl)
      have lqx : w5.heap.size < w8.heap.size := hx.out.sat.lt (Bx.out 0 _ rfl)
      have cx0 : w8.cell? ⟨w5.heap.size, 0, none⟩ = some (.int .i64 st) := hx.out.sat _ _ _ (Bx.out 0 _ rfl)
      have cx1 : w8.cell? ⟨w5.heap.size, 1, none⟩ = some (.slice L1 al l1) := hx.out.sat _ _ _ (Bx.out 1 _ rfl)
      have cx2 : w8.cell? ⟨w5.heap.size, 2, none⟩ = some (.slice L2 nl l2) := hx.out.sat _ _ _ (Bx.out 2 _ rfl)
      go_wp2_with fail
      clear lqd cd0 cd1 cd2 lqt ct0 ct1 ct2 ct3 ct4 ct5 lqx cx0 cx1 cx2
      have hszw8 := hx.out.size
      have ky_ : (w8.alloc (.cells #[.int .i64 st, .slice N1 al n1, .slice N2 nl n2] 58)).heap[w8.heap.size]? = some (.cells #[.int .i64 st, .slice N1 al n1, .slice N2 nl n2] 58) := (heap_alloc_new _ _)
      have ny := Aside.mk (fun o => hx.out.sat.new (b := w8.heap.size) (show w8.heap.size ≤ _ by omega) o)
      replace hx := Aside.mk ((hx.out.alloc (.cells #[.int .i64 st, .slice N1 al n1, .slice N2 nl n2] 58)))
      generalize (w8.alloc (.cells #[.int .i64 st, .slice N1 al n1, .slice N2 nl n2] 58)) = W8 at *
      have ky := Aside.mk ky_
      clear ky_
      obtain ⟨H1, hx2, hle, By, hold⟩ := box_freeze hx.out (by omega) ky.out ny.out
      replace hD := Aside.mk (hD.out.mono hle)
      replace hK := Aside.mk (hK.out.mono hle)
      replace hL := Aside.mk (hL.out.mono hle)
      replace hN := Aside.mk (hN.out.mono hle)
      replace Bd := Aside.mk (Bd.out.mono hle)
      replace Bt := Aside.mk (Bt.out.mono hle)
      replace Bx := Aside.mk (Bx.out.mono hle)
      replace hx := Aside.mk hx2
      replace By := Aside.mk By
      clear hle hold hx2 ky ny
      have lqd : w.heap.size < W8.heap.size := hx.out.sat.lt (Bd.out 0 _ rfl)
      have cd0 : W8.cell? ⟨w.heap.size, 0, none⟩ = some (.int .i64 st) := hx.out.sat _ _ _ (Bd.out 0 _ rfl)
      have cd1 : W8.cell? ⟨w.heap.size, 1, none⟩ = some (.slice A1 al c1) := hx.out.sat _ _ _ (Bd.out 1 _ rfl)
      have cd2 : W8.cell? ⟨w.heap.size, 2, none⟩ = some (.slice A2 nl c2) := hx.out.sat _ _ _ (Bd.out 2 _ rfl)
      have lqt : w2.heap.size < W8.heap.size := hx.out.sat.lt (Bt.out 0 _ rfl)
      have ct0 : W8.cell? ⟨w2.heap.size, 0, none⟩ = some (.int .i64 T.st) := hx.out.sat _ _ _ (Bt.out 0 _ rfl)
      have ct1 : W8.cell? ⟨w2.heap.size, 1, none⟩ = some (.int .i64 T.cols) := hx.out.sat _ _ _ (Bt.out 1 _ rfl)
      have ct2 : W8.cell? ⟨w2.heap.size, 2, none⟩ = some (.slice K1 T.acc.length k1) := hx.out.sat _ _ _ (Bt.out 2 _ rfl)
      have ct3 : W8.cell? ⟨w2.heap.size, 3, none⟩ = some (.slice K2 T.base.length k2) := hx.out.sat _ _ _ (Bt.out 3 _ rfl)
      have ct4 : W8.cell? ⟨w2.heap.size, 4, none⟩ = some (.slice K3 T.own.length k3) := hx.out.sat _ _ _ (Bt.out 4 _ rfl)
      have ct5 : W8.cell? ⟨w2.heap.size, 5, none⟩ = some (.slice K4 T.nxt.length k4) := hx.out.sat _ _ _ (Bt.out 5 _ rfl)
      have lqx : w5.heap.size < W8.heap.size := hx.out.sat.lt (Bx.out 0 _ rfl)
      have cx0 : W8.cell? ⟨w5.heap.size, 0, none⟩ = some (.int .i64 st) := hx.out.sat _ _ _ (Bx.out 0 _ rfl)
      have cx1 : W8.cell? ⟨w5.heap.size, 1, none⟩ = some (.slice L1 al l1) := hx.out.sat _ _ _ (Bx.out 1 _ rfl)
      have cx2 : W8.cell? ⟨w5.heap.size, 2, none⟩ = some (.slice L2 nl l2) := hx.out.sat _ _ _ (Bx.out 2 _ rfl)
      have lqy : w8.heap.size < W8.heap.size := hx.out.sat.lt (By.out 0 _ rfl)
      have cy0 : W8.cell? ⟨w8.heap.size, 0, none⟩ = some (.int .i64 st) := hx.out.sat _ _ _ (By.out 0 _ rfl)
      have cy1 : W8.cell? ⟨w8.heap.size, 1, none⟩ = some (.slice N1 al n1) := hx.out.sat _ _ _ (By.out 1 _ rfl)
      have cy2 : W8.cell? ⟨w8.heap.size, 2, none⟩ = some (.slice N2 nl n2) := hx.out.sat _ _ _ (By.out 2 _ rfl)
      go_wp2_with fail
      clear lqd cd0 cd1 cd2 lqt ct0 ct1 ct2 ct3 ct4 ct5 lqx cx0 cx1 cx2 lqy cy0 cy1 cy2
      have hKe := Aside.mk (checkT2_any hK.out hx.out.sat)
      rw [hK0.out] at hKe
      refine hKe.out.mono ?_
      rintro e w9 ⟨rfl, hb9⟩
      clear hKe
      replace hx := Aside.mk (hx.out.then_below hb9)
      clear hb9
      have lqd : w.heap.size < w9.heap.size := hx.out.sat.lt (Bd.out 0 _ rfl)
      have cd0 : w9.cell? ⟨w.heap.size, 0, none⟩ = some (.int .i64 st) := hx.out.sat _ _ _ (Bd.out 0 _ rfl)
      have cd1 : w9.cell? ⟨w.heap.size, 1, none⟩ = some (.slice A1 al c1) := hx.out.sat _ _ _ (Bd.out 1 _ rfl)
      have cd2 : w9.cell? ⟨w.heap.size, 2, none⟩ = some (.slice A2 nl c2) := hx.out.sat _ _ _ (Bd.out 2 _ rfl)
      have lqt : w2.heap.size < w9.heap.size := hx.out.sat.lt (Bt.out 0 _ rfl)
      have ct0 : w9.cell? ⟨w2.heap.size, 0, none⟩ = some (.int .i64 T.st) := hx.out.sat _ _ _ (Bt.out 0 _ rfl)
      have ct1 : w9.cell? ⟨w2.heap.size, 1, none⟩ = some (.int .i64 T.cols) := hx.out.sat _ _ _ (Bt.out 1 _ rfl)
      have ct2 : w9.cell? ⟨w2.heap.size, 2, none⟩ = some (.slice K1 T.acc.length k1) := hx.out.sat _ _ _ (Bt.out 2 _ rfl)
      have ct3 : w9.cell? ⟨w2.heap.size, 3, none⟩ = some (.slice K2 T.base.length k2) := hx.out.sat _ _ _ (Bt.out 3 _ rfl)
      have ct4 : w9.cell? ⟨w2.heap.size, 4, none⟩ = some (.slice K3 T.own.length k3) := hx.out.sat _ _ _ (Bt.out 4 _ rfl)
      have ct5 : w9.cell? ⟨w2.heap.size, 5, none⟩ = some (.slice K4 T.nxt.length k4) := hx.out.sat _ _ _ (Bt.out 5 _ rfl)
      have lqx : w5.heap.size < w9.heap.size := hx.out.sat.lt (Bx.out 0 _ rfl)
      have cx0 : w9.cell? ⟨w5.heap.size, 0, none⟩ = some (.int .i64 st) := hx.out.sat _ _ _ (Bx.out 0 _ rfl)
      have cx1 : w9.cell? ⟨w5.heap.size, 1, none⟩ = some (.slice L1 al l1) := hx.out.sat _ _ _ (Bx.out 1 _ rfl)
      have cx2 : w9.cell? ⟨w5.heap.size, 2, none⟩ = some (.slice L2 nl l2) := hx.out.sat _ _ _ (Bx.out 2 _ rfl)
      have lqy : w8.heap.size < w9.heap.size := hx.out.sat.lt (By.out 0 _ rfl)
      have cy0 : w9.cell? ⟨w8.heap.size, 0, none⟩ = some (.int .i64 st) := hx.out.sat _ _ _ (By.out 0 _ rfl)
      have cy1 : w9.cell? ⟨w8.heap.size, 1, none⟩ = some (.slice N1 al n1) := hx.out.sat _ _ _ (By.out 1 _ rfl)
      have cy2 : w9.cell? ⟨w8.heap.size, 2, none⟩ = some (.slice N2 nl n2) := hx.out.sat _ _ _ (By.out 2 _ rfl)
      go_wp2_with fail
      clear lqd cd0 cd1 cd2 lqt ct0 ct1 ct2 ct3 ct4 ct5 lqx cx0 cx1 cx2 lqy cy0 cy1 cy2
      obtain ⟨H9, hx9, hle9, hg4⟩ := lit_extq (k := kI .i64) (e := 28) (xs := [0, 0, 0, 0]) (Ext.refl hx.out.sat) #[.int .i64 0, .int .i64 0, .int .i64 0, .int .i64 0] ⟨[_], _, rfl, rfl, ⟨[_], _, rfl, rfl, ⟨[_], _, rfl, rfl, ⟨[_], _, rfl, rfl, rfl⟩⟩⟩⟩ (by simp)
      clear hle9
      have hle := hx9.le
      replace hD := Aside.mk (hD.out.mono hle)
      replace hK := Aside.mk (hK.out.mono hle)
      replace hL := Aside.mk (hL.out.mono hle)
      replace hN := Aside.mk (hN.out.mono hle)
      replace Bd := Aside.mk (Bd.out.mono hle)
      replace Bt := Aside.mk (Bt.out.mono hle)
      replace Bx := Aside.mk (Bx.out.mono hle)
      replace By := Aside.mk (By.out.mono hle)
      replace hx := Aside.mk (hx.out.trans hx9)
      clear hle hx9
      refine (good_any _ [0, 0, 0, 0] _ _ _ _ hg4 hx.out.sat (by simp)).mono ?_
      rintro e w10 ⟨rfl, hw10⟩
      clear hg4
      generalize (w9.alloc (.cells #[.int .i64 0, .int .i64 0, .int .i64 0, .int .i64 0] 28)) = W10 at *
      subst hw10
      have lqd : w.heap.size < W10.heap.size := hx.out.sat.lt (Bd.out 0 _ rfl)
      have cd0 : W10.cell? ⟨w.heap.size, 0, none⟩ = some (.int .i64 st) := hx.out.sat _ _ _ (Bd.out 0 _ rfl)
      have cd1 : W10.cell? ⟨w.heap.size, 1, none⟩ = some (.slice A1 al c1) := hx.out.sat _ _ _ (Bd.out 1 _ rfl)
      have cd2 : W10.cell? ⟨w.heap.size, 2, none⟩ = some (.slice A2 nl c2) := hx.out.sat _ _ _ (Bd.out 2 _ rfl)
      have lqt : w2.heap.size < W10.heap.size := hx.out.sat.lt (Bt.out 0 _ rfl)
      have ct0 : W10.cell? ⟨w2.heap.size, 0, none⟩ = some (.int .i64 T.st) := hx.out.sat _ _ _ (Bt.out 0 _ rfl)
      have ct1 : W10.cell? ⟨w2.heap.size, 1, none⟩ = some (.int .i64 T.cols) := hx.out.sat _ _ _ (Bt.out 1 _ rfl)
      have ct2 : W10.cell? ⟨w2.heap.size, 2, none⟩ = some (.slice K1 T.acc.length k1) := hx.out.sat _ _ _ (Bt.out 2 _ rfl)
      have ct3 : W10.cell? ⟨w2.heap.size, 3, none⟩ = some (.slice K2 T.base.length k2) := hx.out.sat _ _ _ (Bt.out 3 _ rfl)
      have ct4 : W10.cell? ⟨w2.heap.size, 4, none⟩ = some (.slice K3 T.own.length k3) := hx.out.sat _ _ _ (Bt.out 4 _ rfl)
      have ct5 : W10.cell? ⟨w2.heap.size, 5, none⟩ = some (.slice K4 T.nxt.length k4) := hx.out.sat _ _ _ (Bt.out 5 _ rfl)
      have lqx : w5.heap.size < W10.heap.size := hx.out.sat.lt (Bx.out 0 _ rfl)
      have cx0 : W10.cell? ⟨w5.heap.size, 0, none⟩ = some (.int .i64 st) := hx.out.sat _ _ _ (Bx.out 0 _ rfl)
      have cx1 : W10.cell? ⟨w5.heap.size, 1, none⟩ = some (.slice L1 al l1) := hx.out.sat _ _ _ (Bx.out 1 _ rfl)
      have cx2 : W10.cell? ⟨w5.heap.size, 2, none⟩ = some (.slice L2 nl l2) := hx.out.sat _ _ _ (Bx.out 2 _ rfl)
      have lqy : w8.heap.size < W10.heap.size := hx.out.sat.lt (By.out 0 _ rfl)
      have cy0 : W10.cell? ⟨w8.heap.size, 0, none⟩ = some (.int .i64 st) := hx.out.sat _ _ _ (By.out 0 _ rfl)
      have cy1 : W10.cell? ⟨w8.heap.size, 1, none⟩ = some (.slice N1 al n1) := hx.out.sat _ _ _ (By.out 1 _ rfl)
      have cy2 : W10.cell? ⟨w8.heap.size, 2, none⟩ = some (.slice N2 nl n2) := hx.out.sat _ _ _ (By.out 2 _ rfl)
      go_wp2_with fail
      clear lqd cd0 cd1 cd2 lqt ct0 ct1 ct2 ct3 ct4 ct5 lqx cx0 cx1 cx2 lqy cy0 cy1 cy2
      refine (kEqual_yes hL.out hD.out hx.out.sat).mono ?_
      rintro e w11 ⟨rfl, hb9⟩
      replace hx := Aside.mk (hx.out.then_below hb9)
      clear hb9
      have lqd : w.heap.size < w11.heap.size := hx.out.sat.lt (Bd.out 0 _ rfl)
      have cd0 : w11.cell? ⟨w.heap.size, 0, none⟩ = some (.int .i64 st) := hx.out.sat _ _ _ (Bd.out 0 _ rfl)
      have cd1 : w11.cell? ⟨w.heap.size, 1, none⟩ = some (.slice A1 al c1) := hx.out.sat _ _ _ (Bd.out 1 _ rfl)
      have cd2 : w11.cell? ⟨w.heap.size, 2, none⟩ = some (.slice A2 nl c2) := hx.out.sat _ _ _ (Bd.out 2 _ rfl)
      have lqt : w2.heap.size < w11.heap.size := hx.out.sat.lt (Bt.out 0 _ rfl)
      have ct0 : w11.cell? ⟨w2.heap.size, 0, none⟩ = some (.int .i64 T.st) := hx.out.sat _ _ _ (Bt.out 0 _ rfl)
      have ct1 : w11.cell? ⟨w2.heap.size, 1, none⟩ = some (.int .i64 T.cols) := hx.out.sat _ _ _ (Bt.out 1 _ rfl)
      have ct2 : w11.cell? ⟨w2.heap.size, 2, none⟩ = some (.slice K1 T.acc.length k1) := hx.out.sat _ _ _ (Bt.out 2 _ rfl)
      have ct3 : w11.cell? ⟨w2.heap.size, 3, none⟩ = some (.slice K2 T.base.length k2) := hx.out.sat _ _ _ (Bt.out 3 _ rfl)
      have ct4 : w11.cell? ⟨w2.heap.size, 4, none⟩ = some (.slice K3 T.own.length k3) := hx.out.sat _ _ _ (Bt.out 4 _ rfl)
      have ct5 : w11.cell? ⟨w2.heap.size, 5, none⟩ = some (.slice K4 T.nxt.length k4) := hx.out.sat _ _ _ (Bt.out 5 _ rfl)
      have lqx : w5.heap.size < w11.heap.size := hx.out.sat.lt (Bx.out 0 _ rfl)
      have cx0 : w11.cell? ⟨w5.heap.size, 0, none⟩ = some (.int .i64 st) := hx.out.sat _ _ _ (Bx.out 0 _ rfl)
      have cx1 : w11.cell? ⟨w5.heap.size, 1, none⟩ = some (.slice L1 al l1) := hx.out.sat _ _ _ (Bx.out 1 _ rfl)
      have cx2 : w11.cell? ⟨w5.heap.size, 2, none⟩ = some (.slice L2 nl l2) := hx.out.sat _ _ _ (Bx.out 2 _ rfl)
      have lqy : w8.heap.size < w11.heap.size := hx.out.sat.lt (By.out 0 _ rfl)
      have cy0 : w11.cell? ⟨w8.heap.size, 0, none⟩ = some (.int .i64 st) := hx.out.sat _ _ _ (By.out 0 _ rfl)
      have cy1 : w11.cell? ⟨w8.heap.size, 1, none⟩ = some (.slice N1 al n1) := hx.out.sat _ _ _ (By.out 1 _ rfl)
      have cy2 : w11.cell? ⟨w8.heap.size, 2, none⟩ = some (.slice N2 nl n2) := hx.out.sat _ _ _ (By.out 2 _ rfl)
      go_wp2_with fail
      clear lqd cd0 cd1 cd2 lqt ct0 ct1 ct2 ct3 ct4 ct5 lqx cx0 cx1 cx2 lqy cy0 cy1 cy2
      refine (kEqual_yes hN.out hD.out hx.out.sat).mono ?_
      rintro e w12 ⟨rfl, hb9⟩
      replace hx := Aside.mk (hx.out.then_below hb9)
      clear hb9
      have lqd : w.heap.size < w12.heap.size := hx.out.sat.lt (Bd.out 0 _ rfl)
      have cd0 : w12.cell? ⟨w.heap.size, 0, none⟩ = some (.int .i64 st) := hx.out.sat _ _ _ (Bd.out 0 _ rfl)
      have cd1 : w12.cell? ⟨w.heap.size, 1, none⟩ = some (.slice A1 al c1) := hx.out.sat _ _ _ (Bd.out 1 _ rfl)
      have cd2 : w12.cell? ⟨w.heap.size, 2, none⟩ = some (.slice A2 nl c2) := hx.out.sat _ _ _ (Bd.out 2 _ rfl)
      have lqt : w2.heap.size < w12.heap.size := hx.out.sat.lt (Bt.out 0 _ rfl)
      have ct0 : w12.cell? ⟨w2.heap.size, 0, none⟩ = some (.int .i64 T.st) := hx.out.sat _ _ _ (Bt.out 0 _ rfl)
      have ct1 : w12.cell? ⟨w2.heap.size, 1, none⟩ = some (.int .i64 T.cols) := hx.out.sat _ _ _ (Bt.out 1 _ rfl)
      have ct2 : w12.cell? ⟨w2.heap.size, 2, none⟩ = some (.slice K1 T.acc.length k1) := hx.out.sat _ _ _ (Bt.out 2 _ rfl)
      have ct3 : w12.cell? ⟨w2.heap.size, 3, none⟩ = some (.slice K2 T.base.length k2) := hx.out.sat _ _ _ (Bt.out 3 _ rfl)
      have ct4 : w12.cell? ⟨w2.heap.size, 4, none⟩ = some (.slice K3 T.own.length k3) := hx.out.sat _ _ _ (Bt.out 4 _ rfl)
      have ct5 : w12.cell? ⟨w2.heap.size, 5, none⟩ = some (.slice K4 T.nxt.length k4) := hx.out.sat _ _ _ (Bt.out 5 _ rfl)
      have lqx : w5.heap.size < w12.heap.size := hx.out.sat.lt (Bx.out 0 _ rfl)
      have cx0 : w12.cell? ⟨w5.heap.size, 0, none⟩ = some (.int .i64 st) := hx.out.sat _ _ _ (Bx.out 0 _ rfl)
      have cx1 : w12.cell? ⟨w5.heap.size, 1, none⟩ = some (.slice L1 al l1) := hx.out.sat _ _ _ (Bx.out 1 _ rfl)
      have cx2 : w12.cell? ⟨w5.heap.size, 2, none⟩ = some (.slice L2 nl l2) := hx.out.sat _ _ _ (Bx.out 2 _ rfl)
      have lqy : w8.heap.size < w12.heap.size := hx.out.sat.lt (By.out 0 _ rfl)
      have cy0 : w12.cell? ⟨w8.heap.size, 0, none⟩ = some (.int .i64 st) := hx.out.sat _ _ _ (By.out 0 _ rfl)
      have cy1 : w12.cell? ⟨w8.heap.size, 1, none⟩ = some (.slice N1 al n1) := hx.out.sat _ _ _ (By.out 1 _ rfl)
      have cy2 : w12.cell? ⟨w8.heap.size, 2, none⟩ = some (.slice N2 nl n2) := hx.out.sat _ _ _ (By.out 2 _ rfl)
      go_wp2_with fail
      clear lqd cd0 cd1 cd2 lqt ct0 ct1 ct2 ct3 ct4 ct5 lqx cx0 cx1 cx2 lqy cy0 cy1 cy2
      go_ret
      exact ⟨rfl, hx.out.below⟩
end Go.Proofs.Ytbnahmeaeakhhaa.B
