/- Contract: rowpack.Dfa. -/
import Derived.Test.YtbnahmeaeakhhaaQ11
import Derived.Test.YtbnahmeaeakhhaaCn
import Derived.Test.YtbnahmeaeakhhaaT2
import Derived.Test.YtbnahmeaeakhhaaV6
import Derived.Deep.RegionHeld3
namespace Go.Proofs.Ytbnahmeaeakhhaa.B
set_option linter.unusedVariables false
set_option linter.unusedSimpArgs false
open Go Go.RowKit Go.Proofs.Ytbnahmeaeakhhaa.Q Go.Proofs.Ytbnahmeaeakhhaa.S Classical

theorem PH.le.mono {H H' H'' : PH} (h : H.le H') (k : H'.le H'') : H.le H'' := PH.le_trans h k
theorem Own.apart_at {α : Type} {k : Kd α} {e : TypeId} {w : World} {base : Nat} {H : PH} {v : Value} {xs : List α} (h : Own k e w base H v xs) {b n c : Nat} (hb : w.heap.size ≤ b) : Apart v (.slice (some ⟨b, 0, none⟩) n c) := by
  cases hv : v.ownBlock with
  | none => exact Or.inl hv
  | some a => exact Or.inr (fun e => by have := (h.blk hv).2.1; rw [hv] at e; simp [Value.ownBlock] at e; omega)
theorem kb3 {w : World} {b : Nat} {v0 v1 v2 : Value} {T : TypeId} (h : w.heap[b]? = some (.cells #[v0, v1, v2] T)) :
    (w.cell? ⟨b, 0, none⟩ = some v0 ∧ w.cell? ⟨b, 1, none⟩ = some v1 ∧ w.cell? ⟨b, 2, none⟩ = some v2) ∧ w.frozen? ⟨b, 0, none⟩ = false ∧ w.frozen? ⟨b, 1, none⟩ = false ∧ w.frozen? ⟨b, 2, none⟩ = false :=
  ⟨⟨(boxC h 0).1, (boxC h 1).1, (boxC h 2).1⟩, (boxC h 0).2, (boxC h 1).2, (boxC h 2).2⟩
/-- an automaton, as it reads -/
structure Aut where
  st : Int
  acc : List Int
  next : List (List Int)
def zeroAut : Aut := ⟨0, [], []⟩
def RdAut (H : PH) (d : Aut) (cs : List Value) : Prop := ∃ A1 c1 A2 c2, cs = [.int .i64 d.st, .slice A1 d.acc.length c1, .slice A2 d.next.length c2] ∧ SlR (kI .i64) H A1 d.acc.length c1 d.acc ∧ SlR (kS (kI .i64)) H A2 d.next.length c2 d.next
/-- the row of a state, as a table has it -/
noncomputable def rowT (T : Tab) (s : Nat) : List Int := (List.range T.cols.toNat).map fun (c : Nat) => entF T.base T.own T.nxt s c
noncomputable def autT (T : Tab) : Aut := ⟨T.st, T.acc, (List.range T.base.length).map (rowT T)⟩
noncomputable def errT (T : Tab) : Int := tabErr T.st T.cols T.acc T.base T.own T.nxt
def DfaPost (H : PH) (w : World) (T : Tab) (e : Ending) (w' : World) : Prop := ∃ H' cs D, e = .returned (.tuple #[.agg cs.toArray, .int .i64 (errT T)]) ∧ RdAut H' D cs ∧ ((errT T = 0 ∧ D = autT T) ∨ (errT T ≠ 0 ∧ D = zeroAut)) ∧ Ext H H' w w'
theorem infoS : (Try.prog.info? 26).map (fun i => (i.zero, i.size, i.bytes)) = some (some (.slice none 0 0), 1, 24) := by kernel_rfl
theorem at_any (H : PH) (st cols : Int) (acc base own nxt : List Int) (A1 A2 A3 A4 : Option Addr) (c1 c2 c3 c4 : Nat) (s c : Nat) (w : World) (h1 : SlR (kI .i64) H A1 acc.length c1 acc) (h2 : SlR (kI .i64) H A2 base.length c2 base) (h3 : SlR (kI .i64) H A3 own.length c3 own) (h4 : SlR (kI .i64) H A4 nxt.length c4 nxt) (hs : Sat w H)
    (he : tabErr st cols acc base own nxt = 0) (hs1 : s < base.length) (hc1 : (c : Int) < cols) :
    Calls Try.prog 117 #[.agg #[.int .i64 st, .int .i64 cols, .slice A1 acc.length c1, .slice A2 base.length c2, .slice A3 own.length c3, .slice A4 nxt.length c4], .int .i64 s, .int .i64 c] w fun e w' => e = .returned (.int .i64 (entF base own nxt s c)) ∧ Below w.heap.size w w' := by
  have ok := tabErr_ok he
  exact at_hand H st cols acc base own nxt A1 A2 A3 A4 c1 c2 c3 c4 (s : Int) (c : Int) w h1 h2 h3 h4 hs ok.2.2.2.2.2.2.2.2.2.1 ok.2.2.2.2.2.2.1 ok.2.2.2.2.1 (by omega) (by omega) (by omega) (by omega)
theorem row_step {R : List Int} {C j : Nat} {E : Int} (hR : R.length = C) (hj : j < C) (hE : R.getD j 0 = E) : (R.take j ++ List.replicate (C - j) 0).set j E = R.take (j + 1) ++ List.replicate (C - (j + 1)) 0 := by
  have h1 : (R.take j).length = j := by simp; omega
  have h2 : R.take (j + 1) = R.take j ++ [E] := by
    rw [List.take_succ_eq_append_getElem (by omega), ← hE, List.getD_eq_getElem?_getD, List.getElem?_eq_getElem (by omega)]; rfl
  rw [h2, List.set_append_right _ _ (by omega), h1, Nat.sub_self, show C - j = (C - (j + 1)) + 1 by omega, List.replicate_succ, List.set_cons_zero, List.append_assoc, List.singleton_append]

set_option maxRecDepth 100000 in
set_option maxHeartbeats 16000000 in
theorem tabDfa_any (H : PH) (st cols : Int) (acc base own nxt : List Int) (A1 A2 A3 A4 : Option Addr) (c1 c2 c3 c4 : Nat) (w : World) (h1 : SlR (kI .i64) H A1 acc.length c1 acc) (h2 : SlR (kI .i64) H A2 base.length c2 base) (h3 : SlR (kI .i64) H A3 own.length c3 own) (h4 : SlR (kI .i64) H A4 nxt.length c4 nxt) (hs : Sat w H) :
    Calls Try.prog 61 #[.agg #[.int .i64 st, .int .i64 cols, .slice A1 acc.length c1, .slice A2 base.length c2, .slice A3 own.length c3, .slice A4 nxt.length c4]] w (DfaPost H w ⟨st, cols, acc, base, own, nxt⟩) := by
  have hx := Aside.mk (Ext.refl hs)
  replace h1 := Aside.mk h1
  replace h2 := Aside.mk h2
  replace h3 := Aside.mk h3
  replace h4 := Aside.mk h4
  go_enter Try.func61, Try.ntmps61
  go_wp2_with fail
  have hszw := hx.out.size
  have kt_ : ((w.alloc (.cells #[.int .i64 st, .int .i64 cols, .slice A1 acc.length c1, .slice A2 base.length c2, .slice A3 own.length c3, .slice A4 nxt.length c4] 85)).alloc (.cells #[.int .i64 0, .slice none 0 0, .slice none 0 0] 58)).heap[w.heap.size]? = some (.cells #[.int .i64 st, .int .i64 cols, .slice A1 acc.length c1, .slice A2 base.length c2, .slice A3 own.length c3, .slice A4 nxt.length c4] 85) := (boxA (heap_alloc_new _ _) (.cells #[.int .i64 0, .slice none 0 0, .slice none 0 0] 58))
  have kz_ : ((w.alloc (.cells #[.int .i64 st, .int .i64 cols, .slice A1 acc.length c1, .slice A2 base.length c2, .slice A3 own.length c3, .slice A4 nxt.length c4] 85)).alloc (.cells #[.int .i64 0, .slice none 0 0, .slice none 0 0] 58)).heap[w.heap.size + 1]? = some (.cells #[.int .i64 0, .slice none 0 0, .slice none 0 0] 58) := (by rw [show w.heap.size + 1 = ((w.alloc (.cells #[.int .i64 st, .int .i64 cols, .slice A1 acc.length c1, .slice A2 base.length c2, .slice A3 own.length c3, .slice A4 nxt.length c4] 85))).heap.size by simp]; exact heap_alloc_new _ _)
  have nt := Aside.mk (fun o => hx.out.sat.new (b := w.heap.size) (show w.heap.size ≤ _ by omega) o)
  have nz := Aside.mk (fun o => hx.out.sat.new (b := w.heap.size + 1) (show w.heap.size ≤ _ by omega) o)
  replace hx := Aside.mk (((hx.out.alloc (.cells #[.int .i64 st, .int .i64 cols, .slice A1 acc.length c1, .slice A2 base.length c2, .slice A3 own.length c3, .slice A4 nxt.length c4] 85)).alloc (.cells #[.int .i64 0, .slice none 0 0, .slice none 0 0] 58)))
  generalize ((w.alloc (.cells #[.int .i64 st, .int .i64 cols, .slice A1 acc.length c1, .slice A2 base.length c2, .slice A3 own.length c3, .slice A4 nxt.length c4] 85)).alloc (.cells #[.int .i64 0, .slice none 0 0, .slice none 0 0] 58)) = W1 at *
  have kt := Aside.mk kt_
  clear kt_
  have kz := Aside.mk kz_
  clear kz_
  obtain ⟨H1, hx2, hle, Bt, hold⟩ := box_freeze hx.out (by omega) kt.out nt.out
  replace h1 := Aside.mk (h1.out.mono hle)
  replace h2 := Aside.mk (h2.out.mono hle)
  replace h3 := Aside.mk (h3.out.mono hle)
  replace h4 := Aside.mk (h4.out.mono hle)
  replace nz := Aside.mk (fun o => (hold _ o (by omega)).trans (nz.out o))
  replace hx := Aside.mk hx2
  replace Bt := Aside.mk Bt
  clear hle hold hx2 kt nt
  have lqz : w.heap.size + 1 < W1.heap.size := boxL kz.out
  have cz0 : W1.cell? ⟨w.heap.size + 1, 0, none⟩ = some (.int .i64 0) := (boxC kz.out 0).1
  have fz0 : W1.frozen? ⟨w.heap.size + 1, 0, none⟩ = false := (boxC kz.out 0).2
  have cz1 : W1.cell? ⟨w.heap.size + 1, 1, none⟩ = some (.slice none 0 0) := (boxC kz.out 1).1
  have fz1 : W1.frozen? ⟨w.heap.size + 1, 1, none⟩ = false := (boxC kz.out 1).2
  have cz2 : W1.cell? ⟨w.heap.size + 1, 2, none⟩ = some (.slice none 0 0) := (boxC kz.out 2).1
  have fz2 : W1.frozen? ⟨w.heap.size + 1, 2, none⟩ = false := (boxC kz.out 2).2
  have lqt : w.heap.size < W1.heap.size := hx.out.sat.lt (Bt.out 0 _ rfl)
  obtain ⟨ct0, ct1, ct2, ct3, ct4, ct5⟩ := hb6 hx.out.sat Bt.out
  go_wp2_with fail
  clear lqz cz0 fz0 cz1 fz1 cz2 fz2 lqt ct0 ct1 ct2 ct3 ct4 ct5
  have hadrz := boxL kz.out
  have hsz := hx.out.size
  refine (check_any _ st cols acc base own nxt _ _ _ _ _ _ _ _ _ h1.out h2.out h3.out h4.out hx.out.sat).mono ?_
  rintro e w2 ⟨rfl, hb9⟩
  replace kz := Aside.mk (box_below kz.out hb9)
  replace hx := Aside.mk (hx.out.then_below hb9)
  clear hb9
  clear hsz hadrz
  generalize hte : tabErr st cols acc base own nxt = te
  replace hte := Aside.mk hte
  by_cases h6 : te = 0
  case neg =>
    have lqz : w.heap.size + 1 < w2.heap.size := boxL kz.out
    have cz0 : w2.cell? ⟨w.heap.size + 1, 0, none⟩ = some (.int .i64 0) := (boxC kz.out 0).1
    have fz0 : w2.frozen? ⟨w.heap.size + 1, 0, none⟩ = false := (boxC kz.out 0).2
    have cz1 : w2.cell? ⟨w.heap.size + 1, 1, none⟩ = some (.slice none 0 0) := (boxC kz.out 1).1
    have fz1 : w2.frozen? ⟨w.heap.size + 1, 1, none⟩ = false := (boxC kz.out 1).2
    have cz2 : w2.cell? ⟨w.heap.size + 1, 2, none⟩ = some (.slice none 0 0) := (boxC kz.out 2).1
    have fz2 : w2.frozen? ⟨w.heap.size + 1, 2, none⟩ = false := (boxC kz.out 2).2
    have lqt : w.heap.size < w2.heap.size := hx.out.sat.lt (Bt.out 0 _ rfl)
    obtain ⟨ct0, ct1, ct2, ct3, ct4, ct5⟩ := hb6 hx.out.sat Bt.out
    go_wp2_with fail
    clear lqz cz0 fz0 cz1 fz1 cz2 fz2 lqt ct0 ct1 ct2 ct3 ct4 ct5
    have kz_ : (((w2.setCell ⟨w.heap.size + 1, 0, none⟩ (.int .i64 0)).setCell ⟨w.heap.size + 1, 1, none⟩ (.slice none 0 0)).setCell ⟨w.heap.size + 1, 2, none⟩ (.slice none 0 0)).heap[w.heap.size + 1]? = some (.cells #[.int .i64 0, .slice none 0 0, .slice none 0 0] 58) := (boxS (boxS (boxS kz.out 0 (.int .i64 0)) 1 (.slice none 0 0)) 2 (.slice none 0 0))
    replace hx := Aside.mk ((((hx.out.setCell (b := w.heap.size + 1) (o := 0) (by first | omega | (simp; omega)) nz.out (.int .i64 0)).setCell (b := w.heap.size + 1) (o := 1) (by first | omega | (simp; omega)) nz.out (.slice none 0 0)).setCell (b := w.heap.size + 1) (o := 2) (by first | omega | (simp; omega)) nz.out (.slice none 0 0)))
    generalize (((w2.setCell ⟨w.heap.size + 1, 0, none⟩ (.int .i64 0)).setCell ⟨w.heap.size + 1, 1, none⟩ (.slice none 0 0)).setCell ⟨w.heap.size + 1, 2, none⟩ (.slice none 0 0)) = W3 at *
    replace kz := Aside.mk kz_
    clear kz_
    refine bodyPost_ret (resC2 rfl _ _ _ rfl (run_loadVar_row _ _ _ _ _ (0, 0) _ kz.out Try.underlying58 rfl (by kernel_rfl))) rfl ?_
    have he9 : te = errT ⟨st, cols, acc, base, own, nxt⟩ := hte.out.symm
    rw [he9] at h6 ⊢
    exact ⟨_, _, zeroAut, rfl, ⟨none, 0, none, 0, rfl, SlR.nil _ _, SlR.nil _ _⟩, Or.inr ⟨h6, rfl⟩, hx.out⟩
  case pos =>
    subst h6
    have OK := Aside.mk (tabErr_ok hte.out)
    have hcb : 1 ≤ cols ∧ cols ≤ 16 := ⟨OK.out.2.2.1, OK.out.2.2.2.1⟩
    have hbl : base.length ≤ 200 := OK.out.1
    have hal : acc.length ≤ 1048576 := by have := OK.out; omega
    have hob : own.length ≤ 3200 := OK.out.2.2.2.2.1
    have lqz : w.heap.size + 1 < w2.heap.size := boxL kz.out
    have cz0 : w2.cell? ⟨w.heap.size + 1, 0, none⟩ = some (.int .i64 0) := (boxC kz.out 0).1
    have fz0 : w2.frozen? ⟨w.heap.size + 1, 0, none⟩ = false := (boxC kz.out 0).2
    have cz1 : w2.cell? ⟨w.heap.size + 1, 1, none⟩ = some (.slice none 0 0) := (boxC kz.out 1).1
    have fz1 : w2.frozen? ⟨w.heap.size + 1, 1, none⟩ = false := (boxC kz.out 1).2
    have cz2 : w2.cell? ⟨w.heap.size + 1, 2, none⟩ = some (.slice none 0 0) := (boxC kz.out 2).1
    have fz2 : w2.frozen? ⟨w.heap.size + 1, 2, none⟩ = false := (boxC kz.out 2).2
    have lqt : w.heap.size < w2.heap.size := hx.out.sat.lt (Bt.out 0 _ rfl)
    obtain ⟨ct0, ct1, ct2, ct3, ct4, ct5⟩ := hb6 hx.out.sat Bt.out
    go_wp2_with fail
    have HS2 := Aside.mk (fun (w' : World) (hb : Sat w' H1) => show w'.cell? ⟨w.heap.size, 0, none⟩ = some (.int .i64 st) ∧ w'.cell? ⟨w.heap.size, 2, none⟩ = some (.slice A1 acc.length c1) from ⟨hb _ _ _ (Bt.out 0 _ rfl), hb _ _ _ (Bt.out 2 _ rfl)⟩)
    clear lqz cz0 fz0 cz1 fz1 cz2 fz2 lqt ct0 ct1 ct2 ct3 ct4 ct5
    have hbd := fun (w : World) (A : Option Addr) (n c : Nat) => run_build (P := Try.prog) w 58 #[(0, .int .i64 st), (1, .slice A n c)] #[.int .i64 st, .slice A n c, .slice none 0 0] (by kernel_rfl)
    go_cut [5] (fun s5 wc => ∃ (g : Nat) (A : Option Addr) (c : Nat) (Hn : PH), s5 = .pointer (some ⟨g, 0, none⟩) ∧ w.heap.size + 1 < g ∧ w.heap.size ≤ g ∧ Aside (Ext H Hn w wc) ∧ Aside (H1.le Hn) ∧ Aside (SlR (kI .i64) Hn A acc.length c acc) ∧ Aside (wc.heap[g]? = some (.cells #[.int .i64 st, .slice A acc.length c, .slice none 0 0] 58)) ∧ Aside (∀ o, Hn g o = none) ∧ Aside (wc.heap[w.heap.size + 1]? = some (.cells #[.int .i64 0, .slice none 0 0, .slice none 0 0] 58)) ∧ Aside (∀ o, Hn (w.heap.size + 1) o = none))
    case first =>
      have hsz := hx.out.size
      go_region_held3 (fun w' => w'.cell? ⟨w.heap.size, 0, none⟩ = some (.int .i64 st) ∧ w'.cell? ⟨w.heap.size, 2, none⟩ = some (.slice A1 acc.length c1))
        ((refine HS2.out _ ?_; (repeat (first | (with_reducible exact hs1) | (with_reducible exact hx.out.sat) | (with_reducible refine Sat.drew ?_) | (with_reducible refine Sat.alloc ?_ _) | (with_reducible refine Sat.setCell ?_ hn5 _ _)))))
        ((first
          | (go_at_call 69; with_reducible refine (cloneQ_any _ acc A1 _ c1 ((w2.alloc (.cells #[.int .i64 0, .slice none 0 0, .slice none 0 0] 58)).drew) h1.out (hx.out.sat.alloc _).drew hal).mono ?_; rintro e wk ⟨v, rfl, ho1, hb1⟩; have hs1 := Sat.below (hx.out.sat.alloc (.cells #[.int .i64 0, .slice none 0 0, .slice none 0 0] 58)).drew hb1; have hn5 := fun o => hx.out.sat.new (b := w2.heap.size) (Nat.le_refl _) o; have k5 := box_below (show ((w2.alloc (.cells #[.int .i64 0, .slice none 0 0, .slice none 0 0] 58)).drew).heap[w2.heap.size]? = some (.cells #[.int .i64 0, .slice none 0 0, .slice none 0 0] 58) from heap_alloc_new _ _) hb1; have l5 := boxL k5; have c50 := (boxC k5 0).1; have c51 := (boxC k5 1).1; have c52 := (boxC k5 2).1; have f50 := (boxC k5 0).2; have f51 := (boxC k5 1).2; have f52 := (boxC k5 2).2; obtain ⟨Av, cv, ev, -, -, -, -⟩ := ho1.form; subst ev)
          | (go_at_call 69; with_reducible refine (cloneQ_any _ acc A1 _ c1 w2.drew h1.out hx.out.sat.drew hal).mono ?_; rintro e wk ⟨v, rfl, ho1, hb1⟩; have hs1 := Sat.below hx.out.sat.drew hb1; obtain ⟨Av, cv, ev, -, -, -, -⟩ := ho1.form; subst ev)))
      · have hL := Aside.mk (PH.le_refl H1)
        replace hb1 : Below w2.heap.size w2 wk := (Below.refl _ _).drew.trans hb1
        replace ho1 : Own (kI .i64) 3 wk w2.heap.size H1 (.slice Av acc.length cv) acc := ho1
        have hz0 := boxL kz.out
        have hzk := hb1.size
        replace kz := Aside.mk (box_below kz.out hb1)
        replace hx := Aside.mk (hx.out.then_below hb1)
        clear hb1
        clear hs1
        replace ho1 := Aside.mk ho1
        have hszwk := hx.out.size
        have habzwk := boxL kz.out
        have nq_a_d := Aside.mk (fun bb (hb : (.slice Av acc.length cv : Value).ownBlock = some bb) => (show bb ≠ wk.heap.size from by have h1 := (ho1.out.blk hb).2.1; omega))
        have kz_ : (wk.alloc (.cells #[.int .i64 st, .slice Av acc.length cv, .slice none 0 0] 58)).heap[w.heap.size + 1]? = some (.cells #[.int .i64 0, .slice none 0 0, .slice none 0 0] 58) := (boxA kz.out (.cells #[.int .i64 st, .slice Av acc.length cv, .slice none 0 0] 58))
        have kd_ : (wk.alloc (.cells #[.int .i64 st, .slice Av acc.length cv, .slice none 0 0] 58)).heap[wk.heap.size]? = some (.cells #[.int .i64 st, .slice Av acc.length cv, .slice none 0 0] 58) := (heap_alloc_new _ _)
        have nd := Aside.mk (fun o => hx.out.sat.new (b := wk.heap.size) (show wk.heap.size ≤ _ by omega) o)
        replace ho1 := Aside.mk (ho1.out.alloc (hx.out).sat (.cells #[.int .i64 st, .slice Av acc.length cv, .slice none 0 0] 58))
        replace hx := Aside.mk ((hx.out.alloc (.cells #[.int .i64 st, .slice Av acc.length cv, .slice none 0 0] 58)))
        generalize (wk.alloc (.cells #[.int .i64 st, .slice Av acc.length cv, .slice none 0 0] 58)) = W4 at *
        replace kz := Aside.mk kz_
        clear kz_
        have kd := Aside.mk kd_
        clear kd_
        obtain ⟨H1, hx2, hle, ⟨A9, c9, e1, had⟩, hold⟩ := ho1.out.freezeE hx.out (by omega) (by have := OK.out; omega)
        cases e1
        replace h1 := Aside.mk (h1.out.mono hle)
        replace h2 := Aside.mk (h2.out.mono hle)
        replace h3 := Aside.mk (h3.out.mono hle)
        replace h4 := Aside.mk (h4.out.mono hle)
        replace hL := Aside.mk (hL.out.mono hle)
        replace Bt := Aside.mk (Bt.out.mono hle)
        replace nz := Aside.mk (fun o => (hold _ o (fun e => by have h1 := (ho1.out.blk e).1; omega)).trans (nz.out o))
        replace nd := Aside.mk (fun o => (hold _ o (fun e => nq_a_d.out _ e rfl)).trans (nd.out o))
        replace hx := Aside.mk hx2
        replace had := Aside.mk had
        clear hle hold hx2
        go_wp2_with fail
        go_meet
        exact ⟨_, _, _, _, rfl, (by omega), (by omega), hx, hL, had, kd, nd, kz, nz⟩
      · have hL := Aside.mk (PH.le_refl H1)
        clear k5 l5 c50 c51 c52 f50 f51 f52 hs1 hn5
        have hz0 := boxL kz.out
        replace ho1 : Own (kI .i64) 3 wk (w2.heap.size + 1) H1 (.slice Av acc.length cv) acc := ho1.rebase (by simp)
        have hszw2 := hx.out.size
        have habzw2 := boxL kz.out
        have kz_ : (w2.alloc (.cells #[.int .i64 0, .slice none 0 0, .slice none 0 0] 58)).drew.heap[w.heap.size + 1]? = some (.cells #[.int .i64 0, .slice none 0 0, .slice none 0 0] 58) := (boxA kz.out (.cells #[.int .i64 0, .slice none 0 0, .slice none 0 0] 58))
        have kd_ : (w2.alloc (.cells #[.int .i64 0, .slice none 0 0, .slice none 0 0] 58)).drew.heap[w2.heap.size]? = some (.cells #[.int .i64 0, .slice none 0 0, .slice none 0 0] 58) := (heap_alloc_new _ _)
        have nd := Aside.mk (fun o => hx.out.sat.new (b := w2.heap.size) (show w2.heap.size ≤ _ by omega) o)
        replace hx := Aside.mk (((hx.out.alloc (.cells #[.int .i64 0, .slice none 0 0, .slice none 0 0] 58)).drew))
        generalize (w2.alloc (.cells #[.int .i64 0, .slice none 0 0, .slice none 0 0] 58)).drew = W5 at *
        replace kz := Aside.mk kz_
        clear kz_
        have kd := Aside.mk kd_
        clear kd_
        replace kz := Aside.mk (box_below kz.out hb1)
        replace kd := Aside.mk (box_below kd.out hb1)
        replace hx := Aside.mk (hx.out.then_below hb1)
        clear hb1
        replace ho1 := Aside.mk ho1
        have kz_ : (((wk.setCell ⟨w2.heap.size, 0, none⟩ (.int .i64 st)).setCell ⟨w2.heap.size, 1, none⟩ (.slice Av acc.length cv)).setCell ⟨w2.heap.size, 2, none⟩ (.slice none 0 0)).heap[w.heap.size + 1]? = some (.cells #[.int .i64 0, .slice none 0 0, .slice none 0 0] 58) := (boxS_ne (boxS_ne (boxS_ne kz.out (by first | omega | (simp; omega)) 0 (.int .i64 st)) (by first | omega | (simp; omega)) 1 (.slice Av acc.length cv)) (by first | omega | (simp; omega)) 2 (.slice none 0 0))
        have kd_ : (((wk.setCell ⟨w2.heap.size, 0, none⟩ (.int .i64 st)).setCell ⟨w2.heap.size, 1, none⟩ (.slice Av acc.length cv)).setCell ⟨w2.heap.size, 2, none⟩ (.slice none 0 0)).heap[w2.heap.size]? = some (.cells #[.int .i64 st, .slice Av acc.length cv, .slice none 0 0] 58) := (boxS (boxS (boxS kd.out 0 (.int .i64 st)) 1 (.slice Av acc.length cv)) 2 (.slice none 0 0))
        replace ho1 := Aside.mk (((ho1.out.grown (grownBy_setCell _ (w2.heap.size) 0 (.int .i64 st)) (Or.inr (fun e => by have h1 := (ho1.out.blk e).1; omega))).grown (grownBy_setCell _ (w2.heap.size) 1 (.slice Av acc.length cv)) (Or.inr (fun e => by have h1 := (ho1.out.blk e).1; omega))).grown (grownBy_setCell _ (w2.heap.size) 2 (.slice none 0 0)) (Or.inr (fun e => by have h1 := (ho1.out.blk e).1; omega)))
        replace hx := Aside.mk ((((hx.out.setCell (b := w2.heap.size) (o := 0) (by first | omega | (simp; omega)) nd.out (.int .i64 st)).setCell (b := w2.heap.size) (o := 1) (by first | omega | (simp; omega)) nd.out (.slice Av acc.length cv)).setCell (b := w2.heap.size) (o := 2) (by first | omega | (simp; omega)) nd.out (.slice none 0 0)))
        generalize (((wk.setCell ⟨w2.heap.size, 0, none⟩ (.int .i64 st)).setCell ⟨w2.heap.size, 1, none⟩ (.slice Av acc.length cv)).setCell ⟨w2.heap.size, 2, none⟩ (.slice none 0 0)) = W6 at *
        replace kz := Aside.mk kz_
        clear kz_
        replace kd := Aside.mk kd_
        clear kd_
        obtain ⟨H1, hx2, hle, ⟨A9, c9, e1, had⟩, hold⟩ := ho1.out.freezeE hx.out (by omega) (by have := OK.out; omega)
        cases e1
        replace h1 := Aside.mk (h1.out.mono hle)
        replace h2 := Aside.mk (h2.out.mono hle)
        replace h3 := Aside.mk (h3.out.mono hle)
        replace h4 := Aside.mk (h4.out.mono hle)
        replace hL := Aside.mk (hL.out.mono hle)
        replace Bt := Aside.mk (Bt.out.mono hle)
        replace nz := Aside.mk (fun o => (hold _ o (fun e => by have h1 := (ho1.out.blk e).1; omega)).trans (nz.out o))
        replace nd := Aside.mk (fun o => (hold _ o (fun e => by have h1 := (ho1.out.blk e).1; omega)).trans (nd.out o))
        replace hx := Aside.mk hx2
        replace had := Aside.mk had
        clear hle hold hx2
        go_wp2_with fail
        go_meet
        exact ⟨_, _, _, _, rfl, (by omega), (by omega), hx, hL, had, kd, nd, kz, nz⟩
    case rest =>
      clear hx kz nz HS2 hbd
      obtain ⟨g, A, c, Hn, rfl, hgz, hwg, hx, hL, ha, kd, nd, kz, nz⟩ := hcut
      replace h1 := Aside.mk (h1.out.mono hL.out)
      replace h2 := Aside.mk (h2.out.mono hL.out)
      replace h3 := Aside.mk (h3.out.mono hL.out)
      replace h4 := Aside.mk (h4.out.mono hL.out)
      replace Bt := Aside.mk (Bt.out.mono hL.out)
      clear hL
      obtain ⟨C, hC⟩ : ∃ C : Nat, cols = (C : Int) := ⟨cols.toNat, by omega⟩
      subst hC
      have hCb : 1 ≤ C ∧ C ≤ 16 := by omega
      have hTR : ∀ k, (rowT ⟨st, (C : Int), acc, base, own, nxt⟩ k).length = C := fun k => by simp [rowT]
      replace hTR := Aside.mk hTR
      clear hcb
      have lqd : g < wc.heap.size := boxL kd.out
      have cd0 : wc.cell? ⟨g, 0, none⟩ = some (.int .i64 st) := (boxC kd.out 0).1
      have fd0 : wc.frozen? ⟨g, 0, none⟩ = false := (boxC kd.out 0).2
      have cd1 : wc.cell? ⟨g, 1, none⟩ = some (.slice A acc.length c) := (boxC kd.out 1).1
      have fd1 : wc.frozen? ⟨g, 1, none⟩ = false := (boxC kd.out 1).2
      have cd2 : wc.cell? ⟨g, 2, none⟩ = some (.slice none 0 0) := (boxC kd.out 2).1
      have fd2 : wc.frozen? ⟨g, 2, none⟩ = false := (boxC kd.out 2).2
      have lqz : w.heap.size + 1 < wc.heap.size := boxL kz.out
      have cz0 : wc.cell? ⟨w.heap.size + 1, 0, none⟩ = some (.int .i64 0) := (boxC kz.out 0).1
      have fz0 : wc.frozen? ⟨w.heap.size + 1, 0, none⟩ = false := (boxC kz.out 0).2
      have cz1 : wc.cell? ⟨w.heap.size + 1, 1, none⟩ = some (.slice none 0 0) := (boxC kz.out 1).1
      have fz1 : wc.frozen? ⟨w.heap.size + 1, 1, none⟩ = false := (boxC kz.out 1).2
      have cz2 : wc.cell? ⟨w.heap.size + 1, 2, none⟩ = some (.slice none 0 0) := (boxC kz.out 2).1
      have fz2 : wc.frozen? ⟨w.heap.size + 1, 2, none⟩ = false := (boxC kz.out 2).2
      have lqt : w.heap.size < wc.heap.size := hx.out.sat.lt (Bt.out 0 _ rfl)
      obtain ⟨ct0, ct1, ct2, ct3, ct4, ct5⟩ := hb6 hx.out.sat Bt.out
      go_wp2_with fail
      clear lqd cd0 fd0 cd1 fd1 cd2 fd2 lqz cz0 fz0 cz1 fz1 cz2 fz2 lqt ct0 ct1 ct2 ct3 ct4 ct5
      go_loopw [24] (fun s24 wr => ∃ (k : Nat) (A5 : Option Addr) (l5 c5 : Nat) (Hk : PH), k ≤ base.length ∧ s24 = .int .i64 k ∧ Aside (Ext H Hk w wr) ∧ Aside (SlR (kI .i64) Hk A1 acc.length c1 acc) ∧ Aside (SlR (kI .i64) Hk A2 base.length c2 base) ∧ Aside (SlR (kI .i64) Hk A3 own.length c3 own) ∧ Aside (SlR (kI .i64) Hk A4 nxt.length c4 nxt) ∧ Aside (SlR (kI .i64) Hk A acc.length c acc) ∧ Aside (BoxH Hk (w.heap.size) [.int .i64 st, .int .i64 (C : Int), .slice A1 acc.length c1, .slice A2 base.length c2, .slice A3 own.length c3, .slice A4 nxt.length c4]) ∧ Aside (wr.heap[g]? = some (.cells #[.int .i64 st, .slice A acc.length c, .slice A5 l5 c5] 58)) ∧ Aside (∀ o, Hk (g) o = none) ∧ Aside (wr.heap[w.heap.size + 1]? = some (.cells #[.int .i64 0, .slice none 0 0, .slice none 0 0] 58)) ∧ Aside (∀ o, Hk (w.heap.size + 1) o = none) ∧ Aside (Own (kS (kI .i64)) 26 wr (g + 1) Hk (.slice A5 l5 c5) ((List.range k).map (rowT ⟨st, (C : Int), acc, base, own, nxt⟩)))) (fun s24 _ => base.length - (intOf s24).toNat)
      case atStart => exact ⟨0, none, 0, 0, _, by omega, rfl, hx, h1, h2, h3, h4, ha, Bt, kd, nd, kz, nz, ⟨by simpa using Own.nil _ _ _ _ _⟩⟩
      case round =>
        clear hx h1 h2 h3 h4 ha Bt kd nd kz nz
        obtain ⟨k, A5, l5, c5, Hk, hk, rfl, hx, h1, h2, h3, h4, ha, Bt, kd, nd, kz, nz, ho⟩ := hrel
        by_cases hlt : k < base.length
        case pos =>
          have hli : (k : Int) < (base.length : Int) := by omega
          obtain ⟨wo, rfl⟩ : ∃ wo : World, wo = wr := ⟨_, rfl⟩
          have hgl := boxL kd.out
          have hzl := boxL kz.out
          have hbs := hx.out.size
          have ap_x_r := Aside.mk (ho.out.apart_at (b := wo.heap.size) (n := C) (c := C) (Nat.le_refl _))
          have lqd : g < wo.heap.size := boxL kd.out
          have cd0 : wo.cell? ⟨g, 0, none⟩ = some (.int .i64 st) := (boxC kd.out 0).1
          have fd0 : wo.frozen? ⟨g, 0, none⟩ = false := (boxC kd.out 0).2
          have cd1 : wo.cell? ⟨g, 1, none⟩ = some (.slice A acc.length c) := (boxC kd.out 1).1
          have fd1 : wo.frozen? ⟨g, 1, none⟩ = false := (boxC kd.out 1).2
          have cd2 : wo.cell? ⟨g, 2, none⟩ = some (.slice A5 l5 c5) := (boxC kd.out 2).1
          have fd2 : wo.frozen? ⟨g, 2, none⟩ = false := (boxC kd.out 2).2
          have lqz : w.heap.size + 1 < wo.heap.size := boxL kz.out
          have cz0 : wo.cell? ⟨w.heap.size + 1, 0, none⟩ = some (.int .i64 0) := (boxC kz.out 0).1
          have fz0 : wo.frozen? ⟨w.heap.size + 1, 0, none⟩ = false := (boxC kz.out 0).2
          have cz1 : wo.cell? ⟨w.heap.size + 1, 1, none⟩ = some (.slice none 0 0) := (boxC kz.out 1).1
          have fz1 : wo.frozen? ⟨w.heap.size + 1, 1, none⟩ = false := (boxC kz.out 1).2
          have cz2 : wo.cell? ⟨w.heap.size + 1, 2, none⟩ = some (.slice none 0 0) := (boxC kz.out 2).1
          have fz2 : wo.frozen? ⟨w.heap.size + 1, 2, none⟩ = false := (boxC kz.out 2).2
          have lqt : w.heap.size < wo.heap.size := hx.out.sat.lt (Bt.out 0 _ rfl)
          obtain ⟨ct0, ct1, ct2, ct3, ct4, ct5⟩ := hb6 hx.out.sat Bt.out
          go_upto_region 9 with (refine wpList_mk (kI .i64) rfl (.tmp 28) (.tmp 28) 26 rfl 3 Try.underlying26 infoQ rfl rfl (0 : Int) C hx.out.sat rfl (by omega) (by unfold maxLen; omega) (Nat.le_refl _) (by rfl) (by rfl) ?_; intro w5 ho5 hb5 hz5)
          clear lqd cd0 fd0 cd1 fd1 cd2 fd2 lqz cz0 fz0 cz1 fz1 cz2 fz2 lqt ct0 ct1 ct2 ct3 ct4 ct5
          replace kd := Aside.mk (box_below kd.out hb5)
          replace kz := Aside.mk (box_below kz.out hb5)
          replace ho := Aside.mk (ho.out.below hx.out.sat hb5)
          replace hx := Aside.mk (hx.out.then_below hb5)
          clear hb5
          clear hz5
          replace ho5 := Aside.mk ho5
          have lqd : g < w5.heap.size := boxL kd.out
          have cd0 : w5.cell? ⟨g, 0, none⟩ = some (.int .i64 st) := (boxC kd.out 0).1
          have fd0 : w5.frozen? ⟨g, 0, none⟩ = false := (boxC kd.out 0).2
          have cd1 : w5.cell? ⟨g, 1, none⟩ = some (.slice A acc.length c) := (boxC kd.out 1).1
          have fd1 : w5.frozen? ⟨g, 1, none⟩ = false := (boxC kd.out 1).2
          have cd2 : w5.cell? ⟨g, 2, none⟩ = some (.slice A5 l5 c5) := (boxC kd.out 2).1
          have fd2 : w5.frozen? ⟨g, 2, none⟩ = false := (boxC kd.out 2).2
          have lqz : w.heap.size + 1 < w5.heap.size := boxL kz.out
          have cz0 : w5.cell? ⟨w.heap.size + 1, 0, none⟩ = some (.int .i64 0) := (boxC kz.out 0).1
          have fz0 : w5.frozen? ⟨w.heap.size + 1, 0, none⟩ = false := (boxC kz.out 0).2
          have cz1 : w5.cell? ⟨w.heap.size + 1, 1, none⟩ = some (.slice none 0 0) := (boxC kz.out 1).1
          have fz1 : w5.frozen? ⟨w.heap.size + 1, 1, none⟩ = false := (boxC kz.out 1).2
          have cz2 : w5.cell? ⟨w.heap.size + 1, 2, none⟩ = some (.slice none 0 0) := (boxC kz.out 2).1
          have fz2 : w5.frozen? ⟨w.heap.size + 1, 2, none⟩ = false := (boxC kz.out 2).2
          have lqt : w.heap.size < w5.heap.size := hx.out.sat.lt (Bt.out 0 _ rfl)
          obtain ⟨ct0, ct1, ct2, ct3, ct4, ct5⟩ := hb6 hx.out.sat Bt.out
          go_wp2_with fail
          clear lqd cd0 fd0 cd1 fd1 cd2 fd2 lqz cz0 fz0 cz1 fz1 cz2 fz2 lqt ct0 ct1 ct2 ct3 ct4 ct5
          go_loopw [32] (fun s32 wr => ∃ (j : Nat) (Hq : PH), j ≤ C ∧ s32 = .int .i64 j ∧ Aside (Ext H Hq w wr) ∧ Aside (SlR (kI .i64) Hq A1 acc.length c1 acc) ∧ Aside (SlR (kI .i64) Hq A2 base.length c2 base) ∧ Aside (SlR (kI .i64) Hq A3 own.length c3 own) ∧ Aside (SlR (kI .i64) Hq A4 nxt.length c4 nxt) ∧ Aside (SlR (kI .i64) Hq A acc.length c acc) ∧ Aside (BoxH Hq (w.heap.size) [.int .i64 st, .int .i64 (C : Int), .slice A1 acc.length c1, .slice A2 base.length c2, .slice A3 own.length c3, .slice A4 nxt.length c4]) ∧ Aside (wr.heap[g]? = some (.cells #[.int .i64 st, .slice A acc.length c, .slice A5 l5 c5] 58)) ∧ Aside (∀ o, Hq (g) o = none) ∧ Aside (wr.heap[w.heap.size + 1]? = some (.cells #[.int .i64 0, .slice none 0 0, .slice none 0 0] 58)) ∧ Aside (∀ o, Hq (w.heap.size + 1) o = none) ∧ Aside (Own (kS (kI .i64)) 26 wr (g + 1) Hq (.slice A5 l5 c5) ((List.range k).map (rowT ⟨st, (C : Int), acc, base, own, nxt⟩))) ∧ Aside (Own (kI .i64) 3 wr (wo.heap.size) Hq (.slice (some ⟨wo.heap.size, 0, none⟩) C C) ((rowT ⟨st, (C : Int), acc, base, own, nxt⟩ k).take j ++ List.replicate (C - j) 0))) (fun s32 _ => C - (intOf s32).toNat)
          case atStart => exact ⟨0, _, by omega, rfl, hx, h1, h2, h3, h4, ha, Bt, kd, nd, kz, nz, ⟨by simpa using ho.out⟩, ⟨by simpa using ho5.out⟩⟩
          case round =>
            clear hx h1 h2 h3 h4 ha Bt kd nd kz nz ho ho5
            obtain ⟨j, Hq, hj, rfl, hx, h1, h2, h3, h4, ha, Bt, kd, nd, kz, nz, ho, ho5⟩ := hrel
            by_cases hlj : j < C
            case pos =>
              have hlji : (j : Int) < (C : Int) := by omega
              have lqd : g < wr.heap.size := boxL kd.out
              have cd0 : wr.cell? ⟨g, 0, none⟩ = some (.int .i64 st) := (boxC kd.out 0).1
              have fd0 : wr.frozen? ⟨g, 0, none⟩ = false := (boxC kd.out 0).2
              have cd1 : wr.cell? ⟨g, 1, none⟩ = some (.slice A acc.length c) := (boxC kd.out 1).1
              have fd1 : wr.frozen? ⟨g, 1, none⟩ = false := (boxC kd.out 1).2
              have cd2 : wr.cell? ⟨g, 2, none⟩ = some (.slice A5 l5 c5) := (boxC kd.out 2).1
              have fd2 : wr.frozen? ⟨g, 2, none⟩ = false := (boxC kd.out 2).2
              have lqz : w.heap.size + 1 < wr.heap.size := boxL kz.out
              have cz0 : wr.cell? ⟨w.heap.size + 1, 0, none⟩ = some (.int .i64 0) := (boxC kz.out 0).1
              have fz0 : wr.frozen? ⟨w.heap.size + 1, 0, none⟩ = false := (boxC kz.out 0).2
              have cz1 : wr.cell? ⟨w.heap.size + 1, 1, none⟩ = some (.slice none 0 0) := (boxC kz.out 1).1
              have fz1 : wr.frozen? ⟨w.heap.size + 1, 1, none⟩ = false := (boxC kz.out 1).2
              have cz2 : wr.cell? ⟨w.heap.size + 1, 2, none⟩ = some (.slice none 0 0) := (boxC kz.out 2).1
              have fz2 : wr.frozen? ⟨w.heap.size + 1, 2, none⟩ = false := (boxC kz.out 2).2
              have lqt : w.heap.size < wr.heap.size := hx.out.sat.lt (Bt.out 0 _ rfl)
              obtain ⟨ct0, ct1, ct2, ct3, ct4, ct5⟩ := hb6 hx.out.sat Bt.out
              go_wp2_with fail
              clear lqd cd0 fd0 cd1 fd1 cd2 fd2 lqz cz0 fz0 cz1 fz1 cz2 fz2 lqt ct0 ct1 ct2 ct3 ct4 ct5
              have hadrd := boxL kd.out
              have hadrz := boxL kz.out
              have hsz := hx.out.size
              refine (at_any _ st (C : Int) acc base own nxt _ _ _ _ _ _ _ _ k j _ h1.out h2.out h3.out h4.out hx.out.sat hte.out (by omega) (by omega)).mono ?_
              rintro e w6 ⟨rfl, hb6⟩
              replace kd := Aside.mk (box_below kd.out hb6)
              replace kz := Aside.mk (box_below kz.out hb6)
              replace ho := Aside.mk (ho.out.below hx.out.sat hb6)
              replace ho5 := Aside.mk (ho5.out.below hx.out.sat hb6)
              replace hx := Aside.mk (hx.out.then_below hb6)
              clear hb6
              clear hsz hadrd hadrz
              have hrl : ((rowT ⟨st, (C : Int), acc, base, own, nxt⟩ k).take j ++ List.replicate (C - j) 0).length = C := by simp [hTR.out]; omega
              have hat := OwnI.get (T := 3) ho5.out j (by omega)
              have hfr := Own.free ho5.out hrl.symm j
              have hrw : ((rowT ⟨st, (C : Int), acc, base, own, nxt⟩ k).take j ++ List.replicate (C - j) 0).set j (entF base own nxt (k : Int) (j : Int)) = (rowT ⟨st, (C : Int), acc, base, own, nxt⟩ k).take (j + 1) ++ List.replicate (C - (j + 1)) 0 := row_step (hTR.out k) hlj (by simp [rowT, hlj])
              replace hrw := Aside.mk hrw
              replace hrl := Aside.mk hrl
              generalize entF base own nxt (k : Int) (j : Int) = E at *
              have lqd : g < w6.heap.size := boxL kd.out
              have cd0 : w6.cell? ⟨g, 0, none⟩ = some (.int .i64 st) := (boxC kd.out 0).1
              have fd0 : w6.frozen? ⟨g, 0, none⟩ = false := (boxC kd.out 0).2
              have cd1 : w6.cell? ⟨g, 1, none⟩ = some (.slice A acc.length c) := (boxC kd.out 1).1
              have fd1 : w6.frozen? ⟨g, 1, none⟩ = false := (boxC kd.out 1).2
              have cd2 : w6.cell? ⟨g, 2, none⟩ = some (.slice A5 l5 c5) := (boxC kd.out 2).1
              have fd2 : w6.frozen? ⟨g, 2, none⟩ = false := (boxC kd.out 2).2
              have lqz : w.heap.size + 1 < w6.heap.size := boxL kz.out
              have cz0 : w6.cell? ⟨w.heap.size + 1, 0, none⟩ = some (.int .i64 0) := (boxC kz.out 0).1
              have fz0 : w6.frozen? ⟨w.heap.size + 1, 0, none⟩ = false := (boxC kz.out 0).2
              have cz1 : w6.cell? ⟨w.heap.size + 1, 1, none⟩ = some (.slice none 0 0) := (boxC kz.out 1).1
              have fz1 : w6.frozen? ⟨w.heap.size + 1, 1, none⟩ = false := (boxC kz.out 1).2
              have cz2 : w6.cell? ⟨w.heap.size + 1, 2, none⟩ = some (.slice none 0 0) := (boxC kz.out 2).1
              have fz2 : w6.frozen? ⟨w.heap.size + 1, 2, none⟩ = false := (boxC kz.out 2).2
              have lqt : w.heap.size < w6.heap.size := hx.out.sat.lt (Bt.out 0 _ rfl)
              obtain ⟨ct0, ct1, ct2, ct3, ct4, ct5⟩ := hb6 hx.out.sat Bt.out
              go_wp2_with fail
              clear lqd cd0 fd0 cd1 fd1 cd2 fd2 lqz cz0 fz0 cz1 fz1 cz2 fz2 lqt ct0 ct1 ct2 ct3 ct4 ct5
              clear hat hfr
              obtain ⟨P2, Q2⟩ := ho5.out.put1 hrl.out.symm rfl (i := j) (by rw [hrl.out]; exact hlj) (y := E) (u := .int .i64 E) rfl
              replace kd := Aside.mk (boxG kd.out Q2 (fun e => by have h1 := (ho5.out.blk rfl).1; have h2 := Option.some.inj e; omega))
              replace kz := Aside.mk (boxG kz.out Q2 (fun e => by have h1 := (ho5.out.blk rfl).1; have h2 := Option.some.inj e; omega))
              replace hx := Aside.mk (ho5.out.extG hx.out (by omega) Q2)
              replace ho := Aside.mk (ho.out.grown_apart ap_x_r.out Q2)
              replace ho5 := Aside.mk P2
              clear P2 Q2
              generalize (w6.setCell ⟨wo.heap.size, j, none⟩ (.int .i64 E)) = W7 at *
              replace ho5 := Aside.mk (show Own (kI .i64) 3 W7 wo.heap.size Hq (.slice (some ⟨wo.heap.size, 0, none⟩) C C) ((rowT ⟨st, (C : Int), acc, base, own, nxt⟩ k).take (j + 1) ++ List.replicate (C - (j + 1)) 0) from by rw [← hrw.out]; exact ho5.out)
              clear hrw hrl
              go_wp2_with fail
              go_roundw
              case rel => exact ⟨j + 1, _, by omega, by go_num, hx, h1, h2, h3, h4, ha, Bt, kd, nd, kz, nz, ho, ho5⟩
              case measure => (first | (simp [intOf]; done) | (simp [intOf]; omega))
            case neg =>
              have hlji : ¬ (j : Int) < (C : Int) := by omega
              have hjC : C = j := by omega
              subst hjC
              replace ho5 := Aside.mk (show Own (kI .i64) 3 wr wo.heap.size Hq (.slice (some ⟨wo.heap.size, 0, none⟩) C C) (rowT ⟨st, (C : Int), acc, base, own, nxt⟩ k) from by have h9 := ho5.out; rw [List.take_of_length_le (by rw [hTR.out]; exact Nat.le_refl _), Nat.sub_self, List.replicate_zero, List.append_nil] at h9; exact h9)
              obtain ⟨H1, hx2, hle, ⟨Ar, cr, e1, hr⟩, hold⟩ := ho5.out.freezeE hx.out (by omega) (by rw [hTR.out]; omega)
              simp only [List.cons.injEq, Value.slice.injEq, and_true] at e1; obtain ⟨eA, -, ec⟩ := e1; subst eA; subst ec
              replace h1 := Aside.mk (h1.out.mono hle)
              replace h2 := Aside.mk (h2.out.mono hle)
              replace h3 := Aside.mk (h3.out.mono hle)
              replace h4 := Aside.mk (h4.out.mono hle)
              replace ha := Aside.mk (ha.out.mono hle)
              replace Bt := Aside.mk (Bt.out.mono hle)
              replace nd := Aside.mk (fun o => (hold _ o (fun e => by have h1 := (ho5.out.blk e).1; omega)).trans (nd.out o))
              replace nz := Aside.mk (fun o => (hold _ o (fun e => by have h1 := (ho5.out.blk e).1; omega)).trans (nz.out o))
              replace ho := Aside.mk (ho.out.keep hle fun bb hb => ⟨rfl, fun o => (hold bb o (fun e => ap_x_r.out.elim (fun h => by rw [h] at hb; cases hb) (fun h => h (hb.trans e.symm)))).trans ((ho.out.blk hb).2.2 o)⟩)
              replace hx := Aside.mk hx2
              replace hr := Aside.mk hr
              clear hle hold hx2
              have hrd : (kS (kI .i64)).rd H1 (rowT ⟨st, (C : Int), acc, base, own, nxt⟩ k) [.slice (some ⟨wo.heap.size, 0, none⟩) C C] := ⟨_, _, by rw [hTR.out], hr.out⟩
              replace hrd := Aside.mk hrd
              clear hr
              have hsz := hx.out.size
              have hdw := boxL kd.out
              have lqd : g < wr.heap.size := boxL kd.out
              have cd0 : wr.cell? ⟨g, 0, none⟩ = some (.int .i64 st) := (boxC kd.out 0).1
              have fd0 : wr.frozen? ⟨g, 0, none⟩ = false := (boxC kd.out 0).2
              have cd1 : wr.cell? ⟨g, 1, none⟩ = some (.slice A acc.length c) := (boxC kd.out 1).1
              have fd1 : wr.frozen? ⟨g, 1, none⟩ = false := (boxC kd.out 1).2
              have cd2 : wr.cell? ⟨g, 2, none⟩ = some (.slice A5 l5 c5) := (boxC kd.out 2).1
              have fd2 : wr.frozen? ⟨g, 2, none⟩ = false := (boxC kd.out 2).2
              have lqz : w.heap.size + 1 < wr.heap.size := boxL kz.out
              have cz0 : wr.cell? ⟨w.heap.size + 1, 0, none⟩ = some (.int .i64 0) := (boxC kz.out 0).1
              have fz0 : wr.frozen? ⟨w.heap.size + 1, 0, none⟩ = false := (boxC kz.out 0).2
              have cz1 : wr.cell? ⟨w.heap.size + 1, 1, none⟩ = some (.slice none 0 0) := (boxC kz.out 1).1
              have fz1 : wr.frozen? ⟨w.heap.size + 1, 1, none⟩ = false := (boxC kz.out 1).2
              have cz2 : wr.cell? ⟨w.heap.size + 1, 2, none⟩ = some (.slice none 0 0) := (boxC kz.out 2).1
              have fz2 : wr.frozen? ⟨w.heap.size + 1, 2, none⟩ = false := (boxC kz.out 2).2
              have lqt : w.heap.size < wr.heap.size := hx.out.sat.lt (Bt.out 0 _ rfl)
              obtain ⟨ct0, ct1, ct2, ct3, ct4, ct5⟩ := hb6 hx.out.sat Bt.out
              go_upto_region 15 with (at_builtin; go_must (refine wpList_app1 (kS (kI .i64)) rfl (.tmp 44) (.tmp 46) 56 rfl 26 Try.underlying56 infoS rfl ho.out hx.out.sat rfl rfl rfl hrd.out (by simp; omega) (by unfold maxLen; simp; omega) (by omega) ?_); intro v9 w9 ho9 hg9 hs9 hn9; obtain ⟨A9, c9, e9, -, -, -, -⟩ := ho9.form; generalize (List.map (rowT ⟨st, (C : Int), acc, base, own, nxt⟩) (List.range k) ++ [rowT ⟨st, (C : Int), acc, base, own, nxt⟩ k]).length = l9 at e9; subst e9; have kd9 := boxG kd.out hg9 (fun e => by have h1 := (ho.out.blk e).1; omega); have ld9 := boxL kd9; obtain ⟨⟨y0, y1, y2⟩, y3, y4, y5⟩ := kb3 kd9)
              clear lqd cd0 fd0 cd1 fd1 cd2 fd2 lqz cz0 fz0 cz1 fz1 cz2 fz2 lqt ct0 ct1 ct2 ct3 ct4 ct5
              clear y0 y1 y2 y3 y4 y5 ld9 kd9
              replace kd := Aside.mk (boxG kd.out hg9 (fun e => by have h1 := (ho.out.blk e).1; omega))
              replace kz := Aside.mk (boxG kz.out hg9 (fun e => by have h1 := (ho.out.blk e).1; omega))
              replace hx := Aside.mk (ho.out.extG hx.out (by omega) hg9)
              replace ho := Aside.mk ho9
              replace ho := Aside.mk (show Own (kS (kI .i64)) 26 w9 (g + 1) H1 (.slice A9 l9 c9) ((List.range (k + 1)).map (rowT ⟨st, (C : Int), acc, base, own, nxt⟩)) from by rw [List.range_succ, List.map_append]; exact ho.out)
              clear ho9 hg9 hs9 hn9 hrd hsz hdw
              have kd_ : (w9.setCell ⟨g, 2, none⟩ (.slice A9 l9 c9)).heap[g]? = some (.cells #[.int .i64 st, .slice A acc.length c, .slice A9 l9 c9] 58) := (boxS kd.out 2 (.slice A9 l9 c9))
              have kz_ : (w9.setCell ⟨g, 2, none⟩ (.slice A9 l9 c9)).heap[w.heap.size + 1]? = some (.cells #[.int .i64 0, .slice none 0 0, .slice none 0 0] 58) := (boxS_ne kz.out (by first | omega | (simp; omega)) 2 (.slice A9 l9 c9))
              replace ho := Aside.mk (ho.out.grown (grownBy_setCell _ (g) 2 (.slice A9 l9 c9)) (Or.inr (fun e => by have h1 := (ho.out.blk e).1; omega)))
              replace hx := Aside.mk ((hx.out.setCell (b := g) (o := 2) (by first | omega | (simp; omega)) nd.out (.slice A9 l9 c9)))
              generalize (w9.setCell ⟨g, 2, none⟩ (.slice A9 l9 c9)) = W8 at *
              replace kd := Aside.mk kd_
              clear kd_
              replace kz := Aside.mk kz_
              clear kz_
              have lqd : g < W8.heap.size := boxL kd.out
              have cd0 : W8.cell? ⟨g, 0, none⟩ = some (.int .i64 st) := (boxC kd.out 0).1
              have fd0 : W8.frozen? ⟨g, 0, none⟩ = false := (boxC kd.out 0).2
              have cd1 : W8.cell? ⟨g, 1, none⟩ = some (.slice A acc.length c) := (boxC kd.out 1).1
              have fd1 : W8.frozen? ⟨g, 1, none⟩ = false := (boxC kd.out 1).2
              have cd2 : W8.cell? ⟨g, 2, none⟩ = some (.slice A9 l9 c9) := (boxC kd.out 2).1
              have fd2 : W8.frozen? ⟨g, 2, none⟩ = false := (boxC kd.out 2).2
              have lqz : w.heap.size + 1 < W8.heap.size := boxL kz.out
              have cz0 : W8.cell? ⟨w.heap.size + 1, 0, none⟩ = some (.int .i64 0) := (boxC kz.out 0).1
              have fz0 : W8.frozen? ⟨w.heap.size + 1, 0, none⟩ = false := (boxC kz.out 0).2
              have cz1 : W8.cell? ⟨w.heap.size + 1, 1, none⟩ = some (.slice none 0 0) := (boxC kz.out 1).1
              have fz1 : W8.frozen? ⟨w.heap.size + 1, 1, none⟩ = false := (boxC kz.out 1).2
              have cz2 : W8.cell? ⟨w.heap.size + 1, 2, none⟩ = some (.slice none 0 0) := (boxC kz.out 2).1
              have fz2 : W8.frozen? ⟨w.heap.size + 1, 2, none⟩ = false := (boxC kz.out 2).2
              have lqt : w.heap.size < W8.heap.size := hx.out.sat.lt (Bt.out 0 _ rfl)
              obtain ⟨ct0, ct1, ct2, ct3, ct4, ct5⟩ := hb6 hx.out.sat Bt.out
              go_wp2_with fail
              clear lqd cd0 fd0 cd1 fd1 cd2 fd2 lqz cz0 fz0 cz1 fz1 cz2 fz2 lqt ct0 ct1 ct2 ct3 ct4 ct5
              go_roundw
              case rel => exact ⟨k + 1, A9, l9, c9, _, by omega, by go_num, hx, h1, h2, h3, h4, ha, Bt, kd, nd, kz, nz, ho⟩
              case measure => (first | (simp [intOf]; done) | (simp [intOf]; omega))
        case neg =>
          have hli : ¬ (k : Int) < (base.length : Int) := by omega
          have hke : k = base.length := by omega
          replace hke := Aside.mk hke
          have lqd : g < wr.heap.size := boxL kd.out
          have cd0 : wr.cell? ⟨g, 0, none⟩ = some (.int .i64 st) := (boxC kd.out 0).1
          have fd0 : wr.frozen? ⟨g, 0, none⟩ = false := (boxC kd.out 0).2
          have cd1 : wr.cell? ⟨g, 1, none⟩ = some (.slice A acc.length c) := (boxC kd.out 1).1
          have fd1 : wr.frozen? ⟨g, 1, none⟩ = false := (boxC kd.out 1).2
          have cd2 : wr.cell? ⟨g, 2, none⟩ = some (.slice A5 l5 c5) := (boxC kd.out 2).1
          have fd2 : wr.frozen? ⟨g, 2, none⟩ = false := (boxC kd.out 2).2
          have lqz : w.heap.size + 1 < wr.heap.size := boxL kz.out
          have cz0 : wr.cell? ⟨w.heap.size + 1, 0, none⟩ = some (.int .i64 0) := (boxC kz.out 0).1
          have fz0 : wr.frozen? ⟨w.heap.size + 1, 0, none⟩ = false := (boxC kz.out 0).2
          have cz1 : wr.cell? ⟨w.heap.size + 1, 1, none⟩ = some (.slice none 0 0) := (boxC kz.out 1).1
          have fz1 : wr.frozen? ⟨w.heap.size + 1, 1, none⟩ = false := (boxC kz.out 1).2
          have cz2 : wr.cell? ⟨w.heap.size + 1, 2, none⟩ = some (.slice none 0 0) := (boxC kz.out 2).1
          have fz2 : wr.frozen? ⟨w.heap.size + 1, 2, none⟩ = false := (boxC kz.out 2).2
          have lqt : w.heap.size < wr.heap.size := hx.out.sat.lt (Bt.out 0 _ rfl)
          obtain ⟨ct0, ct1, ct2, ct3, ct4, ct5⟩ := hb6 hx.out.sat Bt.out
          go_wp2_with fail
          clear lqd cd0 fd0 cd1 fd1 cd2 fd2 lqz cz0 fz0 cz1 fz1 cz2 fz2 lqt ct0 ct1 ct2 ct3 ct4 ct5
          have kd_ : (((wr.setCell ⟨w.heap.size + 1, 0, none⟩ (.int .i64 st)).setCell ⟨w.heap.size + 1, 1, none⟩ (.slice A acc.length c)).setCell ⟨w.heap.size + 1, 2, none⟩ (.slice A5 l5 c5)).heap[g]? = some (.cells #[.int .i64 st, .slice A acc.length c, .slice A5 l5 c5] 58) := (boxS_ne (boxS_ne (boxS_ne kd.out (by first | omega | (simp; omega)) 0 (.int .i64 st)) (by first | omega | (simp; omega)) 1 (.slice A acc.length c)) (by first | omega | (simp; omega)) 2 (.slice A5 l5 c5))
          have kz_ : (((wr.setCell ⟨w.heap.size + 1, 0, none⟩ (.int .i64 st)).setCell ⟨w.heap.size + 1, 1, none⟩ (.slice A acc.length c)).setCell ⟨w.heap.size + 1, 2, none⟩ (.slice A5 l5 c5)).heap[w.heap.size + 1]? = some (.cells #[.int .i64 st, .slice A acc.length c, .slice A5 l5 c5] 58) := (boxS (boxS (boxS kz.out 0 (.int .i64 st)) 1 (.slice A acc.length c)) 2 (.slice A5 l5 c5))
          replace ho := Aside.mk (((ho.out.grown (grownBy_setCell _ (w.heap.size + 1) 0 (.int .i64 st)) (Or.inr (fun e => by have h1 := (ho.out.blk e).1; omega))).grown (grownBy_setCell _ (w.heap.size + 1) 1 (.slice A acc.length c)) (Or.inr (fun e => by have h1 := (ho.out.blk e).1; omega))).grown (grownBy_setCell _ (w.heap.size + 1) 2 (.slice A5 l5 c5)) (Or.inr (fun e => by have h1 := (ho.out.blk e).1; omega)))
          replace hx := Aside.mk ((((hx.out.setCell (b := w.heap.size + 1) (o := 0) (by first | omega | (simp; omega)) nz.out (.int .i64 st)).setCell (b := w.heap.size + 1) (o := 1) (by first | omega | (simp; omega)) nz.out (.slice A acc.length c)).setCell (b := w.heap.size + 1) (o := 2) (by first | omega | (simp; omega)) nz.out (.slice A5 l5 c5)))
          generalize (((wr.setCell ⟨w.heap.size + 1, 0, none⟩ (.int .i64 st)).setCell ⟨w.heap.size + 1, 1, none⟩ (.slice A acc.length c)).setCell ⟨w.heap.size + 1, 2, none⟩ (.slice A5 l5 c5)) = W9 at *
          replace kd := Aside.mk kd_
          clear kd_
          replace kz := Aside.mk kz_
          clear kz_
          have hsz := hx.out.size
          obtain ⟨H1, hx2, hle, ⟨A6, c6, e1, hnx⟩, hold⟩ := ho.out.freezeE hx.out (by omega) (by simp; omega)
          cases e1
          replace h1 := Aside.mk (h1.out.mono hle)
          replace h2 := Aside.mk (h2.out.mono hle)
          replace h3 := Aside.mk (h3.out.mono hle)
          replace h4 := Aside.mk (h4.out.mono hle)
          replace ha := Aside.mk (ha.out.mono hle)
          replace Bt := Aside.mk (Bt.out.mono hle)
          replace nd := Aside.mk (fun o => (hold _ o (fun e => by have h1 := (ho.out.blk e).1; omega)).trans (nd.out o))
          replace nz := Aside.mk (fun o => (hold _ o (fun e => by have h1 := (ho.out.blk e).1; omega)).trans (nz.out o))
          replace hx := Aside.mk hx2
          replace hnx := Aside.mk hnx
          clear hle hold hx2
          refine bodyPost_ret (resC2 rfl _ _ _ rfl (run_loadVar_row _ _ _ _ _ (0, 0) _ kz.out Try.underlying58 rfl (by kernel_rfl))) rfl ?_
          have he9 : errT ⟨st, (C : Int), acc, base, own, nxt⟩ = 0 := hte.out
          have hn9 := hnx.out
          have hk9 := hke.out
          subst hk9
          refine ⟨_, _, autT ⟨st, (C : Int), acc, base, own, nxt⟩, ?_, ⟨_, _, _, _, rfl, ha.out, hn9⟩, Or.inl ⟨he9, rfl⟩, hx.out⟩
          rw [he9]
          rfl
end Go.Proofs.Ytbnahmeaeakhhaa.B
