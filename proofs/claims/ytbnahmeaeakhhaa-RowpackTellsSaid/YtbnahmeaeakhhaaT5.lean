/- Contract: rowpack.Pack. -/
import Derived.Test.YtbnahmeaeakhhaaT5a
namespace Go.Proofs.Ytbnahmeaeakhhaa.B
set_option linter.unusedVariables false
set_option linter.unusedSimpArgs false
open Go Go.RowKit Go.Proofs.Ytbnahmeaeakhhaa.Q Go.Proofs.Ytbnahmeaeakhhaa.S Classical

/-- the packed table, the rows taken in the order ord -/
noncomputable def packT (st : Int) (acc : List Int) (next : List (List Int)) (ord : List Int) : Tab :=
  ⟨st, ((next.getD 0 []).length : Int), acc, (packGo next ord).1, (packGo next ord).2.1, (packGo next ord).2.2⟩
/-- what Pack comes to -/
def PackR (st : Int) (acc : List Int) (next : List (List Int)) (err : Int) (T : Tab) : Prop :=
  err = dfaErr st acc next ∧ ((err ≠ 0 ∧ T = zeroTab) ∨ (err = 0 ∧ ∃ ord, ord.Perm (rangeI next.length) ∧ Srt (keyF next) ord ∧ T = packT st acc next ord))
def PackPost (H : PH) (w : World) (st : Int) (acc : List Int) (next : List (List Int)) (e : Ending) (w' : World) : Prop :=
  ∃ H' cs err T, e = .returned (.tuple #[.agg cs.toArray, .int .i64 err]) ∧ RdTab H' T cs ∧ PackR st acc next err T ∧ Ext H H' w w'
theorem Own.apart_lo {α : Type} {k : Kd α} {e : TypeId} {w : World} {base : Nat} {H : PH} {v : Value} {xs : List α} (h : Own k e w base H v xs) {b n c : Nat} (hb : b < base) : Apart (.slice (some ⟨b, 0, none⟩) n c) v :=
  Or.inr (fun e => by have h1 := (h.blk (b := b) (e.symm.trans rfl)).1; omega)
theorem entries_B {H : PH} {A : Option Addr} {n c : Nat} {row : List Int} {w : World} (hs : Sat w H) (h : SlR (kI .i64) H A n c row) (hl : row.length ≤ 100000) :
    Calls Try.prog 114 #[.slice A n c] w fun e w' => e = .returned (.int .i64 (cntF row)) ∧ Below w.heap.size w w' :=
  (entries_H hs h hl).mono fun _ _ ⟨h1, m, h2⟩ => ⟨h1, by rw [h2]; exact (Below.refl _ _).drewN m⟩
theorem Own.wr' {k : IntKind} {e : TypeId} {w : World} {base : Nat} {H : PH} {A : Option Addr} {n c : Nat} {xs : List Int} (h : Own (kI k) e w base H (.slice A n c) xs) (hl : xs.length ≤ 3200) : WR k w A n c xs := by
  obtain ⟨A', c', e1, h2, -⟩ := h.wr (by omega)
  cases e1; exact h2
theorem place_B {A A2 : Option Addr} {n n2 c c2 : Nat} {own row : List Int} {w : World} (h : WR .i64 w A n c own) (h2 : WR .i64 w A2 n2 c2 row) (hl : own.length ≤ 3200) (hl2 : row.length ≤ 16) :
    Calls Try.prog 115 #[.slice A n c, .slice A2 n2 c2] w fun e w' => e = .returned (.int .i64 (placeN own row)) ∧ Below w.heap.size w w' := by
  obtain rfl := h.1
  obtain rfl := h2.1
  exact (place_any h h2 (by omega) (by omega)).mono fun _ _ ⟨h1, m, h2⟩ => ⟨h1, by rw [h2]; exact (Below.refl _ _).drewN m⟩
theorem infoQ2 : (Try.prog.info? 3).map (fun i => (i.zero, i.size, i.bytes)) = some (some (.int .i64 0), 1, 8) := by kernel_rfl

set_option maxRecDepth 100000 in
set_option maxHeartbeats 32000000 in
theorem pack_any (H : PH) (st : Int) (acc : List Int) (next : List (List Int)) (A1 A2 : Option Addr) (c1 c2 : Nat) (w : World) (h1 : SlR (kI .i64) H A1 acc.length c1 acc) (h2 : SlR (kS (kI .i64)) H A2 next.length c2 next) (hs : Sat w H) :
    Calls Try.prog 52 #[.agg #[.int .i64 st, .slice A1 acc.length c1, .slice A2 next.length c2]] w (PackPost H w st acc next) := by
  have hx := Aside.mk (Ext.refl hs)
  replace h1 := Aside.mk h1
  replace h2 := Aside.mk h2
  go_enter Try.func52, Try.ntmps52
  go_wp2_with fail
  have hszw := hx.out.size
  have kd_ : ((w.alloc (.cells #[.int .i64 st, .slice A1 acc.length c1, .slice A2 next.length c2] 58)).alloc (.cells #[.int .i64 0, .int .i64 0, .slice none 0 0, .slice none 0 0, .slice none 0 0, .slice none 0 0] 85)).heap[w.heap.size]? = some (.cells #[.int .i64 st, .slice A1 acc.length c1, .slice A2 next.length c2] 58) := (boxA (heap_alloc_new _ _) (.cells #[.int .i64 0, .int .i64 0, .slice none 0 0, .slice none 0 0, .slice none 0 0, .slice none 0 0] 85))
  have kz_ : ((w.alloc (.cells #[.int .i64 st, .slice A1 acc.length c1, .slice A2 next.length c2] 58)).alloc (.cells #[.int .i64 0, .int .i64 0, .slice none 0 0, .slice none 0 0, .slice none 0 0, .slice none 0 0] 85)).heap[w.heap.size + 1]? = some (.cells #[.int .i64 0, .int .i64 0, .slice none 0 0, .slice none 0 0, .slice none 0 0, .slice none 0 0] 85) := (by rw [show w.heap.size + 1 = ((w.alloc (.cells #[.int .i64 st, .slice A1 acc.length c1, .slice A2 next.length c2] 58))).heap.size by simp]; exact heap_alloc_new _ _)
  have nd := Aside.mk (fun o => hx.out.sat.new (b := w.heap.size) (show w.heap.size ≤ _ by omega) o)
  have nz := Aside.mk (fun o => hx.out.sat.new (b := w.heap.size + 1) (show w.heap.size ≤ _ by omega) o)
  replace hx := Aside.mk (((hx.out.alloc (.cells #[.int .i64 st, .slice A1 acc.length c1, .slice A2 next.length c2] 58)).alloc (.cells #[.int .i64 0, .int .i64 0, .slice none 0 0, .slice none 0 0, .slice none 0 0, .slice none 0 0] 85)))
  generalize ((w.alloc (.cells #[.int .i64 st, .slice A1 acc.length c1, .slice A2 next.length c2] 58)).alloc (.cells #[.int .i64 0, .int .i64 0, .slice none 0 0, .slice none 0 0, .slice none 0 0, .slice none 0 0] 85)) = W1 at *
  have kd := Aside.mk kd_
  clear kd_
  have kz := Aside.mk kz_
  clear kz_
  obtain ⟨H1, hx2, hle, Bd, hold⟩ := box_freeze hx.out (by omega) kd.out nd.out
  replace h1 := Aside.mk (h1.out.mono hle)
  replace h2 := Aside.mk (h2.out.mono hle)
  replace nz := Aside.mk (fun o => (hold _ o (by omega)).trans (nz.out o))
  replace hx := Aside.mk hx2
  replace Bd := Aside.mk Bd
  clear hle hold hx2 kd nd
  have hD := Aside.mk (show DfaH H1 w.heap.size st acc next A1 A2 c1 c2 from ⟨Bd.out, h1.out, h2.out⟩)
  have lqz : w.heap.size + 1 < W1.heap.size := boxL kz.out
  obtain ⟨⟨cz0, cz1, cz2, cz3, cz4, cz5⟩, fz0, fz1, fz2, fz3, fz4, fz5⟩ := kb6 kz.out
  have lqd : w.heap.size < W1.heap.size := hx.out.sat.lt (Bd.out 0 _ rfl)
  have cd0 : W1.cell? ⟨w.heap.size, 0, none⟩ = some (.int .i64 st) := hx.out.sat _ _ _ (Bd.out 0 _ rfl)
  have cd1 : W1.cell? ⟨w.heap.size, 1, none⟩ = some (.slice A1 acc.length c1) := hx.out.sat _ _ _ (Bd.out 1 _ rfl)
  have cd2 : W1.cell? ⟨w.heap.size, 2, none⟩ = some (.slice A2 next.length c2) := hx.out.sat _ _ _ (Bd.out 2 _ rfl)
  go_wp2_with fail
  clear lqz cz0 cz1 cz2 cz3 cz4 cz5 fz0 fz1 fz2 fz3 fz4 fz5 lqd cd0 cd1 cd2
  have hadrz := boxL kz.out
  have hsz := hx.out.size
  refine (dfaCheck_any (st := st) h1.out h2.out hx.out.sat).mono ?_
  rintro e w2 ⟨rfl, hb9⟩
  replace kz := Aside.mk (box_below kz.out hb9)
  replace hx := Aside.mk (hx.out.then_below hb9)
  clear hb9
  clear hsz hadrz
  generalize hte : dfaErr st acc next = te
  replace hte := Aside.mk hte
  by_cases h6 : te = 0
  case neg =>
    have lqz : w.heap.size + 1 < w2.heap.size := boxL kz.out
    obtain ⟨⟨cz0, cz1, cz2, cz3, cz4, cz5⟩, fz0, fz1, fz2, fz3, fz4, fz5⟩ := kb6 kz.out
    have lqd : w.heap.size < w2.heap.size := hx.out.sat.lt (Bd.out 0 _ rfl)
    have cd0 : w2.cell? ⟨w.heap.size, 0, none⟩ = some (.int .i64 st) := hx.out.sat _ _ _ (Bd.out 0 _ rfl)
    have cd1 : w2.cell? ⟨w.heap.size, 1, none⟩ = some (.slice A1 acc.length c1) := hx.out.sat _ _ _ (Bd.out 1 _ rfl)
    have cd2 : w2.cell? ⟨w.heap.size, 2, none⟩ = some (.slice A2 next.length c2) := hx.out.sat _ _ _ (Bd.out 2 _ rfl)
    go_wp2_with fail
    clear lqz cz0 cz1 cz2 cz3 cz4 cz5 fz0 fz1 fz2 fz3 fz4 fz5 lqd cd0 cd1 cd2
    have kz_ : ((((((w2.setCell ⟨w.heap.size + 1, 0, none⟩ (.int .i64 0)).setCell ⟨w.heap.size + 1, 1, none⟩ (.int .i64 0)).setCell ⟨w.heap.size + 1, 2, none⟩ (.slice none 0 0)).setCell ⟨w.heap.size + 1, 3, none⟩ (.slice none 0 0)).setCell ⟨w.heap.size + 1, 4, none⟩ (.slice none 0 0)).setCell ⟨w.heap.size + 1, 5, none⟩ (.slice none 0 0)).heap[w.heap.size + 1]? = some (.cells #[.int .i64 0, .int .i64 0, .slice none 0 0, .slice none 0 0, .slice none 0 0, .slice none 0 0] 85) := (boxS (boxS (boxS (boxS (boxS (boxS kz.out 0 (.int .i64 0)) 1 (.int .i64 0)) 2 (.slice none 0 0)) 3 (.slice none 0 0)) 4 (.slice none 0 0)) 5 (.slice none 0 0))
    replace hx := Aside.mk (((((((hx.out.setCell (b := w.heap.size + 1) (o := 0) (by first | omega | (simp; omega)) nz.out (.int .i64 0)).setCell (b := w.heap.size + 1) (o := 1) (by first | omega | (simp; omega)) nz.out (.int .i64 0)).setCell (b := w.heap.size + 1) (o := 2) (by first | omega | (simp; omega)) nz.out (.slice none 0 0)).setCell (b := w.heap.size + 1) (o := 3) (by first | omega | (simp; omega)) nz.out (.slice none 0 0)).setCell (b := w.heap.size + 1) (o := 4) (by first | omega | (simp; omega)) nz.out (.slice none 0 0)).setCell (b := w.heap.size + 1) (o := 5) (by first | omega | (simp; omega)) nz.out (.slice none 0 0)))
    generalize ((((((w2.setCell ⟨w.heap.size + 1, 0, none⟩ (.int .i64 0)).setCell ⟨w.heap.size + 1, 1, none⟩ (.int .i64 0)).setCell ⟨w.heap.size + 1, 2, none⟩ (.slice none 0 0)).setCell ⟨w.heap.size + 1, 3, none⟩ (.slice none 0 0)).setCell ⟨w.heap.size + 1, 4, none⟩ (.slice none 0 0)).setCell ⟨w.heap.size + 1, 5, none⟩ (.slice none 0 0)) = W3 at *
    replace kz := Aside.mk kz_
    clear kz_
    refine bodyPost_ret (resC2 rfl _ _ _ rfl (run_loadVar_row _ _ _ _ _ (0, 0) _ kz.out Try.underlying85 rfl (by kernel_rfl))) rfl ?_
    exact ⟨_, _, te, zeroTab, rfl, ⟨none, 0, none, 0, none, 0, none, 0, rfl, SlR.nil _ _, SlR.nil _ _, SlR.nil _ _, SlR.nil _ _⟩, ⟨hte.out.symm, Or.inl ⟨h6, rfl⟩⟩, hx.out⟩
  case pos =>
    subst h6
    have OK := Aside.mk (dfaErr_ok hte.out)
    obtain ⟨n, hn⟩ : ∃ n, n = next.length := ⟨_, rfl⟩
    have hnb : 0 < n ∧ n ≤ 200 := by have := OK.out; omega
    have hal : acc.length ≤ 1048576 := by have := OK.out; omega
    obtain ⟨C, hC⟩ : ∃ C, C = (next.getD 0 []).length := ⟨_, rfl⟩
    have hCb : 0 < C ∧ C ≤ 16 := by have := OK.out; omega
    obtain ⟨b2, off2, Ar, cr, hA2, hr0, hc0⟩ := hD.out.row 0 (by omega)
    subst hA2
    rw [← hC] at hr0 hc0
    have hc2 : n ≤ c2 ∧ c2 ≤ maxLen := ⟨by have := h2.out.2.1; omega, h2.out.2.2.1⟩
    have HN := Aside.mk (And.intro hn hC)
    have R0 := Aside.mk (And.intro hr0 hc0)
    clear hr0 hc0
    have HS2 := Aside.mk (fun (w' : World) (hb : Sat w' H1) => show w'.cell? ⟨w.heap.size, 0, none⟩ = some (.int .i64 st) ∧ w'.cell? ⟨w.heap.size, 1, none⟩ = some (.slice A1 acc.length c1) ∧ w'.cell? ⟨w.heap.size, 2, none⟩ = some (.slice (some ⟨b2, off2, none⟩) n c2) ∧ w'.cell? ⟨b2, off2, none⟩ = some (.slice Ar C cr) from ⟨hb _ _ _ (Bd.out 0 _ rfl), hb _ _ _ (Bd.out 1 _ rfl), by rw [hn]; exact hb _ _ _ (Bd.out 2 _ rfl), hb _ _ _ R0.out.2⟩)
    clear hn hC
    have h0n : (0 : Int) < (n : Int) := by omega
    obtain ⟨g4, g5, g6, g7⟩ := HS2.out _ hx.out.sat
    go_wp2_with fail
    clear g4 g5 g6 g7
    have hbd := fun (w : World) (A : Option Addr) (q c g : Nat) => run_build (P := Try.prog) w 85 #[(0, .int .i64 st), (1, .int .i64 C), (2, .slice A q c), (3, .slice (some ⟨g, 0, none⟩) n n)] #[.int .i64 st, .int .i64 C, .slice A q c, .slice (some ⟨g, 0, none⟩) n n, .slice none 0 0, .slice none 0 0] (by kernel_rfl)
    have hmk := run_mk (P := Try.prog) 26 3 Try.underlying26 infoQ2 rfl n (by omega) (by unfold maxLen; omega) (n : Int) rfl
    have hsz := hx.out.size
    go_cut [5] (fun s5 wc => ∃ (g gb M : Nat) (A : Option Addr) (c : Nat) (Hn : PH), s5 = .pointer (some ⟨g, 0, none⟩) ∧ w.heap.size + 1 < g ∧ w.heap.size + 1 < gb ∧ g < M ∧ gb < M ∧ (M = g + 1 ∨ M = gb + 1) ∧ g ≠ gb ∧ Aside (Ext H Hn w wc) ∧ Aside (H1.le Hn) ∧ Aside (SlR (kI .i64) Hn A acc.length c acc) ∧ Aside (wc.heap[g]? = some (.cells #[.int .i64 st, .int .i64 (C : Int), .slice A acc.length c, .slice (some ⟨gb, 0, none⟩) n n, .slice none 0 0, .slice none 0 0] 85)) ∧ Aside (∀ o, Hn g o = none) ∧ Aside (Own (kI .i64) 3 wc w.heap.size Hn (.slice (some ⟨gb, 0, none⟩) n n) (List.replicate n 0)) ∧ Aside (wc.heap[w.heap.size + 1]? = some (.cells #[.int .i64 0, .int .i64 0, .slice none 0 0, .slice none 0 0, .slice none 0 0, .slice none 0 0] 85)) ∧ Aside (∀ o, Hn (w.heap.size + 1) o = none))
    case first =>
      go_region_held3 (fun w' => w'.cell? ⟨w.heap.size, 0, none⟩ = some (.int .i64 st) ∧ w'.cell? ⟨w.heap.size, 1, none⟩ = some (.slice A1 acc.length c1) ∧ w'.cell? ⟨w.heap.size, 2, none⟩ = some (.slice (some ⟨b2, off2, none⟩) n c2) ∧ w'.cell? ⟨b2, off2, none⟩ = some (.slice Ar C cr))
        ((refine HS2.out _ ?_; (repeat (first | (with_reducible exact hs1) | (with_reducible exact hx.out.sat) | (with_reducible refine Sat.drew ?_) | (with_reducible refine Sat.alloc ?_ _) | (with_reducible refine Sat.setCell ?_ hn5 _ _)))))
        ((first
          | (go_at_call 69; (with_reducible refine (cloneQ_any _ acc A1 _ c1 ((w2.alloc (.cells #[.int .i64 0, .int .i64 0, .slice none 0 0, .slice none 0 0, .slice none 0 0, .slice none 0 0] 85)).alloc (.cells (madeCells #[.int .i64 0] n) 3)).drew h1.out ((hx.out.sat.alloc (.cells #[.int .i64 0, .int .i64 0, .slice none 0 0, .slice none 0 0, .slice none 0 0, .slice none 0 0] 85)).alloc (.cells (madeCells #[.int .i64 0] n) 3)).drew hal).mono ?_); rintro e wk ⟨v, rfl, ho1, hb1⟩; have hs1 := Sat.below ((hx.out.sat.alloc (.cells #[.int .i64 0, .int .i64 0, .slice none 0 0, .slice none 0 0, .slice none 0 0, .slice none 0 0] 85)).alloc (.cells (madeCells #[.int .i64 0] n) 3)).drew hb1; obtain ⟨Av, cv, ev, -, -, -, -⟩ := ho1.form; subst ev; have hn5 := fun o => hx.out.sat.new (b := w2.heap.size) (by omega) o; have k5 := box_below (show ((w2.alloc (.cells #[.int .i64 0, .int .i64 0, .slice none 0 0, .slice none 0 0, .slice none 0 0, .slice none 0 0] 85)).alloc (.cells (madeCells #[.int .i64 0] n) 3)).drew.heap[w2.heap.size]? = some (.cells #[.int .i64 0, .int .i64 0, .slice none 0 0, .slice none 0 0, .slice none 0 0, .slice none 0 0] 85) from boxA (boxN w2 (.cells #[.int .i64 0, .int .i64 0, .slice none 0 0, .slice none 0 0, .slice none 0 0, .slice none 0 0] 85)) (.cells (madeCells #[.int .i64 0] n) 3)) hb1; have l5 := boxL k5; obtain ⟨⟨d0, d1, d2, d3, d4, d5⟩, e0, e1, e2, e3, e4, e5⟩ := kb6 k5)
          | (go_at_call 69; (with_reducible refine (cloneQ_any _ acc A1 _ c1 ((w2.alloc (.cells (madeCells #[.int .i64 0] n) 3)).alloc (.cells #[.int .i64 0, .int .i64 0, .slice none 0 0, .slice none 0 0, .slice none 0 0, .slice none 0 0] 85)).drew h1.out ((hx.out.sat.alloc (.cells (madeCells #[.int .i64 0] n) 3)).alloc (.cells #[.int .i64 0, .int .i64 0, .slice none 0 0, .slice none 0 0, .slice none 0 0, .slice none 0 0] 85)).drew hal).mono ?_); rintro e wk ⟨v, rfl, ho1, hb1⟩; have hs1 := Sat.below ((hx.out.sat.alloc (.cells (madeCells #[.int .i64 0] n) 3)).alloc (.cells #[.int .i64 0, .int .i64 0, .slice none 0 0, .slice none 0 0, .slice none 0 0, .slice none 0 0] 85)).drew hb1; obtain ⟨Av, cv, ev, -, -, -, -⟩ := ho1.form; subst ev; have hn5 := fun o => hx.out.sat.new (b := w2.heap.size + 1) (by omega) o; have k5 := box_below (show ((w2.alloc (.cells (madeCells #[.int .i64 0] n) 3)).alloc (.cells #[.int .i64 0, .int .i64 0, .slice none 0 0, .slice none 0 0, .slice none 0 0, .slice none 0 0] 85)).drew.heap[w2.heap.size + 1]? = some (.cells #[.int .i64 0, .int .i64 0, .slice none 0 0, .slice none 0 0, .slice none 0 0, .slice none 0 0] 85) from (by rw [show w2.heap.size + 1 = (w2.alloc (.cells (madeCells #[.int .i64 0] n) 3)).heap.size by simp]; exact boxN (w2.alloc (.cells (madeCells #[.int .i64 0] n) 3)) (.cells #[.int .i64 0, .int .i64 0, .slice none 0 0, .slice none 0 0, .slice none 0 0, .slice none 0 0] 85))) hb1; have l5 := boxL k5; obtain ⟨⟨d0, d1, d2, d3, d4, d5⟩, e0, e1, e2, e3, e4, e5⟩ := kb6 k5)
          | (go_at_call 69; (with_reducible refine (cloneQ_any _ acc A1 _ c1 (w2.alloc (.cells #[.int .i64 0, .int .i64 0, .slice none 0 0, .slice none 0 0, .slice none 0 0, .slice none 0 0] 85)).drew h1.out (hx.out.sat.alloc (.cells #[.int .i64 0, .int .i64 0, .slice none 0 0, .slice none 0 0, .slice none 0 0, .slice none 0 0] 85)).drew hal).mono ?_); rintro e wk ⟨v, rfl, ho1, hb1⟩; have hs1 := Sat.below (hx.out.sat.alloc (.cells #[.int .i64 0, .int .i64 0, .slice none 0 0, .slice none 0 0, .slice none 0 0, .slice none 0 0] 85)).drew hb1; obtain ⟨Av, cv, ev, -, -, -, -⟩ := ho1.form; subst ev; have hn5 := fun o => hx.out.sat.new (b := w2.heap.size) (by omega) o; have k5 := box_below (show (w2.alloc (.cells #[.int .i64 0, .int .i64 0, .slice none 0 0, .slice none 0 0, .slice none 0 0, .slice none 0 0] 85)).drew.heap[w2.heap.size]? = some (.cells #[.int .i64 0, .int .i64 0, .slice none 0 0, .slice none 0 0, .slice none 0 0, .slice none 0 0] 85) from boxN w2 (.cells #[.int .i64 0, .int .i64 0, .slice none 0 0, .slice none 0 0, .slice none 0 0, .slice none 0 0] 85)) hb1; have l5 := boxL k5; obtain ⟨⟨d0, d1, d2, d3, d4, d5⟩, e0, e1, e2, e3, e4, e5⟩ := kb6 k5)
          | (go_at_call 69; (with_reducible refine (cloneQ_any _ acc A1 _ c1 (w2.alloc (.cells (madeCells #[.int .i64 0] n) 3)).drew h1.out (hx.out.sat.alloc (.cells (madeCells #[.int .i64 0] n) 3)).drew hal).mono ?_); rintro e wk ⟨v, rfl, ho1, hb1⟩; have hs1 := Sat.below (hx.out.sat.alloc (.cells (madeCells #[.int .i64 0] n) 3)).drew hb1; obtain ⟨Av, cv, ev, -, -, -, -⟩ := ho1.form; subst ev)
          | (go_at_call 69; (with_reducible refine (cloneQ_any _ acc A1 _ c1 w2.drew h1.out hx.out.sat.drew hal).mono ?_); rintro e wk ⟨v, rfl, ho1, hb1⟩; have hs1 := Sat.below hx.out.sat.drew hb1; obtain ⟨Av, cv, ev, -, -, -, -⟩ := ho1.form; subst ev)))
      · have hL := Aside.mk (PH.le_refl H1)
        clear hs1
        have es := Aside.mk (show w2.heap.size = w2.heap.size + 0 from rfl)
        replace es := Aside.mk (show w2.drew.heap.size = w2.heap.size + 0 from es.out)
        have kz_ : w2.drew.heap[w.heap.size + 1]? = some (.cells #[.int .i64 0, .int .i64 0, .slice none 0 0, .slice none 0 0, .slice none 0 0, .slice none 0 0] 85) := kz.out
        replace hx := Aside.mk ((hx.out.drew))
        generalize w2.drew = W4 at *
        replace kz := Aside.mk kz_
        clear kz_
        have q_z := boxL kz.out
        have qes := es.out
        have hszc := hx.out.size
        replace kz := Aside.mk (box_below kz.out hb1)
        replace hx := Aside.mk (hx.out.then_below hb1)
        clear hb1
        replace es := Aside.mk (show wk.heap.size = wk.heap.size + 0 from rfl)
        replace ho1 := Aside.mk ho1
        obtain ⟨H1, hx2, hle, ⟨A9, c9, e1, had⟩, hold⟩ := ho1.out.freezeE hx.out (by omega) (by have := OK.out; omega)
        cases e1
        replace h1 := Aside.mk (h1.out.mono hle)
        replace h2 := Aside.mk (h2.out.mono hle)
        replace hD := Aside.mk (hD.out.mono hle)
        replace hL := Aside.mk (hL.out.mono hle)
        replace Bd := Aside.mk (Bd.out.mono hle)
        replace nz := Aside.mk (fun o => (hold _ o (fun e => by have h1 := (ho1.out.blk e).1; omega)).trans (nz.out o))
        replace hx := Aside.mk hx2
        replace had := Aside.mk had
        clear hle hold hx2
        clear qes
        have q_zM := boxL kz.out
        have hszM := hx.out.size
        have hob := Aside.mk (own_mk (k := kI .i64) (e := 3) (base := w.heap.size) hx.out.sat (z := .int .i64 0) (y := 0) rfl rfl n (by unfold maxLen; omega) hszM)
        replace kz := Aside.mk (boxA kz.out (.cells (madeCells #[.int .i64 0] n) 3))
        replace hx := Aside.mk (hx.out.alloc (.cells (madeCells #[.int .i64 0] n) 3))
        rw [es.out] at hob q_zM hszM
        simp only [Nat.add_zero] at hob q_zM hszM
        have es2 : (wk.alloc (.cells (madeCells #[.int .i64 0] n) 3)).heap.size = wk.heap.size + 1 := by have h := es.out; first | (simp; done) | (simp; omega)
        generalize wk.alloc (.cells (madeCells #[.int .i64 0] n) 3) = W5 at *
        replace es := Aside.mk es2
        clear es2
        have q_zT := boxL kz.out
        have hszT := hx.out.size
        have q_mT := (hob.out.blk (b := wk.heap.size) rfl).2.1
        rw [es.out] at q_zT hszT q_mT
        have esT := es
        have es2 : (W5.alloc (.cells #[.int .i64 st, .int .i64 (C : Int), .slice Av acc.length cv, .slice (some ⟨wk.heap.size, 0, none⟩) n n, .slice none 0 0, .slice none 0 0] 85)).heap.size = wk.heap.size + 2 := by have h := es.out; first | (simp; done) | (simp; omega)
        have hszW5 := hx.out.size
        have habzW5 := boxL kz.out
        have nq_b_t := Aside.mk (fun bb (hb : (.slice (some ⟨wk.heap.size, 0, none⟩) n n : Value).ownBlock = some bb) => (show bb ≠ W5.heap.size from by have h1 := (hob.out.blk hb).2.1; omega))
        have kz_ : (W5.alloc (.cells #[.int .i64 st, .int .i64 (C : Int), .slice Av acc.length cv, .slice (some ⟨wk.heap.size, 0, none⟩) n n, .slice none 0 0, .slice none 0 0] 85)).heap[w.heap.size + 1]? = some (.cells #[.int .i64 0, .int .i64 0, .slice none 0 0, .slice none 0 0, .slice none 0 0, .slice none 0 0] 85) := (boxA kz.out (.cells #[.int .i64 st, .int .i64 (C : Int), .slice Av acc.length cv, .slice (some ⟨wk.heap.size, 0, none⟩) n n, .slice none 0 0, .slice none 0 0] 85))
        have kt_ : (W5.alloc (.cells #[.int .i64 st, .int .i64 (C : Int), .slice Av acc.length cv, .slice (some ⟨wk.heap.size, 0, none⟩) n n, .slice none 0 0, .slice none 0 0] 85)).heap[W5.heap.size]? = some (.cells #[.int .i64 st, .int .i64 (C : Int), .slice Av acc.length cv, .slice (some ⟨wk.heap.size, 0, none⟩) n n, .slice none 0 0, .slice none 0 0] 85) := (heap_alloc_new _ _)
        have nt := Aside.mk (fun o => hx.out.sat.new (b := W5.heap.size) (show W5.heap.size ≤ _ by omega) o)
        replace hob := Aside.mk (hob.out.alloc (hx.out).sat (.cells #[.int .i64 st, .int .i64 (C : Int), .slice Av acc.length cv, .slice (some ⟨wk.heap.size, 0, none⟩) n n, .slice none 0 0, .slice none 0 0] 85))
        replace hx := Aside.mk ((hx.out.alloc (.cells #[.int .i64 st, .int .i64 (C : Int), .slice Av acc.length cv, .slice (some ⟨wk.heap.size, 0, none⟩) n n, .slice none 0 0, .slice none 0 0] 85)))
        generalize (W5.alloc (.cells #[.int .i64 st, .int .i64 (C : Int), .slice Av acc.length cv, .slice (some ⟨wk.heap.size, 0, none⟩) n n, .slice none 0 0, .slice none 0 0] 85)) = W6 at *
        replace kz := Aside.mk kz_
        clear kz_
        have kt := Aside.mk kt_
        clear kt_
        replace es := Aside.mk es2
        clear es2
        rw [show W5.heap.size = wk.heap.size + 1 from by have h := esT.out; first | exact h | (rw [h]; rfl) | omega] at kt nt
        clear esT
        go_wp2_with fail
        go_meet
        exact ⟨_, _, wk.heap.size + 1 + 1, _, _, _, rfl, by omega, by omega, by omega, by omega, by omega, by omega, hx, hL, had, kt, nt, hob, kz, nz⟩
      · have hL := Aside.mk (PH.le_refl H1)
        clear hs1
        have es := Aside.mk (show w2.heap.size = w2.heap.size + 0 from rfl)
        replace es := Aside.mk (show w2.drew.heap.size = w2.heap.size + 0 from es.out)
        have kz_ : w2.drew.heap[w.heap.size + 1]? = some (.cells #[.int .i64 0, .int .i64 0, .slice none 0 0, .slice none 0 0, .slice none 0 0, .slice none 0 0] 85) := kz.out
        replace hx := Aside.mk ((hx.out.drew))
        generalize w2.drew = W7 at *
        replace kz := Aside.mk kz_
        clear kz_
        have q_z := boxL kz.out
        have qes := es.out
        have hszc := hx.out.size
        replace kz := Aside.mk (box_below kz.out hb1)
        replace hx := Aside.mk (hx.out.then_below hb1)
        clear hb1
        replace es := Aside.mk (show wk.heap.size = wk.heap.size + 0 from rfl)
        replace ho1 := Aside.mk ho1
        obtain ⟨H1, hx2, hle, ⟨A9, c9, e1, had⟩, hold⟩ := ho1.out.freezeE hx.out (by omega) (by have := OK.out; omega)
        cases e1
        replace h1 := Aside.mk (h1.out.mono hle)
        replace h2 := Aside.mk (h2.out.mono hle)
        replace hD := Aside.mk (hD.out.mono hle)
        replace hL := Aside.mk (hL.out.mono hle)
        replace Bd := Aside.mk (Bd.out.mono hle)
        replace nz := Aside.mk (fun o => (hold _ o (fun e => by have h1 := (ho1.out.blk e).1; omega)).trans (nz.out o))
        replace hx := Aside.mk hx2
        replace had := Aside.mk had
        clear hle hold hx2
        clear qes
        have q_zT := boxL kz.out
        have hszT := hx.out.size
        rw [es.out] at q_zT hszT
        simp only [Nat.add_zero] at q_zT hszT
        have esT := es
        have es2 : (wk.alloc (.cells #[.int .i64 st, .int .i64 (C : Int), .slice Av acc.length cv, .slice (some ⟨wk.heap.size + 1, 0, none⟩) n n, .slice none 0 0, .slice none 0 0] 85)).heap.size = wk.heap.size + 1 := by have h := es.out; first | (simp; done) | (simp; omega)
        have hszwk := hx.out.size
        have habzwk := boxL kz.out
        have kz_ : (wk.alloc (.cells #[.int .i64 st, .int .i64 (C : Int), .slice Av acc.length cv, .slice (some ⟨wk.heap.size + 1, 0, none⟩) n n, .slice none 0 0, .slice none 0 0] 85)).heap[w.heap.size + 1]? = some (.cells #[.int .i64 0, .int .i64 0, .slice none 0 0, .slice none 0 0, .slice none 0 0, .slice none 0 0] 85) := (boxA kz.out (.cells #[.int .i64 st, .int .i64 (C : Int), .slice Av acc.length cv, .slice (some ⟨wk.heap.size + 1, 0, none⟩) n n, .slice none 0 0, .slice none 0 0] 85))
        have kt_ : (wk.alloc (.cells #[.int .i64 st, .int .i64 (C : Int), .slice Av acc.length cv, .slice (some ⟨wk.heap.size + 1, 0, none⟩) n n, .slice none 0 0, .slice none 0 0] 85)).heap[wk.heap.size]? = some (.cells #[.int .i64 st, .int .i64 (C : Int), .slice Av acc.length cv, .slice (some ⟨wk.heap.size + 1, 0, none⟩) n n, .slice none 0 0, .slice none 0 0] 85) := (heap_alloc_new _ _)
        have nt := Aside.mk (fun o => hx.out.sat.new (b := wk.heap.size) (show wk.heap.size ≤ _ by omega) o)
        replace hx := Aside.mk ((hx.out.alloc (.cells #[.int .i64 st, .int .i64 (C : Int), .slice Av acc.length cv, .slice (some ⟨wk.heap.size + 1, 0, none⟩) n n, .slice none 0 0, .slice none 0 0] 85)))
        generalize (wk.alloc (.cells #[.int .i64 st, .int .i64 (C : Int), .slice Av acc.length cv, .slice (some ⟨wk.heap.size + 1, 0, none⟩) n n, .slice none 0 0, .slice none 0 0] 85)) = W8 at *
        replace kz := Aside.mk kz_
        clear kz_
        have kt := Aside.mk kt_
        clear kt_
        replace es := Aside.mk es2
        clear es2
        rw [show wk.heap.size = wk.heap.size from by have h := esT.out; first | exact h | (rw [h]; rfl) | omega] at kt nt
        clear esT
        have q_zM := boxL kz.out
        have hszM := hx.out.size
        have q_tM := boxL kt.out
        have hob := Aside.mk (own_mk (k := kI .i64) (e := 3) (base := w.heap.size) hx.out.sat (z := .int .i64 0) (y := 0) rfl rfl n (by unfold maxLen; omega) hszM)
        replace kz := Aside.mk (boxA kz.out (.cells (madeCells #[.int .i64 0] n) 3))
        replace kt := Aside.mk (boxA kt.out (.cells (madeCells #[.int .i64 0] n) 3))
        replace hx := Aside.mk (hx.out.alloc (.cells (madeCells #[.int .i64 0] n) 3))
        rw [es.out] at hob q_zM hszM q_tM
        have es2 : (W8.alloc (.cells (madeCells #[.int .i64 0] n) 3)).heap.size = wk.heap.size + 2 := by have h := es.out; first | (simp; done) | (simp; omega)
        generalize W8.alloc (.cells (madeCells #[.int .i64 0] n) 3) = W9 at *
        replace es := Aside.mk es2
        clear es2
        go_wp2_with fail
        go_meet
        exact ⟨_, _, wk.heap.size + 1 + 1, _, _, _, rfl, by omega, by omega, by omega, by omega, by omega, by omega, hx, hL, had, kt, nt, hob, kz, nz⟩
      · have hL := Aside.mk (PH.le_refl H1)
        clear hs1
        have es := Aside.mk (show w2.heap.size = w2.heap.size + 0 from rfl)
        have q_zM := boxL kz.out
        have hszM := hx.out.size
        have hob := Aside.mk (own_mk (k := kI .i64) (e := 3) (base := w.heap.size) hx.out.sat (z := .int .i64 0) (y := 0) rfl rfl n (by unfold maxLen; omega) hszM)
        replace kz := Aside.mk (boxA kz.out (.cells (madeCells #[.int .i64 0] n) 3))
        replace hx := Aside.mk (hx.out.alloc (.cells (madeCells #[.int .i64 0] n) 3))
        rw [es.out] at hob q_zM hszM
        simp only [Nat.add_zero] at hob q_zM hszM
        have es2 : (w2.alloc (.cells (madeCells #[.int .i64 0] n) 3)).heap.size = w2.heap.size + 1 := by have h := es.out; first | (simp; done) | (simp; omega)
        generalize w2.alloc (.cells (madeCells #[.int .i64 0] n) 3) = W10 at *
        replace es := Aside.mk es2
        clear es2
        replace es := Aside.mk (show W10.drew.heap.size = w2.heap.size + 1 from es.out)
        have kz_ : W10.drew.heap[w.heap.size + 1]? = some (.cells #[.int .i64 0, .int .i64 0, .slice none 0 0, .slice none 0 0, .slice none 0 0, .slice none 0 0] 85) := kz.out
        replace hob := Aside.mk (hob.out.drew)
        replace hx := Aside.mk ((hx.out.drew))
        generalize W10.drew = W11 at *
        replace kz := Aside.mk kz_
        clear kz_
        have q_z := boxL kz.out
        have qes := es.out
        have q_m := (hob.out.blk (b := w2.heap.size) rfl).2.1
        have hszc := hx.out.size
        replace kz := Aside.mk (box_below kz.out hb1)
        replace hob := Aside.mk (hob.out.below hx.out.sat hb1)
        replace hx := Aside.mk (hx.out.then_below hb1)
        clear hb1
        replace es := Aside.mk (show wk.heap.size = wk.heap.size + 0 from rfl)
        replace ho1 := Aside.mk ho1
        have ap_b_a := Aside.mk (ho1.out.apart_lo (b := w2.heap.size) (n := n) (c := n) (by omega))
        obtain ⟨H1, hx2, hle, ⟨A9, c9, e1, had⟩, hold⟩ := ho1.out.freezeE hx.out (by omega) (by have := OK.out; omega)
        cases e1
        replace h1 := Aside.mk (h1.out.mono hle)
        replace h2 := Aside.mk (h2.out.mono hle)
        replace hD := Aside.mk (hD.out.mono hle)
        replace hL := Aside.mk (hL.out.mono hle)
        replace Bd := Aside.mk (Bd.out.mono hle)
        replace nz := Aside.mk (fun o => (hold _ o (fun e => by have h1 := (ho1.out.blk e).1; omega)).trans (nz.out o))
        replace hob := Aside.mk (hob.out.keep hle fun bb hb => ⟨rfl, fun o => (hold bb o (fun e => ap_b_a.out.elim (fun h => by rw [h] at hb; cases hb) (fun h => h (hb.trans e.symm)))).trans ((hob.out.blk hb).2.2 o)⟩)
        replace hx := Aside.mk hx2
        replace had := Aside.mk had
        clear hle hold hx2
        clear qes
        have q_zT := boxL kz.out
        have hszT := hx.out.size
        have q_mT := (hob.out.blk (b := w2.heap.size) rfl).2.1
        rw [es.out] at q_zT hszT q_mT
        simp only [Nat.add_zero] at q_zT hszT q_mT
        have esT := es
        have es2 : (wk.alloc (.cells #[.int .i64 st, .int .i64 (C : Int), .slice Av acc.length cv, .slice (some ⟨w2.heap.size, 0, none⟩) n n, .slice none 0 0, .slice none 0 0] 85)).heap.size = wk.heap.size + 1 := by have h := es.out; first | (simp; done) | (simp; omega)
        have hszwk := hx.out.size
        have habzwk := boxL kz.out
        have nq_b_t := Aside.mk (fun bb (hb : (.slice (some ⟨w2.heap.size, 0, none⟩) n n : Value).ownBlock = some bb) => (show bb ≠ wk.heap.size from by have h1 := (hob.out.blk hb).2.1; omega))
        have kz_ : (wk.alloc (.cells #[.int .i64 st, .int .i64 (C : Int), .slice Av acc.length cv, .slice (some ⟨w2.heap.size, 0, none⟩) n n, .slice none 0 0, .slice none 0 0] 85)).heap[w.heap.size + 1]? = some (.cells #[.int .i64 0, .int .i64 0, .slice none 0 0, .slice none 0 0, .slice none 0 0, .slice none 0 0] 85) := (boxA kz.out (.cells #[.int .i64 st, .int .i64 (C : Int), .slice Av acc.length cv, .slice (some ⟨w2.heap.size, 0, none⟩) n n, .slice none 0 0, .slice none 0 0] 85))
        have kt_ : (wk.alloc (.cells #[.int .i64 st, .int .i64 (C : Int), .slice Av acc.length cv, .slice (some ⟨w2.heap.size, 0, none⟩) n n, .slice none 0 0, .slice none 0 0] 85)).heap[wk.heap.size]? = some (.cells #[.int .i64 st, .int .i64 (C : Int), .slice Av acc.length cv, .slice (some ⟨w2.heap.size, 0, none⟩) n n, .slice none 0 0, .slice none 0 0] 85) := (heap_alloc_new _ _)
        have nt := Aside.mk (fun o => hx.out.sat.new (b := wk.heap.size) (show wk.heap.size ≤ _ by omega) o)
        replace hob := Aside.mk (hob.out.alloc (hx.out).sat (.cells #[.int .i64 st, .int .i64 (C : Int), .slice Av acc.length cv, .slice (some ⟨w2.heap.size, 0, none⟩) n n, .slice none 0 0, .slice none 0 0] 85))
        replace hx := Aside.mk ((hx.out.alloc (.cells #[.int .i64 st, .int .i64 (C : Int), .slice Av acc.length cv, .slice (some ⟨w2.heap.size, 0, none⟩) n n, .slice none 0 0, .slice none 0 0] 85)))
        generalize (wk.alloc (.cells #[.int .i64 st, .int .i64 (C : Int), .slice Av acc.length cv, .slice (some ⟨w2.heap.size, 0, none⟩) n n, .slice none 0 0, .slice none 0 0] 85)) = W12 at *
        replace kz := Aside.mk kz_
        clear kz_
        have kt := Aside.mk kt_
        clear kt_
        replace es := Aside.mk es2
        clear es2
        rw [show wk.heap.size = wk.heap.size from by have h := esT.out; first | exact h | (rw [h]; rfl) | omega] at kt nt
        clear esT
        go_wp2_with fail
        go_meet
        exact ⟨_, _, wk.heap.size + 1, _, _, _, rfl, by omega, by omega, by omega, by omega, by omega, by omega, hx, hL, had, kt, nt, hob, kz, nz⟩
      · have hL := Aside.mk (PH.le_refl H1)
        clear k5 l5 d0 d1 d2 d3 d4 d5 e0 e1 e2 e3 e4 e5 hn5
        clear hs1
        have es := Aside.mk (show w2.heap.size = w2.heap.size + 0 from rfl)
        have q_zM := boxL kz.out
        have hszM := hx.out.size
        have hob := Aside.mk (own_mk (k := kI .i64) (e := 3) (base := w.heap.size) hx.out.sat (z := .int .i64 0) (y := 0) rfl rfl n (by unfold maxLen; omega) hszM)
        replace kz := Aside.mk (boxA kz.out (.cells (madeCells #[.int .i64 0] n) 3))
        replace hx := Aside.mk (hx.out.alloc (.cells (madeCells #[.int .i64 0] n) 3))
        rw [es.out] at hob q_zM hszM
        simp only [Nat.add_zero] at hob q_zM hszM
        have es2 : (w2.alloc (.cells (madeCells #[.int .i64 0] n) 3)).heap.size = w2.heap.size + 1 := by have h := es.out; first | (simp; done) | (simp; omega)
        generalize w2.alloc (.cells (madeCells #[.int .i64 0] n) 3) = W13 at *
        replace es := Aside.mk es2
        clear es2
        have q_zT := boxL kz.out
        have hszT := hx.out.size
        have q_mT := (hob.out.blk (b := w2.heap.size) rfl).2.1
        rw [es.out] at q_zT hszT q_mT
        have esT := es
        have es2 : (W13.alloc (.cells #[.int .i64 0, .int .i64 0, .slice none 0 0, .slice none 0 0, .slice none 0 0, .slice none 0 0] 85)).heap.size = w2.heap.size + 2 := by have h := es.out; first | (simp; done) | (simp; omega)
        have hszW13 := hx.out.size
        have habzW13 := boxL kz.out
        have nq_b_t := Aside.mk (fun bb (hb : (.slice (some ⟨w2.heap.size, 0, none⟩) n n : Value).ownBlock = some bb) => (show bb ≠ W13.heap.size from by have h1 := (hob.out.blk hb).2.1; omega))
        have kz_ : (W13.alloc (.cells #[.int .i64 0, .int .i64 0, .slice none 0 0, .slice none 0 0, .slice none 0 0, .slice none 0 0] 85)).heap[w.heap.size + 1]? = some (.cells #[.int .i64 0, .int .i64 0, .slice none 0 0, .slice none 0 0, .slice none 0 0, .slice none 0 0] 85) := (boxA kz.out (.cells #[.int .i64 0, .int .i64 0, .slice none 0 0, .slice none 0 0, .slice none 0 0, .slice none 0 0] 85))
        have kt_ : (W13.alloc (.cells #[.int .i64 0, .int .i64 0, .slice none 0 0, .slice none 0 0, .slice none 0 0, .slice none 0 0] 85)).heap[W13.heap.size]? = some (.cells #[.int .i64 0, .int .i64 0, .slice none 0 0, .slice none 0 0, .slice none 0 0, .slice none 0 0] 85) := (heap_alloc_new _ _)
        have nt := Aside.mk (fun o => hx.out.sat.new (b := W13.heap.size) (show W13.heap.size ≤ _ by omega) o)
        replace hob := Aside.mk (hob.out.alloc (hx.out).sat (.cells #[.int .i64 0, .int .i64 0, .slice none 0 0, .slice none 0 0, .slice none 0 0, .slice none 0 0] 85))
        replace hx := Aside.mk ((hx.out.alloc (.cells #[.int .i64 0, .int .i64 0, .slice none 0 0, .slice none 0 0, .slice none 0 0, .slice none 0 0] 85)))
        generalize (W13.alloc (.cells #[.int .i64 0, .int .i64 0, .slice none 0 0, .slice none 0 0, .slice none 0 0, .slice none 0 0] 85)) = W14 at *
        replace kz := Aside.mk kz_
        clear kz_
        have kt := Aside.mk kt_
        clear kt_
        replace es := Aside.mk es2
        clear es2
        rw [show W13.heap.size = w2.heap.size + 1 from by have h := esT.out; first | exact h | (rw [h]; rfl) | omega] at kt nt
        clear esT
        replace es := Aside.mk (show W14.drew.heap.size = w2.heap.size + 2 from es.out)
        have kz_ : W14.drew.heap[w.heap.size + 1]? = some (.cells #[.int .i64 0, .int .i64 0, .slice none 0 0, .slice none 0 0, .slice none 0 0, .slice none 0 0] 85) := kz.out
        have kt_ : W14.drew.heap[w2.heap.size + 1]? = some (.cells #[.int .i64 0, .int .i64 0, .slice none 0 0, .slice none 0 0, .slice none 0 0, .slice none 0 0] 85) := kt.out
        replace hob := Aside.mk (hob.out.drew)
        replace hx := Aside.mk ((hx.out.drew))
        generalize W14.drew = W15 at *
        replace kz := Aside.mk kz_
        clear kz_
        replace kt := Aside.mk kt_
        clear kt_
        have q_z := boxL kz.out
        have qes := es.out
        have q_t := boxL kt.out
        have q_m := (hob.out.blk (b := w2.heap.size) rfl).2.1
        have hszc := hx.out.size
        replace kz := Aside.mk (box_below kz.out hb1)
        replace kt := Aside.mk (box_below kt.out hb1)
        replace hob := Aside.mk (hob.out.below hx.out.sat hb1)
        replace hx := Aside.mk (hx.out.then_below hb1)
        clear hb1
        replace es := Aside.mk (show wk.heap.size = wk.heap.size + 0 from rfl)
        replace ho1 := Aside.mk ho1
        have ap_b_a := Aside.mk (ho1.out.apart_lo (b := w2.heap.size) (n := n) (c := n) (by omega))
        obtain ⟨H1, hx2, hle, ⟨A9, c9, e1, had⟩, hold⟩ := ho1.out.freezeE hx.out (by omega) (by have := OK.out; omega)
        cases e1
        replace h1 := Aside.mk (h1.out.mono hle)
        replace h2 := Aside.mk (h2.out.mono hle)
        replace hD := Aside.mk (hD.out.mono hle)
        replace hL := Aside.mk (hL.out.mono hle)
        replace Bd := Aside.mk (Bd.out.mono hle)
        replace nz := Aside.mk (fun o => (hold _ o (fun e => by have h1 := (ho1.out.blk e).1; omega)).trans (nz.out o))
        replace nt := Aside.mk (fun o => (hold _ o (fun e => by have h1 := (ho1.out.blk e).1; omega)).trans (nt.out o))
        replace hob := Aside.mk (hob.out.keep hle fun bb hb => ⟨rfl, fun o => (hold bb o (fun e => ap_b_a.out.elim (fun h => by rw [h] at hb; cases hb) (fun h => h (hb.trans e.symm)))).trans ((hob.out.blk hb).2.2 o)⟩)
        replace hx := Aside.mk hx2
        replace had := Aside.mk had
        clear hle hold hx2
        clear qes
        have hne9 : w2.heap.size + 1 ≠ w2.heap.size := by omega
        have kz_ : ((((((wk.setCell ⟨w2.heap.size + 1, 0, none⟩ (.int .i64 st)).setCell ⟨w2.heap.size + 1, 1, none⟩ (.int .i64 (C : Int))).setCell ⟨w2.heap.size + 1, 2, none⟩ (.slice Av acc.length cv)).setCell ⟨w2.heap.size + 1, 3, none⟩ (.slice (some ⟨w2.heap.size, 0, none⟩) n n)).setCell ⟨w2.heap.size + 1, 4, none⟩ (.slice none 0 0)).setCell ⟨w2.heap.size + 1, 5, none⟩ (.slice none 0 0)).heap[w.heap.size + 1]? = some (.cells #[.int .i64 0, .int .i64 0, .slice none 0 0, .slice none 0 0, .slice none 0 0, .slice none 0 0] 85) := (boxS_ne (boxS_ne (boxS_ne (boxS_ne (boxS_ne (boxS_ne kz.out (by first | omega | (simp; omega)) 0 (.int .i64 st)) (by first | omega | (simp; omega)) 1 (.int .i64 (C : Int))) (by first | omega | (simp; omega)) 2 (.slice Av acc.length cv)) (by first | omega | (simp; omega)) 3 (.slice (some ⟨w2.heap.size, 0, none⟩) n n)) (by first | omega | (simp; omega)) 4 (.slice none 0 0)) (by first | omega | (simp; omega)) 5 (.slice none 0 0))
        have kt_ : ((((((wk.setCell ⟨w2.heap.size + 1, 0, none⟩ (.int .i64 st)).setCell ⟨w2.heap.size + 1, 1, none⟩ (.int .i64 (C : Int))).setCell ⟨w2.heap.size + 1, 2, none⟩ (.slice Av acc.length cv)).setCell ⟨w2.heap.size + 1, 3, none⟩ (.slice (some ⟨w2.heap.size, 0, none⟩) n n)).setCell ⟨w2.heap.size + 1, 4, none⟩ (.slice none 0 0)).setCell ⟨w2.heap.size + 1, 5, none⟩ (.slice none 0 0)).heap[w2.heap.size + 1]? = some (.cells #[.int .i64 st, .int .i64 (C : Int), .slice Av acc.length cv, .slice (some ⟨w2.heap.size, 0, none⟩) n n, .slice none 0 0, .slice none 0 0] 85) := (boxS (boxS (boxS (boxS (boxS (boxS kt.out 0 (.int .i64 st)) 1 (.int .i64 (C : Int))) 2 (.slice Av acc.length cv)) 3 (.slice (some ⟨w2.heap.size, 0, none⟩) n n)) 4 (.slice none 0 0)) 5 (.slice none 0 0))
        replace hob := Aside.mk ((((((hob.out.grown (grownBy_setCell _ (w2.heap.size + 1) 0 (.int .i64 st)) (Or.inr (fun e => by first | (have h1 := (hob.out.blk e).1; omega) | (simp [Value.ownBlock] at e; done) | (simp [Value.ownBlock] at e; omega)))).grown (grownBy_setCell _ (w2.heap.size + 1) 1 (.int .i64 (C : Int))) (Or.inr (fun e => by first | (have h1 := (hob.out.blk e).1; omega) | (simp [Value.ownBlock] at e; done) | (simp [Value.ownBlock] at e; omega)))).grown (grownBy_setCell _ (w2.heap.size + 1) 2 (.slice Av acc.length cv)) (Or.inr (fun e => by first | (have h1 := (hob.out.blk e).1; omega) | (simp [Value.ownBlock] at e; done) | (simp [Value.ownBlock] at e; omega)))).grown (grownBy_setCell _ (w2.heap.size + 1) 3 (.slice (some ⟨w2.heap.size, 0, none⟩) n n)) (Or.inr (fun e => by first | (have h1 := (hob.out.blk e).1; omega) | (simp [Value.ownBlock] at e; done) | (simp [Value.ownBlock] at e; omega)))).grown (grownBy_setCell _ (w2.heap.size + 1) 4 (.slice none 0 0)) (Or.inr (fun e => by first | (have h1 := (hob.out.blk e).1; omega) | (simp [Value.ownBlock] at e; done) | (simp [Value.ownBlock] at e; omega)))).grown (grownBy_setCell _ (w2.heap.size + 1) 5 (.slice none 0 0)) (Or.inr (fun e => by first | (have h1 := (hob.out.blk e).1; omega) | (simp [Value.ownBlock] at e; done) | (simp [Value.ownBlock] at e; omega))))
        replace hx := Aside.mk (((((((hx.out.setCell (b := w2.heap.size + 1) (o := 0) (by first | omega | (simp; omega)) nt.out (.int .i64 st)).setCell (b := w2.heap.size + 1) (o := 1) (by first | omega | (simp; omega)) nt.out (.int .i64 (C : Int))).setCell (b := w2.heap.size + 1) (o := 2) (by first | omega | (simp; omega)) nt.out (.slice Av acc.length cv)).setCell (b := w2.heap.size + 1) (o := 3) (by first | omega | (simp; omega)) nt.out (.slice (some ⟨w2.heap.size, 0, none⟩) n n)).setCell (b := w2.heap.size + 1) (o := 4) (by first | omega | (simp; omega)) nt.out (.slice none 0 0)).setCell (b := w2.heap.size + 1) (o := 5) (by first | omega | (simp; omega)) nt.out (.slice none 0 0)))
        generalize ((((((wk.setCell ⟨w2.heap.size + 1, 0, none⟩ (.int .i64 st)).setCell ⟨w2.heap.size + 1, 1, none⟩ (.int .i64 (C : Int))).setCell ⟨w2.heap.size + 1, 2, none⟩ (.slice Av acc.length cv)).setCell ⟨w2.heap.size + 1, 3, none⟩ (.slice (some ⟨w2.heap.size, 0, none⟩) n n)).setCell ⟨w2.heap.size + 1, 4, none⟩ (.slice none 0 0)).setCell ⟨w2.heap.size + 1, 5, none⟩ (.slice none 0 0)) = W16 at *
        replace kz := Aside.mk kz_
        clear kz_
        replace kt := Aside.mk kt_
        clear kt_
        go_wp2_with fail
        go_meet
        exact ⟨_, _, w2.heap.size + 1 + 1, _, _, _, rfl, by omega, by omega, by omega, by omega, by omega, by omega, hx, hL, had, kt, nt, hob, kz, nz⟩
      · have hL := Aside.mk (PH.le_refl H1)
        clear k5 l5 d0 d1 d2 d3 d4 d5 e0 e1 e2 e3 e4 e5 hn5
        clear hs1
        have es := Aside.mk (show w2.heap.size = w2.heap.size + 0 from rfl)
        have q_zT := boxL kz.out
        have hszT := hx.out.size
        rw [es.out] at q_zT hszT
        simp only [Nat.add_zero] at q_zT hszT
        have esT := es
        have es2 : (w2.alloc (.cells #[.int .i64 0, .int .i64 0, .slice none 0 0, .slice none 0 0, .slice none 0 0, .slice none 0 0] 85)).heap.size = w2.heap.size + 1 := by have h := es.out; first | (simp; done) | (simp; omega)
        have hszw2 := hx.out.size
        have habzw2 := boxL kz.out
        have kz_ : (w2.alloc (.cells #[.int .i64 0, .int .i64 0, .slice none 0 0, .slice none 0 0, .slice none 0 0, .slice none 0 0] 85)).heap[w.heap.size + 1]? = some (.cells #[.int .i64 0, .int .i64 0, .slice none 0 0, .slice none 0 0, .slice none 0 0, .slice none 0 0] 85) := (boxA kz.out (.cells #[.int .i64 0, .int .i64 0, .slice none 0 0, .slice none 0 0, .slice none 0 0, .slice none 0 0] 85))
        have kt_ : (w2.alloc (.cells #[.int .i64 0, .int .i64 0, .slice none 0 0, .slice none 0 0, .slice none 0 0, .slice none 0 0] 85)).heap[w2.heap.size]? = some (.cells #[.int .i64 0, .int .i64 0, .slice none 0 0, .slice none 0 0, .slice none 0 0, .slice none 0 0] 85) := (heap_alloc_new _ _)
        have nt := Aside.mk (fun o => hx.out.sat.new (b := w2.heap.size) (show w2.heap.size ≤ _ by omega) o)
        replace hx := Aside.mk ((hx.out.alloc (.cells #[.int .i64 0, .int .i64 0, .slice none 0 0, .slice none 0 0, .slice none 0 0, .slice none 0 0] 85)))
        generalize (w2.alloc (.cells #[.int .i64 0, .int .i64 0, .slice none 0 0, .slice none 0 0, .slice none 0 0, .slice none 0 0] 85)) = W17 at *
        replace kz := Aside.mk kz_
        clear kz_
        have kt := Aside.mk kt_
        clear kt_
        replace es := Aside.mk es2
        clear es2
        rw [show w2.heap.size = w2.heap.size from by have h := esT.out; first | exact h | (rw [h]; rfl) | omega] at kt nt
        clear esT
        replace es := Aside.mk (show W17.drew.heap.size = w2.heap.size + 1 from es.out)
        have kz_ : W17.drew.heap[w.heap.size + 1]? = some (.cells #[.int .i64 0, .int .i64 0, .slice none 0 0, .slice none 0 0, .slice none 0 0, .slice none 0 0] 85) := kz.out
        have kt_ : W17.drew.heap[w2.heap.size]? = some (.cells #[.int .i64 0, .int .i64 0, .slice none 0 0, .slice none 0 0, .slice none 0 0, .slice none 0 0] 85) := kt.out
        replace hx := Aside.mk ((hx.out.drew))
        generalize W17.drew = W18 at *
        replace kz := Aside.mk kz_
        clear kz_
        replace kt := Aside.mk kt_
        clear kt_
        have q_z := boxL kz.out
        have qes := es.out
        have q_t := boxL kt.out
        have hszc := hx.out.size
        replace kz := Aside.mk (box_below kz.out hb1)
        replace kt := Aside.mk (box_below kt.out hb1)
        replace hx := Aside.mk (hx.out.then_below hb1)
        clear hb1
        replace es := Aside.mk (show wk.heap.size = wk.heap.size + 0 from rfl)
        replace ho1 := Aside.mk ho1
        obtain ⟨H1, hx2, hle, ⟨A9, c9, e1, had⟩, hold⟩ := ho1.out.freezeE hx.out (by omega) (by have := OK.out; omega)
        cases e1
        replace h1 := Aside.mk (h1.out.mono hle)
        replace h2 := Aside.mk (h2.out.mono hle)
        replace hD := Aside.mk (hD.out.mono hle)
        replace hL := Aside.mk (hL.out.mono hle)
        replace Bd := Aside.mk (Bd.out.mono hle)
        replace nz := Aside.mk (fun o => (hold _ o (fun e => by have h1 := (ho1.out.blk e).1; omega)).trans (nz.out o))
        replace nt := Aside.mk (fun o => (hold _ o (fun e => by have h1 := (ho1.out.blk e).1; omega)).trans (nt.out o))
        replace hx := Aside.mk hx2
        replace had := Aside.mk had
        clear hle hold hx2
        clear qes
        have es2 : ((((((wk.setCell ⟨w2.heap.size, 0, none⟩ (.int .i64 st)).setCell ⟨w2.heap.size, 1, none⟩ (.int .i64 (C : Int))).setCell ⟨w2.heap.size, 2, none⟩ (.slice Av acc.length cv)).setCell ⟨w2.heap.size, 3, none⟩ (.slice (some ⟨wk.heap.size, 0, none⟩) n n)).setCell ⟨w2.heap.size, 4, none⟩ (.slice none 0 0)).setCell ⟨w2.heap.size, 5, none⟩ (.slice none 0 0)).heap.size = wk.heap.size + 0 := by have h := es.out; first | (simp [World.setCell]; done) | (simp [World.setCell]; omega)
        have kz_ : ((((((wk.setCell ⟨w2.heap.size, 0, none⟩ (.int .i64 st)).setCell ⟨w2.heap.size, 1, none⟩ (.int .i64 (C : Int))).setCell ⟨w2.heap.size, 2, none⟩ (.slice Av acc.length cv)).setCell ⟨w2.heap.size, 3, none⟩ (.slice (some ⟨wk.heap.size, 0, none⟩) n n)).setCell ⟨w2.heap.size, 4, none⟩ (.slice none 0 0)).setCell ⟨w2.heap.size, 5, none⟩ (.slice none 0 0)).heap[w.heap.size + 1]? = some (.cells #[.int .i64 0, .int .i64 0, .slice none 0 0, .slice none 0 0, .slice none 0 0, .slice none 0 0] 85) := (boxS_ne (boxS_ne (boxS_ne (boxS_ne (boxS_ne (boxS_ne kz.out (by first | omega | (simp; omega)) 0 (.int .i64 st)) (by first | omega | (simp; omega)) 1 (.int .i64 (C : Int))) (by first | omega | (simp; omega)) 2 (.slice Av acc.length cv)) (by first | omega | (simp; omega)) 3 (.slice (some ⟨wk.heap.size, 0, none⟩) n n)) (by first | omega | (simp; omega)) 4 (.slice none 0 0)) (by first | omega | (simp; omega)) 5 (.slice none 0 0))
        have kt_ : ((((((wk.setCell ⟨w2.heap.size, 0, none⟩ (.int .i64 st)).setCell ⟨w2.heap.size, 1, none⟩ (.int .i64 (C : Int))).setCell ⟨w2.heap.size, 2, none⟩ (.slice Av acc.length cv)).setCell ⟨w2.heap.size, 3, none⟩ (.slice (some ⟨wk.heap.size, 0, none⟩) n n)).setCell ⟨w2.heap.size, 4, none⟩ (.slice none 0 0)).setCell ⟨w2.heap.size, 5, none⟩ (.slice none 0 0)).heap[w2.heap.size]? = some (.cells #[.int .i64 st, .int .i64 (C : Int), .slice Av acc.length cv, .slice (some ⟨wk.heap.size, 0, none⟩) n n, .slice none 0 0, .slice none 0 0] 85) := (boxS (boxS (boxS (boxS (boxS (boxS kt.out 0 (.int .i64 st)) 1 (.int .i64 (C : Int))) 2 (.slice Av acc.length cv)) 3 (.slice (some ⟨wk.heap.size, 0, none⟩) n n)) 4 (.slice none 0 0)) 5 (.slice none 0 0))
        replace hx := Aside.mk (((((((hx.out.setCell (b := w2.heap.size) (o := 0) (by first | omega | (simp; omega)) nt.out (.int .i64 st)).setCell (b := w2.heap.size) (o := 1) (by first | omega | (simp; omega)) nt.out (.int .i64 (C : Int))).setCell (b := w2.heap.size) (o := 2) (by first | omega | (simp; omega)) nt.out (.slice Av acc.length cv)).setCell (b := w2.heap.size) (o := 3) (by first | omega | (simp; omega)) nt.out (.slice (some ⟨wk.heap.size, 0, none⟩) n n)).setCell (b := w2.heap.size) (o := 4) (by first | omega | (simp; omega)) nt.out (.slice none 0 0)).setCell (b := w2.heap.size) (o := 5) (by first | omega | (simp; omega)) nt.out (.slice none 0 0)))
        generalize ((((((wk.setCell ⟨w2.heap.size, 0, none⟩ (.int .i64 st)).setCell ⟨w2.heap.size, 1, none⟩ (.int .i64 (C : Int))).setCell ⟨w2.heap.size, 2, none⟩ (.slice Av acc.length cv)).setCell ⟨w2.heap.size, 3, none⟩ (.slice (some ⟨wk.heap.size, 0, none⟩) n n)).setCell ⟨w2.heap.size, 4, none⟩ (.slice none 0 0)).setCell ⟨w2.heap.size, 5, none⟩ (.slice none 0 0)) = W19 at *
        replace kz := Aside.mk kz_
        clear kz_
        replace kt := Aside.mk kt_
        clear kt_
        replace es := Aside.mk es2
        clear es2
        have q_zM := boxL kz.out
        have hszM := hx.out.size
        have q_tM := boxL kt.out
        have hob := Aside.mk (own_mk (k := kI .i64) (e := 3) (base := w.heap.size) hx.out.sat (z := .int .i64 0) (y := 0) rfl rfl n (by unfold maxLen; omega) hszM)
        replace kz := Aside.mk (boxA kz.out (.cells (madeCells #[.int .i64 0] n) 3))
        replace kt := Aside.mk (boxA kt.out (.cells (madeCells #[.int .i64 0] n) 3))
        replace hx := Aside.mk (hx.out.alloc (.cells (madeCells #[.int .i64 0] n) 3))
        rw [es.out] at hob q_zM hszM q_tM
        simp only [Nat.add_zero] at hob q_zM hszM q_tM
        have es2 : (W19.alloc (.cells (madeCells #[.int .i64 0] n) 3)).heap.size = wk.heap.size + 1 := by have h := es.out; first | (simp; done) | (simp; omega)
        generalize W19.alloc (.cells (madeCells #[.int .i64 0] n) 3) = W20 at *
        replace es := Aside.mk es2
        clear es2
        go_wp2_with fail
        go_meet
        exact ⟨_, _, wk.heap.size + 1, _, _, _, rfl, by omega, by omega, by omega, by omega, by omega, by omega, hx, hL, had, kt, nt, hob, kz, nz⟩
      · have hL := Aside.mk (PH.le_refl H1)
        clear k5 l5 d0 d1 d2 d3 d4 d5 e0 e1 e2 e3 e4 e5 hn5
        clear hs1
        have es := Aside.mk (show w2.heap.size = w2.heap.size + 0 from rfl)
        have q_zT := boxL kz.out
        have hszT := hx.out.size
        rw [es.out] at q_zT hszT
        simp only [Nat.add_zero] at q_zT hszT
        have esT := es
        have es2 : (w2.alloc (.cells #[.int .i64 0, .int .i64 0, .slice none 0 0, .slice none 0 0, .slice none 0 0, .slice none 0 0] 85)).heap.size = w2.heap.size + 1 := by have h := es.out; first | (simp; done) | (simp; omega)
        have hszw2 := hx.out.size
        have habzw2 := boxL kz.out
        have kz_ : (w2.alloc (.cells #[.int .i64 0, .int .i64 0, .slice none 0 0, .slice none 0 0, .slice none 0 0, .slice none 0 0] 85)).heap[w.heap.size + 1]? = some (.cells #[.int .i64 0, .int .i64 0, .slice none 0 0, .slice none 0 0, .slice none 0 0, .slice none 0 0] 85) := (boxA kz.out (.cells #[.int .i64 0, .int .i64 0, .slice none 0 0, .slice none 0 0, .slice none 0 0, .slice none 0 0] 85))
        have kt_ : (w2.alloc (.cells #[.int .i64 0, .int .i64 0, .slice none 0 0, .slice none 0 0, .slice none 0 0, .slice none 0 0] 85)).heap[w2.heap.size]? = some (.cells #[.int .i64 0, .int .i64 0, .slice none 0 0, .slice none 0 0, .slice none 0 0, .slice none 0 0] 85) := (heap_alloc_new _ _)
        have nt := Aside.mk (fun o => hx.out.sat.new (b := w2.heap.size) (show w2.heap.size ≤ _ by omega) o)
        replace hx := Aside.mk ((hx.out.alloc (.cells #[.int .i64 0, .int .i64 0, .slice none 0 0, .slice none 0 0, .slice none 0 0, .slice none 0 0] 85)))
        generalize (w2.alloc (.cells #[.int .i64 0, .int .i64 0, .slice none 0 0, .slice none 0 0, .slice none 0 0, .slice none 0 0] 85)) = W21 at *
        replace kz := Aside.mk kz_
        clear kz_
        have kt := Aside.mk kt_
        clear kt_
        replace es := Aside.mk es2
        clear es2
        rw [show w2.heap.size = w2.heap.size from by have h := esT.out; first | exact h | (rw [h]; rfl) | omega] at kt nt
        clear esT
        have q_zM := boxL kz.out
        have hszM := hx.out.size
        have q_tM := boxL kt.out
        have hob := Aside.mk (own_mk (k := kI .i64) (e := 3) (base := w.heap.size) hx.out.sat (z := .int .i64 0) (y := 0) rfl rfl n (by unfold maxLen; omega) hszM)
        replace kz := Aside.mk (boxA kz.out (.cells (madeCells #[.int .i64 0] n) 3))
        replace kt := Aside.mk (boxA kt.out (.cells (madeCells #[.int .i64 0] n) 3))
        replace hx := Aside.mk (hx.out.alloc (.cells (madeCells #[.int .i64 0] n) 3))
        rw [es.out] at hob q_zM hszM q_tM
        have es2 : (W21.alloc (.cells (madeCells #[.int .i64 0] n) 3)).heap.size = w2.heap.size + 2 := by have h := es.out; first | (simp; done) | (simp; omega)
        generalize W21.alloc (.cells (madeCells #[.int .i64 0] n) 3) = W22 at *
        replace es := Aside.mk es2
        clear es2
        replace es := Aside.mk (show W22.drew.heap.size = w2.heap.size + 2 from es.out)
        have kz_ : W22.drew.heap[w.heap.size + 1]? = some (.cells #[.int .i64 0, .int .i64 0, .slice none 0 0, .slice none 0 0, .slice none 0 0, .slice none 0 0] 85) := kz.out
        have kt_ : W22.drew.heap[w2.heap.size]? = some (.cells #[.int .i64 0, .int .i64 0, .slice none 0 0, .slice none 0 0, .slice none 0 0, .slice none 0 0] 85) := kt.out
        replace hob := Aside.mk (hob.out.drew)
        replace hx := Aside.mk ((hx.out.drew))
        generalize W22.drew = W23 at *
        replace kz := Aside.mk kz_
        clear kz_
        replace kt := Aside.mk kt_
        clear kt_
        have q_z := boxL kz.out
        have qes := es.out
        have q_t := boxL kt.out
        have q_m := (hob.out.blk (b := w2.heap.size + 1) rfl).2.1
        have hszc := hx.out.size
        replace kz := Aside.mk (box_below kz.out hb1)
        replace kt := Aside.mk (box_below kt.out hb1)
        replace hob := Aside.mk (hob.out.below hx.out.sat hb1)
        replace hx := Aside.mk (hx.out.then_below hb1)
        clear hb1
        replace es := Aside.mk (show wk.heap.size = wk.heap.size + 0 from rfl)
        replace ho1 := Aside.mk ho1
        have ap_b_a := Aside.mk (ho1.out.apart_lo (b := w2.heap.size + 1) (n := n) (c := n) (by omega))
        obtain ⟨H1, hx2, hle, ⟨A9, c9, e1, had⟩, hold⟩ := ho1.out.freezeE hx.out (by omega) (by have := OK.out; omega)
        cases e1
        replace h1 := Aside.mk (h1.out.mono hle)
        replace h2 := Aside.mk (h2.out.mono hle)
        replace hD := Aside.mk (hD.out.mono hle)
        replace hL := Aside.mk (hL.out.mono hle)
        replace Bd := Aside.mk (Bd.out.mono hle)
        replace nz := Aside.mk (fun o => (hold _ o (fun e => by have h1 := (ho1.out.blk e).1; omega)).trans (nz.out o))
        replace nt := Aside.mk (fun o => (hold _ o (fun e => by have h1 := (ho1.out.blk e).1; omega)).trans (nt.out o))
        replace hob := Aside.mk (hob.out.keep hle fun bb hb => ⟨rfl, fun o => (hold bb o (fun e => ap_b_a.out.elim (fun h => by rw [h] at hb; cases hb) (fun h => h (hb.trans e.symm)))).trans ((hob.out.blk hb).2.2 o)⟩)
        replace hx := Aside.mk hx2
        replace had := Aside.mk had
        clear hle hold hx2
        clear qes
        have hne9 : w2.heap.size ≠ w2.heap.size + 1 := by omega
        have kz_ : ((((((wk.setCell ⟨w2.heap.size, 0, none⟩ (.int .i64 st)).setCell ⟨w2.heap.size, 1, none⟩ (.int .i64 (C : Int))).setCell ⟨w2.heap.size, 2, none⟩ (.slice Av acc.length cv)).setCell ⟨w2.heap.size, 3, none⟩ (.slice (some ⟨w2.heap.size + 1, 0, none⟩) n n)).setCell ⟨w2.heap.size, 4, none⟩ (.slice none 0 0)).setCell ⟨w2.heap.size, 5, none⟩ (.slice none 0 0)).heap[w.heap.size + 1]? = some (.cells #[.int .i64 0, .int .i64 0, .slice none 0 0, .slice none 0 0, .slice none 0 0, .slice none 0 0] 85) := (boxS_ne (boxS_ne (boxS_ne (boxS_ne (boxS_ne (boxS_ne kz.out (by first | omega | (simp; omega)) 0 (.int .i64 st)) (by first | omega | (simp; omega)) 1 (.int .i64 (C : Int))) (by first | omega | (simp; omega)) 2 (.slice Av acc.length cv)) (by first | omega | (simp; omega)) 3 (.slice (some ⟨w2.heap.size + 1, 0, none⟩) n n)) (by first | omega | (simp; omega)) 4 (.slice none 0 0)) (by first | omega | (simp; omega)) 5 (.slice none 0 0))
        have kt_ : ((((((wk.setCell ⟨w2.heap.size, 0, none⟩ (.int .i64 st)).setCell ⟨w2.heap.size, 1, none⟩ (.int .i64 (C : Int))).setCell ⟨w2.heap.size, 2, none⟩ (.slice Av acc.length cv)).setCell ⟨w2.heap.size, 3, none⟩ (.slice (some ⟨w2.heap.size + 1, 0, none⟩) n n)).setCell ⟨w2.heap.size, 4, none⟩ (.slice none 0 0)).setCell ⟨w2.heap.size, 5, none⟩ (.slice none 0 0)).heap[w2.heap.size]? = some (.cells #[.int .i64 st, .int .i64 (C : Int), .slice Av acc.length cv, .slice (some ⟨w2.heap.size + 1, 0, none⟩) n n, .slice none 0 0, .slice none 0 0] 85) := (boxS (boxS (boxS (boxS (boxS (boxS kt.out 0 (.int .i64 st)) 1 (.int .i64 (C : Int))) 2 (.slice Av acc.length cv)) 3 (.slice (some ⟨w2.heap.size + 1, 0, none⟩) n n)) 4 (.slice none 0 0)) 5 (.slice none 0 0))
        replace hob := Aside.mk ((((((hob.out.grown (grownBy_setCell _ (w2.heap.size) 0 (.int .i64 st)) (Or.inr (fun e => by first | (have h1 := (hob.out.blk e).1; omega) | (simp [Value.ownBlock] at e; done) | (simp [Value.ownBlock] at e; omega)))).grown (grownBy_setCell _ (w2.heap.size) 1 (.int .i64 (C : Int))) (Or.inr (fun e => by first | (have h1 := (hob.out.blk e).1; omega) | (simp [Value.ownBlock] at e; done) | (simp [Value.ownBlock] at e; omega)))).grown (grownBy_setCell _ (w2.heap.size) 2 (.slice Av acc.length cv)) (Or.inr (fun e => by first | (have h1 := (hob.out.blk e).1; omega) | (simp [Value.ownBlock] at e; done) | (simp [Value.ownBlock] at e; omega)))).grown (grownBy_setCell _ (w2.heap.size) 3 (.slice (some ⟨w2.heap.size + 1, 0, none⟩) n n)) (Or.inr (fun e => by first | (have h1 := (hob.out.blk e).1; omega) | (simp [Value.ownBlock] at e; done) | (simp [Value.ownBlock] at e; omega)))).grown (grownBy_setCell _ (w2.heap.size) 4 (.slice none 0 0)) (Or.inr (fun e => by first | (have h1 := (hob.out.blk e).1; omega) | (simp [Value.ownBlock] at e; done) | (simp [Value.ownBlock] at e; omega)))).grown (grownBy_setCell _ (w2.heap.size) 5 (.slice none 0 0)) (Or.inr (fun e => by first | (have h1 := (hob.out.blk e).1; omega) | (simp [Value.ownBlock] at e; done) | (simp [Value.ownBlock] at e; omega))))
        replace hx := Aside.mk (((((((hx.out.setCell (b := w2.heap.size) (o := 0) (by first | omega | (simp; omega)) nt.out (.int .i64 st)).setCell (b := w2.heap.size) (o := 1) (by first | omega | (simp; omega)) nt.out (.int .i64 (C : Int))).setCell (b := w2.heap.size) (o := 2) (by first | omega | (simp; omega)) nt.out (.slice Av acc.length cv)).setCell (b := w2.heap.size) (o := 3) (by first | omega | (simp; omega)) nt.out (.slice (some ⟨w2.heap.size + 1, 0, none⟩) n n)).setCell (b := w2.heap.size) (o := 4) (by first | omega | (simp; omega)) nt.out (.slice none 0 0)).setCell (b := w2.heap.size) (o := 5) (by first | omega | (simp; omega)) nt.out (.slice none 0 0)))
        generalize ((((((wk.setCell ⟨w2.heap.size, 0, none⟩ (.int .i64 st)).setCell ⟨w2.heap.size, 1, none⟩ (.int .i64 (C : Int))).setCell ⟨w2.heap.size, 2, none⟩ (.slice Av acc.length cv)).setCell ⟨w2.heap.size, 3, none⟩ (.slice (some ⟨w2.heap.size + 1, 0, none⟩) n n)).setCell ⟨w2.heap.size, 4, none⟩ (.slice none 0 0)).setCell ⟨w2.heap.size, 5, none⟩ (.slice none 0 0)) = W24 at *
        replace kz := Aside.mk kz_
        clear kz_
        replace kt := Aside.mk kt_
        clear kt_
        go_wp2_with fail
        go_meet
        exact ⟨_, _, w2.heap.size + 1 + 1, _, _, _, rfl, by omega, by omega, by omega, by omega, by omega, by omega, hx, hL, had, kt, nt, hob, kz, nz⟩
    case rest =>
      clear hx kz nz HS2 hbd hmk R0
      obtain ⟨g, gb, M, A, c, Hn, rfl, hzg, hzb, hgM, hbM, hMM, hgb, hx, hL, ha, kt, nt, hob, kz, nz⟩ := hcut
      replace h1 := Aside.mk (h1.out.mono hL.out)
      replace h2 := Aside.mk (h2.out.mono hL.out)
      replace hD := Aside.mk (hD.out.mono hL.out)
      replace Bd := Aside.mk (Bd.out.mono hL.out)
      clear hL
      have hn9 := HN.out.1
      subst hn9
      have lqt : g < wc.heap.size := boxL kt.out
      obtain ⟨⟨ct0, ct1, ct2, ct3, ct4, ct5⟩, ft0, ft1, ft2, ft3, ft4, ft5⟩ := kb6 kt.out
      have lqz : w.heap.size + 1 < wc.heap.size := boxL kz.out
      obtain ⟨⟨cz0, cz1, cz2, cz3, cz4, cz5⟩, fz0, fz1, fz2, fz3, fz4, fz5⟩ := kb6 kz.out
      have lqd : w.heap.size < wc.heap.size := hx.out.sat.lt (Bd.out 0 _ rfl)
      have cd0 : wc.cell? ⟨w.heap.size, 0, none⟩ = some (.int .i64 st) := hx.out.sat _ _ _ (Bd.out 0 _ rfl)
      have cd1 : wc.cell? ⟨w.heap.size, 1, none⟩ = some (.slice A1 acc.length c1) := hx.out.sat _ _ _ (Bd.out 1 _ rfl)
      have cd2 : wc.cell? ⟨w.heap.size, 2, none⟩ = some (.slice (some ⟨b2, off2, none⟩) next.length c2) := hx.out.sat _ _ _ (Bd.out 2 _ rfl)
      go_wp2_with fail
      clear lqt ct0 ct1 ct2 ct3 ct4 ct5 ft0 ft1 ft2 ft3 ft4 ft5 lqz cz0 cz1 cz2 cz3 cz4 cz5 fz0 fz1 fz2 fz3 fz4 fz5 lqd cd0 cd1 cd2
      go_loopw [6, 36] (fun s6 s36 wr => ∃ (k : Nat) (A5 : Option Addr) (l5 c5 : Nat) (Hk : PH), k ≤ next.length ∧ s36 = .int .i64 k ∧ s6 = .slice A5 l5 c5 ∧ Aside (Ext H Hk w wr) ∧ Aside (SlR (kI .i64) Hk A1 acc.length c1 acc) ∧ Aside (SlR (kS (kI .i64)) Hk (some ⟨b2, off2, none⟩) next.length c2 next) ∧ Aside (DfaH Hk w.heap.size st acc next A1 (some ⟨b2, off2, none⟩) c1 c2) ∧ Aside (SlR (kI .i64) Hk A acc.length c acc) ∧ Aside (BoxH Hk (w.heap.size) [.int .i64 st, .slice A1 acc.length c1, .slice (some ⟨b2, off2, none⟩) next.length c2]) ∧ Aside (wr.heap[g]? = some (.cells #[.int .i64 st, .int .i64 (C : Int), .slice A acc.length c, .slice (some ⟨gb, 0, none⟩) next.length next.length, .slice none 0 0, .slice none 0 0] 85)) ∧ Aside (∀ o, Hk (g) o = none) ∧ Aside (wr.heap[w.heap.size + 1]? = some (.cells #[.int .i64 0, .int .i64 0, .slice none 0 0, .slice none 0 0, .slice none 0 0, .slice none 0 0] 85)) ∧ Aside (∀ o, Hk (w.heap.size + 1) o = none) ∧ Aside (Own (kI .i64) 3 wr (w.heap.size) Hk (.slice (some ⟨gb, 0, none⟩) next.length next.length) (List.replicate next.length 0)) ∧ Aside (Own (kI .i64) 3 wr (M) Hk (.slice A5 l5 c5) (rangeI k))) (fun _ s36 _ => next.length - (intOf s36).toNat)
      case atStart => exact ⟨0, none, 0, 0, _, by omega, rfl, rfl, hx, h1, h2, hD, ha, Bd, kt, nt, kz, nz, ⟨by simpa using hob.out⟩, ⟨by simpa [rangeI] using Own.nil _ _ _ _ _⟩⟩
      case round =>
        clear hx h1 h2 hD ha Bd kt nt kz nz hob
        obtain ⟨k, A5, l5, c5, Hk, hk, rfl, rfl, hx, h1, h2, hD, ha, Bd, kt, nt, kz, nz, hob, ho⟩ := hrel
        by_cases hlt : k < next.length
        case pos =>
          have hli : (k : Int) < (next.length : Int) := by omega
          have hMa : M ≤ wr.heap.size := by have h1 := boxL kt.out; have h2 := (hob.out.blk (b := gb) rfl).2.1; omega
          have ap_b_o := Aside.mk (ho.out.apart_lo (b := gb) (n := next.length) (c := next.length) hbM)
          have lqt : g < wr.heap.size := boxL kt.out
          obtain ⟨⟨ct0, ct1, ct2, ct3, ct4, ct5⟩, ft0, ft1, ft2, ft3, ft4, ft5⟩ := kb6 kt.out
          have lqz : w.heap.size + 1 < wr.heap.size := boxL kz.out
          obtain ⟨⟨cz0, cz1, cz2, cz3, cz4, cz5⟩, fz0, fz1, fz2, fz3, fz4, fz5⟩ := kb6 kz.out
          have lqd : w.heap.size < wr.heap.size := hx.out.sat.lt (Bd.out 0 _ rfl)
          have cd0 : wr.cell? ⟨w.heap.size, 0, none⟩ = some (.int .i64 st) := hx.out.sat _ _ _ (Bd.out 0 _ rfl)
          have cd1 : wr.cell? ⟨w.heap.size, 1, none⟩ = some (.slice A1 acc.length c1) := hx.out.sat _ _ _ (Bd.out 1 _ rfl)
          have cd2 : wr.cell? ⟨w.heap.size, 2, none⟩ = some (.slice (some ⟨b2, off2, none⟩) next.length c2) := hx.out.sat _ _ _ (Bd.out 2 _ rfl)
          go_upto_region 10 with (at_builtin; go_must (refine wpList_app1 (kI .i64) rfl (.tmp 39) (.tmp 41) 26 rfl 3 Try.underlying26 infoQ2 rfl ho.out hx.out.sat rfl rfl rfl (y := (k : Int)) rfl (by rw [rangeI_len]; omega) (by unfold maxLen; rw [rangeI_len]; omega) hMa ?_); intro v9 w9 ho9 hg9 hs9 hn9; obtain ⟨A9, c9, e9, -, -, -, -⟩ := ho9.form; generalize (rangeI k ++ [(k : Int)]).length = l9 at e9; subst e9)
          clear lqt ct0 ct1 ct2 ct3 ct4 ct5 ft0 ft1 ft2 ft3 ft4 ft5 lqz cz0 cz1 cz2 cz3 cz4 cz5 fz0 fz1 fz2 fz3 fz4 fz5 lqd cd0 cd1 cd2
          replace kt := Aside.mk (boxG kt.out hg9 (fun e => by have h1 := (ho.out.blk e).1; omega))
          replace kz := Aside.mk (boxG kz.out hg9 (fun e => by have h1 := (ho.out.blk e).1; omega))
          replace hx := Aside.mk (ho.out.extG hx.out (by omega) hg9)
          replace hob := Aside.mk (hob.out.grown_apart ap_b_o.out hg9)
          replace ho := Aside.mk ho9
          clear ho9 hg9 hs9 hn9
          replace ho := Aside.mk (show Own (kI .i64) 3 w9 M Hk (.slice A9 l9 c9) (rangeI (k + 1)) from by rw [rangeI_succ]; exact ho.out)
          clear hMa
          have lqt : g < w9.heap.size := boxL kt.out
          obtain ⟨⟨ct0, ct1, ct2, ct3, ct4, ct5⟩, ft0, ft1, ft2, ft3, ft4, ft5⟩ := kb6 kt.out
          have lqz : w.heap.size + 1 < w9.heap.size := boxL kz.out
          obtain ⟨⟨cz0, cz1, cz2, cz3, cz4, cz5⟩, fz0, fz1, fz2, fz3, fz4, fz5⟩ := kb6 kz.out
          have lqd : w.heap.size < w9.heap.size := hx.out.sat.lt (Bd.out 0 _ rfl)
          have cd0 : w9.cell? ⟨w.heap.size, 0, none⟩ = some (.int .i64 st) := hx.out.sat _ _ _ (Bd.out 0 _ rfl)
          have cd1 : w9.cell? ⟨w.heap.size, 1, none⟩ = some (.slice A1 acc.length c1) := hx.out.sat _ _ _ (Bd.out 1 _ rfl)
          have cd2 : w9.cell? ⟨w.heap.size, 2, none⟩ = some (.slice (some ⟨b2, off2, none⟩) next.length c2) := hx.out.sat _ _ _ (Bd.out 2 _ rfl)
          go_wp2_with fail
          clear lqt ct0 ct1 ct2 ct3 ct4 ct5 ft0 ft1 ft2 ft3 ft4 ft5 lqz cz0 cz1 cz2 cz3 cz4 cz5 fz0 fz1 fz2 fz3 fz4 fz5 lqd cd0 cd1 cd2
          go_roundw
          case rel => exact ⟨k + 1, A9, l9, c9, _, by omega, by go_num, rfl, hx, h1, h2, hD, ha, Bd, kt, nt, kz, nz, hob, ho⟩
          case measure => (first | (simp [intOf]; done) | (simp [intOf]; omega))
        case neg =>
          have hli : ¬ (k : Int) < (next.length : Int) := by omega
          have hke : next.length = k := by omega
          subst hke
          have lqt : g < wr.heap.size := boxL kt.out
          obtain ⟨⟨ct0, ct1, ct2, ct3, ct4, ct5⟩, ft0, ft1, ft2, ft3, ft4, ft5⟩ := kb6 kt.out
          have lqz : w.heap.size + 1 < wr.heap.size := boxL kz.out
          obtain ⟨⟨cz0, cz1, cz2, cz3, cz4, cz5⟩, fz0, fz1, fz2, fz3, fz4, fz5⟩ := kb6 kz.out
          have lqd : w.heap.size < wr.heap.size := hx.out.sat.lt (Bd.out 0 _ rfl)
          have cd0 : wr.cell? ⟨w.heap.size, 0, none⟩ = some (.int .i64 st) := hx.out.sat _ _ _ (Bd.out 0 _ rfl)
          have cd1 : wr.cell? ⟨w.heap.size, 1, none⟩ = some (.slice A1 acc.length c1) := hx.out.sat _ _ _ (Bd.out 1 _ rfl)
          have cd2 : wr.cell? ⟨w.heap.size, 2, none⟩ = some (.slice (some ⟨b2, off2, none⟩) next.length c2) := hx.out.sat _ _ _ (Bd.out 2 _ rfl)
          go_wp2_with fail
          clear lqt ct0 ct1 ct2 ct3 ct4 ct5 ft0 ft1 ft2 ft3 ft4 ft5 lqz cz0 cz1 cz2 cz3 cz4 cz5 fz0 fz1 fz2 fz3 fz4 fz5 lqd cd0 cd1 cd2
          have hMb : M ≤ wr.heap.size := by have h1 := boxL kt.out; have h2 := (hob.out.blk (b := gb) rfl).2.1; omega
          have ap_b_o := Aside.mk (ho.out.apart_lo (b := gb) (n := next.length) (c := next.length) hbM)
          refine (sortStable_any (keyF next) next.length w.heap.size 3 M _ (rangeI next.length) _ _ (packCmp_ok hD.out (by omega) (dfaErr_row hte.out)) hx.out.sat (rangeI_inc _) (fun x hx => rangeI_mem.1 hx) (by rw [rangeI_len]; omega) (by rw [rangeI_len]; omega) ho.out).mono ?_
          rintro e w7 ⟨rfl, ord, hperm, hsrt, ho7, hg7⟩
          replace kt := Aside.mk (boxG kt.out hg7 (fun e => by have h1 := (ho.out.blk e).1; omega))
          replace kz := Aside.mk (boxG kz.out hg7 (fun e => by have h1 := (ho.out.blk e).1; omega))
          replace hx := Aside.mk (ho.out.extG hx.out (by omega) hg7)
          replace hob := Aside.mk (hob.out.grown_apart ap_b_o.out hg7)
          replace ho := Aside.mk ho7
          clear ho7 hg7
          have hol : ord.length = next.length := by rw [hperm.length_eq, rangeI_len]
          obtain ⟨H1, hx2, hle, ⟨A6, c6, e1, hord⟩, hold⟩ := ho.out.freezeE hx.out (by omega) (by omega)
          cases e1
          replace h1 := Aside.mk (h1.out.mono hle)
          replace h2 := Aside.mk (h2.out.mono hle)
          replace hD := Aside.mk (hD.out.mono hle)
          replace ha := Aside.mk (ha.out.mono hle)
          replace Bd := Aside.mk (Bd.out.mono hle)
          replace nt := Aside.mk (fun o => (hold _ o (fun e => by have h1 := (ho.out.blk e).1; omega)).trans (nt.out o))
          replace nz := Aside.mk (fun o => (hold _ o (fun e => by have h1 := (ho.out.blk e).1; omega)).trans (nz.out o))
          replace hob := Aside.mk (hob.out.keep hle fun bb hb => ⟨rfl, fun o => (hold bb o (fun e => ap_b_o.out.elim (fun h => by rw [h] at hb; cases hb) (fun h => h (hb.trans e.symm)))).trans ((hob.out.blk hb).2.2 o)⟩)
          replace hx := Aside.mk hx2
          replace hord := Aside.mk hord
          clear hle hold hx2
          have HO := Aside.mk (And.intro hperm (And.intro hsrt hol))
          clear hperm hsrt hMb ap_b_o
          have hol2 : ord.length ≤ 200 := by omega
          clear hol
          have lqt : g < w7.heap.size := boxL kt.out
          obtain ⟨⟨ct0, ct1, ct2, ct3, ct4, ct5⟩, ft0, ft1, ft2, ft3, ft4, ft5⟩ := kb6 kt.out
          have lqz : w.heap.size + 1 < w7.heap.size := boxL kz.out
          obtain ⟨⟨cz0, cz1, cz2, cz3, cz4, cz5⟩, fz0, fz1, fz2, fz3, fz4, fz5⟩ := kb6 kz.out
          have lqd : w.heap.size < w7.heap.size := hx.out.sat.lt (Bd.out 0 _ rfl)
          have cd0 : w7.cell? ⟨w.heap.size, 0, none⟩ = some (.int .i64 st) := hx.out.sat _ _ _ (Bd.out 0 _ rfl)
          have cd1 : w7.cell? ⟨w.heap.size, 1, none⟩ = some (.slice A1 acc.length c1) := hx.out.sat _ _ _ (Bd.out 1 _ rfl)
          have cd2 : w7.cell? ⟨w.heap.size, 2, none⟩ = some (.slice (some ⟨b2, off2, none⟩) next.length c2) := hx.out.sat _ _ _ (Bd.out 2 _ rfl)
          go_wp2_with fail
          clear lqt ct0 ct1 ct2 ct3 ct4 ct5 ft0 ft1 ft2 ft3 ft4 ft5 lqz cz0 cz1 cz2 cz3 cz4 cz5 fz0 fz1 fz2 fz3 fz4 fz5 lqd cd0 cd1 cd2
          replace hob := Aside.mk (show Own (kI .i64) 3 w7 w.heap.size H1 (.slice (some ⟨gb, 0, none⟩) next.length next.length) (packGo next []).1 from by simpa [packGo] using hob.out)
          go_loopw [49] (fun s49 wr => ∃ (q : Nat) (Au : Option Addr) (lu cu : Nat) (Av : Option Addr) (lv cv : Nat) (Hk : PH), q ≤ ord.length ∧ s49 = .int .i64 q ∧ Aside (Apart (.slice Au lu cu) (.slice Av lv cv)) ∧ Aside (Ext H Hk w wr) ∧ Aside (SlR (kI .i64) Hk A1 acc.length c1 acc) ∧ Aside (SlR (kS (kI .i64)) Hk (some ⟨b2, off2, none⟩) next.length c2 next) ∧ Aside (DfaH Hk w.heap.size st acc next A1 (some ⟨b2, off2, none⟩) c1 c2) ∧ Aside (SlR (kI .i64) Hk A acc.length c acc) ∧ Aside (SlR (kI .i64) Hk A5 ord.length c5 ord) ∧ Aside (BoxH Hk (w.heap.size) [.int .i64 st, .slice A1 acc.length c1, .slice (some ⟨b2, off2, none⟩) next.length c2]) ∧ Aside (wr.heap[g]? = some (.cells #[.int .i64 st, .int .i64 (C : Int), .slice A acc.length c, .slice (some ⟨gb, 0, none⟩) next.length next.length, .slice Au lu cu, .slice Av lv cv] 85)) ∧ Aside (∀ o, Hk (g) o = none) ∧ Aside (wr.heap[w.heap.size + 1]? = some (.cells #[.int .i64 0, .int .i64 0, .slice none 0 0, .slice none 0 0, .slice none 0 0, .slice none 0 0] 85)) ∧ Aside (∀ o, Hk (w.heap.size + 1) o = none) ∧ Aside (Own (kI .i64) 3 wr (w.heap.size) Hk (.slice (some ⟨gb, 0, none⟩) next.length next.length) ((packGo next (ord.take q)).1)) ∧ Aside (Own (kI .i64) 3 wr (M) Hk (.slice Au lu cu) ((packGo next (ord.take q)).2.1)) ∧ Aside (Own (kI .i64) 3 wr (M) Hk (.slice Av lv cv) ((packGo next (ord.take q)).2.2))) (fun s49 _ => ord.length - (intOf s49).toNat)
          case atStart => exact ⟨0, none, 0, 0, none, 0, 0, _, by omega, rfl, ⟨Or.inl rfl⟩, hx, h1, h2, hD, ha, hord, Bd, kt, nt, kz, nz, ⟨by simpa using hob.out⟩, ⟨by simpa [packGo] using Own.nil _ _ _ _ _⟩, ⟨by simpa [packGo] using Own.nil _ _ _ _ _⟩⟩
          case round =>
            clear hx h1 h2 hD ha hord Bd kt nt kz nz hob
            obtain ⟨q, Au, lu, cu, Av, lv, cv, Hk, hq, rfl, ap_u_v, hx, h1, h2, hD, ha, hord, Bd, kt, nt, kz, nz, hob, hu, hv⟩ := hrel
            by_cases hlt : q < ord.length
            case pos =>
              have hli : (q : Int) < (ord.length : Int) := by omega
              obtain ⟨wo, rfl⟩ : ∃ wo : World, wo = wr := ⟨_, rfl⟩
              obtain ⟨bo, oo, cs5, eo, hro, hco⟩ := hord.out.row q hlt
              subst eo
              obtain ⟨s, hs_⟩ : ∃ s, s = ord[q] := ⟨_, rfl⟩
              have hco0 := hco 0 _ (by rw [show cs5 = [.int .i64 ord[q]] from hro]; rfl)
              rw [← hs_] at hco0
              simp only [kI, Nat.mul_one, Nat.add_zero] at hco0
              have hsr : 0 ≤ s ∧ s < next.length := rangeI_mem.1 (HO.out.1.mem_iff.1 (by rw [hs_]; exact List.getElem_mem hlt))
              obtain ⟨i, rfl⟩ : ∃ i : Nat, s = (i : Int) := ⟨s.toNat, by omega⟩
              obtain ⟨b3, off3, Ai, ci, e3, hri, hci⟩ := hD.out.row i (by omega)
              simp only [Option.some.injEq, Addr.mk.injEq, and_true] at e3
              obtain ⟨rfl, rfl⟩ := e3
              obtain ⟨ri, hri_⟩ : ∃ ri, ri = next.getD i [] := ⟨_, rfl⟩
              rw [← hri_] at hri hci
              have hril : ri.length ≤ 16 := by rw [hri_]; exact dfaErr_row hte.out i
              have hib : i < next.length := by omega
              have hq9 : ord.take (q + 1) = ord.take q ++ [(i : Int)] := by rw [List.take_succ_eq_append_getElem hlt, ← hs_]
              have QQ := Aside.mk (And.intro hri_ hq9)
              replace hri := Aside.mk hri
              have hcc := Aside.mk (And.intro hco0 hci)
              clear hco hro hco0 hci hs_ hri_ hq9 hsr
              have hmaxo := hord.out.2.1
              have hmaxn := hD.out.next.2.1
              have hmaxn2 := hD.out.next.2.2.1
              have hmaxo2 := hord.out.2.2.1
              have i0 : (0 : Int) ≤ (i : Int) := by omega
              have i1 : (i : Int) < (next.length : Int) := by omega
              have lqt : g < wo.heap.size := boxL kt.out
              obtain ⟨⟨ct0, ct1, ct2, ct3, ct4, ct5⟩, ft0, ft1, ft2, ft3, ft4, ft5⟩ := kb6 kt.out
              have lqz : w.heap.size + 1 < wo.heap.size := boxL kz.out
              obtain ⟨⟨cz0, cz1, cz2, cz3, cz4, cz5⟩, fz0, fz1, fz2, fz3, fz4, fz5⟩ := kb6 kz.out
              have lqd : w.heap.size < wo.heap.size := hx.out.sat.lt (Bd.out 0 _ rfl)
              have cd0 : wo.cell? ⟨w.heap.size, 0, none⟩ = some (.int .i64 st) := hx.out.sat _ _ _ (Bd.out 0 _ rfl)
              have cd1 : wo.cell? ⟨w.heap.size, 1, none⟩ = some (.slice A1 acc.length c1) := hx.out.sat _ _ _ (Bd.out 1 _ rfl)
              have cd2 : wo.cell? ⟨w.heap.size, 2, none⟩ = some (.slice (some ⟨b2, off2, none⟩) next.length c2) := hx.out.sat _ _ _ (Bd.out 2 _ rfl)
              have cq := hx.out.sat _ _ _ hcc.out.1
              have cn := hx.out.sat _ _ _ hcc.out.2
              go_wp2_with fail
              clear lqt ct0 ct1 ct2 ct3 ct4 ct5 ft0 ft1 ft2 ft3 ft4 ft5 lqz cz0 cz1 cz2 cz3 cz4 cz5 fz0 fz1 fz2 fz3 fz4 fz5 lqd cd0 cd1 cd2 cq cn
              have hadrt := boxL kt.out
              have hadrz := boxL kz.out
              have hsz := hx.out.size
              refine (entries_B hx.out.sat hri.out (by omega)).mono ?_
              rintro e w8 ⟨rfl, hb8⟩
              replace kt := Aside.mk (box_below kt.out hb8)
              replace kz := Aside.mk (box_below kz.out hb8)
              replace hob := Aside.mk (hob.out.below hx.out.sat hb8)
              replace hu := Aside.mk (hu.out.below hx.out.sat hb8)
              replace hv := Aside.mk (hv.out.below hx.out.sat hb8)
              replace hx := Aside.mk (hx.out.then_below hb8)
              clear hb8
              clear hsz hadrt hadrz
              by_cases hcnt : cntF ri = 0
              case pos =>
                have hst : packGo next (ord.take (q + 1)) = packGo next (ord.take q) := by rw [QQ.out.2, packGo_snoc]; unfold packStep; rw [if_pos (by rw [Int.toNat_natCast, ← QQ.out.1]; exact hcnt)]
                rw [← hst] at hob hu hv
                clear hst
                rw [hcnt]
                have lqt : g < w8.heap.size := boxL kt.out
                obtain ⟨⟨ct0, ct1, ct2, ct3, ct4, ct5⟩, ft0, ft1, ft2, ft3, ft4, ft5⟩ := kb6 kt.out
                have lqz : w.heap.size + 1 < w8.heap.size := boxL kz.out
                obtain ⟨⟨cz0, cz1, cz2, cz3, cz4, cz5⟩, fz0, fz1, fz2, fz3, fz4, fz5⟩ := kb6 kz.out
                have lqd : w.heap.size < w8.heap.size := hx.out.sat.lt (Bd.out 0 _ rfl)
                have cd0 : w8.cell? ⟨w.heap.size, 0, none⟩ = some (.int .i64 st) := hx.out.sat _ _ _ (Bd.out 0 _ rfl)
                have cd1 : w8.cell? ⟨w.heap.size, 1, none⟩ = some (.slice A1 acc.length c1) := hx.out.sat _ _ _ (Bd.out 1 _ rfl)
                have cd2 : w8.cell? ⟨w.heap.size, 2, none⟩ = some (.slice (some ⟨b2, off2, none⟩) next.length c2) := hx.out.sat _ _ _ (Bd.out 2 _ rfl)
                go_wp2_with fail
                clear lqt ct0 ct1 ct2 ct3 ct4 ct5 ft0 ft1 ft2 ft3 ft4 ft5 lqz cz0 cz1 cz2 cz3 cz4 cz5 fz0 fz1 fz2 fz3 fz4 fz5 lqd cd0 cd1 cd2
                go_roundw
                case rel => exact ⟨q + 1, _, _, _, _, _, _, _, by omega, by go_num, ap_u_v, hx, h1, h2, hD, ha, hord, Bd, kt, nt, kz, nz, hob, hu, hv⟩
                case measure => (first | (simp [intOf]; done) | (simp [intOf]; omega))
              case neg =>
                have hcb : (cntF ri == 0) = false := by simpa using hcnt
                have lqt : g < w8.heap.size := boxL kt.out
                obtain ⟨⟨ct0, ct1, ct2, ct3, ct4, ct5⟩, ft0, ft1, ft2, ft3, ft4, ft5⟩ := kb6 kt.out
                have lqz : w.heap.size + 1 < w8.heap.size := boxL kz.out
                obtain ⟨⟨cz0, cz1, cz2, cz3, cz4, cz5⟩, fz0, fz1, fz2, fz3, fz4, fz5⟩ := kb6 kz.out
                have lqd : w.heap.size < w8.heap.size := hx.out.sat.lt (Bd.out 0 _ rfl)
                have cd0 : w8.cell? ⟨w.heap.size, 0, none⟩ = some (.int .i64 st) := hx.out.sat _ _ _ (Bd.out 0 _ rfl)
                have cd1 : w8.cell? ⟨w.heap.size, 1, none⟩ = some (.slice A1 acc.length c1) := hx.out.sat _ _ _ (Bd.out 1 _ rfl)
                have cd2 : w8.cell? ⟨w.heap.size, 2, none⟩ = some (.slice (some ⟨b2, off2, none⟩) next.length c2) := hx.out.sat _ _ _ (Bd.out 2 _ rfl)
                have cq := hx.out.sat _ _ _ hcc.out.1
                have cn := hx.out.sat _ _ _ hcc.out.2
                go_wp2_with fail
                clear lqt ct0 ct1 ct2 ct3 ct4 ct5 ft0 ft1 ft2 ft3 ft4 ft5 lqz cz0 cz1 cz2 cz3 cz4 cz5 fz0 fz1 fz2 fz3 fz4 fz5 lqd cd0 cd1 cd2 cq cn
                clear hcb
                have PB := Aside.mk (packGo_B (dfaErr_row hte.out) (ord.take q))
                have htl : (ord.take q).length = q := by simp; omega
                have hun : (packGo next (ord.take q)).2.1.length ≤ 3200 := by have := PB.out.max; omega
                have hvn : (packGo next (ord.take q)).2.2.length ≤ 3200 := by have := PB.out.len; omega
                have hbl9 := Aside.mk (show (packGo next (ord.take q)).1.length = next.length from PB.out.base)
                clear htl
                generalize hpg : packGo next (ord.take q) = pg at *
                replace hpg := Aside.mk hpg
                have hun9 := Aside.mk hun
                have hvn9 := Aside.mk hvn
                have HS2 := Aside.mk (fun (w' : World) (hb : Sat w' Hk) (hk : w'.heap[g]? = some (.cells #[.int .i64 st, .int .i64 (C : Int), .slice A acc.length c, .slice (some ⟨gb, 0, none⟩) next.length next.length, .slice Au lu cu, .slice Av lv cv] 85)) => show w'.cell? ⟨g, 3, none⟩ = some (.slice (some ⟨gb, 0, none⟩) next.length next.length) ∧ w'.cell? ⟨g, 4, none⟩ = some (.slice Au lu cu) ∧ w'.cell? ⟨w.heap.size, 2, none⟩ = some (.slice (some ⟨b2, off2, none⟩) next.length c2) ∧ w'.cell? ⟨b2, off2 + i, none⟩ = some (.slice Ai ri.length ci) from ⟨(boxC hk 3).1, (boxC hk 4).1, hb _ _ _ (Bd.out 2 _ rfl), hb _ _ _ hcc.out.2⟩)
                have hnb := (hob.out.blk (b := gb) rfl).2.2
                replace hnb := Aside.mk hnb
                have hgl := boxL kt.out
                have hsz := hx.out.size
                go_region_held3 (fun w' => w'.cell? ⟨g, 3, none⟩ = some (.slice (some ⟨gb, 0, none⟩) next.length next.length) ∧ w'.cell? ⟨g, 4, none⟩ = some (.slice Au lu cu) ∧ w'.cell? ⟨w.heap.size, 2, none⟩ = some (.slice (some ⟨b2, off2, none⟩) next.length c2) ∧ w'.cell? ⟨b2, off2 + i, none⟩ = some (.slice Ai ri.length ci))
                  (first | (with_reducible exact HS2.out _ hx.out.sat kt.out) | (exact HS2.out _ hx.out.sat.drew kt.out) | (with_reducible exact HS2.out _ hs1 kt1) | (exact HS2.out _ (hs1.setCell hnb.out _ _) (boxS_ne kt1 hgb _ _)))
                  ((go_at_call 115; (with_reducible refine (place_B (w := w8.drew) (Own.wr' hu.out.drew hun9.out) (hri.out.wr hx.out.sat.drew) hun9.out hril).mono ?_); rintro e wk ⟨rfl, hb1⟩; have hs1 := Sat.below hx.out.sat.drew hb1; have kt1 := box_below (show w8.drew.heap[g]? = _ from kt.out) hb1; have hob1 := Own.below hob.out.drew hx.out.sat.drew hb1; have hcg := OwnI.get hob1 i (by rw [hbl9.out]; exact hib); have hfg := Own.free hob1 hbl9.out.symm i))
                clear hs1 kt1 hob1 hcg hfg HS2 hgl
                obtain ⟨b0, hb0⟩ : ∃ b0 : Nat, b0 = placeN pg.2.1 ri := ⟨_, rfl⟩
                have hb0l : b0 ≤ 3200 := by have := (placeN_spec pg.2.1 ri).2.2; omega
                rw [← hb0]
                replace hb0 := Aside.mk hb0
                have kt_ : w8.drew.heap[g]? = some (.cells #[.int .i64 st, .int .i64 (C : Int), .slice A acc.length c, .slice (some ⟨gb, 0, none⟩) next.length next.length, .slice Au lu cu, .slice Av lv cv] 85) := kt.out
                have kz_ : w8.drew.heap[w.heap.size + 1]? = some (.cells #[.int .i64 0, .int .i64 0, .slice none 0 0, .slice none 0 0, .slice none 0 0, .slice none 0 0] 85) := kz.out
                replace hob := Aside.mk (hob.out.drew)
                replace hu := Aside.mk (hu.out.drew)
                replace hv := Aside.mk (hv.out.drew)
                replace hx := Aside.mk ((hx.out.drew))
                generalize w8.drew = W25 at *
                replace kt := Aside.mk kt_
                clear kt_
                replace kz := Aside.mk kz_
                clear kz_
                replace kt := Aside.mk (box_below kt.out hb1)
                replace kz := Aside.mk (box_below kz.out hb1)
                replace hob := Aside.mk (hob.out.below hx.out.sat hb1)
                replace hu := Aside.mk (hu.out.below hx.out.sat hb1)
                replace hv := Aside.mk (hv.out.below hx.out.sat hb1)
                replace hx := Aside.mk (hx.out.then_below hb1)
                clear hb1
                have ap_u_b := Aside.mk (hu.out.apart_lo (b := gb) (n := next.length) (c := next.length) hbM).symm
                have ap_v_b := Aside.mk (hv.out.apart_lo (b := gb) (n := next.length) (c := next.length) hbM).symm
                obtain ⟨P2, Q2⟩ := hob.out.put1 hbl9.out.symm rfl (i := i) (by rw [hbl9.out]; exact hib) (y := (b0 : Int)) (u := .int .i64 (b0 : Int)) rfl
                replace kt := Aside.mk (boxG kt.out Q2 (fun e => by have h2 := Option.some.inj e; omega))
                replace kz := Aside.mk (boxG kz.out Q2 (fun e => by have h2 := Option.some.inj e; omega))
                replace hx := Aside.mk (hob.out.extG hx.out (by omega) Q2)
                replace hu := Aside.mk (hu.out.grown_apart ap_u_b.out Q2)
                replace hv := Aside.mk (hv.out.grown_apart ap_v_b.out Q2)
                replace hob := Aside.mk P2
                clear P2 Q2
                generalize (wk.setCell ⟨gb, i, none⟩ (.int .i64 (b0 : Int))) = W26 at *
                clear ap_u_b ap_v_b hnb hsz
                have lqt : g < W26.heap.size := boxL kt.out
                obtain ⟨⟨ct0, ct1, ct2, ct3, ct4, ct5⟩, ft0, ft1, ft2, ft3, ft4, ft5⟩ := kb6 kt.out
                have lqz : w.heap.size + 1 < W26.heap.size := boxL kz.out
                obtain ⟨⟨cz0, cz1, cz2, cz3, cz4, cz5⟩, fz0, fz1, fz2, fz3, fz4, fz5⟩ := kb6 kz.out
                have lqd : w.heap.size < W26.heap.size := hx.out.sat.lt (Bd.out 0 _ rfl)
                have cd0 : W26.cell? ⟨w.heap.size, 0, none⟩ = some (.int .i64 st) := hx.out.sat _ _ _ (Bd.out 0 _ rfl)
                have cd1 : W26.cell? ⟨w.heap.size, 1, none⟩ = some (.slice A1 acc.length c1) := hx.out.sat _ _ _ (Bd.out 1 _ rfl)
                have cd2 : W26.cell? ⟨w.heap.size, 2, none⟩ = some (.slice (some ⟨b2, off2, none⟩) next.length c2) := hx.out.sat _ _ _ (Bd.out 2 _ rfl)
                have cq := hx.out.sat _ _ _ hcc.out.1
                have cn := hx.out.sat _ _ _ hcc.out.2
                go_wp2_with fail
                clear lqt ct0 ct1 ct2 ct3 ct4 ct5 ft0 ft1 ft2 ft3 ft4 ft5 lqz cz0 cz1 cz2 cz3 cz4 cz5 fz0 fz1 fz2 fz3 fz4 fz5 lqd cd0 cd1 cd2 cq cn
                clear hcc
                have HB := Aside.mk (show pg.1.length = next.length ∧ at0 (pg.1.set i (b0 : Int)) i = (b0 : Int) from ⟨hbl9.out, by rw [at0_get _ _ (by rw [List.length_set, hbl9.out]; exact hib), List.getElem_set_self]⟩)
                clear hbl9 hun9 hvn9
                have HPL := Aside.mk (And.intro PB.out.len (And.intro hun hvn))
                clear PB hun hvn
                replace hu := Aside.mk (show Own (kI .i64) 3 W26 M Hk (.slice Au lu cu) (fillF (i : Int) b0 0 [] pg.2).1 from by simpa [fillF] using hu.out)
                replace hv := Aside.mk (show Own (kI .i64) 3 W26 M Hk (.slice Av lv cv) (fillF (i : Int) b0 0 [] pg.2).2 from by simpa [fillF] using hv.out)
                go_loopw [78] (fun s78 wr => ∃ (j : Nat) (Au : Option Addr) (lu cu : Nat) (Av : Option Addr) (lv cv : Nat) (Hk : PH), j ≤ ri.length ∧ s78 = .int .i64 j ∧ Aside (Apart (.slice Au lu cu) (.slice Av lv cv)) ∧ Aside (Ext H Hk w wr) ∧ Aside (SlR (kI .i64) Hk A1 acc.length c1 acc) ∧ Aside (SlR (kS (kI .i64)) Hk (some ⟨b2, off2, none⟩) next.length c2 next) ∧ Aside (DfaH Hk w.heap.size st acc next A1 (some ⟨b2, off2, none⟩) c1 c2) ∧ Aside (SlR (kI .i64) Hk A acc.length c acc) ∧ Aside (SlR (kI .i64) Hk (some ⟨bo, oo, none⟩) ord.length c5 ord) ∧ Aside (SlR (kI .i64) Hk Ai ri.length ci ri) ∧ Aside (BoxH Hk (w.heap.size) [.int .i64 st, .slice A1 acc.length c1, .slice (some ⟨b2, off2, none⟩) next.length c2]) ∧ Aside (wr.heap[g]? = some (.cells #[.int .i64 st, .int .i64 (C : Int), .slice A acc.length c, .slice (some ⟨gb, 0, none⟩) next.length next.length, .slice Au lu cu, .slice Av lv cv] 85)) ∧ Aside (∀ o, Hk (g) o = none) ∧ Aside (wr.heap[w.heap.size + 1]? = some (.cells #[.int .i64 0, .int .i64 0, .slice none 0 0, .slice none 0 0, .slice none 0 0, .slice none 0 0] 85)) ∧ Aside (∀ o, Hk (w.heap.size + 1) o = none) ∧ Aside (Own (kI .i64) 3 wr (w.heap.size) Hk (.slice (some ⟨gb, 0, none⟩) next.length next.length) (pg.1.set i (b0 : Int))) ∧ Aside (Own (kI .i64) 3 wr (M) Hk (.slice Au lu cu) ((fillF (i : Int) b0 0 (ri.take j) pg.2).1)) ∧ Aside (Own (kI .i64) 3 wr (M) Hk (.slice Av lv cv) ((fillF (i : Int) b0 0 (ri.take j) pg.2).2))) (fun s78 _ => ri.length - (intOf s78).toNat)
                case atStart => exact ⟨0, _, _, _, _, _, _, _, by omega, rfl, ap_u_v, hx, h1, h2, hD, ha, hord, hri, Bd, kt, nt, kz, nz, ⟨by simpa using hob.out⟩, ⟨by simpa using hu.out⟩, ⟨by simpa using hv.out⟩⟩
                case round =>
                  clear hx h1 h2 hD ha hord hri Bd kt nt kz nz hob hu hv
                  obtain ⟨j, Au, lu, cu, Av, lv, cv, Hk, hj, rfl, ap_u_v, hx, h1, h2, hD, ha, hord, hri, Bd, kt, nt, kz, nz, hob, hu, hv⟩ := hrel
                  have hql : ri.length ≤ 16 := hril
                  by_cases hlj : j < ri.length
                  case pos =>
                    have hlji : (j : Int) < (ri.length : Int) := by omega
                    obtain ⟨w4, rfl⟩ : ∃ w4 : World, w4 = wr := ⟨_, rfl⟩
                    obtain ⟨br, orr, csx, ex, hrx, hcx⟩ := hri.out.row j hlj
                    subst ex
                    obtain ⟨X, hX⟩ : ∃ X, X = ri[j] := ⟨_, rfl⟩
                    have hcx0 := hcx 0 _ (by rw [show csx = [.int .i64 ri[j]] from hrx]; rfl)
                    rw [← hX] at hcx0
                    simp only [kI, Nat.mul_one, Nat.add_zero] at hcx0
                    have hX2 : ri.getD j 0 = X := by rw [hX, List.getD_eq_getElem?_getD, List.getElem?_eq_getElem hlj]; rfl
                    have hft := fillF_take (i : Int) b0 ri j hlj pg.2
                    rw [hX2] at hft
                    have hfl := fillF_len (i : Int) b0 (ri.take j) 0 pg.2 HPL.out.1
                    have htj : (ri.take j).length = j := by simp; omega
                    rw [htj] at hfl
                    obtain ⟨pc, hpc⟩ : ∃ pc, pc = fillF (i : Int) b0 0 (ri.take j) pg.2 := ⟨_, rfl⟩
                    rw [← hpc] at hft hfl hu hv
                    have hpl : pc.1.length ≤ 3232 ∧ pc.2.length ≤ 3232 := by have := HPL.out; omega
                    have hcx9 := Aside.mk hcx0
                    have FT := Aside.mk (And.intro hft hfl)
                    have hpc9 := Aside.mk hpc
                    clear hcx hrx hcx0 hX hX2 hft hfl htj hpc
                    have hmr := hri.out.2.1
                    have hmr2 := hri.out.2.2.1
                    by_cases hx0 : X < 0
                    case pos =>
                      have hfe : fillF (i : Int) b0 0 (ri.take (j + 1)) pg.2 = pc := by rw [FT.out.1, if_pos hx0]
                      rw [← hfe] at hu hv
                      have lqt : g < w4.heap.size := boxL kt.out
                      obtain ⟨⟨ct0, ct1, ct2, ct3, ct4, ct5⟩, ft0, ft1, ft2, ft3, ft4, ft5⟩ := kb6 kt.out
                      have lqz : w.heap.size + 1 < w4.heap.size := boxL kz.out
                      obtain ⟨⟨cz0, cz1, cz2, cz3, cz4, cz5⟩, fz0, fz1, fz2, fz3, fz4, fz5⟩ := kb6 kz.out
                      have lqd : w.heap.size < w4.heap.size := hx.out.sat.lt (Bd.out 0 _ rfl)
                      have cd0 : w4.cell? ⟨w.heap.size, 0, none⟩ = some (.int .i64 st) := hx.out.sat _ _ _ (Bd.out 0 _ rfl)
                      have cd1 : w4.cell? ⟨w.heap.size, 1, none⟩ = some (.slice A1 acc.length c1) := hx.out.sat _ _ _ (Bd.out 1 _ rfl)
                      have cd2 : w4.cell? ⟨w.heap.size, 2, none⟩ = some (.slice (some ⟨b2, off2, none⟩) next.length c2) := hx.out.sat _ _ _ (Bd.out 2 _ rfl)
                      have cx := hx.out.sat _ _ _ hcx9.out
                      go_wp2_with fail
                      clear lqt ct0 ct1 ct2 ct3 ct4 ct5 ft0 ft1 ft2 ft3 ft4 ft5 lqz cz0 cz1 cz2 cz3 cz4 cz5 fz0 fz1 fz2 fz3 fz4 fz5 lqd cd0 cd1 cd2 cx
                      go_roundw
                      case rel => exact ⟨j + 1, _, _, _, _, _, _, _, by omega, by go_num, ap_u_v, hx, h1, h2, hD, ha, hord, hri, Bd, kt, nt, kz, nz, hob, hu, hv⟩
                      case measure => (first | (simp [intOf]; done) | (simp [intOf]; omega))
                    case neg =>
                      have lqt : g < w4.heap.size := boxL kt.out
                      obtain ⟨⟨ct0, ct1, ct2, ct3, ct4, ct5⟩, ft0, ft1, ft2, ft3, ft4, ft5⟩ := kb6 kt.out
                      have lqz : w.heap.size + 1 < w4.heap.size := boxL kz.out
                      obtain ⟨⟨cz0, cz1, cz2, cz3, cz4, cz5⟩, fz0, fz1, fz2, fz3, fz4, fz5⟩ := kb6 kz.out
                      have lqd : w.heap.size < w4.heap.size := hx.out.sat.lt (Bd.out 0 _ rfl)
                      have cd0 : w4.cell? ⟨w.heap.size, 0, none⟩ = some (.int .i64 st) := hx.out.sat _ _ _ (Bd.out 0 _ rfl)
                      have cd1 : w4.cell? ⟨w.heap.size, 1, none⟩ = some (.slice A1 acc.length c1) := hx.out.sat _ _ _ (Bd.out 1 _ rfl)
                      have cd2 : w4.cell? ⟨w.heap.size, 2, none⟩ = some (.slice (some ⟨b2, off2, none⟩) next.length c2) := hx.out.sat _ _ _ (Bd.out 2 _ rfl)
                      have cx := hx.out.sat _ _ _ hcx9.out
                      go_wp2_with fail
                      clear lqt ct0 ct1 ct2 ct3 ct4 ct5 ft0 ft1 ft2 ft3 ft4 ft5 lqz cz0 cz1 cz2 cz3 cz4 cz5 fz0 fz1 fz2 fz3 fz4 fz5 lqd cd0 cd1 cd2 cx
                      obtain ⟨D, hD9⟩ : ∃ D, D = b0 + j + 1 - pc.1.length := ⟨_, rfl⟩
                      have hDE := Aside.mk hD9
                      clear hD9
                      go_loopg [] (D) (fun gk  wr => ∃ (m : Nat) (Au : Option Addr) (lu cu : Nat) (Av : Option Addr) (lv cv : Nat) (Hk : PH), m + gk = D ∧ Aside (Apart (.slice Au lu cu) (.slice Av lv cv)) ∧ Aside (Ext H Hk w wr) ∧ Aside (SlR (kI .i64) Hk A1 acc.length c1 acc) ∧ Aside (SlR (kS (kI .i64)) Hk (some ⟨b2, off2, none⟩) next.length c2 next) ∧ Aside (DfaH Hk w.heap.size st acc next A1 (some ⟨b2, off2, none⟩) c1 c2) ∧ Aside (SlR (kI .i64) Hk A acc.length c acc) ∧ Aside (SlR (kI .i64) Hk (some ⟨bo, oo, none⟩) ord.length c5 ord) ∧ Aside (SlR (kI .i64) Hk (some ⟨br, orr, none⟩) ri.length ci ri) ∧ Aside (Hk br (orr + j) = some (.int .i64 X)) ∧ Aside (BoxH Hk (w.heap.size) [.int .i64 st, .slice A1 acc.length c1, .slice (some ⟨b2, off2, none⟩) next.length c2]) ∧ Aside (wr.heap[g]? = some (.cells #[.int .i64 st, .int .i64 (C : Int), .slice A acc.length c, .slice (some ⟨gb, 0, none⟩) next.length next.length, .slice Au lu cu, .slice Av lv cv] 85)) ∧ Aside (∀ o, Hk (g) o = none) ∧ Aside (wr.heap[w.heap.size + 1]? = some (.cells #[.int .i64 0, .int .i64 0, .slice none 0 0, .slice none 0 0, .slice none 0 0, .slice none 0 0] 85)) ∧ Aside (∀ o, Hk (w.heap.size + 1) o = none) ∧ Aside (Own (kI .i64) 3 wr (w.heap.size) Hk (.slice (some ⟨gb, 0, none⟩) next.length next.length) (pg.1.set i (b0 : Int))) ∧ Aside (Own (kI .i64) 3 wr (M) Hk (.slice Au lu cu) (pc.1 ++ List.replicate m (-1))) ∧ Aside (Own (kI .i64) 3 wr (M) Hk (.slice Av lv cv) (pc.2 ++ List.replicate m (-1))))
                      case atStart => exact ⟨0, _, _, _, _, _, _, _, by omega, ap_u_v, hx, h1, h2, hD, ha, hord, hri, hcx9, Bd, kt, nt, kz, nz, ⟨by simpa using hob.out⟩, ⟨by simpa using hu.out⟩, ⟨by simpa using hv.out⟩⟩
                      case round =>
                        clear hx h1 h2 hD ha hord hri hcx9 Bd kt nt kz nz hob hu hv
                        obtain ⟨m, Au, lu, cu, Av, lv, cv, Hk, hmg, ap_u_v, hx, h1, h2, hD, ha, hord, hri, hcx9, Bd, kt, nt, kz, nz, hob, hu, hv⟩ := hrel
                        have hDE9 := hDE.out
                        obtain ⟨_, _, e7, hcu, hcu2, -, -⟩ := hu.out.form
                        have hlu : lu = pc.1.length + m := by injection e7 with _ e7; simpa using e7
                        clear e7
                        by_cases hmD : m < D
                        case pos =>
                          have hle : (lu : Int) ≤ (b0 : Int) + (j : Int) := by omega
                          have hlu9 := Aside.mk hlu
                          clear hlu hDE9
                          have lqt : g < wr.heap.size := boxL kt.out
                          obtain ⟨⟨ct0, ct1, ct2, ct3, ct4, ct5⟩, ft0, ft1, ft2, ft3, ft4, ft5⟩ := kb6 kt.out
                          have lqz : w.heap.size + 1 < wr.heap.size := boxL kz.out
                          obtain ⟨⟨cz0, cz1, cz2, cz3, cz4, cz5⟩, fz0, fz1, fz2, fz3, fz4, fz5⟩ := kb6 kz.out
                          have lqd : w.heap.size < wr.heap.size := hx.out.sat.lt (Bd.out 0 _ rfl)
                          have cd0 : wr.cell? ⟨w.heap.size, 0, none⟩ = some (.int .i64 st) := hx.out.sat _ _ _ (Bd.out 0 _ rfl)
                          have cd1 : wr.cell? ⟨w.heap.size, 1, none⟩ = some (.slice A1 acc.length c1) := hx.out.sat _ _ _ (Bd.out 1 _ rfl)
                          have cd2 : wr.cell? ⟨w.heap.size, 2, none⟩ = some (.slice (some ⟨b2, off2, none⟩) next.length c2) := hx.out.sat _ _ _ (Bd.out 2 _ rfl)
                          have cb : wr.cell? ⟨gb, i, none⟩ = some (.int .i64 (b0 : Int)) := by have h := OwnI.get hob.out i (by rw [List.length_set, HB.out.1]; exact hib); rw [HB.out.2] at h; exact h
                          go_wp2_with fail
                          go_quiet (fail)
                          go_wp2_with fail
                          clear lqt ct0 ct1 ct2 ct3 ct4 ct5 ft0 ft1 ft2 ft3 ft4 ft5 lqz cz0 cz1 cz2 cz3 cz4 cz5 fz0 fz1 fz2 fz3 fz4 fz5 lqd cd0 cd1 cd2 cb
                          have hbq : Below wr.heap.size wr (wr.drewN nq) := (Below.refl _ _).drewN nq
                          generalize wr.drewN nq = wd at *
                          replace kt := Aside.mk (box_below kt.out hbq)
                          replace kz := Aside.mk (box_below kz.out hbq)
                          replace hob := Aside.mk (hob.out.below hx.out.sat hbq)
                          replace hu := Aside.mk (hu.out.below hx.out.sat hbq)
                          replace hv := Aside.mk (hv.out.below hx.out.sat hbq)
                          replace hx := Aside.mk (hx.out.then_below hbq)
                          clear hbq
                          have P0 := Aside.mk (show PS H Hk w wd g (w.heap.size + 1) gb M (.cells #[.int .i64 st, .int .i64 (C : Int), .slice A acc.length c, .slice (some ⟨gb, 0, none⟩) next.length next.length, .slice Au lu cu, .slice Av lv cv] 85) (.cells #[.int .i64 0, .int .i64 0, .slice none 0 0, .slice none 0 0, .slice none 0 0, .slice none 0 0] 85) next.length (pg.1.set i (b0 : Int)) (.slice Au lu cu) (pc.1 ++ List.replicate m (-1)) (.slice Av lv cv) (pc.2 ++ List.replicate m (-1)) from ⟨hx.out, kt.out, kz.out, nt.out, nz.out, hob.out, hu.out, hv.out, ap_u_v.out, hgM, hbM, by omega, by omega, hMM⟩)
                          have CE1 := Aside.mk (boxC (show (wd.alloc (.cells #[.int .i64 (-1)] 3)).drew.heap[wd.heap.size]? = some (.cells #[.int .i64 (-1)] 3) from heap_alloc_new _ _) 0).1
                          have CE2 := Aside.mk (boxC (show ((wd.alloc (.cells #[.int .i64 (-1)] 3)).alloc (.cells #[.int .i64 (-1)] 3)).drew.heap[wd.heap.size]? = some (.cells #[.int .i64 (-1)] 3) from heap_alloc2_old _ _ _) 0).1
                          have CE3 := Aside.mk (boxC (show ((wd.alloc (.cells #[.int .i64 (-1)] 3)).alloc (.cells #[.int .i64 (-1)] 3)).drew.heap[wd.heap.size + 1]? = some (.cells #[.int .i64 (-1)] 3) from heap_alloc2_new _ _ _) 0).1
                          have HLU := Aside.mk (show (pc.1 ++ List.replicate m (-1)).length ≤ 4000 by simp; have := hDE.out; omega)
                          have HLV := Aside.mk (show (pc.2 ++ List.replicate m (-1)).length ≤ 4000 by simp; have := FT.out.2; have := hDE.out; omega)
                          have HS2 := Aside.mk (fun (w' : World) (hk : w'.heap[g]? = some (.cells #[.int .i64 st, .int .i64 (C : Int), .slice A acc.length c, .slice (some ⟨gb, 0, none⟩) next.length next.length, .slice Au lu cu, .slice Av lv cv] 85)) => show w'.cell? ⟨g, 4, none⟩ = some (.slice Au lu cu) ∧ w'.cell? ⟨g, 5, none⟩ = some (.slice Av lv cv) from ⟨(boxC hk 4).1, (boxC hk 5).1⟩)
                          refine wp_region_noPanic ?_
                          refine wp_region_Z (fun w' => w'.cell? ⟨g, 4, none⟩ = some (.slice Au lu cu) ∧ w'.cell? ⟨g, 5, none⟩ = some (.slice Av lv cv)) 9 (by kernel_rfl) ?_
                          refine wpAnyZ_take (i := 0) (.pointer (some ⟨g, 4, none⟩)) rfl (by kernel_rfl) (by kernel_rfl) (by kernel_rfl) (by kernel_rfl) (by kernel_rfl) (fun _ _ _ h => h) rfl ?_ (HS2.out _ P0.out.drew.kt) ?_
                          · (intro w' hS'; obtain ⟨s4, s5⟩ := hS'; go_simp; try (with_reducible rfl))
                          refine wpAnyZ_take (i := 1) (.slice Au lu cu) rfl (by kernel_rfl) (by kernel_rfl) (by kernel_rfl) (by kernel_rfl) (by kernel_rfl) (fun _ _ _ h => h) rfl ?_ (HS2.out _ P0.out.drew.kt) ?_
                          · (intro w' hS'; obtain ⟨s4, s5⟩ := hS'; go_simp; try (with_reducible rfl))
                          refine wpAnyZ_take (i := 4) (.pointer (some ⟨g, 5, none⟩)) rfl (by kernel_rfl) (by kernel_rfl) (by kernel_rfl) (by kernel_rfl) (by kernel_rfl) (fun _ _ _ h => h) rfl ?_ (HS2.out _ P0.out.drew.kt) ?_
                          · (intro w' hS'; obtain ⟨s4, s5⟩ := hS'; go_simp; try (with_reducible rfl))
                          refine wpAnyZ_take (i := 5) (.slice Av lv cv) rfl (by kernel_rfl) (by kernel_rfl) (by kernel_rfl) (by kernel_rfl) (by kernel_rfl) (fun _ _ _ h => h) rfl ?_ (HS2.out _ P0.out.drew.kt) ?_
                          · (intro w' hS'; obtain ⟨s4, s5⟩ := hS'; go_simp; try (with_reducible rfl))
                          refine wpAnyZ_two (i := 2) (j := 6) (by kernel_rfl) rfl rfl rfl rfl ?_ ?_
                          · skip
                            go_simp
                            refine ⟨HS2.out _ (P0.out.alloc (.cells #[.int .i64 (-1)] 3)).drew.kt, ?_⟩
                            refine wpAnyZ_two (i := 3) (j := 6) (by kernel_rfl) rfl rfl rfl rfl ?_ ?_
                            · skip
                              refine wp_appG (.tmp 97) (.tmp 98) 26 rfl 3 Try.underlying26 infoQ2 (P0.out.alloc (.cells #[.int .i64 (-1)] 3)).drew.hu (P0.out.alloc (.cells #[.int .i64 (-1)] 3)).drew.hx.sat (by rfl) (by rfl) CE1.out HLU.out (P0.out.alloc (.cells #[.int .i64 (-1)] 3)).drew.lo ?_
                              intro v9 w9 ho9 hg9 hs9 hn9
                              have P1 := Aside.mk ((P0.out.alloc (.cells #[.int .i64 (-1)] 3)).drew.up ho9 hg9 hn9)
                              obtain ⟨A9, c9, e9, -, -, -, -⟩ := ho9.form
                              generalize (pc.1 ++ List.replicate m (-1) ++ [-1]).length = l9 at e9
                              subst e9
                              clear ho9 hg9 hs9 hn9
                              refine ⟨fun _ => HS2.out _ P1.out.kt, ?_⟩
                              refine wpAnyZ_take (i := 8) (.pointer (some ⟨g, 4, none⟩)) rfl (by kernel_rfl) (by kernel_rfl) (by kernel_rfl) (by kernel_rfl) (by kernel_rfl) (fun _ _ _ h => h) rfl ?_ (HS2.out _ P1.out.kt) ?_
                              · (intro w' hS'; obtain ⟨s4, s5⟩ := hS'; go_simp; try (with_reducible rfl))
                              refine wpAnyZ_one (i := 6) (by kernel_rfl) rfl rfl ?_
                              go_simp
                              refine ⟨HS2.out _ (P1.out.alloc (.cells #[.int .i64 (-1)] 3)).kt, ?_⟩
                              refine wpAnyZ_one (i := 7) (by kernel_rfl) rfl rfl ?_
                              refine wp_appG (.tmp 101) (.tmp 102) 26 rfl 3 Try.underlying26 infoQ2 (P1.out.alloc (.cells #[.int .i64 (-1)] 3)).hv (P1.out.alloc (.cells #[.int .i64 (-1)] 3)).hx.sat (by rfl) (by rfl) (boxC (heap_alloc_new w9 (.cells #[.int .i64 (-1)] 3)) 0).1 HLV.out (P1.out.alloc (.cells #[.int .i64 (-1)] 3)).lo ?_
                              intro v10 w10 ho10 hg10 hs10 hn10
                              have P2 := Aside.mk ((P1.out.alloc (.cells #[.int .i64 (-1)] 3)).vp ho10 hg10 hn10)
                              obtain ⟨A10, c10, e10, -, -, -, -⟩ := ho10.form
                              generalize (pc.2 ++ List.replicate m (-1) ++ [-1]).length = l10 at e10
                              subst e10
                              clear ho10 hg10 hs10 hn10
                              refine ⟨fun _ => HS2.out _ P2.out.kt, ?_⟩
                              obtain ⟨⟨y0, y1, y2, y3, y4, y5⟩, y6, y7, y8, y9, y10, y11⟩ := kb6 P2.out.kt
                              have ly := boxL P2.out.kt
                              refine wpAnyZ_one (i := 9) (by kernel_rfl) rfl rfl ?_
                              go_simp
                              refine wpAnyZ_one (i := 10) (by kernel_rfl) rfl rfl ?_
                              go_simp
                              refine wpAnyZ_one (i := 11) (by kernel_rfl) rfl rfl ?_
                              go_simp
                              refine wpAnyZ_done (by kernel_rfl) ?_ _
                              refine NoPanic.normal ?_
                              clear y0 y1 y2 y3 y4 y5 y6 y7 y8 y9 y10 y11 ly
                              replace hx := Aside.mk P2.out.hx
                              replace kt := Aside.mk P2.out.kt
                              replace kz := Aside.mk P2.out.kz
                              replace hob := Aside.mk P2.out.hob
                              replace hu := Aside.mk P2.out.hu
                              replace hv := Aside.mk P2.out.hv
                              replace ap_u_v := Aside.mk P2.out.ap
                              replace hu := Aside.mk (show Own (kI .i64) 3 w10 M Hk (.slice A9 l9 c9) (pc.1 ++ List.replicate (m + 1) (-1)) from by rw [List.replicate_succ', ← List.append_assoc]; exact hu.out)
                              replace hv := Aside.mk (show Own (kI .i64) 3 w10 M Hk (.slice A10 l10 c10) (pc.2 ++ List.replicate (m + 1) (-1)) from by rw [List.replicate_succ', ← List.append_assoc]; exact hv.out)
                              clear P0 P1 P2 CE1 CE2 CE3 HLU HLV HS2 hle hlu9
                              have hgl := boxL kt.out
                              have kt_ : ((w10.setCell ⟨g, 4, none⟩ (.slice A9 l9 c9)).setCell ⟨g, 5, none⟩ (.slice A10 l10 c10)).heap[g]? = some (.cells #[.int .i64 st, .int .i64 (C : Int), .slice A acc.length c, .slice (some ⟨gb, 0, none⟩) next.length next.length, .slice A9 l9 c9, .slice A10 l10 c10] 85) := (boxS (boxS kt.out 4 (.slice A9 l9 c9)) 5 (.slice A10 l10 c10))
                              have kz_ : ((w10.setCell ⟨g, 4, none⟩ (.slice A9 l9 c9)).setCell ⟨g, 5, none⟩ (.slice A10 l10 c10)).heap[w.heap.size + 1]? = some (.cells #[.int .i64 0, .int .i64 0, .slice none 0 0, .slice none 0 0, .slice none 0 0, .slice none 0 0] 85) := (boxS_ne (boxS_ne kz.out (by first | omega | (simp; omega)) 4 (.slice A9 l9 c9)) (by first | omega | (simp; omega)) 5 (.slice A10 l10 c10))
                              replace hob := Aside.mk ((hob.out.grown (grownBy_setCell _ (g) 4 (.slice A9 l9 c9)) (Or.inr (fun e => by first | (have h1 := (hob.out.blk e).1; omega) | (simp [Value.ownBlock] at e; done) | (simp [Value.ownBlock] at e; omega)))).grown (grownBy_setCell _ (g) 5 (.slice A10 l10 c10)) (Or.inr (fun e => by first | (have h1 := (hob.out.blk e).1; omega) | (simp [Value.ownBlock] at e; done) | (simp [Value.ownBlock] at e; omega))))
                              replace hu := Aside.mk ((hu.out.grown (grownBy_setCell _ (g) 4 (.slice A9 l9 c9)) (Or.inr (fun e => by first | (have h1 := (hu.out.blk e).1; omega) | (simp [Value.ownBlock] at e; done) | (simp [Value.ownBlock] at e; omega)))).grown (grownBy_setCell _ (g) 5 (.slice A10 l10 c10)) (Or.inr (fun e => by first | (have h1 := (hu.out.blk e).1; omega) | (simp [Value.ownBlock] at e; done) | (simp [Value.ownBlock] at e; omega))))
                              replace hv := Aside.mk ((hv.out.grown (grownBy_setCell _ (g) 4 (.slice A9 l9 c9)) (Or.inr (fun e => by first | (have h1 := (hv.out.blk e).1; omega) | (simp [Value.ownBlock] at e; done) | (simp [Value.ownBlock] at e; omega)))).grown (grownBy_setCell _ (g) 5 (.slice A10 l10 c10)) (Or.inr (fun e => by first | (have h1 := (hv.out.blk e).1; omega) | (simp [Value.ownBlock] at e; done) | (simp [Value.ownBlock] at e; omega))))
                              replace hx := Aside.mk (((hx.out.setCell (b := g) (o := 4) (by first | omega | (simp; omega)) nt.out (.slice A9 l9 c9)).setCell (b := g) (o := 5) (by first | omega | (simp; omega)) nt.out (.slice A10 l10 c10)))
                              generalize ((w10.setCell ⟨g, 4, none⟩ (.slice A9 l9 c9)).setCell ⟨g, 5, none⟩ (.slice A10 l10 c10)) = W27 at *
                              replace kt := Aside.mk kt_
                              clear kt_
                              replace kz := Aside.mk kz_
                              clear kz_
                              go_wp2_with fail
                              go_roundg (gk - 1)
                              case rel => exact ⟨m + 1, _, _, _, _, _, _, _, by omega, ap_u_v, hx, h1, h2, hD, ha, hord, hri, hcx9, Bd, kt, nt, kz, nz, hob, hu, hv⟩
                              case measure => omega
                            · skip
                              go_simp
                              refine ⟨HS2.out _ ((P0.out.alloc (.cells #[.int .i64 (-1)] 3)).alloc (.cells #[.int .i64 (-1)] 3)).drew.kt, ?_⟩
                              refine wpAnyZ_one (i := 3) (by kernel_rfl) rfl rfl ?_
                              refine wp_appG (.tmp 97) (.tmp 98) 26 rfl 3 Try.underlying26 infoQ2 ((P0.out.alloc (.cells #[.int .i64 (-1)] 3)).alloc (.cells #[.int .i64 (-1)] 3)).drew.hu ((P0.out.alloc (.cells #[.int .i64 (-1)] 3)).alloc (.cells #[.int .i64 (-1)] 3)).drew.hx.sat (by rfl) (by rfl) CE2.out HLU.out ((P0.out.alloc (.cells #[.int .i64 (-1)] 3)).alloc (.cells #[.int .i64 (-1)] 3)).drew.lo ?_
                              intro v9 w9 ho9 hg9 hs9 hn9
                              have P1 := Aside.mk (((P0.out.alloc (.cells #[.int .i64 (-1)] 3)).alloc (.cells #[.int .i64 (-1)] 3)).drew.up ho9 hg9 hn9)
                              have HC9 := Aside.mk (PS.cellU P0.out ((P0.out.alloc (.cells #[.int .i64 (-1)] 3)).alloc (.cells #[.int .i64 (-1)] 3)).drew hg9 (b := wd.heap.size + 1) (by omega) CE3.out)
                              obtain ⟨A9, c9, e9, -, -, -, -⟩ := ho9.form
                              generalize (pc.1 ++ List.replicate m (-1) ++ [-1]).length = l9 at e9
                              subst e9
                              clear ho9 hg9 hs9 hn9
                              refine ⟨fun _ => HS2.out _ P1.out.kt, ?_⟩
                              refine wpAnyZ_take (i := 8) (.pointer (some ⟨g, 4, none⟩)) rfl (by kernel_rfl) (by kernel_rfl) (by kernel_rfl) (by kernel_rfl) (by kernel_rfl) (fun _ _ _ h => h) rfl ?_ (HS2.out _ P1.out.kt) ?_
                              · (intro w' hS'; obtain ⟨s4, s5⟩ := hS'; go_simp; try (with_reducible rfl))
                              refine wpAnyZ_one (i := 7) (by kernel_rfl) rfl rfl ?_
                              refine wp_appG (.tmp 101) (.tmp 102) 26 rfl 3 Try.underlying26 infoQ2 P1.out.hv P1.out.hx.sat (by rfl) (by rfl) HC9.out HLV.out P1.out.lo ?_
                              intro v10 w10 ho10 hg10 hs10 hn10
                              have P2 := Aside.mk (P1.out.vp ho10 hg10 hn10)
                              obtain ⟨A10, c10, e10, -, -, -, -⟩ := ho10.form
                              generalize (pc.2 ++ List.replicate m (-1) ++ [-1]).length = l10 at e10
                              subst e10
                              clear ho10 hg10 hs10 hn10
                              refine ⟨fun _ => HS2.out _ P2.out.kt, ?_⟩
                              obtain ⟨⟨y0, y1, y2, y3, y4, y5⟩, y6, y7, y8, y9, y10, y11⟩ := kb6 P2.out.kt
                              have ly := boxL P2.out.kt
                              refine wpAnyZ_one (i := 9) (by kernel_rfl) rfl rfl ?_
                              go_simp
                              refine wpAnyZ_one (i := 10) (by kernel_rfl) rfl rfl ?_
                              go_simp
                              refine wpAnyZ_one (i := 11) (by kernel_rfl) rfl rfl ?_
                              go_simp
                              refine wpAnyZ_done (by kernel_rfl) ?_ _
                              refine NoPanic.normal ?_
                              clear y0 y1 y2 y3 y4 y5 y6 y7 y8 y9 y10 y11 ly
                              replace hx := Aside.mk P2.out.hx
                              replace kt := Aside.mk P2.out.kt
                              replace kz := Aside.mk P2.out.kz
                              replace hob := Aside.mk P2.out.hob
                              replace hu := Aside.mk P2.out.hu
                              replace hv := Aside.mk P2.out.hv
                              replace ap_u_v := Aside.mk P2.out.ap
                              replace hu := Aside.mk (show Own (kI .i64) 3 w10 M Hk (.slice A9 l9 c9) (pc.1 ++ List.replicate (m + 1) (-1)) from by rw [List.replicate_succ', ← List.append_assoc]; exact hu.out)
                              replace hv := Aside.mk (show Own (kI .i64) 3 w10 M Hk (.slice A10 l10 c10) (pc.2 ++ List.replicate (m + 1) (-1)) from by rw [List.replicate_succ', ← List.append_assoc]; exact hv.out)
                              clear P0 P1 P2 CE1 CE2 CE3 HLU HLV HS2 hle hlu9
                              have hgl := boxL kt.out
                              have kt_ : ((w10.setCell ⟨g, 4, none⟩ (.slice A9 l9 c9)).setCell ⟨g, 5, none⟩ (.slice A10 l10 c10)).heap[g]? = some (.cells #[.int .i64 st, .int .i64 (C : Int), .slice A acc.length c, .slice (some ⟨gb, 0, none⟩) next.length next.length, .slice A9 l9 c9, .slice A10 l10 c10] 85) := (boxS (boxS kt.out 4 (.slice A9 l9 c9)) 5 (.slice A10 l10 c10))
                              have kz_ : ((w10.setCell ⟨g, 4, none⟩ (.slice A9 l9 c9)).setCell ⟨g, 5, none⟩ (.slice A10 l10 c10)).heap[w.heap.size + 1]? = some (.cells #[.int .i64 0, .int .i64 0, .slice none 0 0, .slice none 0 0, .slice none 0 0, .slice none 0 0] 85) := (boxS_ne (boxS_ne kz.out (by first | omega | (simp; omega)) 4 (.slice A9 l9 c9)) (by first | omega | (simp; omega)) 5 (.slice A10 l10 c10))
                              replace hob := Aside.mk ((hob.out.grown (grownBy_setCell _ (g) 4 (.slice A9 l9 c9)) (Or.inr (fun e => by first | (have h1 := (hob.out.blk e).1; omega) | (simp [Value.ownBlock] at e; done) | (simp [Value.ownBlock] at e; omega)))).grown (grownBy_setCell _ (g) 5 (.slice A10 l10 c10)) (Or.inr (fun e => by first | (have h1 := (hob.out.blk e).1; omega) | (simp [Value.ownBlock] at e; done) | (simp [Value.ownBlock] at e; omega))))
                              replace hu := Aside.mk ((hu.out.grown (grownBy_setCell _ (g) 4 (.slice A9 l9 c9)) (Or.inr (fun e => by first | (have h1 := (hu.out.blk e).1; omega) | (simp [Value.ownBlock] at e; done) | (simp [Value.ownBlock] at e; omega)))).grown (grownBy_setCell _ (g) 5 (.slice A10 l10 c10)) (Or.inr (fun e => by first | (have h1 := (hu.out.blk e).1; omega) | (simp [Value.ownBlock] at e; done) | (simp [Value.ownBlock] at e; omega))))
                              replace hv := Aside.mk ((hv.out.grown (grownBy_setCell _ (g) 4 (.slice A9 l9 c9)) (Or.inr (fun e => by first | (have h1 := (hv.out.blk e).1; omega) | (simp [Value.ownBlock] at e; done) | (simp [Value.ownBlock] at e; omega)))).grown (grownBy_setCell _ (g) 5 (.slice A10 l10 c10)) (Or.inr (fun e => by first | (have h1 := (hv.out.blk e).1; omega) | (simp [Value.ownBlock] at e; done) | (simp [Value.ownBlock] at e; omega))))
                              replace hx := Aside.mk (((hx.out.setCell (b := g) (o := 4) (by first | omega | (simp; omega)) nt.out (.slice A9 l9 c9)).setCell (b := g) (o := 5) (by first | omega | (simp; omega)) nt.out (.slice A10 l10 c10)))
                              generalize ((w10.setCell ⟨g, 4, none⟩ (.slice A9 l9 c9)).setCell ⟨g, 5, none⟩ (.slice A10 l10 c10)) = W28 at *
                              replace kt := Aside.mk kt_
                              clear kt_
                              replace kz := Aside.mk kz_
                              clear kz_
                              go_wp2_with fail
                              go_roundg (gk - 1)
                              case rel => exact ⟨m + 1, _, _, _, _, _, _, _, by omega, ap_u_v, hx, h1, h2, hD, ha, hord, hri, hcx9, Bd, kt, nt, kz, nz, hob, hu, hv⟩
                              case measure => omega
                          · skip
                            go_simp
                            refine ⟨HS2.out _ (P0.out.alloc (.cells #[.int .i64 (-1)] 3)).drew.kt, ?_⟩
                            refine wpAnyZ_one (i := 2) (by kernel_rfl) rfl rfl ?_
                            go_simp
                            refine ⟨HS2.out _ ((P0.out.alloc (.cells #[.int .i64 (-1)] 3)).alloc (.cells #[.int .i64 (-1)] 3)).drew.kt, ?_⟩
                            refine wpAnyZ_one (i := 3) (by kernel_rfl) rfl rfl ?_
                            refine wp_appG (.tmp 97) (.tmp 98) 26 rfl 3 Try.underlying26 infoQ2 ((P0.out.alloc (.cells #[.int .i64 (-1)] 3)).alloc (.cells #[.int .i64 (-1)] 3)).drew.hu ((P0.out.alloc (.cells #[.int .i64 (-1)] 3)).alloc (.cells #[.int .i64 (-1)] 3)).drew.hx.sat (by rfl) (by rfl) CE3.out HLU.out ((P0.out.alloc (.cells #[.int .i64 (-1)] 3)).alloc (.cells #[.int .i64 (-1)] 3)).drew.lo ?_
                            intro v9 w9 ho9 hg9 hs9 hn9
                            have P1 := Aside.mk (((P0.out.alloc (.cells #[.int .i64 (-1)] 3)).alloc (.cells #[.int .i64 (-1)] 3)).drew.up ho9 hg9 hn9)
                            have HC9 := Aside.mk (PS.cellU P0.out ((P0.out.alloc (.cells #[.int .i64 (-1)] 3)).alloc (.cells #[.int .i64 (-1)] 3)).drew hg9 (b := wd.heap.size) (Nat.le_refl _) CE2.out)
                            obtain ⟨A9, c9, e9, -, -, -, -⟩ := ho9.form
                            generalize (pc.1 ++ List.replicate m (-1) ++ [-1]).length = l9 at e9
                            subst e9
                            clear ho9 hg9 hs9 hn9
                            refine ⟨fun _ => HS2.out _ P1.out.kt, ?_⟩
                            refine wpAnyZ_take (i := 8) (.pointer (some ⟨g, 4, none⟩)) rfl (by kernel_rfl) (by kernel_rfl) (by kernel_rfl) (by kernel_rfl) (by kernel_rfl) (fun _ _ _ h => h) rfl ?_ (HS2.out _ P1.out.kt) ?_
                            · (intro w' hS'; obtain ⟨s4, s5⟩ := hS'; go_simp; try (with_reducible rfl))
                            refine wpAnyZ_one (i := 7) (by kernel_rfl) rfl rfl ?_
                            refine wp_appG (.tmp 101) (.tmp 102) 26 rfl 3 Try.underlying26 infoQ2 P1.out.hv P1.out.hx.sat (by rfl) (by rfl) HC9.out HLV.out P1.out.lo ?_
                            intro v10 w10 ho10 hg10 hs10 hn10
                            have P2 := Aside.mk (P1.out.vp ho10 hg10 hn10)
                            obtain ⟨A10, c10, e10, -, -, -, -⟩ := ho10.form
                            generalize (pc.2 ++ List.replicate m (-1) ++ [-1]).length = l10 at e10
                            subst e10
                            clear ho10 hg10 hs10 hn10
                            refine ⟨fun _ => HS2.out _ P2.out.kt, ?_⟩
                            obtain ⟨⟨y0, y1, y2, y3, y4, y5⟩, y6, y7, y8, y9, y10, y11⟩ := kb6 P2.out.kt
                            have ly := boxL P2.out.kt
                            refine wpAnyZ_one (i := 9) (by kernel_rfl) rfl rfl ?_
                            go_simp
                            refine wpAnyZ_one (i := 10) (by kernel_rfl) rfl rfl ?_
                            go_simp
                            refine wpAnyZ_one (i := 11) (by kernel_rfl) rfl rfl ?_
                            go_simp
                            refine wpAnyZ_done (by kernel_rfl) ?_ _
                            refine NoPanic.normal ?_
                            clear y0 y1 y2 y3 y4 y5 y6 y7 y8 y9 y10 y11 ly
                            replace hx := Aside.mk P2.out.hx
                            replace kt := Aside.mk P2.out.kt
                            replace kz := Aside.mk P2.out.kz
                            replace hob := Aside.mk P2.out.hob
                            replace hu := Aside.mk P2.out.hu
                            replace hv := Aside.mk P2.out.hv
                            replace ap_u_v := Aside.mk P2.out.ap
                            replace hu := Aside.mk (show Own (kI .i64) 3 w10 M Hk (.slice A9 l9 c9) (pc.1 ++ List.replicate (m + 1) (-1)) from by rw [List.replicate_succ', ← List.append_assoc]; exact hu.out)
                            replace hv := Aside.mk (show Own (kI .i64) 3 w10 M Hk (.slice A10 l10 c10) (pc.2 ++ List.replicate (m + 1) (-1)) from by rw [List.replicate_succ', ← List.append_assoc]; exact hv.out)
                            clear P0 P1 P2 CE1 CE2 CE3 HLU HLV HS2 hle hlu9
                            have hgl := boxL kt.out
                            have kt_ : ((w10.setCell ⟨g, 4, none⟩ (.slice A9 l9 c9)).setCell ⟨g, 5, none⟩ (.slice A10 l10 c10)).heap[g]? = some (.cells #[.int .i64 st, .int .i64 (C : Int), .slice A acc.length c, .slice (some ⟨gb, 0, none⟩) next.length next.length, .slice A9 l9 c9, .slice A10 l10 c10] 85) := (boxS (boxS kt.out 4 (.slice A9 l9 c9)) 5 (.slice A10 l10 c10))
                            have kz_ : ((w10.setCell ⟨g, 4, none⟩ (.slice A9 l9 c9)).setCell ⟨g, 5, none⟩ (.slice A10 l10 c10)).heap[w.heap.size + 1]? = some (.cells #[.int .i64 0, .int .i64 0, .slice none 0 0, .slice none 0 0, .slice none 0 0, .slice none 0 0] 85) := (boxS_ne (boxS_ne kz.out (by first | omega | (simp; omega)) 4 (.slice A9 l9 c9)) (by first | omega | (simp; omega)) 5 (.slice A10 l10 c10))
                            replace hob := Aside.mk ((hob.out.grown (grownBy_setCell _ (g) 4 (.slice A9 l9 c9)) (Or.inr (fun e => by first | (have h1 := (hob.out.blk e).1; omega) | (simp [Value.ownBlock] at e; done) | (simp [Value.ownBlock] at e; omega)))).grown (grownBy_setCell _ (g) 5 (.slice A10 l10 c10)) (Or.inr (fun e => by first | (have h1 := (hob.out.blk e).1; omega) | (simp [Value.ownBlock] at e; done) | (simp [Value.ownBlock] at e; omega))))
                            replace hu := Aside.mk ((hu.out.grown (grownBy_setCell _ (g) 4 (.slice A9 l9 c9)) (Or.inr (fun e => by first | (have h1 := (hu.out.blk e).1; omega) | (simp [Value.ownBlock] at e; done) | (simp [Value.ownBlock] at e; omega)))).grown (grownBy_setCell _ (g) 5 (.slice A10 l10 c10)) (Or.inr (fun e => by first | (have h1 := (hu.out.blk e).1; omega) | (simp [Value.ownBlock] at e; done) | (simp [Value.ownBlock] at e; omega))))
                            replace hv := Aside.mk ((hv.out.grown (grownBy_setCell _ (g) 4 (.slice A9 l9 c9)) (Or.inr (fun e => by first | (have h1 := (hv.out.blk e).1; omega) | (simp [Value.ownBlock] at e; done) | (simp [Value.ownBlock] at e; omega)))).grown (grownBy_setCell _ (g) 5 (.slice A10 l10 c10)) (Or.inr (fun e => by first | (have h1 := (hv.out.blk e).1; omega) | (simp [Value.ownBlock] at e; done) | (simp [Value.ownBlock] at e; omega))))
                            replace hx := Aside.mk (((hx.out.setCell (b := g) (o := 4) (by first | omega | (simp; omega)) nt.out (.slice A9 l9 c9)).setCell (b := g) (o := 5) (by first | omega | (simp; omega)) nt.out (.slice A10 l10 c10)))
                            generalize ((w10.setCell ⟨g, 4, none⟩ (.slice A9 l9 c9)).setCell ⟨g, 5, none⟩ (.slice A10 l10 c10)) = W29 at *
                            replace kt := Aside.mk kt_
                            clear kt_
                            replace kz := Aside.mk kz_
                            clear kz_
                            go_wp2_with fail
                            go_roundg (gk - 1)
                            case rel => exact ⟨m + 1, _, _, _, _, _, _, _, by omega, ap_u_v, hx, h1, h2, hD, ha, hord, hri, hcx9, Bd, kt, nt, kz, nz, hob, hu, hv⟩
                            case measure => omega
                        case neg =>
                          have hle : ¬ (lu : Int) ≤ (b0 : Int) + (j : Int) := by omega
                          have hmD2 : m = D := by omega
                          have hlu9 := Aside.mk hlu
                          have hKu : b0 + j < (pc.1 ++ List.replicate m (-1)).length := by simp; omega
                          have hKv : b0 + j < (pc.2 ++ List.replicate m (-1)).length := by simp; have := FT.out.2; omega
                          have hpu : pc.1 ++ List.replicate m (-1) = padN pc.1 (b0 + j) := by rw [hmD2, hDE9]; rfl
                          have hpv : pc.2 ++ List.replicate m (-1) = padN pc.2 (b0 + j) := by rw [hmD2, hDE9, FT.out.2.1]; rfl
                          rw [hpu] at hu hKu
                          rw [hpv] at hv hKv
                          have hpute : fillF (i : Int) b0 0 (ri.take (j + 1)) pg.2 = putE pc (b0 + j) (i : Int) X := by rw [FT.out.1, if_neg (show ¬ X < 0 by omega)]
                          obtain ⟨gu, cu9, _, eU, hcu9, hcu8, -, -, -⟩ := hu.out.cells (b0 + j) hKu
                          obtain ⟨gv, cv9, _, eV, hcv9, hcv8, -, -, -⟩ := hv.out.cells (b0 + j) hKv
                          injection eU with eU1 eU2 eU3
                          injection eV with eV1 eV2 eV3
                          subst eU1
                          subst eV1
                          have hul : lu = (padN pc.1 (b0 + j)).length := eU2
                          have hvl : lv = (padN pc.2 (b0 + j)).length := eV2
                          have hbu : b0 + j < lu := by omega
                          have hbv : b0 + j < lv := by omega
                          have hgu := (hu.out.blk (b := gu) rfl).1
                          have hgv := (hv.out.blk (b := gv) rfl).1
                          have hguv : gu ≠ gv := ap_u_v.out.elim (fun h => absurd h (by simp [Value.ownBlock])) (fun h e => h (by rw [e]; rfl))
                          have UV := Aside.mk (And.intro hul (And.intro hvl (And.intro hpute (And.intro hKu hKv))))
                          clear hul hvl hpute hKu hKv hpu hpv hmD2 hlu hDE9 eU2 eU3 eV2 eV3 hcu9 hcu8 hcv9 hcv8
                          have lqt : g < wr.heap.size := boxL kt.out
                          obtain ⟨⟨ct0, ct1, ct2, ct3, ct4, ct5⟩, ft0, ft1, ft2, ft3, ft4, ft5⟩ := kb6 kt.out
                          have lqz : w.heap.size + 1 < wr.heap.size := boxL kz.out
                          obtain ⟨⟨cz0, cz1, cz2, cz3, cz4, cz5⟩, fz0, fz1, fz2, fz3, fz4, fz5⟩ := kb6 kz.out
                          have lqd : w.heap.size < wr.heap.size := hx.out.sat.lt (Bd.out 0 _ rfl)
                          have cd0 : wr.cell? ⟨w.heap.size, 0, none⟩ = some (.int .i64 st) := hx.out.sat _ _ _ (Bd.out 0 _ rfl)
                          have cd1 : wr.cell? ⟨w.heap.size, 1, none⟩ = some (.slice A1 acc.length c1) := hx.out.sat _ _ _ (Bd.out 1 _ rfl)
                          have cd2 : wr.cell? ⟨w.heap.size, 2, none⟩ = some (.slice (some ⟨b2, off2, none⟩) next.length c2) := hx.out.sat _ _ _ (Bd.out 2 _ rfl)
                          have cb : wr.cell? ⟨gb, i, none⟩ = some (.int .i64 (b0 : Int)) := by have h := OwnI.get hob.out i (by rw [List.length_set, HB.out.1]; exact hib); rw [HB.out.2] at h; exact h
                          go_wp2_with fail
                          go_quiet (fail)
                          go_wp2_with fail
                          clear lqt ct0 ct1 ct2 ct3 ct4 ct5 ft0 ft1 ft2 ft3 ft4 ft5 lqz cz0 cz1 cz2 cz3 cz4 cz5 fz0 fz1 fz2 fz3 fz4 fz5 lqd cd0 cd1 cd2 cb
                          have hbq : Below wr.heap.size wr (wr.drewN nq) := (Below.refl _ _).drewN nq
                          generalize wr.drewN nq = wd at *
                          replace kt := Aside.mk (box_below kt.out hbq)
                          replace kz := Aside.mk (box_below kz.out hbq)
                          replace hob := Aside.mk (hob.out.below hx.out.sat hbq)
                          replace hu := Aside.mk (hu.out.below hx.out.sat hbq)
                          replace hv := Aside.mk (hv.out.below hx.out.sat hbq)
                          replace hx := Aside.mk (hx.out.then_below hbq)
                          clear hbq
                          have cb : wd.cell? ⟨gb, i, none⟩ = some (.int .i64 (b0 : Int)) := by have h := OwnI.get hob.out i (by rw [List.length_set, HB.out.1]; exact hib); rw [HB.out.2] at h; exact h
                          have S0 := Aside.mk (show (fun w' : World => w'.cell? ⟨g, 3, none⟩ = some (.slice (some ⟨gb, 0, none⟩) next.length next.length) ∧ w'.cell? ⟨g, 4, none⟩ = some (.slice (some ⟨gu, 0, none⟩) lu cu) ∧ w'.cell? ⟨g, 5, none⟩ = some (.slice (some ⟨gv, 0, none⟩) lv cv) ∧ w'.cell? ⟨gb, i, none⟩ = some (.int .i64 (b0 : Int))) wd from ⟨(boxC kt.out 3).1, (boxC kt.out 4).1, (boxC kt.out 5).1, cb⟩)
                          clear cb
                          have KS := Aside.mk (fun (W : World) (b o : Nat) (v : Value) (h1 : g ≠ b) (h2 : gb ≠ b) (h : (fun w' : World => w'.cell? ⟨g, 3, none⟩ = some (.slice (some ⟨gb, 0, none⟩) next.length next.length) ∧ w'.cell? ⟨g, 4, none⟩ = some (.slice (some ⟨gu, 0, none⟩) lu cu) ∧ w'.cell? ⟨g, 5, none⟩ = some (.slice (some ⟨gv, 0, none⟩) lv cv) ∧ w'.cell? ⟨gb, i, none⟩ = some (.int .i64 (b0 : Int))) W) => show (fun w' : World => w'.cell? ⟨g, 3, none⟩ = some (.slice (some ⟨gb, 0, none⟩) next.length next.length) ∧ w'.cell? ⟨g, 4, none⟩ = some (.slice (some ⟨gu, 0, none⟩) lu cu) ∧ w'.cell? ⟨g, 5, none⟩ = some (.slice (some ⟨gv, 0, none⟩) lv cv) ∧ w'.cell? ⟨gb, i, none⟩ = some (.int .i64 (b0 : Int))) (W.setCell ⟨b, o, none⟩ v) from ⟨(World.cell?_of_block (Below.heap_setCell _ _ _ _ h1)).trans h.1, (World.cell?_of_block (Below.heap_setCell _ _ _ _ h1)).trans h.2.1, (World.cell?_of_block (Below.heap_setCell _ _ _ _ h1)).trans h.2.2.1, (World.cell?_of_block (Below.heap_setCell _ _ _ _ h2)).trans h.2.2.2⟩)
                          have hgl := boxL kt.out
                          have ap_b_u := Aside.mk (hu.out.apart_lo (b := gb) (n := next.length) (c := next.length) hbM)
                          have ap_b_v := Aside.mk (hv.out.apart_lo (b := gb) (n := next.length) (c := next.length) hbM)
                          have ap_v_u := Aside.mk ap_u_v.out.symm
                          have hub : (b0 : Int) + (j : Int) < (lu : Int) := by omega
                          have hvb : (b0 : Int) + (j : Int) < (lv : Int) := by omega
                          have h0b : (0 : Int) ≤ (b0 : Int) + (j : Int) := by omega
                          have htb : ((b0 : Int) + (j : Int)).toNat = b0 + j := by omega
                          have hwb : IntKind.i64.wrap ((b0 : Int) + (j : Int)) = (b0 : Int) + (j : Int) := IntWalk.i64_in _ (by omega)
                          have gu1 := OwnI.get hu.out (b0 + j) UV.out.2.2.2.1
                          have fu1 := Own.free hu.out UV.out.1
                          obtain ⟨Pu, Qu⟩ := OwnI.put hu.out UV.out.1 (b0 + j) UV.out.2.2.2.1 (i : Int)
                          have hv2 := hv.out.grown_apart ap_v_u.out Qu
                          have gv1 := OwnI.get hv2 (b0 + j) UV.out.2.2.2.2
                          have fv1 := Own.free hv2 UV.out.2.1
                          have hv2 := Aside.mk hv2
                          replace Pu := Aside.mk Pu
                          replace Qu := Aside.mk Qu
                          go_region_held3 (fun w' => w'.cell? ⟨g, 3, none⟩ = some (.slice (some ⟨gb, 0, none⟩) next.length next.length) ∧ w'.cell? ⟨g, 4, none⟩ = some (.slice (some ⟨gu, 0, none⟩) lu cu) ∧ w'.cell? ⟨g, 5, none⟩ = some (.slice (some ⟨gv, 0, none⟩) lv cv) ∧ w'.cell? ⟨gb, i, none⟩ = some (.int .i64 (b0 : Int)))
                            (first | (exact S0.out) | (exact KS.out _ _ _ _ (by omega) (by omega) S0.out) | (exact KS.out _ _ _ _ (by omega) (by omega) (KS.out _ _ _ _ (by omega) (by omega) S0.out)))
                            (fail)
                          clear gu1 fu1 gv1 fv1 hv2 Pu Qu S0 KS
                          obtain ⟨P2, Q2⟩ := hu.out.put1 UV.out.1 rfl (i := b0 + j) UV.out.2.2.2.1 (y := (i : Int)) (u := .int .i64 (i : Int)) rfl
                          replace kt := Aside.mk (boxG kt.out Q2 (fun e => by have h1 := (hu.out.blk rfl).1; have h2 := Option.some.inj e; omega))
                          replace kz := Aside.mk (boxG kz.out Q2 (fun e => by have h1 := (hu.out.blk rfl).1; have h2 := Option.some.inj e; omega))
                          replace hx := Aside.mk (hu.out.extG hx.out (by omega) Q2)
                          replace hob := Aside.mk (hob.out.grown_apart ap_b_u.out Q2)
                          replace hv := Aside.mk (hv.out.grown_apart ap_v_u.out Q2)
                          replace hu := Aside.mk P2
                          clear P2 Q2
                          generalize (wd.setCell ⟨gu, b0 + j, none⟩ (.int .i64 (i : Int))) = W30 at *
                          obtain ⟨P2, Q2⟩ := hv.out.put1 UV.out.2.1 rfl (i := b0 + j) UV.out.2.2.2.2 (y := X) (u := .int .i64 X) rfl
                          replace kt := Aside.mk (boxG kt.out Q2 (fun e => by have h1 := (hv.out.blk rfl).1; have h2 := Option.some.inj e; omega))
                          replace kz := Aside.mk (boxG kz.out Q2 (fun e => by have h1 := (hv.out.blk rfl).1; have h2 := Option.some.inj e; omega))
                          replace hx := Aside.mk (hv.out.extG hx.out (by omega) Q2)
                          replace hob := Aside.mk (hob.out.grown_apart ap_b_v.out Q2)
                          replace hu := Aside.mk (hu.out.grown_apart ap_u_v.out Q2)
                          replace hv := Aside.mk P2
                          clear P2 Q2
                          generalize (W30.setCell ⟨gv, b0 + j, none⟩ (.int .i64 X)) = W31 at *
                          have kt_ : W31.drew.heap[g]? = some (.cells #[.int .i64 st, .int .i64 (C : Int), .slice A acc.length c, .slice (some ⟨gb, 0, none⟩) next.length next.length, .slice (some ⟨gu, 0, none⟩) lu cu, .slice (some ⟨gv, 0, none⟩) lv cv] 85) := kt.out
                          have kz_ : W31.drew.heap[w.heap.size + 1]? = some (.cells #[.int .i64 0, .int .i64 0, .slice none 0 0, .slice none 0 0, .slice none 0 0, .slice none 0 0] 85) := kz.out
                          replace hob := Aside.mk (hob.out.drew)
                          replace hu := Aside.mk (hu.out.drew)
                          replace hv := Aside.mk (hv.out.drew)
                          replace hx := Aside.mk ((hx.out.drew))
                          generalize W31.drew = W32 at *
                          replace kt := Aside.mk kt_
                          clear kt_
                          replace kz := Aside.mk kz_
                          clear kz_
                          replace hu := Aside.mk (show Own (kI .i64) 3 W32 M Hk (.slice (some ⟨gu, 0, none⟩) lu cu) (fillF (i : Int) b0 0 (ri.take (j + 1)) pg.2).1 from by rw [UV.out.2.2.1]; exact hu.out)
                          replace hv := Aside.mk (show Own (kI .i64) 3 W32 M Hk (.slice (some ⟨gv, 0, none⟩) lv cv) (fillF (i : Int) b0 0 (ri.take (j + 1)) pg.2).2 from by rw [UV.out.2.2.1]; exact hv.out)
                          clear ap_b_u ap_b_v ap_v_u hwb
                          go_wp2_with fail
                          go_roundw
                          case rel => exact ⟨j + 1, _, _, _, _, _, _, _, by omega, by go_num, ap_u_v, hx, h1, h2, hD, ha, hord, hri, Bd, kt, nt, kz, nz, hob, hu, hv⟩
                          case measure => (first | (simp [intOf]; done) | (simp [intOf]; omega))
                  case neg =>
                    have hlji : ¬ (j : Int) < (ri.length : Int) := by omega
                    have hje : j = ri.length := by omega
                    have hst : packGo next (ord.take (q + 1)) = (pg.1.set i (b0 : Int), fillF (i : Int) b0 0 (ri.take j) pg.2) := by
                      rw [QQ.out.2, packGo_snoc, hpg.out, hje, List.take_length]; unfold packStep; rw [Int.toNat_natCast, ← QQ.out.1, if_neg hcnt, ← hb0.out]
                    replace hob := Aside.mk (show Own (kI .i64) 3 wr w.heap.size Hk (.slice (some ⟨gb, 0, none⟩) next.length next.length) (packGo next (ord.take (q + 1))).1 from by rw [hst]; exact hob.out)
                    replace hu := Aside.mk (show Own (kI .i64) 3 wr M Hk (.slice Au lu cu) (packGo next (ord.take (q + 1))).2.1 from by rw [hst]; exact hu.out)
                    replace hv := Aside.mk (show Own (kI .i64) 3 wr M Hk (.slice Av lv cv) (packGo next (ord.take (q + 1))).2.2 from by rw [hst]; exact hv.out)
                    clear hst
                    replace hje := Aside.mk hje
                    have lqt : g < wr.heap.size := boxL kt.out
                    obtain ⟨⟨ct0, ct1, ct2, ct3, ct4, ct5⟩, ft0, ft1, ft2, ft3, ft4, ft5⟩ := kb6 kt.out
                    have lqz : w.heap.size + 1 < wr.heap.size := boxL kz.out
                    obtain ⟨⟨cz0, cz1, cz2, cz3, cz4, cz5⟩, fz0, fz1, fz2, fz3, fz4, fz5⟩ := kb6 kz.out
                    have lqd : w.heap.size < wr.heap.size := hx.out.sat.lt (Bd.out 0 _ rfl)
                    have cd0 : wr.cell? ⟨w.heap.size, 0, none⟩ = some (.int .i64 st) := hx.out.sat _ _ _ (Bd.out 0 _ rfl)
                    have cd1 : wr.cell? ⟨w.heap.size, 1, none⟩ = some (.slice A1 acc.length c1) := hx.out.sat _ _ _ (Bd.out 1 _ rfl)
                    have cd2 : wr.cell? ⟨w.heap.size, 2, none⟩ = some (.slice (some ⟨b2, off2, none⟩) next.length c2) := hx.out.sat _ _ _ (Bd.out 2 _ rfl)
                    go_wp2_with fail
                    clear lqt ct0 ct1 ct2 ct3 ct4 ct5 ft0 ft1 ft2 ft3 ft4 ft5 lqz cz0 cz1 cz2 cz3 cz4 cz5 fz0 fz1 fz2 fz3 fz4 fz5 lqd cd0 cd1 cd2
                    go_roundw
                    case rel => exact ⟨q + 1, _, _, _, _, _, _, _, by omega, by go_num, ap_u_v, hx, h1, h2, hD, ha, hord, Bd, kt, nt, kz, nz, hob, hu, hv⟩
                    case measure => (first | (simp [intOf]; done) | (simp [intOf]; omega))
            case neg =>
              have hli : ¬ (q : Int) < (ord.length : Int) := by omega
              have hqe : ord.take q = ord := List.take_of_length_le (by omega)
              rw [hqe] at hob hu hv
              clear hqe
              have lqt : g < wr.heap.size := boxL kt.out
              obtain ⟨⟨ct0, ct1, ct2, ct3, ct4, ct5⟩, ft0, ft1, ft2, ft3, ft4, ft5⟩ := kb6 kt.out
              have lqz : w.heap.size + 1 < wr.heap.size := boxL kz.out
              obtain ⟨⟨cz0, cz1, cz2, cz3, cz4, cz5⟩, fz0, fz1, fz2, fz3, fz4, fz5⟩ := kb6 kz.out
              have lqd : w.heap.size < wr.heap.size := hx.out.sat.lt (Bd.out 0 _ rfl)
              have cd0 : wr.cell? ⟨w.heap.size, 0, none⟩ = some (.int .i64 st) := hx.out.sat _ _ _ (Bd.out 0 _ rfl)
              have cd1 : wr.cell? ⟨w.heap.size, 1, none⟩ = some (.slice A1 acc.length c1) := hx.out.sat _ _ _ (Bd.out 1 _ rfl)
              have cd2 : wr.cell? ⟨w.heap.size, 2, none⟩ = some (.slice (some ⟨b2, off2, none⟩) next.length c2) := hx.out.sat _ _ _ (Bd.out 2 _ rfl)
              go_wp2_with fail
              clear lqt ct0 ct1 ct2 ct3 ct4 ct5 ft0 ft1 ft2 ft3 ft4 ft5 lqz cz0 cz1 cz2 cz3 cz4 cz5 fz0 fz1 fz2 fz3 fz4 fz5 lqd cd0 cd1 cd2
              have kt_ : ((((((wr.setCell ⟨w.heap.size + 1, 0, none⟩ (.int .i64 st)).setCell ⟨w.heap.size + 1, 1, none⟩ (.int .i64 (C : Int))).setCell ⟨w.heap.size + 1, 2, none⟩ (.slice A acc.length c)).setCell ⟨w.heap.size + 1, 3, none⟩ (.slice (some ⟨gb, 0, none⟩) next.length next.length)).setCell ⟨w.heap.size + 1, 4, none⟩ (.slice Au lu cu)).setCell ⟨w.heap.size + 1, 5, none⟩ (.slice Av lv cv)).heap[g]? = some (.cells #[.int .i64 st, .int .i64 (C : Int), .slice A acc.length c, .slice (some ⟨gb, 0, none⟩) next.length next.length, .slice Au lu cu, .slice Av lv cv] 85) := (boxS_ne (boxS_ne (boxS_ne (boxS_ne (boxS_ne (boxS_ne kt.out (by first | omega | (simp; omega)) 0 (.int .i64 st)) (by first | omega | (simp; omega)) 1 (.int .i64 (C : Int))) (by first | omega | (simp; omega)) 2 (.slice A acc.length c)) (by first | omega | (simp; omega)) 3 (.slice (some ⟨gb, 0, none⟩) next.length next.length)) (by first | omega | (simp; omega)) 4 (.slice Au lu cu)) (by first | omega | (simp; omega)) 5 (.slice Av lv cv))
              have kz_ : ((((((wr.setCell ⟨w.heap.size + 1, 0, none⟩ (.int .i64 st)).setCell ⟨w.heap.size + 1, 1, none⟩ (.int .i64 (C : Int))).setCell ⟨w.heap.size + 1, 2, none⟩ (.slice A acc.length c)).setCell ⟨w.heap.size + 1, 3, none⟩ (.slice (some ⟨gb, 0, none⟩) next.length next.length)).setCell ⟨w.heap.size + 1, 4, none⟩ (.slice Au lu cu)).setCell ⟨w.heap.size + 1, 5, none⟩ (.slice Av lv cv)).heap[w.heap.size + 1]? = some (.cells #[.int .i64 st, .int .i64 (C : Int), .slice A acc.length c, .slice (some ⟨gb, 0, none⟩) next.length next.length, .slice Au lu cu, .slice Av lv cv] 85) := (boxS (boxS (boxS (boxS (boxS (boxS kz.out 0 (.int .i64 st)) 1 (.int .i64 (C : Int))) 2 (.slice A acc.length c)) 3 (.slice (some ⟨gb, 0, none⟩) next.length next.length)) 4 (.slice Au lu cu)) 5 (.slice Av lv cv))
              replace hob := Aside.mk ((((((hob.out.grown (grownBy_setCell _ (w.heap.size + 1) 0 (.int .i64 st)) (Or.inr (fun e => by first | (have h1 := (hob.out.blk e).1; omega) | (simp [Value.ownBlock] at e; done) | (simp [Value.ownBlock] at e; omega)))).grown (grownBy_setCell _ (w.heap.size + 1) 1 (.int .i64 (C : Int))) (Or.inr (fun e => by first | (have h1 := (hob.out.blk e).1; omega) | (simp [Value.ownBlock] at e; done) | (simp [Value.ownBlock] at e; omega)))).grown (grownBy_setCell _ (w.heap.size + 1) 2 (.slice A acc.length c)) (Or.inr (fun e => by first | (have h1 := (hob.out.blk e).1; omega) | (simp [Value.ownBlock] at e; done) | (simp [Value.ownBlock] at e; omega)))).grown (grownBy_setCell _ (w.heap.size + 1) 3 (.slice (some ⟨gb, 0, none⟩) next.length next.length)) (Or.inr (fun e => by first | (have h1 := (hob.out.blk e).1; omega) | (simp [Value.ownBlock] at e; done) | (simp [Value.ownBlock] at e; omega)))).grown (grownBy_setCell _ (w.heap.size + 1) 4 (.slice Au lu cu)) (Or.inr (fun e => by first | (have h1 := (hob.out.blk e).1; omega) | (simp [Value.ownBlock] at e; done) | (simp [Value.ownBlock] at e; omega)))).grown (grownBy_setCell _ (w.heap.size + 1) 5 (.slice Av lv cv)) (Or.inr (fun e => by first | (have h1 := (hob.out.blk e).1; omega) | (simp [Value.ownBlock] at e; done) | (simp [Value.ownBlock] at e; omega))))
              replace hu := Aside.mk ((((((hu.out.grown (grownBy_setCell _ (w.heap.size + 1) 0 (.int .i64 st)) (Or.inr (fun e => by first | (have h1 := (hu.out.blk e).1; omega) | (simp [Value.ownBlock] at e; done) | (simp [Value.ownBlock] at e; omega)))).grown (grownBy_setCell _ (w.heap.size + 1) 1 (.int .i64 (C : Int))) (Or.inr (fun e => by first | (have h1 := (hu.out.blk e).1; omega) | (simp [Value.ownBlock] at e; done) | (simp [Value.ownBlock] at e; omega)))).grown (grownBy_setCell _ (w.heap.size + 1) 2 (.slice A acc.length c)) (Or.inr (fun e => by first | (have h1 := (hu.out.blk e).1; omega) | (simp [Value.ownBlock] at e; done) | (simp [Value.ownBlock] at e; omega)))).grown (grownBy_setCell _ (w.heap.size + 1) 3 (.slice (some ⟨gb, 0, none⟩) next.length next.length)) (Or.inr (fun e => by first | (have h1 := (hu.out.blk e).1; omega) | (simp [Value.ownBlock] at e; done) | (simp [Value.ownBlock] at e; omega)))).grown (grownBy_setCell _ (w.heap.size + 1) 4 (.slice Au lu cu)) (Or.inr (fun e => by first | (have h1 := (hu.out.blk e).1; omega) | (simp [Value.ownBlock] at e; done) | (simp [Value.ownBlock] at e; omega)))).grown (grownBy_setCell _ (w.heap.size + 1) 5 (.slice Av lv cv)) (Or.inr (fun e => by first | (have h1 := (hu.out.blk e).1; omega) | (simp [Value.ownBlock] at e; done) | (simp [Value.ownBlock] at e; omega))))
              replace hv := Aside.mk ((((((hv.out.grown (grownBy_setCell _ (w.heap.size + 1) 0 (.int .i64 st)) (Or.inr (fun e => by first | (have h1 := (hv.out.blk e).1; omega) | (simp [Value.ownBlock] at e; done) | (simp [Value.ownBlock] at e; omega)))).grown (grownBy_setCell _ (w.heap.size + 1) 1 (.int .i64 (C : Int))) (Or.inr (fun e => by first | (have h1 := (hv.out.blk e).1; omega) | (simp [Value.ownBlock] at e; done) | (simp [Value.ownBlock] at e; omega)))).grown (grownBy_setCell _ (w.heap.size + 1) 2 (.slice A acc.length c)) (Or.inr (fun e => by first | (have h1 := (hv.out.blk e).1; omega) | (simp [Value.ownBlock] at e; done) | (simp [Value.ownBlock] at e; omega)))).grown (grownBy_setCell _ (w.heap.size + 1) 3 (.slice (some ⟨gb, 0, none⟩) next.length next.length)) (Or.inr (fun e => by first | (have h1 := (hv.out.blk e).1; omega) | (simp [Value.ownBlock] at e; done) | (simp [Value.ownBlock] at e; omega)))).grown (grownBy_setCell _ (w.heap.size + 1) 4 (.slice Au lu cu)) (Or.inr (fun e => by first | (have h1 := (hv.out.blk e).1; omega) | (simp [Value.ownBlock] at e; done) | (simp [Value.ownBlock] at e; omega)))).grown (grownBy_setCell _ (w.heap.size + 1) 5 (.slice Av lv cv)) (Or.inr (fun e => by first | (have h1 := (hv.out.blk e).1; omega) | (simp [Value.ownBlock] at e; done) | (simp [Value.ownBlock] at e; omega))))
              replace hx := Aside.mk (((((((hx.out.setCell (b := w.heap.size + 1) (o := 0) (by first | omega | (simp; omega)) nz.out (.int .i64 st)).setCell (b := w.heap.size + 1) (o := 1) (by first | omega | (simp; omega)) nz.out (.int .i64 (C : Int))).setCell (b := w.heap.size + 1) (o := 2) (by first | omega | (simp; omega)) nz.out (.slice A acc.length c)).setCell (b := w.heap.size + 1) (o := 3) (by first | omega | (simp; omega)) nz.out (.slice (some ⟨gb, 0, none⟩) next.length next.length)).setCell (b := w.heap.size + 1) (o := 4) (by first | omega | (simp; omega)) nz.out (.slice Au lu cu)).setCell (b := w.heap.size + 1) (o := 5) (by first | omega | (simp; omega)) nz.out (.slice Av lv cv)))
              generalize ((((((wr.setCell ⟨w.heap.size + 1, 0, none⟩ (.int .i64 st)).setCell ⟨w.heap.size + 1, 1, none⟩ (.int .i64 (C : Int))).setCell ⟨w.heap.size + 1, 2, none⟩ (.slice A acc.length c)).setCell ⟨w.heap.size + 1, 3, none⟩ (.slice (some ⟨gb, 0, none⟩) next.length next.length)).setCell ⟨w.heap.size + 1, 4, none⟩ (.slice Au lu cu)).setCell ⟨w.heap.size + 1, 5, none⟩ (.slice Av lv cv)) = W33 at *
              replace kt := Aside.mk kt_
              clear kt_
              replace kz := Aside.mk kz_
              clear kz_
              have PB := packGo_B (dfaErr_row hte.out) ord
              have hbl9 : (packGo next ord).1.length = next.length := PB.base
              have hub9 : (packGo next ord).2.1.length ≤ 3200 := by have := PB.max; omega
              have hvb9 : (packGo next ord).2.2.length ≤ 3200 := by have := PB.len; omega
              clear PB
              have ap_u_b := Aside.mk (hu.out.apart_lo (b := gb) (n := next.length) (c := next.length) hbM).symm
              have ap_v_b := Aside.mk (hv.out.apart_lo (b := gb) (n := next.length) (c := next.length) hbM).symm
              have ap_v_u := Aside.mk ap_u_v.out.symm
              have hgl := boxL kt.out
              obtain ⟨H1, hx2, hle, ⟨Ab, cb9, e1, hfb⟩, hold⟩ := hob.out.freezeE hx.out (Nat.le_refl _) (by omega)
              simp only [List.cons.injEq, Value.slice.injEq, and_true] at e1; obtain ⟨eA, eL, eC⟩ := e1; subst eA; subst eC
              replace h1 := Aside.mk (h1.out.mono hle)
              replace h2 := Aside.mk (h2.out.mono hle)
              replace hD := Aside.mk (hD.out.mono hle)
              replace ha := Aside.mk (ha.out.mono hle)
              replace hord := Aside.mk (hord.out.mono hle)
              replace Bd := Aside.mk (Bd.out.mono hle)
              replace hu := Aside.mk (hu.out.keep hle fun bb hb => ⟨rfl, fun o => (hold bb o (fun e => ap_u_b.out.elim (fun h => by rw [h] at hb; cases hb) (fun h => h (hb.trans e.symm)))).trans ((hu.out.blk hb).2.2 o)⟩)
              replace hv := Aside.mk (hv.out.keep hle fun bb hb => ⟨rfl, fun o => (hold bb o (fun e => ap_v_b.out.elim (fun h => by rw [h] at hb; cases hb) (fun h => h (hb.trans e.symm)))).trans ((hv.out.blk hb).2.2 o)⟩)
              replace hx := Aside.mk hx2
              replace hfb := Aside.mk hfb
              clear hle hold hx2
              obtain ⟨H1, hx2, hle, ⟨Au9, cu9, e1, hfu⟩, hold⟩ := hu.out.freezeE hx.out (by omega) (by omega)
              cases e1
              replace h1 := Aside.mk (h1.out.mono hle)
              replace h2 := Aside.mk (h2.out.mono hle)
              replace hD := Aside.mk (hD.out.mono hle)
              replace ha := Aside.mk (ha.out.mono hle)
              replace hord := Aside.mk (hord.out.mono hle)
              replace hfb := Aside.mk (hfb.out.mono hle)
              replace Bd := Aside.mk (Bd.out.mono hle)
              replace hv := Aside.mk (hv.out.keep hle fun bb hb => ⟨rfl, fun o => (hold bb o (fun e => ap_v_u.out.elim (fun h => by rw [h] at hb; cases hb) (fun h => h (hb.trans e.symm)))).trans ((hv.out.blk hb).2.2 o)⟩)
              replace hx := Aside.mk hx2
              replace hfu := Aside.mk hfu
              clear hle hold hx2
              obtain ⟨H1, hx2, hle, ⟨Av9, cv9, e1, hfv⟩, hold⟩ := hv.out.freezeE hx.out (by omega) (by omega)
              cases e1
              replace h1 := Aside.mk (h1.out.mono hle)
              replace h2 := Aside.mk (h2.out.mono hle)
              replace hD := Aside.mk (hD.out.mono hle)
              replace ha := Aside.mk (ha.out.mono hle)
              replace hord := Aside.mk (hord.out.mono hle)
              replace hfb := Aside.mk (hfb.out.mono hle)
              replace hfu := Aside.mk (hfu.out.mono hle)
              replace Bd := Aside.mk (Bd.out.mono hle)
              replace hx := Aside.mk hx2
              replace hfv := Aside.mk hfv
              clear hle hold hx2
              refine bodyPost_ret (resC2 rfl _ _ _ rfl (run_loadVar_row _ _ _ _ _ (0, 0) _ kz.out Try.underlying85 rfl (by kernel_rfl))) rfl ?_
              have hC9 : C = (next.getD 0 []).length := HN.out.2
              refine ⟨_, _, 0, packT st acc next ord, rfl, ⟨_, _, _, _, _, _, _, _, ?_, ha.out, hfb.out, hfu.out, hfv.out⟩, ⟨hte.out.symm, Or.inr ⟨rfl, ord, HO.out.1, HO.out.2.1, rfl⟩⟩, hx.out⟩
              show [_, Value.int .i64 (C : Int), _, Value.slice _ next.length next.length, _, _] = [_, Value.int .i64 (((next.getD 0 []).length : Nat) : Int), _, Value.slice _ (packGo next ord).1.length next.length, _, _]
              rw [← hC9, hbl9]
              rfl
end Go.Proofs.Ytbnahmeaeakhhaa.B
