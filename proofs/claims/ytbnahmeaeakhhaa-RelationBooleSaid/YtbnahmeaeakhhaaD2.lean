/- Contracts: parllaw1.sp, one, star. Contract: parllaw1.relationBegun. -/
import Derived.Test.YtbnahmeaeakhhaaCr11
namespace Go.Proofs.Ytbnahmeaeakhhaa.B
set_option linter.unusedVariables false
set_option linter.unusedSimpArgs false
open Go Go.RowKit Classical

theorem results_c1 {fn : Func} {a : Tmp} {T : TypeId} (h : fn.results = #[.cell a T]) (tmps : Array Value) (P : Program) (w : World) {ad : Addr} {v : Value} (ha : tmps.getD a undef = .pointer (some ad)) (hl : (loadVar T ad).run P w = .ok v w) :
    (results fn tmps).run P w = .ok v w := by
  rw [Array.getD_eq_getD_getElem?] at ha
  simp [results, h, ha, hl, asAddr]

/-- a variable of several cells in memory -/
theorem boxAt {w : World} {b : Nat} {cs : Array Value} {T : TypeId} (h : w.heap[b]? = some (.cells cs T)) (j : Nat) : w.cell? ⟨b, j, none⟩ = cs[j]? ∧ w.frozen? ⟨b, j, none⟩ = false := by
  simp [World.cell?, World.frozen?, h]
theorem box6 {w : World} {b : Nat} {v0 v1 v2 v3 v4 v5 : Value} {T : TypeId} (h : w.heap[b]? = some (.cells #[v0, v1, v2, v3, v4, v5] T)) :
    (w.cell? ⟨b, 0, none⟩ = some v0 ∧ w.cell? ⟨b, 1, none⟩ = some v1 ∧ w.cell? ⟨b, 2, none⟩ = some v2 ∧ w.cell? ⟨b, 3, none⟩ = some v3 ∧ w.cell? ⟨b, 4, none⟩ = some v4 ∧ w.cell? ⟨b, 5, none⟩ = some v5) ∧
    (w.frozen? ⟨b, 0, none⟩ = false ∧ w.frozen? ⟨b, 1, none⟩ = false ∧ w.frozen? ⟨b, 2, none⟩ = false ∧ w.frozen? ⟨b, 3, none⟩ = false ∧ w.frozen? ⟨b, 4, none⟩ = false ∧ w.frozen? ⟨b, 5, none⟩ = false) := by
  simp [World.cell?, World.frozen?, h]
theorem box_set {w : World} {b : Nat} {cs : Array Value} {T : TypeId} (h : w.heap[b]? = some (.cells cs T)) (j : Nat) (v : Value) : (w.setCell ⟨b, j, none⟩ v).heap[b]? = some (.cells (cs.setIfInBounds j v) T) := by
  simp [World.setCell, Array.getElem?_modify, h]
theorem box6_set {w : World} {b : Nat} {v0 v1 v2 v3 v4 v5 : Value} {T : TypeId} (h : w.heap[b]? = some (.cells #[v0, v1, v2, v3, v4, v5] T)) (u0 u1 u2 u3 u4 u5 : Value) :
    ((((((w.setCell ⟨b, 0, none⟩ u0).setCell ⟨b, 1, none⟩ u1).setCell ⟨b, 2, none⟩ u2).setCell ⟨b, 3, none⟩ u3).setCell ⟨b, 4, none⟩ u4).setCell ⟨b, 5, none⟩ u5).heap[b]? = some (.cells #[u0, u1, u2, u3, u4, u5] T) :=
  box_set (box_set (box_set (box_set (box_set (box_set h 0 u0) 1 u1) 2 u2) 3 u3) 4 u4) 5 u5

theorem Ext.set6 {H H' : PH} {w w1 : World} (h : Ext H H' w w1) {b : Nat} (hb : w.heap.size ≤ b) (hn : ∀ o, H' b o = none) (u0 u1 u2 u3 u4 u5 : Value) :
    Ext H H' w ((((((w1.setCell ⟨b, 0, none⟩ u0).setCell ⟨b, 1, none⟩ u1).setCell ⟨b, 2, none⟩ u2).setCell ⟨b, 3, none⟩ u3).setCell ⟨b, 4, none⟩ u4).setCell ⟨b, 5, none⟩ u5) :=
  (((((h.setCell hb hn u0).setCell hb hn u1).setCell hb hn u2).setCell hb hn u3).setCell hb hn u4).setCell hb hn u5

theorem sp_any (a b : Int) (w : World) : Calls Try.prog 89 #[.int .i64 a, .int .i64 b] w fun e w' => e = .returned (.agg #[.int .i64 a, .int .i64 b]) ∧ Below w.heap.size w w' := by
  go_enter Try.func89, Try.ntmps89
  go_wp2_with fail
  refine bodyPost_ret (results_c1 rfl _ _ _ rfl (run_loadVar_row _ _ _ _ _ (0, 0) _ (heap_alloc_new _ _) Try.underlying121 rfl (by kernel_rfl))) rfl ?_
  exact ⟨rfl, (Below.refl _ _).alloc (Nat.le_refl _) _⟩

def oneRe (c : Int) : Re := .mk 2 [⟨c, c⟩] [] 0 0 false
def starRe (r : Re) : Re := .mk 5 [] [r] 0 0 false

theorem lone_any (H : PH) (c : Int) (w : World) (hs : Sat w H) : Calls Try.prog 79 #[.int .i64 c] w fun e w' => ∃ H' cs, e = .returned (.agg cs.toArray) ∧ RdRe H' (oneRe c) cs ∧ Ext H H' w w' := by
  go_enter Try.func79, Try.ntmps79
  go_wp2_with fail
  refine (sp_any c c _).mono ?_
  rintro e w1 ⟨rfl, hb1⟩
  have k2 : w1.heap[w.heap.size]? = some (.cells #[.int .i64 0, .slice none 0 0, .slice none 0 0, .int .i64 0, .int .i64 0, .bool false] 25) := by
    rw [hb1.block _ (by simp)]; exact heap_alloc_new _ _
  have K2 := Aside.mk k2
  obtain ⟨⟨a0, a1, a2, a3, a4, a5⟩, b0, b1, b2, b3, b4, b5⟩ := box6 k2
  have hz : w.heap.size < w1.heap.size := (Array.getElem?_eq_some_iff.1 k2).1
  clear k2
  go_wp2_with fail
  have hx1 : Ext H H w w1 := ((Ext.refl hs).alloc _).then_below hb1
  have hn : ∀ o, H w.heap.size o = none := fun o => hs.new (Nat.le_refl _) o
  have hx2 := hx1.set6 (Nat.le_refl _) hn (.int .i64 2) (.slice (some ⟨w1.heap.size, 0, none⟩) 1 1) (.slice none 0 0) (.int .i64 0) (.int .i64 0) (.bool false)
  have hh := box6_set K2.out (.int .i64 2) (.slice (some ⟨w1.heap.size, 0, none⟩) 1 1) (.slice none 0 0) (.int .i64 0) (.int .i64 0) (.bool false)
  generalize hW : (((((w1.setCell ⟨w.heap.size, 0, none⟩ (.int .i64 2)).setCell ⟨w.heap.size, 1, none⟩ (.slice (some ⟨w1.heap.size, 0, none⟩) 1 1)).setCell ⟨w.heap.size, 2, none⟩ (.slice none 0 0)).setCell ⟨w.heap.size, 3, none⟩ (.int .i64 0)).setCell ⟨w.heap.size, 4, none⟩ (.int .i64 0)).setCell ⟨w.heap.size, 5, none⟩ (.bool false) = wS at *
  have hsz : wS.heap.size = w1.heap.size := by rw [← hW]; simp
  have ho : Own kSpan 121 (wS.alloc (.cells #[.int .i64 c, .int .i64 c] 121)) w1.heap.size H (.slice (some ⟨w1.heap.size, 0, none⟩) 1 1) [⟨c, c⟩] := by
    have := Own.lit (k := kSpan) (e := 121) (xs := [⟨c, c⟩]) hx2.sat #[.int .i64 c, .int .i64 c] (Nat.le_of_eq hsz.symm) (EncL.single rfl) (by unfold maxLen; simp)
    rw [hsz] at this
    exact this
  obtain ⟨H', hx3, hle, ⟨A, c', e1, hsl⟩, -⟩ := ho.freezeE (hx2.alloc _) (Nat.le_of_lt hz) (by simp)
  cases e1
  refine bodyPost_ret (results_c1 rfl _ _ _ rfl (run_loadVar_row _ _ _ _ _ (0, 0) _ (by rw [heap_alloc_old _ _ (by rw [hsz]; exact hz)]; exact hh) Try.underlying25 rfl (by kernel_rfl))) rfl ?_
  exact ⟨H', _, rfl, RdRe.shut hsl (SlR.nil _ _), hx3⟩

theorem lstar_any (H : PH) (r : Re) (cs : List Value) (w : World) (hr : RdRe H r cs) (hs : Sat w H) : Calls Try.prog 78 #[.agg cs.toArray] w fun e w' => ∃ H' cs', e = .returned (.agg cs'.toArray) ∧ RdRe H' (starRe r) cs' ∧ Ext H H' w w' := by
  cases r with
  | mk kind set args mn mx neg =>
  have hr0 := hr
  obtain ⟨A1, c1, A2, c2, rfl, -, -⟩ := hr.open
  go_enter Try.func78, Try.ntmps78
  go_wp2_with fail
  generalize hV : (#[.int .i64 5, .slice none 0 0, .slice (some ⟨w.heap.size + 1 + 1, 0, none⟩) 1 1, .int .i64 0, .int .i64 0, .bool false] : Array Value) = V
  have hx2 : Ext H H w ((w.alloc (.cells #[.int .i64 kind, .slice A1 set.length c1, .slice A2 args.length c2, .int .i64 mn, .int .i64 mx, .bool neg] 25)).alloc (.cells V 25)) := ((Ext.refl hs).alloc _).alloc _
  generalize hW : (w.alloc (.cells #[.int .i64 kind, .slice A1 set.length c1, .slice A2 args.length c2, .int .i64 mn, .int .i64 mx, .bool neg] 25)) = wS at *
  have hwS : wS.heap.size = w.heap.size + 1 := by rw [← hW]; simp
  have hsz : (wS.alloc (.cells V 25)).heap.size = w.heap.size + 1 + 1 := by simp [hwS]
  have ho := Own.lit (k := kRe) (e := 25) (xs := [.mk kind set args mn mx neg]) (base := w.heap.size) hx2.sat #[.int .i64 kind, .slice A1 set.length c1, .slice A2 args.length c2, .int .i64 mn, .int .i64 mx, .bool neg] (by omega) (EncL.single hr) (by unfold maxLen; simp)
  rw [hsz] at ho
  obtain ⟨H', hx3, hle, ⟨A, c', e1, hsl⟩, -⟩ := ho.freezeE (hx2.alloc _) (Nat.le_refl _) (by simp)
  cases e1
  refine bodyPost_ret (results_c1 rfl _ _ _ rfl (run_loadVar_row _ _ _ _ V (0, 0) _ (by rw [heap_alloc_old _ _ (by rw [hsz]; omega), ← hwS]; exact heap_alloc_new _ _) Try.underlying25 rfl (by subst hV; kernel_rfl))) rfl ?_
  subst hV
  exact ⟨H', _, rfl, RdRe.shut (SlR.nil _ _) hsl, hx3⟩
end Go.Proofs.Ytbnahmeaeakhhaa.B

namespace Go.Proofs.Ytbnahmeaeakhhaa.B
set_option linter.unusedVariables false
set_option linter.unusedSimpArgs false
open Go Go.RowKit Classical

theorem M_one (t : List Int) (c : Int) (i j : Nat) : M t (oneRe c) i j ↔ j = i + 1 ∧ t[i]? = some c := by
  rw [oneRe, M_eq]
  simp only [opM, if_neg (show ¬ (2 : Int) = 1 by decide), if_pos]
  constructor
  · rintro ⟨h1, d, h2, s, hs, h3, h4⟩
    simp at hs; subst hs
    simp only at h3 h4
    exact ⟨h1, by rw [h2]; congr 1; omega⟩
  · rintro ⟨h1, h2⟩
    exact ⟨h1, c, h2, ⟨c, c⟩, by simp, by simp, by simp⟩
theorem Pow_one (t : List Int) (c : Int) (k i j : Nat) : Pow t.length (M t (oneRe c)) k i j ↔ j = i + k ∧ j ≤ i + k ∧ ∀ m, m < k → t[i + m]? = some c := by
  induction k generalizing j with
  | zero => simp [Pow]; omega
  | succ k ih =>
    simp only [Pow, Comp, ih, M_one]
    constructor
    · rintro ⟨l, h1, ⟨h2, h3, h4⟩, h5, h6⟩
      refine ⟨by omega, by omega, fun m hm => ?_⟩
      by_cases hmk : m < k
      · exact h4 m hmk
      · obtain rfl : m = k := by omega
        rw [← h2]; exact h6
    · rintro ⟨h1, h2, h3⟩
      have hk := h3 k (by omega)
      have := (List.getElem?_eq_some_iff.1 hk).1
      exact ⟨i + k, by omega, ⟨rfl, by omega, fun m hm => h3 m (by omega)⟩, by omega, hk⟩
theorem err_one (c : Int) (h0 : 0 ≤ c) (h1 : c ≤ 1114111) : checkRe (oneRe c) 40 = 0 := by
  simp [checkRe, oneRe, pre_eq, errL, Re.err, Re.kind, Re.set, Re.args, Re.mn, Re.mx, Re.neg, nodeErr, need, setErr, setGo, goodSpan]
  omega
theorem err_star (c : Int) (h0 : 0 ≤ c) (h1 : c ≤ 1114111) : checkRe (starRe (oneRe c)) 40 = 0 := by
  simp [checkRe, starRe, oneRe, pre_eq, errL, Re.err, Re.kind, Re.set, Re.args, Re.mn, Re.mx, Re.neg, nodeErr, need, setErr, setGo, goodSpan]
  omega
theorem beg_err1 : textErr (starRe (oneRe 97)) [97, 98] 24 = 0 := by
  rw [textErr, err_star _ (by decide) (by decide)]; simp [runesErr]
theorem beg_err2 : textErr (oneRe 97) [97] 24 = 0 := by
  rw [textErr, err_one _ (by decide) (by decide)]; simp [runesErr]
theorem beg_M (i j : Nat) : M [97, 98] (starRe (oneRe 97)) i j ↔ i = j ∨ i = 0 ∧ j = 1 := by
  rw [starRe, M_eq]
  simp only [opM, if_neg (show ¬ (5 : Int) = 1 by decide), if_neg (show ¬ (5 : Int) = 2 by decide), if_neg (show ¬ (5 : Int) = 3 by decide), if_neg (show ¬ (5 : Int) = 4 by decide), if_pos, List.map, List.headD, Star]
  have hp := Pow_one [97, 98] 97
  constructor
  · rintro ⟨k, hk⟩
    obtain ⟨h1, -, h3⟩ := (hp k i j).1 hk
    match k, h3 with
    | 0, _ => left; omega
    | k + 1, h3 =>
      have h4 := h3 0 (by omega)
      rw [Nat.add_zero] at h4
      match i, h4 with
      | 0, _ =>
        match k, h3 with
        | 0, _ => right; omega
        | k + 1, h3 => have := h3 1 (by omega); simp at this
      | 1, h4 => simp at h4
      | i + 2, h4 => simp at h4
  · rintro (rfl | ⟨rfl, rfl⟩)
    · exact ⟨0, rfl⟩
    · refine ⟨1, (hp 1 0 1).2 ⟨by omega, by omega, fun m hm => ?_⟩⟩
      have h0 : m = 0 := by omega
      subst h0; rfl
theorem beg_prs : prs 2 (M [97, 98] (starRe (oneRe 97))) 3 = [(0, 0), (0, 1), (1, 1), (2, 2)] := by
  have h : M [97, 98] (starRe (oneRe 97)) = fun i j => i = j ∨ i = 0 ∧ j = 1 := by funext i j; exact propext (beg_M i j)
  rw [h]
  simp [prs, prow, List.range_succ]

@[go_sem] theorem eqPair (a b c d : Int) (w : World) : (Op.equalIn 10000 33 (.agg #[.int .i64 a, .int .i64 b]) (.agg #[.int .i64 c, .int .i64 d])).run Try.prog w = .ok (a == c && b == d) w := by
  have u3 := Try.underlying3
  have a3 := Try.isAgg3
  have z3 := Try.sizeOf3
  rw [show (10000 : Nat) = 9999 + 1 from rfl, Op.equalIn]
  simp only [Sem.run_bind, run_underlying Try.underlying33, Result.andThen_ok]
  simp only [Std.Legacy.Range.forIn_eq_forIn_range', Std.Legacy.Range.size, Nat.sub_zero, Nat.add_sub_cancel, Nat.div_one, List.range'_succ, List.range'_zero, List.forIn_cons, List.forIn_nil]
  go_simp
  by_cases h1 : a = c <;> by_cases h2 : b = d <;> simp [h1, h2]

/-- a row just laid, as H knows it -/
theorem lit_sl {α : Type} {k : Kd α} {H : PH} {w : World} {e : TypeId} {xs : List α} (hs : Sat w H) (cs : Array Value) (henc : EncL k H xs cs.toList) (hl : xs.length ≤ 140737488355328) :
    ∃ H', H.le H' ∧ Sat (w.alloc (.cells cs e)) H' ∧ SlR k H' (some ⟨w.heap.size, 0, none⟩) xs.length xs.length xs := by
  have ho := Own.lit (k := k) (e := e) (base := 0) hs cs (Nat.zero_le _) henc (by unfold maxLen; omega)
  obtain ⟨H', h1, h2, ⟨A, c, e, h3⟩, -⟩ := ho.freeze (hs.alloc _) hl
  cases e
  exact ⟨H', h1, h2, h3⟩

set_option maxRecDepth 100000 in
set_option maxHeartbeats 2000000 in
theorem relationBegun_any (w : World) : Calls Try.prog 18 #[] w fun e w' => e = .returned (.bool true) ∧ Below w.heap.size w w' := by
  go_enter Try.func18, Try.ntmps18
  go_wp2_with fail
  refine (lone_any emp 97 w (sat_emp w)).mono ?_
  rintro e w1 ⟨H1, cs1, rfl, hr1, hx1⟩
  go_wp2_with fail
  refine (lstar_any H1 _ _ w1 hr1 hx1.sat).mono ?_
  rintro e w2 ⟨H2, cs2, rfl, hr2, hx2⟩
  have hb2 := bT hx1.below hx2.below
  have hs2 := hx2.sat
  have HR := Aside.mk hr2
  clear hx1 hx2 hr1 hr2
  go_wp2_with fail
  obtain ⟨H3, hle3, hs3, ht3⟩ := lit_sl (k := kI .i64) (e := 3) (xs := [97, 98]) hs2 #[.int .i64 97, .int .i64 98] ⟨[.int .i64 97], [.int .i64 98], rfl, rfl, EncL.single rfl⟩ (by simp)
  have hpr := pairs_any H3 _ _ [97, 98] _ _ _ (HR.out.mono hle3) ht3 hs3
  rw [beg_err1, if_pos rfl, List.length_cons, List.length_cons, List.length_nil, beg_prs] at hpr
  have hb3 := bA hb2 (.cells #[.int .i64 97, .int .i64 98] 3)
  clear ht3 hb2
  refine hpr.mono ?_
  rintro e w4 ⟨v, rfl, ho, hb4⟩
  have hb5 := bT hb3 hb4
  obtain ⟨H4, -, hs4, ⟨A3, c3, e1, hl⟩, -⟩ := ho.freeze (sat_emp w4) (by simp)
  cases e1
  have HL := Aside.mk hl
  clear hb4 hb3 hpr ho hs3 hle3 hl
  go_wp2_with fail
  refine (lone_any H4 97 w4 hs4).mono ?_
  rintro e w6 ⟨H6, cs6, rfl, hr6, hx6⟩
  have hb6 := bT hb5 hx6.below
  have hs6 := hx6.sat
  have hle6 := Aside.mk hx6.le
  have HR6 := Aside.mk hr6
  clear hx6 hr6 hb5
  go_wp2_with fail
  obtain ⟨H7, hle7, hs7, ht7⟩ := lit_sl (k := kI .i64) (e := 3) (xs := [97]) hs6 #[.int .i64 97] (EncL.single rfl) (by simp)
  have hpr := match_any H7 _ _ [97] _ _ _ (HR6.out.mono hle7) ht7 hs7
  rw [beg_err2] at hpr
  have hM : decide ((0 : Int) = 0 ∧ M [97] (oneRe 97) 0 ([97] : List Int).length) = true := by
    simp [M_one]
  rw [hM] at hpr
  have hb7 := bA hb6 (.cells #[.int .i64 97] 3)
  refine hpr.mono ?_
  rintro e w8 ⟨rfl, hb8⟩
  have hb9 := bT hb7 hb8
  have hs9 := hs7.below hb8
  have hl9 : SlR kP H7 A3 4 c3 [(0, 0), (0, 1), (1, 1), (2, 2)] := (HL.out.mono hle6.out).mono hle7
  obtain ⟨b, off, cs, rfl, hrd, hcell⟩ := hl9.row 1 (by simp)
  obtain rfl : cs = [.int .i64 0, .int .i64 1] := hrd
  obtain ⟨g0, g1⟩ := at2 hs9 hcell
  simp only [kP] at g0 g1
  have hc3 := hl9.2.1
  clear hpr hb8 hb7 hM hcell hl9 hs9 hs7 ht7 hle7 HL hle6
  go_wp2_with fail
  go_ret
  exact ⟨rfl, hb9⟩
end Go.Proofs.Ytbnahmeaeakhhaa.B
