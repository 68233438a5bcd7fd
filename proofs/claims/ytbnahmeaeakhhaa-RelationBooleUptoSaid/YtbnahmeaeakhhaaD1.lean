/- Contracts: parllaw1.sp, one, star. -/
import Derived.Test.YtbnahmeaeakhhaaCr11
namespace Go.Proofs.Ytbnahmeaeakhhaa.B
set_option linter.unusedVariables false
set_option linter.unusedSimpArgs false
open Go Go.RowKit Classical

theorem results_c1 {fn : Func} {a : Tmp} {T : TypeId} (h : fn.results = #[.cell a T]) (tmps : Array Value) (P : Program) (w : World) {ad : Addr} {v : Value} (ha : tmps.getD a undef = .pointer (some ad)) (hl : (loadVar T ad).run P w = .ok v w) :
    (results fn tmps).run P w = .ok v w := by
  rw [Array.getD_eq_getD_getElem?] at ha
  simp [results, h, ha, hl, asAddr]

/-- a variable of several cells in memory -/
theorem boxAt {w : World} {b : Nat} {cs : Array Value} {T : TypeId} (h : w.heap[b]? = some (.cells cs T)) (j : Nat) : w.cell? ⟨b, j, none⟩ = cs[j]? ∧ w.frozen? ⟨b, j, none⟩ = false := by
  simp [World.cell?, World.frozen?, h]
theorem box6 {w : World} {b : Nat} {v0 v1 v2 v3 v4 v5 : Value} {T : TypeId} (h : w.heap[b]? = some (.cells #[v0, v1, v2, v3, v4, v5] T)) :
    (w.cell? ⟨b, 0, none⟩ = some v0 ∧ w.cell? ⟨b, 1, none⟩ = some v1 ∧ w.cell? ⟨b, 2, none⟩ = some v2 ∧ w.cell? ⟨b, 3, none⟩ = some v3 ∧ w.cell? ⟨b, 4, none⟩ = some v4 ∧ w.cell? ⟨b, 5, none⟩ = some v5) ∧
    (w.frozen? ⟨b, 0, none⟩ = false ∧ w.frozen? ⟨b, 1, none⟩ = false ∧ w.frozen? ⟨b, 2, none⟩ = false ∧ w.frozen? ⟨b, 3, none⟩ = false ∧ w.frozen? ⟨b, 4, none⟩ = false ∧ w.frozen? ⟨b, 5, none⟩ = false) := by
  simp [World.cell?, World.frozen?, h]
theorem box_set {w : World} {b : Nat} {cs : Array Value} {T : TypeId} (h : w.heap[b]? = some (.cells cs T)) (j : Nat) (v : Value) : (w.setCell ⟨b, j, none⟩ v).heap[b]? = some (.cells (cs.setIfInBounds j v) T) := by
  simp [World.setCell, Array.getElem?_modify, h]
theorem box6_set {w : World} {b : Nat} {v0 v1 v2 v3 v4 v5 : Value} {T : TypeId} (h : w.heap[b]? = some (.cells #[v0, v1, v2, v3, v4, v5] T)) (u0 u1 u2 u3 u4 u5 : Value) :
    ((((((w.setCell ⟨b, 0, none⟩ u0).setCell ⟨b, 1, none⟩ u1).setCell ⟨b, 2, none⟩ u2).setCell ⟨b, 3, none⟩ u3).setCell ⟨b, 4, none⟩ u4).setCell ⟨b, 5, none⟩ u5).heap[b]? = some (.cells #[u0, u1, u2, u3, u4, u5] T) :=
  box_set (box_set (box_set (box_set (box_set (box_set h 0 u0) 1 u1) 2 u2) 3 u3) 4 u4) 5 u5

theorem Ext.set6 {H H' : PH} {w w1 : World} (h : Ext H H' w w1) {b : Nat} (hb : w.heap.size ≤ b) (hn : ∀ o, H' b o = none) (u0 u1 u2 u3 u4 u5 : Value) :
    Ext H H' w ((((((w1.setCell ⟨b, 0, none⟩ u0).setCell ⟨b, 1, none⟩ u1).setCell ⟨b, 2, none⟩ u2).setCell ⟨b, 3, none⟩ u3).setCell ⟨b, 4, none⟩ u4).setCell ⟨b, 5, none⟩ u5) :=
  (((((h.setCell hb hn u0).setCell hb hn u1).setCell hb hn u2).setCell hb hn u3).setCell hb hn u4).setCell hb hn u5

theorem sp_any (a b : Int) (w : World) : Calls Try.prog 89 #[.int .i64 a, .int .i64 b] w fun e w' => e = .returned (.agg #[.int .i64 a, .int .i64 b]) ∧ Below w.heap.size w w' := by
  go_enter Try.func89, Try.ntmps89
  go_wp2_with fail
  refine bodyPost_ret (results_c1 rfl _ _ _ rfl (run_loadVar_row _ _ _ _ _ (0, 0) _ (heap_alloc_new _ _) Try.underlying121 rfl (by kernel_rfl))) rfl ?_
  exact ⟨rfl, (Below.refl _ _).alloc (Nat.le_refl _) _⟩

def oneRe (c : Int) : Re := .mk 2 [⟨c, c⟩] [] 0 0 false
def starRe (r : Re) : Re := .mk 5 [] [r] 0 0 false

theorem lone_any (H : PH) (c : Int) (w : World) (hs : Sat w H) : Calls Try.prog 79 #[.int .i64 c] w fun e w' => ∃ H' cs, e = .returned (.agg cs.toArray) ∧ RdRe H' (oneRe c) cs ∧ Ext H H' w w' := by
  go_enter Try.func79, Try.ntmps79
  go_wp2_with fail
  refine (sp_any c c _).mono ?_
  rintro e w1 ⟨rfl, hb1⟩
  have k2 : w1.heap[w.heap.size]? = some (.cells #[.int .i64 0, .slice none 0 0, .slice none 0 0, .int .i64 0, .int .i64 0, .bool false] 25) := by
    rw [hb1.block _ (by simp)]; exact heap_alloc_new _ _
  have K2 := Aside.mk k2
  obtain ⟨⟨a0, a1, a2, a3, a4, a5⟩, b0, b1, b2, b3, b4, b5⟩ := box6 k2
  have hz : w.heap.size < w1.heap.size := (Array.getElem?_eq_some_iff.1 k2).1
  clear k2
  go_wp2_with fail
  have hx1 : Ext H H w w1 := ((Ext.refl hs).alloc _).then_below hb1
  have hn : ∀ o, H w.heap.size o = none := fun o => hs.new (Nat.le_refl _) o
  have hx2 := hx1.set6 (Nat.le_refl _) hn (.int .i64 2) (.slice (some ⟨w1.heap.size, 0, none⟩) 1 1) (.slice none 0 0) (.int .i64 0) (.int .i64 0) (.bool false)
  have hh := box6_set K2.out (.int .i64 2) (.slice (some ⟨w1.heap.size, 0, none⟩) 1 1) (.slice none 0 0) (.int .i64 0) (.int .i64 0) (.bool false)
  generalize hW : (((((w1.setCell ⟨w.heap.size, 0, none⟩ (.int .i64 2)).setCell ⟨w.heap.size, 1, none⟩ (.slice (some ⟨w1.heap.size, 0, none⟩) 1 1)).setCell ⟨w.heap.size, 2, none⟩ (.slice none 0 0)).setCell ⟨w.heap.size, 3, none⟩ (.int .i64 0)).setCell ⟨w.heap.size, 4, none⟩ (.int .i64 0)).setCell ⟨w.heap.size, 5, none⟩ (.bool false) = wS at *
  have hsz : wS.heap.size = w1.heap.size := by rw [← hW]; simp
  have ho : Own kSpan 121 (wS.alloc (.cells #[.int .i64 c, .int .i64 c] 121)) w1.heap.size H (.slice (some ⟨w1.heap.size, 0, none⟩) 1 1) [⟨c, c⟩] := by
    have := Own.lit (k := kSpan) (e := 121) (xs := [⟨c, c⟩]) hx2.sat #[.int .i64 c, .int .i64 c] (Nat.le_of_eq hsz.symm) (EncL.single rfl) (by unfold maxLen; simp)
    rw [hsz] at this
    exact this
  obtain ⟨H', hx3, hle, ⟨A, c', e1, hsl⟩, -⟩ := ho.freezeE (hx2.alloc _) (Nat.le_of_lt hz) (by simp)
  cases e1
  refine bodyPost_ret (results_c1 rfl _ _ _ rfl (run_loadVar_row _ _ _ _ _ (0, 0) _ (by rw [heap_alloc_old _ _ (by rw [hsz]; exact hz)]; exact hh) Try.underlying25 rfl (by kernel_rfl))) rfl ?_
  exact ⟨H', _, rfl, RdRe.shut hsl (SlR.nil _ _), hx3⟩

theorem lstar_any (H : PH) (r : Re) (cs : List Value) (w : World) (hr : RdRe H r cs) (hs : Sat w H) : Calls Try.prog 78 #[.agg cs.toArray] w fun e w' => ∃ H' cs', e = .returned (.agg cs'.toArray) ∧ RdRe H' (starRe r) cs' ∧ Ext H H' w w' := by
  cases r with
  | mk kind set args mn mx neg =>
  have hr0 := hr
  obtain ⟨A1, c1, A2, c2, rfl, -, -⟩ := hr.open
  go_enter Try.func78, Try.ntmps78
  go_wp2_with fail
  generalize hV : (#[.int .i64 5, .slice none 0 0, .slice (some ⟨w.heap.size + 1 + 1, 0, none⟩) 1 1, .int .i64 0, .int .i64 0, .bool false] : Array Value) = V
  have hx2 : Ext H H w ((w.alloc (.cells #[.int .i64 kind, .slice A1 set.length c1, .slice A2 args.length c2, .int .i64 mn, .int .i64 mx, .bool neg] 25)).alloc (.cells V 25)) := ((Ext.refl hs).alloc _).alloc _
  generalize hW : (w.alloc (.cells #[.int .i64 kind, .slice A1 set.length c1, .slice A2 args.length c2, .int .i64 mn, .int .i64 mx, .bool neg] 25)) = wS at *
  have hwS : wS.heap.size = w.heap.size + 1 := by rw [← hW]; simp
  have hsz : (wS.alloc (.cells V 25)).heap.size = w.heap.size + 1 + 1 := by simp [hwS]
  have ho := Own.lit (k := kRe) (e := 25) (xs := [.mk kind set args mn mx neg]) (base := w.heap.size) hx2.sat #[.int .i64 kind, .slice A1 set.length c1, .slice A2 args.length c2, .int .i64 mn, .int .i64 mx, .bool neg] (by omega) (EncL.single hr) (by unfold maxLen; simp)
  rw [hsz] at ho
  obtain ⟨H', hx3, hle, ⟨A, c', e1, hsl⟩, -⟩ := ho.freezeE (hx2.alloc _) (Nat.le_refl _) (by simp)
  cases e1
  refine bodyPost_ret (results_c1 rfl _ _ _ rfl (run_loadVar_row _ _ _ _ V (0, 0) _ (by rw [heap_alloc_old _ _ (by rw [hsz]; omega), ← hwS]; exact heap_alloc_new _ _) Try.underlying25 rfl (by subst hV; kernel_rfl))) rfl ?_
  subst hV
  exact ⟨H', _, rfl, RdRe.shut (SlR.nil _ _) hsl, hx3⟩
end Go.Proofs.Ytbnahmeaeakhhaa.B
