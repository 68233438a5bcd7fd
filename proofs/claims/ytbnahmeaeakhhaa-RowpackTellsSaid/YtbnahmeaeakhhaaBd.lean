/- The base, more: slices of what is known; appending them in a drawn region. -/
import Derived.Test.YtbnahmeaeakhhaaBc
import Derived.Laws.Slices
namespace Go.Proofs.Ytbnahmeaeakhhaa.B
set_option linter.unusedVariables false
set_option linter.unusedSimpArgs false
open Go Go.RowKit

/-- append(s, ys...) at a step of a region that draws -/
theorem step_appS {α : Type} (k : Kd α) {P : Program} {w : World} {ops : Array Oper} {o : Oper} {a : Act} {K : Act → World → Prop} {Q : Exit → Act → World → Prop} {E : Prop} (hgd : o.guard = none) (s x : Operand) (t : TypeId)
    (ho : o.op = .call { callee := .builtin .append, args := #[s, x], argTypes := #[t, t] })
    (e : TypeId) {z : Value} {bytes : Nat} (ht : P.underlying t = some (.slice e)) (hinfo : (P.info? e).map (fun i => (i.zero, i.size, i.bytes)) = some (some z, k.sz, bytes)) (hzs : z.cells.size = k.sz)
    {base : Nat} {H : PH} {v : Value} {xs ys : List α} {A : Option Addr} {m c : Nat} (hown : Own k e w base H v xs) (hsat : Sat w H) (hrd : SlR k H A m c ys) (hs : a.eval s = v) (hx : a.eval x = .slice A m c)
    (hbytes : (xs.length + ys.length) * bytes ≤ 140737488355328) (hmax : xs.length + ys.length ≤ maxLen) (hbase : base ≤ w.heap.size)
    (h : ∀ v' w', Own k e w' base H v' (xs ++ ys) → w.grownBy w' v.ownBlock → Sat w' H → New w v v' → K (a.put o.dst v') w') :
    if Region.wanted o (yielded ops a.tmps) = true then Oper.wp P o a w K Q else E := by
  have hw : Region.wanted o (yielded ops a.tmps) = true := by simp [Region.wanted, hgd]
  rw [if_pos hw]
  obtain ⟨cs, h1, h2⟩ := hrd.row.cells
  refine wp_app k s x t ho e ht hinfo hzs hs hown hsat hx hrd.1 hrd.2.2.2.2.1 hrd.2.1 h1 (fun j u hj => ?_) hbytes hmax hbase fun v' w' g1 g2 g3 g4 => h v' w' g1 g2 (hown.satG hsat g2) (New.of g3 (Nat.le_refl _))
  obtain ⟨b, off, e1, hh⟩ := h2 j u hj
  exact ⟨_, e1, by simpa [Addr.add_lit] using hsat _ _ _ hh⟩

/-- where s[l:] lies -/
def fromA (A : Option Addr) (c l s : Nat) : Option Addr := if c = l then A else A.map (·.add (l * s))
theorem SlR.from {α} {k : Kd α} {H : PH} {A : Option Addr} {n c : Nat} {xs : List α} (h : SlR k H A n c xs) (l : Nat) (hl : l ≤ n) : SlR k H (fromA A c l k.sz) (n - l) (c - l) (xs.drop l) := by
  obtain ⟨rfl, h2, h3, h4, h5, h6⟩ := h
  unfold fromA
  refine ⟨by simp, by omega, by omega, by omega, fun ha => ?_, fun i hi => ?_⟩
  · split at ha
    · omega
    · rw [h5 (by simpa using ha)]; omega
  · simp only [List.length_drop] at hi
    obtain ⟨b, off, cs, e, hr, hc⟩ := h6 (l + i) (by omega)
    subst e
    rw [if_neg (by omega)]
    refine ⟨b, off + l * k.sz, cs, by simp [Addr.add], by simpa using hr, fun j v hj => ?_⟩
    have := hc j v hj
    rw [show off + l * k.sz + i * k.sz + j = off + (l + i) * k.sz + j by rw [Nat.add_mul]; omega]
    exact this
theorem SlR.to {α} {k : Kd α} {H : PH} {A : Option Addr} {n c : Nat} {xs : List α} (h : SlR k H A n c xs) (l : Nat) (hl : l ≤ n) : SlR k H A l c (xs.take l) := by
  obtain ⟨rfl, h2, h3, h4, h5, h6⟩ := h
  refine ⟨by simp; omega, by omega, by omega, by omega, h5, fun i hi => ?_⟩
  obtain ⟨b, off, cs, e, hr, hc⟩ := h6 i (by simp at hi; omega)
  exact ⟨b, off, cs, e, by simpa using hr, hc⟩
theorem run_from {P : Program} (t e : TypeId) (s : Nat) (ht : P.underlying t = some (.slice e)) (hz : ∀ w, (Go.sizeOf e).run P w = .ok s w) (A : Option Addr) (n c l : Nat) (hl : l ≤ n) (x : Int) (hx : x = (l : Int)) (W : World) :
    (Instr.slice t (.slice A n c) (some (.int .i64 x)) none none).run P W = .ok (.slice (fromA A c l s) (n - l) (c - l)) W := by
  subst hx
  have ht' : P.underlying t = some (.slice (P.elem t)) := by simp [Program.elem, ht]
  have he : P.elem t = e := by simp [Program.elem, ht]
  rw [run_slice_l W t _ _ _ ht' .i64 _ (by omega) (by omega), he, hz]
  simp [Result.andThen, sliced, fromA]
theorem run_to {P : Program} (t e : TypeId) (s : Nat) (ht : P.underlying t = some (.slice e)) (hz : ∀ w, (Go.sizeOf e).run P w = .ok s w) (A : Option Addr) (n c l : Nat) (hl : l ≤ c) (x : Int) (hx : x = (l : Int)) (W : World) :
    (Instr.slice t (.slice A n c) none (some (.int .i64 x)) none).run P W = .ok (.slice A l c) W := by
  subst hx
  have ht' : P.underlying t = some (.slice (P.elem t)) := by simp [Program.elem, ht]
  have he : P.elem t = e := by simp [Program.elem, ht]
  rw [run_slice_h W t _ _ _ ht' .i64 _ (by omega) (by omega), he, hz]
  cases A <;> simp [Result.andThen, sliced, Addr.add]

theorem Sat.setCell {w : World} {H : PH} (h : Sat w H) {b : Nat} (hn : ∀ o, H b o = none) (o : Nat) (v : Value) : Sat (w.setCell ⟨b, o, none⟩ v) H := fun b' o' u e => by
  have hne : b' ≠ b := fun hh => by subst hh; rw [hn] at e; cases e
  rw [← h b' o' u e]
  exact World.cell?_of_block (Below.heap_setCell _ _ _ _ hne)
theorem kb6 {w : World} {b : Nat} {v0 v1 v2 v3 v4 v5 : Value} {T : TypeId} (h : w.heap[b]? = some (.cells #[v0, v1, v2, v3, v4, v5] T)) :
    (w.cell? ⟨b, 0, none⟩ = some v0 ∧ w.cell? ⟨b, 1, none⟩ = some v1 ∧ w.cell? ⟨b, 2, none⟩ = some v2 ∧ w.cell? ⟨b, 3, none⟩ = some v3 ∧ w.cell? ⟨b, 4, none⟩ = some v4 ∧ w.cell? ⟨b, 5, none⟩ = some v5) ∧
    (w.frozen? ⟨b, 0, none⟩ = false ∧ w.frozen? ⟨b, 1, none⟩ = false ∧ w.frozen? ⟨b, 2, none⟩ = false ∧ w.frozen? ⟨b, 3, none⟩ = false ∧ w.frozen? ⟨b, 4, none⟩ = false ∧ w.frozen? ⟨b, 5, none⟩ = false) :=
  ⟨⟨(boxC h 0).1, (boxC h 1).1, (boxC h 2).1, (boxC h 3).1, (boxC h 4).1, (boxC h 5).1⟩, (boxC h 0).2, (boxC h 1).2, (boxC h 2).2, (boxC h 3).2, (boxC h 4).2, (boxC h 5).2⟩
theorem hb6 {w : World} {H : PH} {b : Nat} {v0 v1 v2 v3 v4 v5 : Value} (hs : Sat w H) (h : BoxH H b [v0, v1, v2, v3, v4, v5]) :
    w.cell? ⟨b, 0, none⟩ = some v0 ∧ w.cell? ⟨b, 1, none⟩ = some v1 ∧ w.cell? ⟨b, 2, none⟩ = some v2 ∧ w.cell? ⟨b, 3, none⟩ = some v3 ∧ w.cell? ⟨b, 4, none⟩ = some v4 ∧ w.cell? ⟨b, 5, none⟩ = some v5 :=
  ⟨hs _ _ _ (h 0 v0 rfl), hs _ _ _ (h 1 v1 rfl), hs _ _ _ (h 2 v2 rfl), hs _ _ _ (h 3 v3 rfl), hs _ _ _ (h 4 v4 rfl), hs _ _ _ (h 5 v5 rfl)⟩
end Go.Proofs.Ytbnahmeaeakhhaa.B
