/- The base, more: appending, as an operation; a variable of six cells. -/
import Derived.Test.YtbpophdfnlagdaaBb
import Derived.Laws.Rows
import Derived.WalkSpells
namespace Go.Proofs.Ytbpophdfnlagdaa.B
set_option linter.unusedVariables false
set_option linter.unusedSimpArgs false
open Go Go.RowKit

/-- APPEND, as an operation -/
theorem wp_app {α : Type} (k : Kd α) {P : Program} {w : World} {o : Oper} {a : Act} {K : Act → World → Prop} {Q : Exit → Act → World → Prop} (s x : Operand) (t : TypeId)
    (ho : o.op = .call { callee := .builtin .append, args := #[s, x], argTypes := #[t, t] })
    (e : TypeId) {z : Value} {bytes : Nat} (ht : P.underlying t = some (.slice e)) (hinfo : (P.info? e).map (fun i => (i.zero, i.size, i.bytes)) = some (some z, k.sz, bytes)) (hzs : z.cells.size = k.sz)
    {base : Nat} {H : PH} {v : Value} {xs : List α} (hs : a.eval s = v) (hown : Own k e w base H v xs) (hsat : Sat w H)
    {A : Option Addr} {m c : Nat} {ys : List α} {cs : List Value} (hx : a.eval x = .slice A m c) (hm : m = ys.length) (hA : A = none → c = 0) (hmc : m ≤ c) (henc : EncL k H ys cs)
    (hcs : ∀ j u, cs[j]? = some u → ∃ ad, A = some ad ∧ w.cell? (ad.add j) = some u)
    (hbytes : (xs.length + ys.length) * bytes ≤ 140737488355328) (hmax : xs.length + ys.length ≤ maxLen) (hbase : base ≤ w.heap.size)
    (h : ∀ v' w', Own k e w' base H v' (xs ++ ys) → w.grownBy w' v.ownBlock → (v'.ownBlock = v.ownBlock ∨ v'.ownBlock = some w.heap.size) → (v' = .slice none 0 0 ↔ v = .slice none 0 0 ∧ ys = []) → K (a.put o.dst v') w') :
    o.wp P a w K Q := by
  obtain ⟨i, hi, hz0, hz1, hz2⟩ := info_parts hinfo
  obtain ⟨cx, hcx, hrow, hnn⟩ := hown
  cases A with
  | none =>
    obtain rfl := hA rfl
    have hys : ys = [] := List.eq_nil_of_length_eq_zero (by omega)
    subst hys
    obtain rfl : m = 0 := hm
    have hr := run_append_owned_none (P := P) w base t o.type e i k.sz ht hi v xs.length cx hrow
    unfold Oper.wp execOp
    simp only [ho, resolve, invoke, builtin, Sem.run_bind, Sem.run_pure, Result.andThen_ok, List.map_toArray, List.map_cons, List.map_nil, hs, hx, hr]
    exact h v w (by simpa using ⟨cx, hcx, hrow, hnn⟩) ⟨rfl, rfl, rfl, Nat.le_refl _, fun _ _ _ => rfl⟩ (Or.inl rfl) (by simp)
  | some ad =>
    obtain ⟨v', w', hr, h2, h3, h4, h5⟩ := run_append_own_at (P := P) w base t o.type e i z k.sz bytes ht hi hz0 hz1 hz2 hzs k.pos v xs.length cx hrow ad m c cs (by rw [henc.length, hm])
      (fun j u hj => by obtain ⟨ad', e1, h2⟩ := hcs j u hj; cases e1; exact h2) henc.one (by rw [hm]; exact hmax) (by rw [hm]; exact hbytes) hbase
    unfold Oper.wp execOp
    simp only [ho, resolve, invoke, builtin, Sem.run_bind, Sem.run_pure, Result.andThen_ok, List.map_toArray, List.map_cons, List.map_nil, hs, hx, hr]
    refine h v' w' ⟨cx ++ cs, EncL.append henc hcx, by rw [List.length_append, ← hm]; exact h2, fun b o hb => ?_⟩ h3 h5 (h4.trans (by subst hm; simp))
    rcases h5 with h5 | h5
    · exact hnn b o (h5 ▸ hb)
    · rw [h5] at hb; cases hb; exact hsat.new (Nat.le_refl _) o

/-- append(s, y) at a step of a region that draws: y was laid in a block of its own -/
theorem step_app1 {α : Type} (k : Kd α) {P : Program} {w : World} {ops : Array Oper} {o : Oper} {a : Act} {K : Act → World → Prop} {Q : Exit → Act → World → Prop} {E : Prop} (hgd : o.guard = none) (s x : Operand) (t : TypeId)
    (ho : o.op = .call { callee := .builtin .append, args := #[s, x], argTypes := #[t, t] })
    (e : TypeId) {z : Value} {bytes : Nat} (ht : P.underlying t = some (.slice e)) (hinfo : (P.info? e).map (fun i => (i.zero, i.size, i.bytes)) = some (some z, k.sz, bytes)) (hzs : z.cells.size = k.sz)
    {base : Nat} {H : PH} {v : Value} {xs : List α} {y : α} {cs : Array Value} (hown : Own k e w base H v xs) (hsat : Sat w H) (hs : a.eval s = v) {b0 : Nat} (hb0 : b0 = w.heap.size) (hx : a.eval x = .slice (some ⟨b0, 0, none⟩) 1 1)
    (hrd : k.rd H y cs.toList) (hbytes : (xs.length + 1) * bytes ≤ 140737488355328) (hmax : xs.length + 1 ≤ maxLen) (hbase : base ≤ w.heap.size)
    (h : ∀ v' w', Own k e w' base H v' (xs ++ [y]) → w.grownBy w' v.ownBlock → Sat w' H → New w v v' → K (a.put o.dst v') w') :
    if Region.wanted o (yielded ops a.tmps) = true then Oper.wp P o a (w.alloc (.cells cs e)) K Q else E := by
  have hw : Region.wanted o (yielded ops a.tmps) = true := by simp [Region.wanted, hgd]
  rw [if_pos hw]
  subst hb0
  refine wp_app k s x t ho e ht hinfo hzs hs (hown.alloc hsat _) (hsat.alloc _) (ys := [y]) (cs := cs.toList) hx rfl (fun h => by cases h) (Nat.le_refl _) (EncL.single hrd) (lit_cells _ _ _) hbytes hmax (Nat.le_trans hbase (by simp)) fun v' w' h1 h2 h3 _ => ?_
  have hg : w.grownBy w' v.ownBlock := grownBy_trans (World.grownBy_alloc _ _ _) h2
  exact h v' w' h1 hg (hown.satG hsat hg) (New.of h3 (by simp))

/-- a variable that is not written again, as H knows it -/
def BoxH (H : PH) (b : Nat) (cs : List Value) : Prop := ∀ j v, cs[j]? = some v → H b (0 + j) = some v
theorem BoxH.mono {H H' : PH} {b cs} (hh : H.le H') (h : BoxH H b cs) : BoxH H' b cs := fun j v e => hh _ _ _ (h j v e)
theorem box_freeze {H0 H : PH} {w0 w : World} {b : Nat} {cs : Array Value} {T : TypeId} (h : Ext H0 H w0 w) (hb : w0.heap.size ≤ b) (hh : w.heap[b]? = some (.cells cs T)) (hn : ∀ o, H b o = none) :
    ∃ H', Ext H0 H' w0 w ∧ H.le H' ∧ BoxH H' b cs.toList ∧ ∀ b' o, b' ≠ b → H' b' o = H b' o := by
  have hle : H.le (fun b' o => if b' = b then cs[o]? else H b' o) := fun b' o u hu => by
    show (if b' = b then cs[o]? else H b' o) = some u
    by_cases e : b' = b
    · subst e; rw [hn] at hu; cases hu
    · rw [if_neg e]; exact hu
  refine ⟨_, ⟨h.below, PH.le_trans h.le hle, fun b' o u hu => ?_, fun b' o hlt => ?_⟩, hle, fun j v hj => ?_, fun b' o e => if_neg e⟩
  · by_cases e : b' = b
    · subst e; simp only [if_true] at hu
      simp [World.cell?, hh, hu]
    · simp only [if_neg e] at hu; exact h.sat _ _ _ hu
  · show (if b' = b then cs[o]? else H b' o) = _
    rw [if_neg (by omega)]; exact h.old b' o hlt
  · simpa using hj

theorem boxC {w : World} {b : Nat} {cs : Array Value} {T : TypeId} (h : w.heap[b]? = some (.cells cs T)) (j : Nat) : w.cell? ⟨b, j, none⟩ = cs[j]? ∧ w.frozen? ⟨b, j, none⟩ = false := by
  simp [World.cell?, World.frozen?, h]
theorem boxS {w : World} {b : Nat} {cs : Array Value} {T : TypeId} (h : w.heap[b]? = some (.cells cs T)) (j : Nat) (v : Value) : (w.setCell ⟨b, j, none⟩ v).heap[b]? = some (.cells (cs.setIfInBounds j v) T) := by
  simp [World.setCell, Array.getElem?_modify, h]
theorem boxS_ne {w : World} {b b' : Nat} {o : Obj} (h : w.heap[b]? = some o) (hne : b ≠ b') (j : Nat) (v : Value) : (w.setCell ⟨b', j, none⟩ v).heap[b]? = some o := by
  rw [Below.heap_setCell _ _ _ _ hne]; exact h
theorem boxL {w : World} {b : Nat} {o : Obj} (h : w.heap[b]? = some o) : b < w.heap.size := (Array.getElem?_eq_some_iff.1 h).1
theorem boxA {w : World} {b : Nat} {o : Obj} (h : w.heap[b]? = some o) (x : Obj) : (w.alloc x).heap[b]? = some o := by
  rw [heap_alloc_old _ _ (boxL h)]; exact h
theorem boxG {w w' : World} {b : Nat} {o : Obj} {row : Option Nat} (h : w.heap[b]? = some o) (hg : w.grownBy w' row) (hne : row ≠ some b) : w'.heap[b]? = some o := by
  rw [hg.block b (boxL h) (fun e => hne e.symm)]; exact h
theorem boxN (w : World) (o : Obj) : (w.alloc o).heap[w.heap.size]? = some o := heap_alloc_new w o
/-- results that are read from a variable in memory -/
theorem resC {fn : Func} {a : Tmp} {T : TypeId} (h : fn.results = #[.cell a T]) (tmps : Array Value) (P : Program) (w : World) {ad : Addr} {v : Value} (ha : tmps.getD a undef = .pointer (some ad)) (hl : (loadVar T ad).run P w = .ok v w) :
    (results fn tmps).run P w = .ok v w := by
  rw [Array.getD_eq_getD_getElem?] at ha
  simp [results, h, ha, hl, asAddr]
theorem resC2 {fn : Func} {a t : Tmp} {T : TypeId} (h : fn.results = #[.cell a T, .tmp t]) (tmps : Array Value) (P : Program) (w : World) {ad : Addr} {v : Value} (ha : tmps.getD a undef = .pointer (some ad)) (hl : (loadVar T ad).run P w = .ok v w) :
    (results fn tmps).run P w = .ok (.tuple #[v, tmps.getD t undef]) w := by
  rw [Array.getD_eq_getD_getElem?] at ha
  simp [results, h, ha, hl, asAddr]
theorem retT {p : Prop} {i : Decidable p} (h : p) : Ending.returned (.bool (@decide p i)) = .returned (.bool true) := by
  cases i with
  | isTrue _ => rfl
  | isFalse h' => exact absurd h h'
theorem retF {p : Prop} {i : Decidable p} (h : ¬ p) : Ending.returned (.bool (@decide p i)) = .returned (.bool false) := by
  cases i with
  | isTrue h' => exact absurd h' h
  | isFalse _ => rfl

end Go.Proofs.Ytbpophdfnlagdaa.B
