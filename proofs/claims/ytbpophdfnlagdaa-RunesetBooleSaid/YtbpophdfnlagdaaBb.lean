/- The base, more: what is owned, cut at its end; facts for a walk's appends. -/
import Derived.Test.YtbpophdfnlagdaaTy
import Derived.Deep.DeepMust
import Derived.Deep.DeepCutAuto
import Derived.Deep.CutBlock
import Derived.Deep.RegionHeld3
namespace Go.Proofs.Ytbpophdfnlagdaa.B
set_option linter.unusedVariables false
set_option linter.unusedSimpArgs false
open Go Go.RowKit

section
variable {α : Type} {k : Kd α} {e : TypeId} {w w' : World} {base : Nat} {H H' : PH} {v : Value} {xs : List α}

theorem EncL.take : ∀ {xs : List α} {cs}, EncL k H xs cs → ∀ n, EncL k H (xs.take n) (cs.take (n * k.sz))
  | [], cs, h, n => by simp only [EncL] at h; subst h; simp [EncL]
  | x :: xs, cs, ⟨a, b, e, h1, h2⟩, n => by
    cases n with
    | zero => simp [EncL]
    | succ n =>
      subst e
      have hl := k.len h1
      refine ⟨a, b.take (n * k.sz), ?_, h1, h2.take n⟩
      rw [show (n + 1) * k.sz = a.length + n * k.sz by rw [hl, Nat.add_mul]; omega, List.take_length_add_append]

/-- xs[:n] of what is owned, as Go cuts it -/
theorem Own.cut {A : Option Addr} {c : Nat} (h : Own k e w base H (.slice A xs.length c) xs) (n : Nat) (hn : n ≤ xs.length) (hp : 0 < xs.length) : Own k e w base H (.slice A n c) (xs.take n) := by
  obtain ⟨cs, h1, ⟨h2, h3⟩, h4⟩ := h
  have hl : (xs.take n).length = n := by simp; omega
  refine ⟨cs.take (n * k.sz), h1.take n, ⟨?_, ?_⟩, fun b o hb => h4 b o (by cases A <;> exact hb)⟩
  · rw [hl, List.length_take, h2, Nat.min_eq_left (Nat.mul_le_mul_right _ hn)]
  · rcases h3 with ⟨_, h3⟩ | ⟨g, cap, cur, e1, hg, hh, hc, hm, hcs, ht⟩
    · omega
    · cases e1
      refine Or.inr ⟨g, c, cur, by rw [hl], hg, hh, by rw [hl]; omega, hm, hcs, ?_⟩
      rw [hl, ← ht, List.take_take, Nat.min_eq_left (Nat.mul_le_mul_right _ hn)]

/-- two owned rows that do not share a block -/
def Apart (v u : Value) : Prop := v.ownBlock = none ∨ v.ownBlock ≠ u.ownBlock
theorem Own.apart_new {v u u' : Value} {α' : Type} {k' : Kd α'} {e' : TypeId} {ys : List α'} {base' : Nat} (h : Own k e w base H v xs) (hd : Apart v u) (hat : u'.ownBlock = u.ownBlock ∨ u'.ownBlock = some w.heap.size) : Apart v u' := by
  rcases hat with h1 | h1
  · rw [Apart, h1]; exact hd
  · cases hv : v.ownBlock with
    | none => exact Or.inl hv
    | some b => exact Or.inr (by rw [h1, hv]; intro e1; cases e1; have := (h.blk hv).2.1; omega)
theorem Own.apart_old {v v' u : Value} {α' : Type} {k' : Kd α'} {e' : TypeId} {ys : List α'} {base' : Nat} (h : Own k' e' w base' H u ys) (hd : Apart v u) (hat : v'.ownBlock = v.ownBlock ∨ v'.ownBlock = some w.heap.size) : Apart v' u := by
  rcases hat with h1 | h1
  · rw [Apart, h1]; exact hd
  · exact Or.inr (by rw [h1]; intro e1; have := (h.blk e1.symm).2.1; omega)
theorem Apart.symm {v u : Value} (h : Apart v u) : Apart u v := by
  cases hu : u.ownBlock with
  | none => exact Or.inl hu
  | some b =>
    refine Or.inr fun e1 => ?_
    rcases h with h | h
    · rw [h] at e1; rw [e1] at hu; cases hu
    · exact h e1.symm
theorem Own.grown_apart {u : Value} (h : Own k e w base H v xs) (hd : Apart v u) (hg : w.grownBy w' u.ownBlock) : Own k e w' base H v xs := h.grown hg hd
theorem Own.blkH (h : Own k e w base H v xs) : ∀ b, v.ownBlock = some b → base ≤ b ∧ ∀ o, H b o = none := fun b hb => ⟨(h.blk hb).1, (h.blk hb).2.2⟩
theorem Own.satG (h : Own k e w base H v xs) (hs : Sat w H) (hg : w.grownBy w' v.ownBlock) : Sat w' H := hs.grown hg fun b hb o => (h.blk hb).2.2 o
theorem Own.belowG {w0 : World} (h : Own k e w base H v xs) (hb : Below w0.heap.size w0 w) (hbase : w0.heap.size ≤ base) (hg : w.grownBy w' v.ownBlock) : Below w0.heap.size w0 w' :=
  hb.grown hg hb.size fun b hb' => by have := (h.blk hb').1; omega
theorem Own.extG {H0 : PH} {w0 : World} (h : Own k e w base H v xs) (hx : Ext H0 H w0 w) (hbase : w0.heap.size ≤ base) (hg : w.grownBy w' v.ownBlock) : Ext H0 H w0 w' :=
  hx.grown hg fun b hb => ⟨by have := (h.blk hb).1; omega, (h.blk hb).2.2⟩
end

theorem bA {w w1 : World} (h : Below w.heap.size w w1) (o : Obj) : Below w.heap.size w (w1.alloc o) := h.alloc h.size o
theorem bD {w w1 : World} (h : Below w.heap.size w w1) : Below w.heap.size w w1.drew := h.drew
theorem bN {w w1 : World} (h : Below w.heap.size w w1) (n : Nat) : Below w.heap.size w (w1.drewN n) := h.drewN n
theorem bT {w w1 w2 : World} (h : Below w.heap.size w w1) (k : Below w1.heap.size w1 w2) : Below w.heap.size w w2 := h.trans (k.mono h.size)

/-- the cells of a variable in memory that was laid first -/
theorem cell_box {w w1 : World} {cs : Array Value} {t : TypeId} (h : Below (w.alloc (.cells cs t)).heap.size (w.alloc (.cells cs t)) w1) (i : Nat) : w1.cell? ⟨w.heap.size, i, none⟩ = cs[i]? := by
  rw [h.cell (p := ⟨w.heap.size, i, none⟩) (by simp), World.cell?_alloc_new]

/-- the new elements of an append: a block that was just laid -/
theorem lit_cells (w : World) (cs : Array Value) (t : TypeId) : ∀ j u, cs.toList[j]? = some u → ∃ ad, (some (⟨w.heap.size, 0, none⟩ : Addr)) = some ad ∧ (w.alloc (.cells cs t)).cell? (ad.add j) = some u := fun j u hj => by
  refine ⟨_, rfl, ?_⟩
  simp only [Addr.add_lit, Nat.zero_add]
  rw [World.cell?_alloc_new]
  simpa using hj

/-- the slice that an append gave lies where the old one lay, or in a new block -/
def New (w : World) (v v' : Value) : Prop := ∀ b, v'.ownBlock = some b → v.ownBlock = some b ∨ w.heap.size ≤ b
theorem New.of {w : World} {v v' : Value} {b0 : Nat} (h : v'.ownBlock = v.ownBlock ∨ v'.ownBlock = some b0) (hb : w.heap.size ≤ b0) : New w v v' := fun b e => by
  rcases h with h | h
  · exact Or.inl (h ▸ e)
  · rw [h] at e; cases e; exact Or.inr hb

section
variable {α α' : Type} {k : Kd α} {k' : Kd α'} {e e' : TypeId} {w w' : World} {base base' : Nat} {H H' : PH} {v u u' : Value} {xs : List α} {ys : List α'}
theorem Own.apartN (h : Own k e w base H v xs) (hd : Apart v u) (hn : New w u u') : Apart v u' := by
  cases hv : v.ownBlock with
  | none => exact Or.inl hv
  | some b =>
    refine Or.inr fun e1 => ?_
    rw [hv] at e1
    rcases hn b e1.symm with h1 | h1
    · rcases hd with h2 | h2
      · rw [hv] at h2; cases h2
      · exact h2 (hv.trans h1.symm)
    · have := (h.blk hv).2.1; omega
end

section
variable {α : Type} {k : Kd α} {e : TypeId} {w w' : World} {base : Nat} {H H' : PH} {v : Value} {xs : List α}
theorem Own.drewN (h : Own k e w base H v xs) (n : Nat) : Own k e (w.drewN n) base H v xs := h.keep (PH.le_refl H) fun b hb => ⟨rfl, (h.blk hb).2.2⟩
/-- an element of one cell written anew -/
theorem Own.put1 {g c n : Nat} (h : Own k e w base H (.slice (some ⟨g, 0, none⟩) n c) xs) (hn : n = xs.length) (hk : k.sz = 1) {i : Nat} (hi : i < xs.length) {y : α} {u : Value} (hy : k.rd H y [u]) :
    Own k e (w.setCell ⟨g, i, none⟩ u) base H (.slice (some ⟨g, 0, none⟩) n c) (xs.set i y) ∧ w.grownBy (w.setCell ⟨g, i, none⟩ u) (some g) := by
  subst hn
  obtain ⟨cs, h1, h2, h3⟩ := h
  obtain ⟨h4, h5⟩ := World.ownsRow.stored h2 i u
  refine ⟨⟨cs.set i u, ?_, by rw [List.length_set]; exact h4, h3⟩, h5⟩
  have h6 := h1.set i hi y [u] hy
  have hl := h1.length
  rw [hk, Nat.mul_one] at h6 hl
  have e1 : cs.set i u = cs.take i ++ [u] ++ cs.drop (i + 1) := by
    rw [List.set_eq_take_append_cons_drop, if_pos (by omega)]; simp
  rw [e1]; exact h6
theorem Own.at {g c n : Nat} (h : Own k e w base H (.slice (some ⟨g, 0, none⟩) n c) xs) (i : Nat) (hi : i < xs.length) : ∃ cs, k.rd H xs[i] cs ∧ ∀ j u, cs[j]? = some u → w.cell? ⟨g, i * k.sz + j, none⟩ = some u := by
  obtain ⟨g', c', cs, e1, -, -, h1, h2, -⟩ := h.cells i hi
  cases e1
  exact ⟨cs, h1, h2⟩
theorem Own.free {g c n : Nat} (h : Own k e w base H (.slice (some ⟨g, 0, none⟩) n c) xs) (hn : n = xs.length) (j : Nat) : w.frozen? ⟨g, j, none⟩ = false := by
  subst hn
  obtain ⟨cs, h1, h2, h3⟩ := h
  exact World.ownsRow.frozenAt h2 j
end

/-- rows of numbers, read in a world as it stands -/
def emp : PH := fun _ _ => none
theorem sat_emp (w : World) : Sat w emp := fun b o v h => by simp [emp] at h
def WR (k : IntKind) (w : World) (A : Option Addr) (n c : Nat) (xs : List Int) : Prop :=
  n = xs.length ∧ n ≤ c ∧ c ≤ maxLen ∧ n ≤ 140737488355328 ∧ (A = none → c = 0) ∧ ∀ i (_ : i < xs.length), ∃ b off, A = some ⟨b, off, none⟩ ∧ w.cell? ⟨b, off + i, none⟩ = some (.int k xs[i])
theorem WR.below {k : IntKind} {w w' : World} {A n c xs} (h : WR k w A n c xs) (hb : Below w.heap.size w w') : WR k w' A n c xs := by
  obtain ⟨h1, h2, h3, h4, h5, h6⟩ := h
  refine ⟨h1, h2, h3, h4, h5, fun i hi => ?_⟩
  obtain ⟨b, off, e, hc⟩ := h6 i hi
  exact ⟨b, off, e, by rw [hb.cell (p := ⟨b, off + i, none⟩) (World.block_lt_of_cell? w _ hc)]; exact hc⟩
theorem WR.at {k : IntKind} {w : World} {A n c xs} (h : WR k w A n c xs) (i : Nat) (hi : i < xs.length) : ∃ b off, A = some ⟨b, off, none⟩ ∧ w.cell? ⟨b, off + i, none⟩ = some (.int k xs[i]) := h.2.2.2.2.2 i hi
theorem SlR.wr {k : IntKind} {H : PH} {w : World} {A n c} {xs : List Int} (h : SlR (kI k) H A n c xs) (hs : Sat w H) : WR k w A n c xs := by
  obtain ⟨h1, h2, h3, h4, h5, h6⟩ := h
  refine ⟨h1, h2, h3, h4, h5, fun i hi => ?_⟩
  obtain ⟨b, off, cs, e, hr, hc⟩ := h6 i hi
  obtain rfl : cs = [.int k xs[i]] := hr
  exact ⟨b, off, e, by have := hs _ _ _ (hc 0 _ rfl); simpa [kI] using this⟩
theorem Own.wr {k : IntKind} {e : TypeId} {w : World} {base : Nat} {H : PH} {v : Value} {xs : List Int} (h : Own (kI k) e w base H v xs) (hl : xs.length ≤ 140737488355328) :
    ∃ A c, v = .slice A xs.length c ∧ WR k w A xs.length c xs ∧ ∀ a, A = some a → a = ⟨a.block, 0, none⟩ ∧ base ≤ a.block ∧ a.block < w.heap.size := by
  obtain ⟨A, c, rfl, f1, f2, f3, f4⟩ := h.form
  refine ⟨A, c, rfl, ⟨rfl, f1, f2, hl, f3, fun i hi => ?_⟩, f4⟩
  obtain ⟨g, c', cs, e1, -, -, hr, hc, -⟩ := h.cells i hi
  cases e1
  obtain rfl : cs = [.int k xs[i]] := hr
  exact ⟨g, 0, rfl, by have := hc 0 _ rfl; simpa [kI] using this⟩
/-- owned numbers: H says nothing of them -/
theorem Own.flat {k : IntKind} {e : TypeId} {w : World} {base : Nat} {H : PH} {v : Value} {xs : List Int} (h : Own (kI k) e w base H v xs) {H' : PH} (hH : ∀ b o, v.ownBlock = some b → H' b o = none) : Own (kI k) e w base H' v xs := by
  obtain ⟨cs, h1, h2, h3⟩ := h
  have : ∀ {xs : List Int} {cs}, EncL (kI k) H xs cs → EncL (kI k) H' xs cs := by
    intro xs
    induction xs with
    | nil => intro cs h; exact h
    | cons x xs ih => rintro cs ⟨a, b, e1, h1, h2⟩; exact ⟨a, b, e1, h1, ih h2⟩
  exact ⟨cs, this h1, h2, hH⟩
theorem Own.emp {k : IntKind} {e : TypeId} {w : World} {base : Nat} {H : PH} {v : Value} {xs : List Int} (h : Own (kI k) e w base H v xs) : Own (kI k) e w base emp v xs := h.flat fun _ _ _ => rfl

/-- make's own run, as a rule for a region that draws -/
theorem run_mk {P : Program} (t e : TypeId) {z : Value} {bytes : Nat} (ht : P.underlying t = some (.slice e)) (hinfo : (P.info? e).map (fun i => (i.zero, i.size, i.bytes)) = some (some z, 1, bytes)) (hzs : z.cells = #[z]) (n : Nat) (hb : bytes * n ≤ 281474976710656) (hm : n ≤ maxLen) (x : Int) (hx : x = n) (w : World) :
    (Instr.makeSlice t (.int .i64 x) (.int .i64 x)).run P w = .ok (.slice (some ⟨w.heap.size, 0, none⟩) n n) (w.alloc (.cells (madeCells #[z] n) e)) := by
  subst hx
  obtain ⟨i, hi, hz0, hz1, hz2⟩ := info_parts hinfo
  subst hz2
  have hr := run_make (P := P) w t e i z ht hi hz0 .i64 .i64 n n (by omega) (Int.le_refl _) (by have h' : ((i.bytes * n : Nat) : Int) ≤ 281474976710656 := by omega
                                                                                                rwa [Int.natCast_mul] at h') (by unfold maxLen at hm; omega)
  simp only [Int.toNat_natCast] at hr
  rw [hr, hz1, hzs, Nat.mul_one]
theorem own_mk {α : Type} {k : Kd α} {e : TypeId} {w : World} {base : Nat} {H : PH} (hs : Sat w H) {z : Value} {y : α} (hk : k.sz = 1) (hy : k.rd H y [z]) (n : Nat) (hm : n ≤ maxLen) (hb : base ≤ w.heap.size) :
    Own k e (w.alloc (.cells (madeCells #[z] n) e)) base H (.slice (some ⟨w.heap.size, 0, none⟩) n n) (List.replicate n y) := by
  have hlen : (List.replicate n y).length = n := List.length_replicate
  have := Own.lit (k := k) (e := e) (xs := List.replicate n y) hs (madeCells #[z] n) hb (by rw [toList_madeCells_one]; exact EncL.replicate hy n) (by rw [hlen]; exact hm)
  rw [hlen] at this
  exact this

/-- make([]T, n), T of one cell, n a variable -/
theorem wpList_mk {α : Type} (k : Kd α) {P : Program} {w : World} {ops : Array Oper} {rest : List Oper} {o : Oper} {a : Act} {Q : Exit → Act → World → Prop} (hgd : o.guard = none) (l c : Operand) (t : TypeId)
    (ho : o.op = .makeSlice t l c) (e : TypeId) {z : Value} {bytes : Nat} (ht : P.underlying t = some (.slice e)) (hinfo : (P.info? e).map (fun i => (i.zero, i.size, i.bytes)) = some (some z, k.sz, bytes)) (hzs : z.cells = #[z]) (hk : k.sz = 1)
    {base : Nat} {H : PH} (y : α) (n : Nat) (hsat : Sat w H) (hy : k.rd H y [z]) (hb : bytes * n ≤ 281474976710656) (hm : n ≤ maxLen) (hbase : base ≤ w.heap.size) (hl : a.eval l = .int .i64 (n : Int)) (hc : a.eval c = .int .i64 (n : Int))
    (h : ∀ w', Own k e w' base H (.slice (some ⟨w.heap.size, 0, none⟩) n n) (List.replicate n y) → Below w.heap.size w w' → w'.heap.size = w.heap.size + 1 → wpList P ops Q rest (a.put o.dst (.slice (some ⟨w.heap.size, 0, none⟩) n n)) w') :
    wpList P ops Q (o :: rest) a w := by
  obtain ⟨i, hi, hz0, hz1, hz2⟩ := info_parts hinfo
  subst hz2
  refine wpList_plain hgd fun K hK => ?_
  have hr := run_make (P := P) w t e i z ht hi hz0 .i64 .i64 n n (by omega) (Int.le_refl _) (by have h' : ((i.bytes * n : Nat) : Int) ≤ 281474976710656 := by omega
                                                                                                rwa [Int.natCast_mul] at h') (by unfold maxLen at hm; omega)
  simp only [Int.toNat_natCast] at hr
  unfold Oper.wp execOp
  simp only [ho, Sem.run_bind, Sem.run_pure, Result.andThen_ok, hl, hc, hr]
  refine hK _ _ (h _ ?_ ((Below.refl _ _).alloc (Nat.le_refl _) _) (by simp))
  have hlen : (List.replicate n y).length = n := List.length_replicate
  have hcs : (madeCells z.cells (n * i.size)).toList = List.replicate n z := by rw [hz1, hk, Nat.mul_one, hzs, toList_madeCells_one]
  have := Own.lit (k := k) (e := e) (xs := List.replicate n y) hsat (madeCells z.cells (n * i.size)) hbase (by rw [hcs]; exact EncL.replicate hy n) (by rw [hlen]; exact hm)
  rw [hlen] at this
  exact this

/-- append(s, y): y was laid in a block of its own -/
theorem wpList_app1 {α : Type} (k : Kd α) {P : Program} {w : World} {ops : Array Oper} {rest : List Oper} {o : Oper} {a : Act} {Q : Exit → Act → World → Prop} (hgd : o.guard = none) (s x : Operand) (t : TypeId)
    (ho : o.op = .call { callee := .builtin .append, args := #[s, x], argTypes := #[t, t] })
    (e : TypeId) {z : Value} {bytes : Nat} (ht : P.underlying t = some (.slice e)) (hinfo : (P.info? e).map (fun i => (i.zero, i.size, i.bytes)) = some (some z, k.sz, bytes)) (hzs : z.cells.size = k.sz)
    {base : Nat} {H : PH} {v : Value} {xs : List α} {y : α} {cs : Array Value} (hown : Own k e w base H v xs) (hsat : Sat w H) (hs : a.eval s = v) {b0 : Nat} (hb0 : b0 = w.heap.size) (hx : a.eval x = .slice (some ⟨b0, 0, none⟩) 1 1)
    (hrd : k.rd H y cs.toList) (hbytes : (xs.length + 1) * bytes ≤ 140737488355328) (hmax : xs.length + 1 ≤ maxLen) (hbase : base ≤ w.heap.size)
    (h : ∀ v' w', Own k e w' base H v' (xs ++ [y]) → w.grownBy w' v.ownBlock → Sat w' H → New w v v' → wpList P ops Q rest (a.put o.dst v') w') :
    wpList P ops Q (o :: rest) a (w.alloc (.cells cs e)) := by
  subst hb0
  refine wpList_app k hgd s x t ho e ht hinfo hzs hs (hown.alloc hsat _) (hsat.alloc _) (ys := [y]) (cs := cs.toList) hx rfl (fun h => by cases h) (Nat.le_refl _) (EncL.single hrd) (lit_cells _ _ _) hbytes hmax (Nat.le_trans hbase (by simp)) fun v' w' h1 h2 h3 _ => ?_
  have hg : w.grownBy w' v.ownBlock := grownBy_trans (World.grownBy_alloc _ _ _) h2
  exact h v' w' h1 hg (hown.satG hsat hg) (New.of h3 (by simp))

/-- append(s, ys...): ys is read -/
theorem wpList_appS {α : Type} (k : Kd α) {P : Program} {w : World} {ops : Array Oper} {rest : List Oper} {o : Oper} {a : Act} {Q : Exit → Act → World → Prop} (hgd : o.guard = none) (s x : Operand) (t : TypeId)
    (ho : o.op = .call { callee := .builtin .append, args := #[s, x], argTypes := #[t, t] })
    (e : TypeId) {z : Value} {bytes : Nat} (ht : P.underlying t = some (.slice e)) (hinfo : (P.info? e).map (fun i => (i.zero, i.size, i.bytes)) = some (some z, k.sz, bytes)) (hzs : z.cells.size = k.sz)
    {base : Nat} {H : PH} {v : Value} {xs ys : List α} {A : Option Addr} {m c : Nat} (hown : Own k e w base H v xs) (hsat : Sat w H) (hrd : SlR k H A m c ys) (hs : a.eval s = v) (hx : a.eval x = .slice A m c)
    (hbytes : (xs.length + ys.length) * bytes ≤ 140737488355328) (hmax : xs.length + ys.length ≤ maxLen) (hbase : base ≤ w.heap.size)
    (h : ∀ v' w', Own k e w' base H v' (xs ++ ys) → w.grownBy w' v.ownBlock → Sat w' H → New w v v' → (v' = .slice none 0 0 ↔ v = .slice none 0 0 ∧ ys = []) → wpList P ops Q rest (a.put o.dst v') w') :
    wpList P ops Q (o :: rest) a w := by
  obtain ⟨cs, h1, h2⟩ := hrd.row.cells
  refine wpList_app k hgd s x t ho e ht hinfo hzs hs hown hsat hx hrd.1 hrd.2.2.2.2.1 hrd.2.1 h1 (fun j u hj => ?_) hbytes hmax hbase fun v' w' g1 g2 g3 g4 => h v' w' g1 g2 (hown.satG hsat g2) (New.of g3 (Nat.le_refl _)) g4
  obtain ⟨b, off, e1, hh⟩ := h2 j u hj
  exact ⟨_, e1, by simpa [Addr.add_lit] using hsat _ _ _ hh⟩

end Go.Proofs.Ytbpophdfnlagdaa.B
