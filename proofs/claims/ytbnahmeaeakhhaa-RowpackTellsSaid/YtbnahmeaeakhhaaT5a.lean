/- Packing: what stands in memory while a row is laid; an append of one number, wherever it lies. -/
import Derived.Test.YtbnahmeaeakhhaaT3
import Derived.Test.YtbnahmeaeakhhaaT4
import Derived.Test.YtbnahmeaeakhhaaS8
import Derived.Test.YtbnahmeaeakhhaaRz
namespace Go.Proofs.Ytbnahmeaeakhhaa.B
set_option linter.unusedVariables false
set_option linter.unusedSimpArgs false
open Go Go.RowKit Go.Proofs.Ytbnahmeaeakhhaa.Q Go.Proofs.Ytbnahmeaeakhhaa.S

/-- append(s, y) at a step of a region that draws: y lies in a block that is known -/
theorem step_appG {P : Program} {w : World} {ops : Array Oper} {o : Oper} {a : Act} {K : Act → World → Prop} {Q : Exit → Act → World → Prop} {E : Prop} (hgd : o.guard = none) (s x : Operand) (t : TypeId)
    (ho : o.op = .call { callee := .builtin .append, args := #[s, x], argTypes := #[t, t] })
    (e : TypeId) (ht : P.underlying t = some (.slice e)) (hinfo : (P.info? e).map (fun i => (i.zero, i.size, i.bytes)) = some (some (.int .i64 0), 1, 8))
    {base : Nat} {H : PH} {v : Value} {xs : List Int} {y : Int} (hown : Own (kI .i64) e w base H v xs) (hsat : Sat w H) (hs : a.eval s = v) {bx : Nat} (hx : a.eval x = .slice (some ⟨bx, 0, none⟩) 1 1) (hc : w.cell? ⟨bx, 0, none⟩ = some (.int .i64 y))
    (hbytes : xs.length ≤ 4000) (hbase : base ≤ w.heap.size)
    (h : ∀ v' w', Own (kI .i64) e w' base H v' (xs ++ [y]) → w.grownBy w' v.ownBlock → Sat w' H → New w v v' → K (a.put o.dst v') w') :
    if Region.wanted o (yielded ops a.tmps) = true then Oper.wp P o a w K Q else E := by
  have hw : Region.wanted o (yielded ops a.tmps) = true := by simp [Region.wanted, hgd]
  rw [if_pos hw]
  refine wp_app (kI .i64) s x t ho e ht hinfo rfl hs hown hsat (ys := [y]) (cs := [.int .i64 y]) hx rfl (fun h => by cases h) (Nat.le_refl _) (EncL.single rfl) (fun j u hj => ?_) (by simp; omega) (by unfold maxLen; simp; omega) hbase fun v' w' h1 h2 h3 _ => ?_
  · cases j with
    | zero => simp at hj; subst hj; exact ⟨_, rfl, by simpa [Addr.add_lit] using hc⟩
    | succ j => simp at hj
  · exact h v' w' h1 h2 (hown.satG hsat h2) (New.of h3 (Nat.le_refl _))

/-- the same, as an operation -/
theorem wp_appG {P : Program} {w : World} {o : Oper} {a : Act} {K : Act → World → Prop} {Q : Exit → Act → World → Prop} (s x : Operand) (t : TypeId)
    (ho : o.op = .call { callee := .builtin .append, args := #[s, x], argTypes := #[t, t] })
    (e : TypeId) (ht : P.underlying t = some (.slice e)) (hinfo : (P.info? e).map (fun i => (i.zero, i.size, i.bytes)) = some (some (.int .i64 0), 1, 8))
    {base : Nat} {H : PH} {v : Value} {xs : List Int} {y : Int} (hown : Own (kI .i64) e w base H v xs) (hsat : Sat w H) (hs : a.eval s = v) {bx : Nat} (hx : a.eval x = .slice (some ⟨bx, 0, none⟩) 1 1) (hc : w.cell? ⟨bx, 0, none⟩ = some (.int .i64 y))
    (hbytes : xs.length ≤ 4000) (hbase : base ≤ w.heap.size)
    (h : ∀ v' w', Own (kI .i64) e w' base H v' (xs ++ [y]) → w.grownBy w' v.ownBlock → Sat w' H → New w v v' → K (a.put o.dst v') w') : Oper.wp P o a w K Q := by
  refine wp_app (kI .i64) s x t ho e ht hinfo rfl hs hown hsat (ys := [y]) (cs := [.int .i64 y]) hx rfl (fun h => by cases h) (Nat.le_refl _) (EncL.single rfl) (fun j u hj => ?_) (by simp; omega) (by unfold maxLen; simp; omega) hbase fun v' w' h1 h2 h3 _ => ?_
  · cases j with
    | zero => simp at hj; subst hj; exact ⟨_, rfl, by simpa [Addr.add_lit] using hc⟩
    | succ j => simp at hj
  · exact h v' w' h1 h2 (hown.satG hsat h2) (New.of h3 (Nat.le_refl _))
/-- what stands in memory while rows are laid -/
structure PS (H0 Hk : PH) (w0 W : World) (g zb gb M : Nat) (ot oz : Obj) (nn : Nat) (lb : List Int) (vu : Value) (lu : List Int) (vv : Value) (lv : List Int) : Prop where
  hx : Ext H0 Hk w0 W
  kt : W.heap[g]? = some ot
  kz : W.heap[zb]? = some oz
  nt : ∀ o, Hk g o = none
  nz : ∀ o, Hk zb o = none
  hob : Own (kI .i64) 3 W w0.heap.size Hk (.slice (some ⟨gb, 0, none⟩) nn nn) lb
  hu : Own (kI .i64) 3 W M Hk vu lu
  hv : Own (kI .i64) 3 W M Hk vv lv
  ap : Apart vu vv
  gM : g < M
  bM : gb < M
  zM : zb < M
  wM : w0.heap.size ≤ M
  MW : M = g + 1 ∨ M = gb + 1
section
variable {H0 Hk : PH} {w0 W W' : World} {g zb gb M nn : Nat} {ot oz : Obj} {lb : List Int} {vu vu' : Value} {lu lu' : List Int} {vv vv' : Value} {lv lv' : List Int}
theorem PS.alloc (h : PS H0 Hk w0 W g zb gb M ot oz nn lb vu lu vv lv) (o : Obj) : PS H0 Hk w0 (W.alloc o) g zb gb M ot oz nn lb vu lu vv lv :=
  { h with hx := h.hx.alloc o, kt := boxA h.kt o, kz := boxA h.kz o, hob := h.hob.alloc h.hx.sat o, hu := h.hu.alloc h.hx.sat o, hv := h.hv.alloc h.hx.sat o }
theorem PS.drew (h : PS H0 Hk w0 W g zb gb M ot oz nn lb vu lu vv lv) : PS H0 Hk w0 W.drew g zb gb M ot oz nn lb vu lu vv lv :=
  { h with hx := h.hx.drew, kt := h.kt, kz := h.kz, hob := h.hob.drew, hu := h.hu.drew, hv := h.hv.drew }
theorem PS.lo (h : PS H0 Hk w0 W g zb gb M ot oz nn lb vu lu vv lv) : M ≤ W.heap.size := by
  have h1 := boxL h.kt; have h2 := (h.hob.blk (b := gb) rfl).2.1; have := h.MW; omega
theorem PS.up (h : PS H0 Hk w0 W g zb gb M ot oz nn lb vu lu vv lv) (ho : Own (kI .i64) 3 W' M Hk vu' lu') (hg : W.grownBy W' vu.ownBlock) (hn : New W vu vu') : PS H0 Hk w0 W' g zb gb M ot oz nn lb vu' lu' vv lv :=
  { h with
    hx := h.hu.extG h.hx h.wM hg
    kt := boxG h.kt hg (fun e => by have := (h.hu.blk e).1; have := h.gM; omega)
    kz := boxG h.kz hg (fun e => by have := (h.hu.blk e).1; have := h.zM; omega)
    hob := h.hob.grown_apart (Or.inr fun e => by have := (h.hu.blk (b := gb) (e.symm.trans rfl)).1; have := h.bM; omega) hg
    hu := ho
    hv := h.hv.grown_apart h.ap.symm hg
    ap := (h.hv.apartN h.ap.symm hn).symm }
theorem PS.vp (h : PS H0 Hk w0 W g zb gb M ot oz nn lb vu lu vv lv) (ho : Own (kI .i64) 3 W' M Hk vv' lv') (hg : W.grownBy W' vv.ownBlock) (hn : New W vv vv') : PS H0 Hk w0 W' g zb gb M ot oz nn lb vu lu vv' lv' :=
  { h with
    hx := h.hv.extG h.hx h.wM hg
    kt := boxG h.kt hg (fun e => by have := (h.hv.blk e).1; have := h.gM; omega)
    kz := boxG h.kz hg (fun e => by have := (h.hv.blk e).1; have := h.zM; omega)
    hob := h.hob.grown_apart (Or.inr fun e => by have := (h.hv.blk (b := gb) (e.symm.trans rfl)).1; have := h.bM; omega) hg
    hu := h.hu.grown_apart h.ap hg
    hv := ho
    ap := h.hu.apartN h.ap hn }
/-- a cell of a block that was laid later than what u owns -/
theorem PS.cellU (h : PS H0 Hk w0 W g zb gb M ot oz nn lb vu lu vv lv) {W2 : World} (h2 : PS H0 Hk w0 W2 g zb gb M ot oz nn lb vu lu vv lv) (hg : W2.grownBy W' vu.ownBlock) {b : Nat} (hb : W.heap.size ≤ b) {x : Value} (hc : W2.cell? ⟨b, 0, none⟩ = some x) : W'.cell? ⟨b, 0, none⟩ = some x := by
  rw [← hc]
  exact World.cell?_of_block (hg.block b (World.block_lt_of_cell? W2 ⟨b, 0, none⟩ hc) (fun e => by have := (h.hu.blk e.symm).2.1; omega))
end
end Go.Proofs.Ytbnahmeaeakhhaa.B
