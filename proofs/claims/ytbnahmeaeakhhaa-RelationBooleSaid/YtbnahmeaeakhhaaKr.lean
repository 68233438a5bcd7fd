/- The operations of the regions of RelationKleene, RelationBoole, each by itself. -/
import Derived.Test.YtbnahmeaeakhhaaKq
import Derived.Test.YtbnahmeaeakhhaaRg
namespace Go.Proofs.Ytbnahmeaeakhhaa.B
set_option linter.unusedVariables false
set_option linter.unusedSimpArgs false
open Go Go.RowKit Classical

/-- what a slot holds -/
inductive Ds
  | val (v : Value)
  | re (r : Re)
  | sl (l : List Re)
  | txt (t : List Int)
def Ds.sat : Ds → PH → Value → Prop
  | .val v, _, u => u = v
  | .re r, H, u => ∃ cs : List Value, u = .agg cs.toArray ∧ RdRe H r cs
  | .sl l, H, u => ∃ A n c, u = .slice A n c ∧ SlR kRe H A n c l
  | .txt t, H, u => ∃ A n c, u = .slice A n c ∧ SlR (kI .i64) H A n c t
theorem Ds.mono {d : Ds} {H H' : PH} {v : Value} (hh : H.le H') (h : d.sat H v) : d.sat H' v := by
  cases d with
  | val u => exact h
  | re r => obtain ⟨cs, e, h⟩ := h; exact ⟨cs, e, h.mono hh⟩
  | sl l => obtain ⟨A, n, c, e, h⟩ := h; exact ⟨A, n, c, e, h.mono hh⟩
  | txt l => obtain ⟨A, n, c, e, h⟩ := h; exact ⟨A, n, c, e, h.mono hh⟩
def tbl (T : List (Tmp × Ds)) (d : Tmp) : Ds := ((T.find? fun p => p.1 == d).map (·.2)).getD (.val undef)

section
variable {ops : Array Oper} {Q : Exit → Act → World → Prop} {T : List (Tmp × Ds)} {outs : List Tmp} {H0 : PH} {w0 : World}

theorem reg_end {fn : Func} {d : Tmp} {R : Ending → World → Prop} {K : Act → World → Prop} {a0 a : Act} {w : World} (hr : fn.results = #[.tmp d]) (hd : a.defers = a0.defers) (he : a.eval (.tmp d) = .bool true) (hK : ∀ (a : Act) (w : World), Code.wp Try.prog Code.ret (bodyPost Try.prog fn R) a w → K a w) (h0 : a0.defers = [] := by rfl) (h : R (.returned (.bool true)) w) : Exit.then K (bodyPost Try.prog fn R) .normal a w := by
  refine hK a w (wp_ret ⟨hd.trans h0, .bool true, ?_, h⟩)
  have e : a.tmps.getD d undef = .bool true := he
  rw [Array.getD_eq_getD_getElem?] at e
  simp [results, hr, e]
def Ok (ops : Array Oper) (Q : Exit → Act → World → Prop) (T : List (Tmp × Ds)) (outs : List Tmp) (H0 : PH) (w0 : World) (o : Oper) : Prop :=
  ∀ (a : Act) (w : World) (H : PH), Ext H0 H w0 w → (∀ d, ((depSlots ops o).contains d || outs.contains d) = true → (tbl T d).sat H (a.eval (.tmp d))) →
    Region.wanted o (yielded ops a.tmps) = true ∧ ∀ d, o.dst = some d → o.wp Try.prog a w (fun a' w' => ∃ v H', a' = a.put (some d) v ∧ Ext H H' w w' ∧ (tbl T d).sat H' v) Q

theorem region_ok {id : Nat} {a0 : Act} (T : List (Tmp × Ds)) (outs : List Tmp) (H0 : PH) (hb : backB ops = true) (hd : dstsB ops a0.tmps.size = true) (ho : outs.all (fun d => !(dsts ops).contains d) = true) (hs : Sat w0 H0)
    (hout : ∀ d ∈ outs, (tbl T d).sat H0 (a0.eval (.tmp d))) (hops : AllOk (Ok ops Q T outs H0 w0) ops.toList)
    (hend : ∀ (a : Act) (w : World) (H : PH), Ext H0 H w0 w → a.defers = a0.defers → a.tmps.size = a0.tmps.size → (∀ d, (dsts ops).contains d = false → a.eval (.tmp d) = a0.eval (.tmp d)) → (∀ d, (dsts ops).contains d = true → (tbl T d).sat H (a.eval (.tmp d))) → Q .normal a w) :
    (Code.region id ops true).wp Try.prog Q a0 w0 := by
  refine wp_region_inv (fun d H v => (tbl T d).sat H v) (by kernel_rfl) (fun d H H' v hh h => Ds.mono hh h) hb hd hs ?_ hend
  have : ∀ l, AllOk (Ok ops Q T outs H0 w0) l → AllOk (OpOk Try.prog ops Q (fun d H v => (tbl T d).sat H v) H0 w0 a0) l := by
    intro l h
    induction h with
    | nil => exact .nil
    | cons h1 _ ih =>
      rename_i o l _
      refine .cons (fun a w H hx hold hF => h1 a w H hx fun d hd => ?_) ih
      rcases (show (depSlots ops o).contains d = true ∨ outs.contains d = true by simpa using hd) with h | h
      · exact hF d h
      · have hm : d ∈ outs := by simpa using h
        have := List.all_eq_true.1 ho d hm
        have hc : (dsts ops).contains d = false := by simpa using this
        show (tbl T d).sat H (a.eval (.tmp d))
        rw [hold d hc]
        exact Ds.mono hx.le (hout d hm)
  exact this _ hops

/-- an operand that holds as said -/
def OS (ops : Array Oper) (T : List (Tmp × Ds)) (outs : List Tmp) (o : Oper) (x : Operand) (ds : Ds) : Prop :=
  ∀ (a : Act) (H : PH), (∀ d, ((depSlots ops o).contains d || outs.contains d) = true → (tbl T d).sat H (a.eval (.tmp d))) → ds.sat H (a.eval x)
theorem OS.tmp {o : Oper} (s : Tmp) {ds : Ds} (hdep : ((depSlots ops o).contains s || outs.contains s) = true) (hT : tbl T s = ds) : OS ops T outs o (.tmp s) ds := fun a H F => by rw [← hT]; exact F s hdep
theorem OS.const {o : Oper} (v : Value) : OS ops T outs o (.const v) (.val v) := fun a H F => rfl
theorem OS.nilS {o : Oper} : OS ops T outs o (.const (.slice none 0 0)) (.sl []) := fun a H F => ⟨Option.none, 0, 0, rfl, SlR.nil _ _⟩
theorem OS.func {o : Oper} (f : FuncId) : OS ops T outs o (.func f) (.val (.func (.func f) #[] #[])) := fun a H F => rfl
def Wn (ops : Array Oper) (T : List (Tmp × Ds)) (outs : List Tmp) (o : Oper) : Prop :=
  o.guard = Option.none ∨ ∃ j d, o.guard = some (j, true) ∧ (ops[j]?).bind (·.dst) = some d ∧ ((depSlots ops o).contains d || outs.contains d) = true ∧ tbl T d = .val (.bool true)
theorem Wn.want {o : Oper} (h : Wn ops T outs o) {a : Act} {H : PH} (F : ∀ d, ((depSlots ops o).contains d || outs.contains d) = true → (tbl T d).sat H (a.eval (.tmp d))) : Region.wanted o (yielded ops a.tmps) = true := by
  rcases h with h | ⟨j, d, h1, h2, h3, h4⟩
  · exact wanted_none h
  · have := F d h3
    rw [h4] at this
    exact wanted_some h1 h2 this

theorem ok_move {o : Oper} {d : Tmp} (hd : o.dst = some d) (x : Operand) (ho : o.op = .move x ∨ o.op = .assign x) (hw : Wn ops T outs o) (hx : OS ops T outs o x (tbl T d)) (hs0 : Sat w0 H0) : Ok ops Q T outs H0 w0 o := fun a w H hext F =>
  ⟨hw.want F, fun d' hd' => by
    rw [hd] at hd'; cases hd'
    exact op_move x ho (by rw [hd]; exact ⟨_, H, rfl, Ext.refl hext.sat, hx a H F⟩)⟩
theorem ok_pick {o : Oper} {d : Tmp} (hd : o.dst = some d) (c x y : Operand) (ho : o.op = .pick c x y) (hw : Wn ops T outs o) (hc : OS ops T outs o c (.val (.bool true))) (hx : OS ops T outs o x (tbl T d)) : Ok ops Q T outs H0 w0 o := fun a w H hext F =>
  ⟨hw.want F, fun d' hd' => by
    rw [hd] at hd'; cases hd'
    exact op_pick c x y ho (hc a H F) (by rw [hd]; exact ⟨_, H, rfl, Ext.refl hext.sat, hx a H F⟩)⟩
theorem ok_load {o : Oper} {d : Tmp} (hd : o.dst = some d) (x : Operand) (ho : o.op = .load 25 x) (hw : Wn ops T outs o) (g : Nat) (hx : OS ops T outs o x (.val (.pointer (some ⟨g, 0, Option.none⟩)))) (r : Re) (hT : tbl T d = .re r)
    (cs : List Value) (hg : w0.heap[g]? = some (.cells cs.toArray 25 (0, 0))) (hr : RdRe H0 r cs) : Ok ops Q T outs H0 w0 o := fun a w H hext F =>
  ⟨hw.want F, fun d' hd' => by
    rw [hd] at hd'; cases hd'
    have hl := hr.len
    refine wp_load_row 25 x ho g (hx a H F) 25 cs.toArray (0, 0) _ (box_below hg hext.below) Try.underlying25 rfl (by rw [List.size_toArray, hl]; kernel_rfl) ?_
    rw [hd]
    exact ⟨_, H, rfl, Ext.refl hext.sat, by rw [hT]; exact ⟨cs, rfl, hr.mono hext.le⟩⟩⟩
theorem six6 {H : PH} {r : Re} {cs : List Value} (h : RdRe H r cs) : ∃ a b c d e f, cs = [a, b, c, d, e, f] := six h
theorem ok_bs2 {o : Oper} {d : Tmp} (hd : o.dst = some d) (x y : Operand) (ho : o.op = .buildSlice 23 2 #[(0, x), (1, y)]) (hw : Wn ops T outs o) (r s : Re) (hx : OS ops T outs o x (.re r)) (hy : OS ops T outs o y (.re s)) (hT : tbl T d = .sl [r, s]) : Ok ops Q T outs H0 w0 o := fun a w H hext F =>
  ⟨hw.want F, fun d' hd' => by
    rw [hd] at hd'; cases hd'
    obtain ⟨cx, ex, rx⟩ := hx a H F
    obtain ⟨cy, ey, ry⟩ := hy a H F
    obtain ⟨x0, x1, x2, x3, x4, x5, rfl⟩ := six rx
    obtain ⟨y0, y1, y2, y3, y4, y5, rfl⟩ := six ry
    obtain ⟨i, hi, hz0, hz1, hz2⟩ := info_parts info25
    refine wp_buildSlice 23 25 2 _ ho #[x0, x1, x2, x3, x4, x5, y0, y1, y2, y3, y4, y5] i _ Try.underlying23 hi hz0 (by rw [hz1]; decide) (by rw [hz1]; decide) ?_ ?_
    · rw [hz1]; simp only [List.map_toArray, List.map_cons, List.map_nil, ex, ey]; kernel_rfl
    · rw [hd]
      obtain ⟨H', h1, h2, ⟨A, c, e1, h3⟩, -⟩ := (Own.lit (k := kRe) (e := 25) (xs := [r, s]) (base := w.heap.size) hext.sat #[x0, x1, x2, x3, x4, x5, y0, y1, y2, y3, y4, y5] (Nat.le_refl _) ⟨_, [y0, y1, y2, y3, y4, y5], rfl, rx, EncL.single ry⟩ (by unfold maxLen; simp)).freezeE (Ext.alloc (Ext.refl hext.sat) _) (Nat.le_refl _) (by simp)
      cases e1
      exact ⟨_, H', rfl, h1, by rw [hT]; exact ⟨_, _, _, rfl, h3⟩⟩⟩
theorem ok_bs1 {o : Oper} {d : Tmp} (hd : o.dst = some d) (x : Operand) (ho : o.op = .buildSlice 23 1 #[(0, x)]) (hw : Wn ops T outs o) (r : Re) (hx : OS ops T outs o x (.re r)) (hT : tbl T d = .sl [r]) : Ok ops Q T outs H0 w0 o := fun a w H hext F =>
  ⟨hw.want F, fun d' hd' => by
    rw [hd] at hd'; cases hd'
    obtain ⟨cx, ex, rx⟩ := hx a H F
    obtain ⟨x0, x1, x2, x3, x4, x5, rfl⟩ := six rx
    obtain ⟨i, hi, hz0, hz1, hz2⟩ := info_parts info25
    refine wp_buildSlice 23 25 1 _ ho #[x0, x1, x2, x3, x4, x5] i _ Try.underlying23 hi hz0 (by rw [hz1]; decide) (by rw [hz1]; decide) ?_ ?_
    · rw [hz1]; simp only [List.map_toArray, List.map_cons, List.map_nil, ex]; kernel_rfl
    · rw [hd]
      obtain ⟨H', h1, h2, ⟨A, c, e1, h3⟩, -⟩ := (Own.lit (k := kRe) (e := 25) (xs := [r]) (base := w.heap.size) hext.sat #[x0, x1, x2, x3, x4, x5] (Nat.le_refl _) (EncL.single rx) (by unfold maxLen; simp)).freezeE (Ext.alloc (Ext.refl hext.sat) _) (Nat.le_refl _) (by simp)
      cases e1
      exact ⟨_, H', rfl, h1, by rw [hT]; exact ⟨_, _, _, rfl, h3⟩⟩⟩
theorem ok_zero {o : Oper} {d : Tmp} (hd : o.dst = some d) (ho : o.op = .build 25 #[]) (hw : Wn ops T outs o) (hT : tbl T d = .re (.mk 0 [] [] 0 0 false)) : Ok ops Q T outs H0 w0 o := fun a w H hext F =>
  ⟨hw.want F, fun d' hd' => by
    rw [hd] at hd'; cases hd'
    have hb : (Try.prog).built 25 [] = some #[.int .i64 0, .slice Option.none 0 0, .slice Option.none 0 0, .int .i64 0, .int .i64 0, .bool false] := by kernel_rfl
    unfold Oper.wp execOp
    rw [ho]
    simp only [Array.map_empty, Sem.run_bind, run_build w 25 #[] _ hb, Result.andThen_ok]
    show Oper.upon _ _ _ _ _ (.ok (.value _) _)
    rw [Oper.upon_value, hd]
    exact ⟨_, H, rfl, Ext.refl hext.sat, by rw [hT]; exact ⟨[.int .i64 0, .slice Option.none 0 0, .slice Option.none 0 0, .int .i64 0, .int .i64 0, .bool false], rfl, RdRe.shut (SlR.nil _ _) (SlR.nil _ _)⟩⟩⟩

/-- a call -/
theorem ok_call {o : Oper} {d : Tmp} (hd : o.dst = some d) {cl : Call} (ho : o.op = .call cl) (hw : Wn ops T outs o) (f : FuncId) (x : Operand) (hc : cl.callee = .value x) (hx : OS ops T outs o x (.val (.func (.func f) #[] #[]))) {fn : Func} {c : Code} (hf : (Try.prog).funcs[f]? = some fn) (hname : (fn.name == "runtime.NumGoroutine") = false) (hb : fn.body = some c)
    (h : ∀ (a : Act) (w : World) (H : PH), Sat w H → (∀ d, ((depSlots ops o).contains d || outs.contains d) = true → (tbl T d).sat H (a.eval (.tmp d))) → Calls Try.prog f (cl.args.map a.eval) w fun e w' => ∃ v H', e = .returned v ∧ Ext H H' w w' ∧ (tbl T d).sat H' v) : Ok ops Q T outs H0 w0 o := fun a w H hext F =>
  ⟨hw.want F, fun d' hd' => by
    rw [hd] at hd'; cases hd'
    refine op_call ho hc (hx a H F) hf hname hb (h a w H hext.sat F) ?_
    rintro e w' ⟨v, H', rfl, h1, h2⟩
    exact ⟨v, rfl, by rw [hd]; exact ⟨v, H', rfl, h1, h2⟩⟩⟩
theorem ok_re {o : Oper} {d : Tmp} (hd : o.dst = some d) {cl : Call} (ho : o.op = .call cl) (hw : Wn ops T outs o) (hc : cl.callee = .value (.func 27)) (x y : Operand) (hargs : cl.args = #[x, y]) (K : Int) (l : List Re) (hx : OS ops T outs o x (.val (.int .i64 K))) (hy : OS ops T outs o y (.sl l)) (hT : tbl T d = .re (.mk K [] l 0 0 false)) : Ok ops Q T outs H0 w0 o :=
  ok_call hd ho hw 27 _ hc (OS.func _) Try.func27 (by kernel_rfl) rfl fun a w H hs F => by
    obtain ⟨A, n, c, ey, hsl⟩ := hy a H F
    have ex := hx a H F
    rw [hargs]
    simp only [List.map_toArray, List.map_cons, List.map_nil, ey]
    rw [show a.eval x = .int .i64 K from ex]
    refine (kre_any K A n c w).mono ?_
    rintro e w' ⟨rfl, hb⟩
    exact ⟨_, H, rfl, Ext.of_below hs hb, by rw [hT]; exact ⟨[.int .i64 K, .slice Option.none 0 0, .slice A n c, .int .i64 0, .int .i64 0, .bool false], rfl, RdRe.shut (SlR.nil _ _) hsl⟩⟩
theorem ok_same {o : Oper} {d : Tmp} (hd : o.dst = some d) {cl : Call} (ho : o.op = .call cl) (hw : Wn ops T outs o) (hc : cl.callee = .value (.func 28)) (x y z : Operand) (hargs : cl.args = #[x, y, z]) (r s : Re) (t : List Int) (hx : OS ops T outs o x (.re r)) (hy : OS ops T outs o y (.re s)) (hz : OS ops T outs o z (.txt t)) (hT : tbl T d = .val (.bool true)) (hA : Alike t r s) : Ok ops Q T outs H0 w0 o :=
  ok_call hd ho hw 28 _ hc (OS.func _) Try.func28 (by kernel_rfl) rfl fun a w H hs F => by
    obtain ⟨cx, ex, rx⟩ := hx a H F
    obtain ⟨cy, ey, ry⟩ := hy a H F
    obtain ⟨A, n, c, ez, hsl⟩ := hz a H F
    rw [hargs]
    simp only [List.map_toArray, List.map_cons, List.map_nil, ex, ey, ez]
    refine (same_ok rx ry hsl hs hA).mono ?_
    rintro e w' ⟨rfl, hb⟩
    exact ⟨_, H, rfl, hb, by rw [hT]; rfl⟩
theorem ok_not {o : Oper} {d : Tmp} (hd : o.dst = some d) {cl : Call} (ho : o.op = .call cl) (hw : Wn ops T outs o) (g : Operand) (hc : cl.callee = .value g) (hg : OS ops T outs o g (.val (.func (.func 29) #[] #[]))) (x : Operand) (hargs : cl.args = #[x]) (r : Re) (hx : OS ops T outs o x (.re r)) (hT : tbl T d = .re (.mk 8 [] [r] 0 0 false)) : Ok ops Q T outs H0 w0 o :=
  ok_call hd ho hw 29 _ hc hg Try.func29 (by kernel_rfl) rfl fun a w H hs F => by
    obtain ⟨cx, ex, rx⟩ := hx a H F
    rw [hargs]
    simp only [List.map_toArray, List.map_cons, List.map_nil, ex]
    refine (knot_any hs rx).mono ?_
    rintro e w' ⟨H', A, c, rfl, hr, hb⟩
    exact ⟨_, H', rfl, hb, by rw [hT]; exact ⟨_, rfl, hr⟩⟩
theorem ok_look {o : Oper} {d : Tmp} (hd : o.dst = some d) {cl : Call} (ho : o.op = .call cl) (hw : Wn ops T outs o) (g : Operand) (hc : cl.callee = .value g) (hg : OS ops T outs o g (.val (.func (.func 30) #[] #[]))) (x y : Operand) (hargs : cl.args = #[x, y]) (r : Re) (b : Bool) (hx : OS ops T outs o x (.re r)) (hy : OS ops T outs o y (.val (.bool b))) (hT : tbl T d = .re (.mk 10 [] [r] 0 0 b)) : Ok ops Q T outs H0 w0 o :=
  ok_call hd ho hw 30 _ hc hg Try.func30 (by kernel_rfl) rfl fun a w H hs F => by
    obtain ⟨cx, ex, rx⟩ := hx a H F
    have ey := hy a H F
    rw [hargs]
    simp only [List.map_toArray, List.map_cons, List.map_nil, ex]
    rw [show a.eval y = .bool b from ey]
    refine (klook_any b hs rx).mono ?_
    rintro e w' ⟨H', A, c, rfl, hr, hb⟩
    exact ⟨_, H', rfl, hb, by rw [hT]; exact ⟨_, rfl, hr⟩⟩
end
end Go.Proofs.Ytbnahmeaeakhhaa.B
