/- A region that draws its order, by an invariant: each operation's result reads as said in every later heap, whatever has come before it. No program is in sight here. -/
import Derived.Test.YtbpophdfnlagdaaBb
import Derived.Orders
import Derived.Laws.Rows
import Derived.Great.BuildSlice
import Derived.Conc.MuLone
namespace Go.Proofs.Ytbpophdfnlagdaa.B
set_option linter.unusedVariables false
set_option linter.unusedSimpArgs false
open Go Go.RowKit

section
variable {P : Program} {ops : Array Oper} {Q : Exit → Act → World → Prop} {md : Region.Mode}

theorem count_set_true {l : List Bool} {i : Nat} (h : l[i]? = some false) : (l.set i true).count true = l.count true + 1 := by
  induction l generalizing i with
  | nil => simp at h
  | cons x l ih =>
    cases i with
    | zero => simp at h; subst h; simp
    | succ i =>
      have := ih (i := i) (by simpa using h)
      simp only [List.set_cons_succ, List.count_cons, this]; omega

theorem ready_unlisted {listed : Array Bool} {i : Nat} (h : i ∈ Region.ready md ops listed) (hs : listed.size = ops.size) : i < ops.size ∧ listed.toList[i]? = some false := by
  have h1 := (mem_ready.1 h).1
  obtain ⟨o, ho, -⟩ := (mem_ready.1 h).2
  have hlt : i < ops.size := (Array.getElem?_eq_some_iff.1 ho).1
  refine ⟨hlt, ?_⟩
  simp only [Array.getElem?_toList]
  rw [Array.getElem?_eq_getElem (by omega)]
  rw [Array.getD_eq_getD_getElem?, Array.getElem?_eq_getElem (by omega)] at h1
  simpa using h1

theorem wpAny_inv (Inv : Array Bool → Act → World → Prop)
    (hstep : ∀ i listed a w, listed.size = ops.size → i ∈ Region.ready md ops listed → Inv listed a w → wpOp P ops Q i (fun a' w' => Inv (listed.setIfInBounds i true) a' w') a w)
    (hend : ∀ listed a w, listed.size = ops.size → Region.ready md ops listed = [] → Inv listed a w → Q .normal a w) :
    ∀ fuel listed a w, listed.size = ops.size → ops.size ≤ listed.toList.count true + fuel → Inv listed a w → wpAny P md ops Q fuel listed a w := by
  intro fuel
  induction fuel with
  | zero =>
    intro listed a w hs hc hI
    have hr : Region.ready md ops listed = [] := by
      rw [List.eq_nil_iff_forall_not_mem]
      intro i hi
      obtain ⟨h1, h2⟩ := ready_unlisted hi hs
      have h3 : listed.toList.count true < listed.toList.length := by
        rcases Nat.lt_or_ge (listed.toList.count true) listed.toList.length with h | h
        · exact h
        · have h4 : listed.toList.count true = listed.toList.length := Nat.le_antisymm List.count_le_length h
          rw [List.count_eq_length] at h4
          have := h4 false (List.mem_of_getElem? h2)
          cases this
      simp at h3; simp at hc; omega
    exact ⟨hr, hend listed a w hs hr hI⟩
  | succ fuel ih =>
    intro listed a w hs hc hI
    refine ⟨fun hr => hend listed a w hs hr hI, fun i hi => ?_⟩
    refine wpOp_mono (fun a' w' hI' => ih _ a' w' (by simpa using hs) ?_ hI') (hstep i listed a w hs hi hI)
    obtain ⟨-, h2⟩ := ready_unlisted hi hs
    rw [Array.toList_setIfInBounds, count_set_true h2]; omega

/-- every operation waits only for earlier ones -/
def backB (ops : Array Oper) : Bool := (List.range ops.size).all fun i => ((ops[i]?).map fun o => o.after.all fun e => decide (e.on < i)).getD true
theorem all_listed (hb : backB ops = true) {listed : Array Bool} (hs : listed.size = ops.size) (hr : Region.ready md ops listed = []) (i : Nat) (hi : i < ops.size) : listed.getD i false = true := by
  induction i using Nat.strongRecOn with
  | ind i ih =>
  cases h : listed.getD i false with
  | true => rfl
  | false =>
    exfalso
    have hm : i ∈ Region.ready md ops listed := by
      rw [mem_ready]
      refine ⟨?_, ops[i], Array.getElem?_eq_getElem hi, fun e he _ => ?_⟩
      · rw [Array.getD_eq_getD_getElem?, Array.getElem?_eq_getElem (by omega)] at h ⊢; simpa using h
      · have h1 := List.all_eq_true.1 hb i (List.mem_range.2 hi)
        rw [Array.getElem?_eq_getElem hi] at h1
        simp only [Option.map_some, Option.getD_some] at h1
        rw [Array.all_eq_true_iff_forall_mem] at h1
        have h2 := h1 e he
        simp at h2
        exact ih _ h2 (by omega)
    rw [hr] at hm; cases hm

/-- the slots that an operation's result may hang on -/
def depSlots (ops : Array Oper) (o : Oper) : List Tmp := o.after.toList.filterMap fun e => if Region.binds .any e then (ops[e.on]?).bind (·.dst) else none
def dsts (ops : Array Oper) : List Tmp := ops.toList.filterMap Oper.dst
def dstsB (ops : Array Oper) (n : Nat) : Bool := decide ((dsts ops).length = ops.size) && (dsts ops).Nodup && (dsts ops).all (fun d => decide (d < n))

/-- what holds of an operation: its result reads as said -/
def OpOk (P : Program) (ops : Array Oper) (Q : Exit → Act → World → Prop) (sat : Tmp → PH → Value → Prop) (H0 : PH) (w0 : World) (a0 : Act) (o : Oper) : Prop :=
  ∀ (a : Act) (w : World) (H : PH), Ext H0 H w0 w → (∀ d, (dsts ops).contains d = false → a.eval (.tmp d) = a0.eval (.tmp d)) → (∀ d, (depSlots ops o).contains d = true → sat d H (a.eval (.tmp d))) →
    Region.wanted o (yielded ops a.tmps) = true ∧ ∀ d, o.dst = some d → o.wp P a w (fun a' w' => ∃ v H', a' = a.put (some d) v ∧ Ext H H' w w' ∧ sat d H' v) Q

inductive AllOk (R : Oper → Prop) : List Oper → Prop
  | nil : AllOk R []
  | cons {o : Oper} {l : List Oper} : R o → AllOk R l → AllOk R (o :: l)
theorem AllOk.get {R : Oper → Prop} {l : List Oper} (h : AllOk R l) : ∀ o ∈ l, R o := by
  induction h with
  | nil => simp
  | cons h1 _ ih => intro o ho; rcases List.mem_cons.1 ho with rfl | ho; exact h1; exact ih o ho

theorem filterMap_len {α β : Type} {f : α → Option β} : ∀ {l : List α}, (l.filterMap f).length = l.length → ∀ (i : Nat) (x : α), l[i]? = some x → ∃ y, f x = some y ∧ (l.filterMap f)[i]? = some y := by
  intro l
  induction l with
  | nil => intro _ i x h; simp at h
  | cons z l ih =>
    intro hl i x hx
    cases hz : f z with
    | none =>
      rw [List.filterMap_cons_none hz] at hl
      have := List.length_filterMap_le f l
      simp at hl; omega
    | some y =>
      rw [List.filterMap_cons_some hz] at hl ⊢
      cases i with
      | zero => simp at hx; subst hx; exact ⟨y, hz, by simp⟩
      | succ i =>
        obtain ⟨y', h1, h2⟩ := ih (by simpa using hl) i x (by simpa using hx)
        exact ⟨y', h1, by simpa using h2⟩

theorem wp_region_inv {id : Nat} {a0 : Act} {w0 : World} {H0 : PH} (sat : Tmp → PH → Value → Prop) (hm : P.follows .mixedOrders = true) (hmono : ∀ d H H' v, H.le H' → sat d H v → sat d H' v)
    (hb : backB ops = true) (hd : dstsB ops a0.tmps.size = true) (hs : Sat w0 H0) (hops : AllOk (OpOk P ops Q sat H0 w0 a0) ops.toList)
    (hend : ∀ (a : Act) (w : World) (H : PH), Ext H0 H w0 w → a.defers = a0.defers → a.tmps.size = a0.tmps.size → (∀ d, (dsts ops).contains d = false → a.eval (.tmp d) = a0.eval (.tmp d)) → (∀ d, (dsts ops).contains d = true → sat d H (a.eval (.tmp d))) → Q .normal a w) :
    (Code.region id ops true).wp P Q a0 w0 := by
  simp only [dstsB, Bool.and_eq_true, decide_eq_true_eq, List.all_eq_true] at hd
  obtain ⟨⟨hlen, hnd⟩, hlt⟩ := hd
  have hdst : ∀ (i : Nat) (o : Oper), ops[i]? = some o → ∃ d, o.dst = some d ∧ (dsts ops)[i]? = some d := fun i o ho => filterMap_len (f := Oper.dst) (l := ops.toList) (by simpa [dsts] using hlen) i o (by simpa using ho)
  have huniq : ∀ (i j : Nat) (d : Tmp), (dsts ops)[i]? = some d → (dsts ops)[j]? = some d → i = j := fun i j d hi hj => by
    obtain ⟨h1, h2⟩ := List.getElem?_eq_some_iff.1 hi
    obtain ⟨h3, h4⟩ := List.getElem?_eq_some_iff.1 hj
    rcases Nat.lt_trichotomy i j with h | h | h
    · exact absurd (h2.trans h4.symm) (List.pairwise_iff_getElem.1 hnd i j h1 h3 h)
    · exact h
    · exact absurd (h4.trans h2.symm) (List.pairwise_iff_getElem.1 hnd j i h3 h1 h)
  refine wp_region_any hm (wpAny_inv (fun listed a w => ∃ H, Ext H0 H w0 w ∧ a.defers = a0.defers ∧ a.tmps.size = a0.tmps.size ∧ (∀ d, (dsts ops).contains d = false → a.eval (.tmp d) = a0.eval (.tmp d)) ∧
    ∀ (i : Nat) d, (dsts ops)[i]? = some d → listed.getD i false = true → sat d H (a.eval (.tmp d))) ?_ ?_ _ _ _ _ (by simp) (by simp) ?_)
  · rintro i listed a w hsz hi ⟨H, hx, hdf, hts, hold, hnew⟩
    obtain ⟨-, o, ho, hall⟩ := mem_ready.1 hi
    obtain ⟨d, hd1, hd2⟩ := hdst i o ho
    have hok := hops.get o (by rw [← Array.getElem?_toList] at ho; exact List.mem_of_getElem? ho)
    obtain ⟨hw, hwp⟩ := hok a w H hx hold (fun e he => by
      simp only [List.contains_eq_mem, decide_eq_true_eq, depSlots, List.mem_filterMap] at he
      obtain ⟨x, hx1, hx2⟩ := he
      split at hx2
      · rename_i hbd
        have hl := hall x (by simpa using hx1) hbd
        cases hox : ops[x.on]? with
        | none => rw [hox] at hx2; simp at hx2
        | some ox =>
          rw [hox] at hx2
          obtain ⟨dx, hdx1, hdx2⟩ := hdst _ _ hox
          simp only [Option.bind_some, hdx1, Option.some.injEq] at hx2
          subst hx2
          exact hnew _ _ hdx2 hl
      · cases hx2)
    unfold wpOp
    rw [ho]
    simp only [hw, if_true]
    refine Or.inl (Oper.wp_mono (fun a' w' hh => ?_) (hwp d hd1))
    obtain ⟨v, H', rfl, hx', hsv⟩ := hh
    have hdl : d < a.tmps.size := by rw [hts]; simpa using hlt d (List.mem_of_getElem? hd2)
    have hput : ∀ d', d' ≠ d → (a.put (some d) v).eval (.tmp d') = a.eval (.tmp d') := fun d' hne => by
      simp only [Act.put, Act.eval, Array.getD_eq_getD_getElem?]
      rw [Array.getElem?_setIfInBounds_ne (fun e => hne e.symm)]
    have hput2 : (a.put (some d) v).eval (.tmp d) = v := by
      simp [Act.put, Act.eval, hdl]
    refine ⟨H', hx.trans hx', by simpa [Act.put] using hdf, by simpa [Act.put] using hts, fun d' hd' => ?_, fun j d' hj hl => ?_⟩
    · rw [hput d' (fun e => by subst e; simp only [List.contains_eq_mem, decide_eq_false_iff_not] at hd'; exact hd' (List.mem_of_getElem? hd2))]
      exact hold d' hd'
    · by_cases e : j = i
      · subst e
        have : d' = d := by rw [hd2] at hj; exact (Option.some.inj hj).symm
        subst this
        rw [hput2]; exact hsv
      · rw [hput d' (fun e1 => by subst e1; exact e (huniq _ _ _ hj hd2))]
        rw [getD_set_ne false (fun e1 => e e1.symm)] at hl
        exact hmono _ _ _ _ hx'.le (hnew j d' hj hl)
  · rintro listed a w hsz hr ⟨H, hx, hdf, hts, hold, hnew⟩
    refine hend a w H hx hdf hts hold fun d hd => ?_
    simp only [List.contains_eq_mem, decide_eq_true_eq] at hd
    obtain ⟨i, hi⟩ := List.getElem?_of_mem hd
    refine hnew i d hi (all_listed hb hsz hr i ?_)
    have := (List.getElem?_eq_some_iff.1 hi).1
    omega
  · refine ⟨H0, (Ext.refl hs).drew, rfl, rfl, fun _ _ => rfl, fun i d _ hl => ?_⟩
    rw [Array.getD_eq_getD_getElem?, Array.getElem?_replicate] at hl
    split at hl <;> simp at hl

/-! ### the operations -/
theorem wanted_none {o : Oper} {f : Nat → Option Bool} (h : o.guard = none) : Region.wanted o f = true := by simp [Region.wanted, h]
theorem wanted_some {o : Oper} {a : Act} {j d : Nat} (h : o.guard = some (j, true)) (hd : (ops[j]?).bind (·.dst) = some d) (ha : a.eval (.tmp d) = .bool true) : Region.wanted o (yielded ops a.tmps) = true := by
  have : a.tmps[d]? = some (.bool true) := by
    simp only [Act.eval, Array.getD_eq_getD_getElem?] at ha
    cases h : a.tmps[d]? with
    | none => rw [h] at ha; simp [undef] at ha
    | some v => rw [h] at ha; simpa using ha
  simp [Region.wanted, h, yielded, hd, this]
theorem op_move {o : Oper} {a : Act} {w : World} {K : Act → World → Prop} (x : Operand) (ho : o.op = .move x ∨ o.op = .assign x) (h : K (a.put o.dst (a.eval x)) w) : o.wp P a w K Q := by
  unfold Oper.wp execOp
  rcases ho with ho | ho <;> · rw [ho]; exact h
theorem op_pick {o : Oper} {a : Act} {w : World} {K : Act → World → Prop} (c x y : Operand) (ho : o.op = .pick c x y) (hc : a.eval c = .bool true) (h : K (a.put o.dst (a.eval x)) w) : o.wp P a w K Q := by
  unfold Oper.wp execOp
  rw [ho]
  simp only [hc, asBool, Sem.run_bind, Sem.run_pure, Result.andThen_ok, if_true]
  exact h
theorem op_call {o : Oper} {a : Act} {w : World} {K : Act → World → Prop} {f : FuncId} {fn : Func} {c : Code} {cl : Call} (ho : o.op = .call cl) {x : Operand} (hc : cl.callee = .value x) (hx : a.eval x = .func (.func f) #[] #[]) (hf : P.funcs[f]? = some fn) (hname : (fn.name == "runtime.NumGoroutine") = false) (hb : fn.body = some c)
    {R : Ending → World → Prop} (h : Calls P f (cl.args.map a.eval) w R) (hR : ∀ e w', R e w' → ∃ v, e = .returned v ∧ K (a.put o.dst v) w') : o.wp P a w K Q := by
  unfold Oper.wp execOp
  rw [ho]
  simp only [resolve, hc, hx, Deferred.ofValue, invoke, Sem.run_bind, Sem.run_pure, Result.andThen_ok, Array.append_empty, Array.empty_append, MuLone.run_callFunc_enter hf hname hb, Oper.upon_enter]
  refine h.mono fun e w' he => ?_
  obtain ⟨v, rfl, hk⟩ := hR e w' he
  exact hk
end
end Go.Proofs.Ytbpophdfnlagdaa.B
