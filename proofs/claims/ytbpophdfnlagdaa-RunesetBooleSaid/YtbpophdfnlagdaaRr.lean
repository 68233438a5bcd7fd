/- A region that draws its order, shown operation by operation in the order of the text: each operation once, in whatever heap has come. No program is in sight here. -/
import Derived.Test.YtbpophdfnlagdaaRg
namespace Go.Proofs.Ytbpophdfnlagdaa.B
set_option linter.unusedVariables false
set_option linter.unusedSimpArgs false
open Go Go.RowKit

/-- what a slot holds -/
inductive Dv
  | val (v : Value)
  | any (p : PH → Value → Prop) (h : ∀ H H' v, H.le H' → p H v → p H' v)
def Dv.sat : Dv → PH → Value → Prop
  | .val v, _, u => u = v
  | .any p _, H, u => p H u
theorem Dv.mono {d : Dv} {H H' : PH} {v : Value} (hh : H.le H') (h : d.sat H v) : d.sat H' v := by
  cases d with
  | val u => exact h
  | any p hp => exact hp _ _ _ hh h
def tbv (T : List (Tmp × Dv)) (d : Tmp) : Dv := ((T.find? fun p => p.1 == d).map (·.2)).getD (.val undef)
theorem tbv_eq (T : List (Tmp × Dv)) (d : Tmp) (ds : Dv) : tbv ((d, ds) :: T) d = ds := by simp [tbv]
theorem tbv_ne (T : List (Tmp × Dv)) {d e : Tmp} (ds : Dv) (h : e ≠ d) : tbv ((d, ds) :: T) e = tbv T e := by
  unfold tbv
  rw [List.find?_cons_of_neg (by simpa using fun e1 => h e1.symm)]

section
variable {P : Program} {ops : Array Oper} {Q : Exit → Act → World → Prop} {H0 : PH} {w0 : World} {a0 : Act}

def OpW (P : Program) (ops : Array Oper) (Q : Exit → Act → World → Prop) (H0 : PH) (w0 : World) (a0 : Act) (S : Tmp → Dv) (o : Oper) (ds : Dv) : Prop :=
  ∀ (a : Act) (w : World) (H : PH), Ext H0 H w0 w → (∀ d, (dsts ops).contains d = false → a.eval (.tmp d) = a0.eval (.tmp d)) → (∀ d, (depSlots ops o).contains d = true → (S d).sat H (a.eval (.tmp d))) →
    (Region.wanted o (yielded ops a.tmps) = true ∧ ∀ d, o.dst = some d → o.wp P a w (fun a' w' => ∃ v H', a' = a.put (some d) v ∧ Ext H H' w w' ∧ ds.sat H' v) Q) ∨
    (Region.wanted o (yielded ops a.tmps) = false ∧ ∀ H, ds.sat H undef)

theorem wp_region_w {id : Nat} (S : Tmp → Dv) (hm : P.follows .mixedOrders = true)
    (hb : backB ops = true) (hd : dstsB ops a0.tmps.size = true) (hs : Sat w0 H0) (hops : ∀ o d, o ∈ ops.toList → o.dst = some d → OpW P ops Q H0 w0 a0 S o (S d))
    (hend : ∀ (a : Act) (w : World) (H : PH), Ext H0 H w0 w → a.defers = a0.defers → a.tmps.size = a0.tmps.size → (∀ d, (dsts ops).contains d = false → a.eval (.tmp d) = a0.eval (.tmp d)) → (∀ d, (dsts ops).contains d = true → (S d).sat H (a.eval (.tmp d))) → Q .normal a w) :
    (Code.region id ops true).wp P Q a0 w0 := by
  simp only [dstsB, Bool.and_eq_true, decide_eq_true_eq, List.all_eq_true] at hd
  obtain ⟨⟨hlen, hnd⟩, hlt⟩ := hd
  have hdst : ∀ (i : Nat) (o : Oper), ops[i]? = some o → ∃ d, o.dst = some d ∧ (dsts ops)[i]? = some d := fun i o ho => filterMap_len (f := Oper.dst) (l := ops.toList) (by simpa [dsts] using hlen) i o (by simpa using ho)
  have huniq : ∀ (i j : Nat) (d : Tmp), (dsts ops)[i]? = some d → (dsts ops)[j]? = some d → i = j := fun i j d hi hj => by
    obtain ⟨h1, h2⟩ := List.getElem?_eq_some_iff.1 hi
    obtain ⟨h3, h4⟩ := List.getElem?_eq_some_iff.1 hj
    rcases Nat.lt_trichotomy i j with h | h | h
    · exact absurd (h2.trans h4.symm) (List.pairwise_iff_getElem.1 hnd i j h1 h3 h)
    · exact h
    · exact absurd (h4.trans h2.symm) (List.pairwise_iff_getElem.1 hnd j i h3 h1 h)
  refine wp_region_any hm (wpAny_inv (fun listed a w => ∃ H, Ext H0 H w0 w ∧ a.defers = a0.defers ∧ a.tmps.size = a0.tmps.size ∧ (∀ d, (dsts ops).contains d = false → a.eval (.tmp d) = a0.eval (.tmp d)) ∧
    ∀ (i : Nat) d, (dsts ops)[i]? = some d → listed.getD i false = true → (S d).sat H (a.eval (.tmp d))) ?_ ?_ _ _ _ _ (by simp) (by simp) ?_)
  · rintro i listed a w hsz hi ⟨H, hx, hdf, hts, hold, hnew⟩
    obtain ⟨-, o, ho, hall⟩ := mem_ready.1 hi
    obtain ⟨d, hd1, hd2⟩ := hdst i o ho
    have hok := hops o d (by rw [← Array.getElem?_toList] at ho; exact List.mem_of_getElem? ho) hd1 a w H hx hold (fun e he => by
      simp only [List.contains_eq_mem, decide_eq_true_eq, depSlots, List.mem_filterMap] at he
      obtain ⟨x, hx1, hx2⟩ := he
      split at hx2
      · rename_i hbd
        have hl := hall x (by simpa using hx1) hbd
        cases hox : ops[x.on]? with
        | none => rw [hox] at hx2; simp at hx2
        | some ox =>
          rw [hox] at hx2
          obtain ⟨dx, hdx1, hdx2⟩ := hdst _ _ hox
          simp only [Option.bind_some, hdx1, Option.some.injEq] at hx2
          subst hx2
          exact hnew _ _ hdx2 hl
      · cases hx2)
    have hdl : d < a.tmps.size := by rw [hts]; simpa using hlt d (List.mem_of_getElem? hd2)
    have hput : ∀ v d', d' ≠ d → (a.put (some d) v).eval (.tmp d') = a.eval (.tmp d') := fun v d' hne => by
      simp only [Act.put, Act.eval, Array.getD_eq_getD_getElem?]
      rw [Array.getElem?_setIfInBounds_ne (fun e => hne e.symm)]
    have hput2 : ∀ v, (a.put (some d) v).eval (.tmp d) = v := fun v => by
      simp [Act.put, Act.eval, hdl]
    have fin : ∀ v w' H', Ext H H' w w' → (S d).sat H' v → ∃ H, Ext H0 H w0 w' ∧ (a.put (some d) v).defers = a0.defers ∧ (a.put (some d) v).tmps.size = a0.tmps.size ∧ (∀ d', (dsts ops).contains d' = false → (a.put (some d) v).eval (.tmp d') = a0.eval (.tmp d')) ∧
        ∀ (j : Nat) d', (dsts ops)[j]? = some d' → (listed.setIfInBounds i true).getD j false = true → (S d').sat H ((a.put (some d) v).eval (.tmp d')) := fun v w' H' hx' hsv => by
      refine ⟨H', hx.trans hx', by simpa [Act.put] using hdf, by simpa [Act.put] using hts, fun d' hd' => ?_, fun j d' hj hl => ?_⟩
      · rw [hput v d' (fun e => by subst e; simp only [List.contains_eq_mem, decide_eq_false_iff_not] at hd'; exact hd' (List.mem_of_getElem? hd2))]
        exact hold d' hd'
      · by_cases e : j = i
        · subst e
          have : d' = d := by rw [hd2] at hj; exact (Option.some.inj hj).symm
          subst this
          rw [hput2]; exact hsv
        · rw [hput v d' (fun e1 => by subst e1; exact e (huniq _ _ _ hj hd2))]
          rw [getD_set_ne false (fun e1 => e e1.symm)] at hl
          exact Dv.mono hx'.le (hnew j d' hj hl)
    unfold wpOp
    rw [ho]
    rcases hok with ⟨hw, hwp⟩ | ⟨hw, hsv⟩
    · simp only [hw, if_true]
      refine Or.inl (Oper.wp_mono (fun a' w' hh => ?_) (hwp d hd1))
      obtain ⟨v, H', rfl, hx', hsv⟩ := hh
      exact fin v w' H' hx' hsv
    · simp only [hw]
      rw [hd1]
      exact fin undef w H (Ext.refl hx.sat) (hsv H)
  · rintro listed a w hsz hr ⟨H, hx, hdf, hts, hold, hnew⟩
    refine hend a w H hx hdf hts hold fun d hd => ?_
    simp only [List.contains_eq_mem, decide_eq_true_eq] at hd
    obtain ⟨i, hi⟩ := List.getElem?_of_mem hd
    refine hnew i d hi (all_listed hb hsz hr i ?_)
    have := (List.getElem?_eq_some_iff.1 hi).1
    omega
  · refine ⟨H0, (Ext.refl hs).drew, rfl, rfl, fun _ _ => rfl, fun i d _ hl => ?_⟩
    rw [Array.getD_eq_getD_getElem?, Array.getElem?_replicate] at hl
    split at hl <;> simp at hl

def setAll (T : Array Value) : List Tmp → (Tmp → Value) → Array Value
  | [], _ => T
  | d :: ds, vs => setAll (T.setIfInBounds d (vs d)) ds vs
theorem setAll_get (vs : Tmp → Value) : ∀ (ds : List Tmp) (T : Array Value) (i : Nat), i < T.size → (setAll T ds vs)[i]? = if i ∈ ds then some (vs i) else T[i]?
  | [], T, i, _ => by simp [setAll]
  | d :: ds, T, i, hi => by
    rw [setAll, setAll_get vs ds _ i (by simpa using hi)]
    by_cases h : i ∈ ds
    · simp [h]
    · by_cases e : i = d
      · subst e; simp [h, hi]
      · rw [Array.getElem?_setIfInBounds_ne (fun e1 => e e1.symm)]; simp [h, e]
theorem setAll_size (vs : Tmp → Value) : ∀ (ds : List Tmp) (T : Array Value), (setAll T ds vs).size = T.size
  | [], T => rfl
  | d :: ds, T => by rw [setAll, setAll_size vs ds]; simp
theorem setAll_eq {a : Act} {ds : List Tmp} (hsz : a.tmps.size = a0.tmps.size) (h : ∀ d, ds.contains d = false → a.eval (.tmp d) = a0.eval (.tmp d)) : a.tmps = setAll a0.tmps ds (fun d => a.eval (.tmp d)) := by
  refine Array.ext_getElem? fun i => ?_
  by_cases hi : i < a0.tmps.size
  · rw [setAll_get _ _ _ _ hi]
    by_cases hm : i ∈ ds
    · rw [if_pos hm]
      have : i < a.tmps.size := by omega
      simp [Act.eval, this]
    · rw [if_neg hm]
      have := h i (by simpa using hm)
      simp only [Act.eval, Array.getD_eq_getD_getElem?] at this
      rw [Array.getElem?_eq_getElem (by omega), Array.getElem?_eq_getElem hi] at this ⊢
      simpa using this
  · rw [Array.getElem?_eq_none (by omega), Array.getElem?_eq_none (by rw [setAll_size]; omega)]

/-- what is left to show: the operations to come, and the end -/
def RegK (P : Program) (ops : Array Oper) (ls : List Tmp) (Q : Exit → Act → World → Prop) (H0 : PH) (w0 : World) (a0 : Act) : List Oper → List (Tmp × Dv) → Prop
  | [], T => ∀ (vs : Tmp → Value) (w : World) (H : PH), Ext H0 H w0 w → (∀ d, ls.contains d = true → (tbv T d).sat H (vs d)) → Q .normal ⟨setAll a0.tmps ls vs, a0.defers⟩ w
  | o :: rest, T => ∃ d ds, o.dst = some d ∧ OpW P ops Q H0 w0 a0 (tbv T) o ds ∧ RegK P ops ls Q H0 w0 a0 rest ((d, ds) :: T)

theorem regK_all {ls : List Tmp} (hnd : (dsts ops).Nodup) (hb : backB ops = true) : ∀ (suf pre : List Oper) (T : List (Tmp × Dv)), ops.toList = pre ++ suf → RegK P ops ls Q H0 w0 a0 suf T →
    ∃ T', (∀ d, d ∉ suf.filterMap Oper.dst → tbv T' d = tbv T d) ∧ (∀ o d, o ∈ suf → o.dst = some d → OpW P ops Q H0 w0 a0 (tbv T') o (tbv T' d)) ∧ RegK P ops ls Q H0 w0 a0 [] T'
  | [], pre, T, _, h => ⟨T, fun _ _ => rfl, fun o d ho => by simp at ho, h⟩
  | o :: suf, pre, T, he, ⟨d, ds, hd, ho, hr⟩ => by
    obtain ⟨T', h1, h2, h3⟩ := regK_all hnd hb suf (pre ++ [o]) ((d, ds) :: T) (by rw [he]; simp) hr
    have hnd' : (pre.filterMap Oper.dst ++ d :: suf.filterMap Oper.dst).Nodup := by
      have := hnd
      unfold dsts at this
      rw [he, List.filterMap_append, List.filterMap_cons_some hd] at this
      exact this
    obtain ⟨n1, n2, n3⟩ := List.nodup_append.1 hnd'
    obtain ⟨n4, n5⟩ := List.nodup_cons.1 n2
    have hd2 : tbv T' d = ds := by rw [h1 d n4, tbv_eq]
    have hdep : ∀ d', (depSlots ops o).contains d' = true → tbv T' d' = tbv T d' := fun d' hd' => by
      simp only [List.contains_eq_mem, decide_eq_true_eq, depSlots, List.mem_filterMap] at hd'
      obtain ⟨x, hx1, hx2⟩ := hd'
      have hm : d' ∈ pre.filterMap Oper.dst := by
        split at hx2
        · have hoi : ops[pre.length]? = some o := by rw [← Array.getElem?_toList, he]; simp
          have hb1 := List.all_eq_true.1 hb pre.length (List.mem_range.2 (Array.getElem?_eq_some_iff.1 hoi).1)
          rw [hoi] at hb1
          simp only [Option.map_some, Option.getD_some] at hb1
          rw [Array.all_eq_true_iff_forall_mem] at hb1
          have hb2 := hb1 x (by simpa using hx1)
          simp only [decide_eq_true_eq] at hb2
          have : ops[x.on]? = pre[x.on]? := by rw [← Array.getElem?_toList, he, List.getElem?_append_left hb2]
          rw [this] at hx2
          obtain ⟨ox, ho1, ho2⟩ := Option.bind_eq_some_iff.1 hx2
          exact List.mem_filterMap.2 ⟨ox, List.mem_of_getElem? ho1, ho2⟩
        · cases hx2
      have hn : d' ∉ suf.filterMap Oper.dst := fun hh => n3 d' hm d' (List.mem_cons_of_mem _ hh) rfl
      have hne : d' ≠ d := fun e => n3 d' hm d (List.mem_cons_self ..) e
      rw [h1 d' hn, tbv_ne _ _ hne]
    refine ⟨T', fun d' hd' => ?_, fun o' d' ho' hd' => ?_, h3⟩
    · rw [List.filterMap_cons_some hd, List.mem_cons, not_or] at hd'
      rw [h1 d' hd'.2, tbv_ne _ _ hd'.1]
    · rcases List.mem_cons.1 ho' with rfl | ho'
      · rw [hd] at hd'; cases hd'
        rw [hd2]
        exact fun a w H hx hold hF => ho a w H hx hold fun e he' => by rw [← hdep e he']; exact hF e he'
      · exact h2 o' d' ho' hd'

theorem region_seq {id : Nat} (ls : List Tmp) (hls : dsts ops = ls) (hm : P.follows .mixedOrders = true) (hb : backB ops = true) (hd : dstsB ops a0.tmps.size = true) (hs : Sat w0 H0) (h : RegK P ops ls Q H0 w0 a0 ops.toList []) : (Code.region id ops true).wp P Q a0 w0 := by
  subst hls
  have hd' := hd
  simp only [dstsB, Bool.and_eq_true, decide_eq_true_eq, List.all_eq_true] at hd'
  obtain ⟨T', -, h2, h3⟩ := regK_all hd'.1.2 hb ops.toList [] [] rfl h
  refine wp_region_w (tbv T') hm hb hd hs h2 fun a w H hx hdf hts hold hnew => ?_
  have := h3 (fun d => a.eval (.tmp d)) w H hx hnew
  rw [← setAll_eq hts hold, ← hdf] at this
  exact this

/-! ### one operation -/
/-- the operation comes up -/
def WantT (ops : Array Oper) (T : List (Tmp × Dv)) (o : Oper) : Prop :=
  o.guard = none ∨ ∃ j b d, o.guard = some (j, b) ∧ (ops[j]?).bind (·.dst) = some d ∧ (depSlots ops o).contains d = true ∧ tbv T d = .val (.bool b)
/-- it does not -/
def WantF (ops : Array Oper) (T : List (Tmp × Dv)) (o : Oper) : Prop :=
  ∃ j b d, o.guard = some (j, b) ∧ (ops[j]?).bind (·.dst) = some d ∧ (depSlots ops o).contains d = true ∧ tbv T d = .val (.bool !b)
theorem yielded_of {a : Act} {j d : Nat} {b : Bool} (hd : (ops[j]?).bind (·.dst) = some d) (ha : a.eval (.tmp d) = .bool b) : yielded ops a.tmps j = some b := by
  have : a.tmps[d]? = some (.bool b) := by
    simp only [Act.eval, Array.getD_eq_getD_getElem?] at ha
    cases h : a.tmps[d]? with
    | none => rw [h] at ha; simp [undef] at ha
    | some v => rw [h] at ha; simpa using ha
  simp [yielded, hd, this]
theorem WantT.want {T : List (Tmp × Dv)} {o : Oper} (h : WantT ops T o) {a : Act} {H : PH} (F : ∀ d, (depSlots ops o).contains d = true → (tbv T d).sat H (a.eval (.tmp d))) : Region.wanted o (yielded ops a.tmps) = true := by
  rcases h with h | ⟨j, b, d, h1, h2, h3, h4⟩
  · exact wanted_none h
  · have := F d h3
    rw [h4] at this
    simp [Region.wanted, h1, yielded_of h2 this]
theorem WantF.want {T : List (Tmp × Dv)} {o : Oper} (h : WantF ops T o) {a : Act} {H : PH} (F : ∀ d, (depSlots ops o).contains d = true → (tbv T d).sat H (a.eval (.tmp d))) : Region.wanted o (yielded ops a.tmps) = false := by
  obtain ⟨j, b, d, h1, h2, h3, h4⟩ := h
  have := F d h3
  rw [h4] at this
  simp [Region.wanted, h1, yielded_of h2 this]

/-- what an operation sees -/
structure Sees (ops : Array Oper) (H0 : PH) (w0 : World) (a0 : Act) (T : List (Tmp × Dv)) (o : Oper) (ρ : Operand → Value) (w : World) (H : PH) : Prop where
  ext : Ext H0 H w0 w
  const : ∀ v, ρ (.const v) = v
  func : ∀ f, ρ (.func f) = .func (.func f) #[] #[]
  old : ∀ d, (dsts ops).contains d = false → ρ (.tmp d) = a0.tmps.getD d undef
  dep : ∀ d, (depSlots ops o).contains d = true → (tbv T d).sat H (ρ (.tmp d))
theorem Sees.sat {T o ρ w H} (h : Sees ops H0 w0 a0 T o ρ w H) : Sat w H := h.ext.sat

variable {o : Oper} {rest : List Oper} {T : List (Tmp × Dv)} {ls : List Tmp}
theorem reg_skip {d : Tmp} (hd : o.dst = some d) (hw : WantF ops T o) (hr : RegK P ops ls Q H0 w0 a0 rest ((d, .val undef) :: T)) : RegK P ops ls Q H0 w0 a0 (o :: rest) T :=
  ⟨d, .val undef, hd, fun _ _ _ _ _ F => Or.inr ⟨hw.want F, fun _ => rfl⟩, hr⟩
theorem reg_val {d : Tmp} (v : Value) (hd : o.dst = some d) (hw : WantT ops T o) (h : ∀ ρ w H, Sees ops H0 w0 a0 T o ρ w H → (execOp ρ o).run P w = .ok (.value v) w) (hr : RegK P ops ls Q H0 w0 a0 rest ((d, .val v) :: T)) : RegK P ops ls Q H0 w0 a0 (o :: rest) T :=
  ⟨d, .val v, hd, fun a w H hx hold F => Or.inl ⟨hw.want F, fun d' hd' => by
    rw [hd] at hd'; cases hd'
    unfold Oper.wp
    rw [h a.eval w H ⟨hx, fun _ => rfl, fun _ => rfl, hold, F⟩, Oper.upon_value, hd]
    exact ⟨v, H, rfl, Ext.refl hx.sat, rfl⟩⟩, hr⟩
theorem reg_call {d : Tmp} (ds : Dv) (f : FuncId) {cl : Call} (ho : o.op = .call cl) (hc : cl.callee = .value (.func f)) {fn : Func} {c : Code} (hf : P.funcs[f]? = some fn) (hname : (fn.name == "runtime.NumGoroutine") = false) (hb : fn.body = some c) (hd : o.dst = some d) (hw : WantT ops T o)
    (h : ∀ ρ w H, Sees ops H0 w0 a0 T o ρ w H → Calls P f (cl.args.map ρ) w fun e w' => ∃ v H', e = .returned v ∧ Ext H H' w w' ∧ ds.sat H' v) (hr : RegK P ops ls Q H0 w0 a0 rest ((d, ds) :: T)) : RegK P ops ls Q H0 w0 a0 (o :: rest) T :=
  ⟨d, ds, hd, fun a w H hx hold F => Or.inl ⟨hw.want F, fun d' hd' => by
    rw [hd] at hd'; cases hd'
    refine op_call ho hc rfl hf hname hb (h a.eval w H ⟨hx, fun _ => rfl, fun _ => rfl, hold, F⟩) ?_
    rintro e w' ⟨v, H', rfl, h1, h2⟩
    exact ⟨v, rfl, by rw [hd]; exact ⟨v, H', rfl, h1, h2⟩⟩⟩, hr⟩
end
end Go.Proofs.Ytbpophdfnlagdaa.B
