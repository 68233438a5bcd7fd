/- A region that draws its order, shown operation by operation in the order of the text: operations may write; what holds of memory is said by an invariant that knows which of the marked operations have come up. No program is in sight here. -/
import Derived.Test.YtbpophdfnlagdaaRr
namespace Go.Proofs.Ytbpophdfnlagdaa.B
set_option linter.unusedVariables false
set_option linter.unusedSimpArgs false
open Go Go.RowKit

/-- what the marked operations have given, those that have come up -/
abbrev Mk := Nat → Option Value
def upd (g : Mk) (n : Nat) (v : Value) : Mk := fun j => if j = n then some v else g j
theorem upd_eq (g : Mk) (n : Nat) (v : Value) : upd g n v n = some v := if_pos rfl
theorem upd_ne (g : Mk) {n j : Nat} (v : Value) (h : j ≠ n) : upd g n v j = g j := if_neg h
def depIdx (o : Oper) : List Nat := o.after.toList.filterMap fun e => if Region.binds .any e then some e.on else none
def waitsI (ops : Array Oper) (j i : Nat) : Bool := ((ops[j]?).map fun o => (depIdx o).contains i).getD false
def dstAt (ops : Array Oper) (i : Nat) : Option Tmp := (ops[i]?).bind (·.dst)
theorem fm_inj {α β : Type} {f : α → Option β} : ∀ {l : List α}, (l.filterMap f).Nodup → ∀ {i j : Nat} {x y : α} {d : β}, l[i]? = some x → l[j]? = some y → f x = some d → f y = some d → i = j
  | [], _, i, j, x, y, d, h, _, _, _ => by simp at h
  | z :: l, hn, i, j, x, y, d, hi, hj, hx, hy => by
    have out : ∀ {k : Nat} {u : α}, f z = some d → l[k]? = some u → f u = some d → False := fun hz hk hu => by
      rw [List.filterMap_cons_some hz] at hn
      exact (List.nodup_cons.1 hn).1 (List.mem_filterMap.2 ⟨_, List.mem_of_getElem? hk, hu⟩)
    have hn' : (l.filterMap f).Nodup := by
      cases hz : f z with
      | none => rw [List.filterMap_cons_none hz] at hn; exact hn
      | some e => rw [List.filterMap_cons_some hz] at hn; exact (List.nodup_cons.1 hn).2
    cases i with
    | zero =>
      simp at hi; subst hi
      cases j with
      | zero => rfl
      | succ j => exact (out hx (by simpa using hj) hy).elim
    | succ i =>
      cases j with
      | zero => simp at hj; subst hj; exact (out hy (by simpa using hi) hx).elim
      | succ j => exact congrArg (· + 1) (fm_inj hn' (by simpa using hi) (by simpa using hj) hx hy)

/-- the slots of the first n0 operations -/
def dstsP (ops : Array Oper) (n0 : Nat) : List Tmp := (ops.toList.take n0).filterMap Oper.dst
/-- they are apart; n0 operations come in any order; behind them each waits for all ahead of it -/
def dstsI (ops : Array Oper) (n0 n : Nat) : Bool := (dstsP ops n0).Nodup && (dstsP ops n0).all (fun d => decide (d < n)) && decide (n0 ≤ ops.size) && (List.range ops.size).all fun j => decide (j < n0) || (List.range j).all fun i => waitsI ops j i

section
variable {P : Program} {ops : Array Oper} {Q : Exit → Act → World → Prop} {I : Mk → PH → World → Prop} {M : List Nat} {a0 : Act} {n0 : Nat}

def OpI (P : Program) (ops : Array Oper) (n0 : Nat) (Q : Exit → Act → World → Prop) (I : Mk → PH → World → Prop) (M : List Nat) (a0 : Act) (S : Tmp → Dv) (n : Nat) (o : Oper) (ds : Dv) : Prop :=
  ∀ (a : Act) (w : World) (H : PH) (g : Mk), I g H w → (∀ d, (dstsP ops n0).contains d = false → a.eval (.tmp d) = a0.eval (.tmp d)) → (∀ d, (depSlots ops o).contains d = true → (S d).sat H (a.eval (.tmp d))) →
    g n = none → (∀ j, (depIdx o).contains j = true → M.contains j = true → ∃ v, g j = some v ∧ ∀ d, dstAt ops j = some d → a.eval (.tmp d) = v) → (∀ j, waitsI ops j n = true → g j = none) →
    (Region.wanted o (yielded ops a.tmps) = true ∧ o.wp P a w (fun a' w' => ∃ v H', a' = a.put o.dst v ∧ H.le H' ∧ I (if M.contains n then upd g n v else g) H' w' ∧ ds.sat H' v) Q) ∨
    (M.contains n = false ∧ Region.wanted o (yielded ops a.tmps) = false ∧ ∀ H, ds.sat H undef)

theorem wp_region_I {id : Nat} {w0 : World} {H0 : PH} (S : Tmp → Dv) (hm : P.follows .mixedOrders = true)
    (hb : backB ops = true) (hd : dstsI ops n0 a0.tmps.size = true) (h0 : I (fun _ => none) H0 w0.drew) (hops : ∀ n o, n < n0 → ops[n]? = some o → ∃ ds, OpI P ops n0 Q I M a0 S n o ds ∧ ∀ d, o.dst = some d → ds = S d)
    (hend : ∀ (a : Act) (w : World) (H : PH) (g : Mk), I g H w → a.defers = a0.defers → a.tmps.size = a0.tmps.size → (∀ d, (dstsP ops n0).contains d = false → a.eval (.tmp d) = a0.eval (.tmp d)) → (∀ d, (dstsP ops n0).contains d = true → (S d).sat H (a.eval (.tmp d))) →
      (∀ j, j < n0 → M.contains j = true → ∃ v, g j = some v ∧ ∀ d, dstAt ops j = some d → a.eval (.tmp d) = v) → wpList P ops Q (ops.toList.drop n0) a w) :
    (Code.region id ops true).wp P Q a0 w0 := by
  simp only [dstsI, Bool.and_eq_true, decide_eq_true_eq, List.all_eq_true] at hd
  obtain ⟨⟨⟨hnd, hlt⟩, hn0⟩, htail⟩ := hd
  have hdir : ∀ j, j < ops.size → n0 ≤ j → ∀ i, i < j → waitsI ops j i = true := fun j hj hn i hi => by
    have h1 := htail j (List.mem_range.2 hj)
    simp only [Bool.or_eq_true, decide_eq_true_eq, List.all_eq_true] at h1
    rcases h1 with h1 | h1
    · omega
    · exact h1 i (List.mem_range.2 hi)
  have htk : ∀ {i : Nat} {o : Oper}, ops[i]? = some o → i < n0 → (ops.toList.take n0)[i]? = some o := fun hi hlt => by
    rw [List.getElem?_take_of_lt hlt, Array.getElem?_toList]; exact hi
  have hmem : ∀ {i : Nat} {o : Oper} {d : Tmp}, i < n0 → ops[i]? = some o → o.dst = some d → d ∈ dstsP ops n0 := fun hlt hi hd => List.mem_filterMap.2 ⟨_, List.mem_of_getElem? (htk hi hlt), hd⟩
  have huniq : ∀ {i j : Nat} {o o' : Oper} {d : Tmp}, i < n0 → j < n0 → ops[i]? = some o → ops[j]? = some o' → o.dst = some d → o'.dst = some d → i = j := fun hi0 hj0 hi hj h1 h2 =>
    fm_inj (f := Oper.dst) hnd (htk hi hi0) (htk hj hj0) h1 h2
  refine wp_region_any hm (wpAny_inv (fun listed a w => ((∃ H g, I g H w ∧ a.defers = a0.defers ∧ a.tmps.size = a0.tmps.size ∧ (∀ d, (dstsP ops n0).contains d = false → a.eval (.tmp d) = a0.eval (.tmp d)) ∧
    (∀ (i : Nat) o d, i < n0 → ops[i]? = some o → o.dst = some d → listed.getD i false = true → (S d).sat H (a.eval (.tmp d))) ∧
    (∀ j, listed.getD j false = false ∨ M.contains j = false → g j = none) ∧
    (∀ j, listed.getD j false = true → M.contains j = true → ∃ v, g j = some v ∧ ∀ d, dstAt ops j = some d → a.eval (.tmp d) = v) ∧
    (∀ j, listed.getD j false = true → ∀ i, waitsI ops j i = true → listed.getD i false = true)) ∧ ∀ j, n0 ≤ j → listed.getD j false = false) ∨
    (∃ k, n0 < k ∧ k ≤ ops.size ∧ (∀ j, j < k → listed.getD j false = true) ∧ (∀ j, k ≤ j → listed.getD j false = false) ∧ wpList P ops Q (ops.toList.drop k) a w)) ?_ ?_ _ _ _ _ (by simp) (by simp) ?_)
  · rintro i listed a w hsz hi hInv
    obtain ⟨hun, o, ho, hall⟩ := mem_ready.1 hi
    have hil : i < ops.size := (Array.getElem?_eq_some_iff.1 ho).1
    have hun' : listed.getD i false = false := by
      rw [Array.getD_eq_getD_getElem?, Array.getElem?_eq_getElem (by omega)] at hun ⊢; simpa using hun
    have hdi : ∀ j, (depIdx o).contains j = true → listed.getD j false = true := fun j hj => by
      simp only [List.contains_eq_mem, decide_eq_true_eq, depIdx, List.mem_filterMap] at hj
      obtain ⟨x, hx1, hx2⟩ := hj
      split at hx2
      · rename_i hbd
        have := hall x (by simpa using hx1) hbd
        cases hx2; exact this
      · cases hx2
    have hset : ∀ j, (listed.setIfInBounds i true).getD j false = true → j = i ∨ (j ≠ i ∧ listed.getD j false = true) := fun j hj => by
      by_cases e : j = i
      · exact Or.inl e
      · rw [getD_set_ne false (fun e1 => e e1.symm)] at hj; exact Or.inr ⟨e, hj⟩
    have hset2 : ∀ j, (listed.setIfInBounds i true).getD j false = false → j ≠ i ∧ listed.getD j false = false := fun j hj => by
      have e : j ≠ i := fun e => by
        subst e
        rw [Array.getD_eq_getD_getElem?, Array.getElem?_setIfInBounds_self_of_lt (by omega)] at hj; simp at hj
      rw [getD_set_ne false (fun e1 => e e1.symm)] at hj; exact ⟨e, hj⟩
    have hset3 : ∀ j, listed.getD j false = true → (listed.setIfInBounds i true).getD j false = true := fun j hj => by
      by_cases e : j = i
      · subst e; rw [hun'] at hj; cases hj
      · rw [getD_set_ne false (fun e1 => e e1.symm)]; exact hj
    have hset4 : ∀ j, j ≠ i → listed.getD j false = false → (listed.setIfInBounds i true).getD j false = false := fun j e hj => by
      rw [getD_set_ne false (fun e1 => e e1.symm)]; exact hj
    have hseti : (listed.setIfInBounds i true).getD i false = true := by
      rw [Array.getD_eq_getD_getElem?, Array.getElem?_setIfInBounds_self_of_lt (by omega)]; rfl
    have hpre : n0 ≤ i → ∀ j, j < i → listed.getD j false = true := fun hn j hj => hdi j (by
      have := hdir i hil hn j hj
      unfold waitsI at this
      rw [ho] at this; exact this)
    have hdrop : ops.toList.drop i = o :: ops.toList.drop (i + 1) := by
      have hlen : i < ops.toList.length := by simpa using hil
      rw [List.drop_eq_getElem_cons hlen]
      congr 1
      rw [Array.getElem?_eq_getElem hil] at ho
      simpa using Option.some.inj ho
    have htailstep : n0 ≤ i → (∀ j, i < j → listed.getD j false = false) → wpList P ops Q (ops.toList.drop i) a w → wpOp P ops Q i (fun a' w' => ∃ k, n0 < k ∧ k ≤ ops.size ∧ (∀ j, j < k → (listed.setIfInBounds i true).getD j false = true) ∧ (∀ j, k ≤ j → (listed.setIfInBounds i true).getD j false = false) ∧ wpList P ops Q (ops.toList.drop k) a' w') a w := fun hn hno hw => by
      rw [hdrop] at hw
      refine wpOp_mono (K := wpList P ops Q (ops.toList.drop (i + 1))) (fun a' w' h => ⟨i + 1, by omega, by omega, fun j hj => ?_, fun j hj => ?_, h⟩) ?_
      · by_cases e : j = i
        · subst e; exact hseti
        · exact hset3 j (hpre hn j (by omega))
      · exact hset4 j (by omega) (hno j (by omega))
      · unfold wpOp
        rw [ho]
        exact hw
    rcases hInv with ⟨⟨H, g, hI, hdf, hts, hold, hnew, hg0, hg1, hcl⟩, hno⟩ | ⟨k, hk1, hk2, hk3, hk4, hw⟩
    rotate_left
    · have hik : i = k := by
        rcases Nat.lt_trichotomy i k with h | h | h
        · rw [hk3 i h] at hun'; cases hun'
        · exact h
        · have := hpre (by omega) k h
          rw [hk4 k (Nat.le_refl _)] at this; cases this
      subst hik
      exact wpOp_mono (fun a' w' h => Or.inr h) (htailstep (by omega) (fun j hj => hk4 j (by omega)) hw)
    by_cases hi0 : i < n0
    rotate_left
    · have hin : i = n0 := by
        rcases Nat.lt_or_ge n0 i with h | h
        · have := hpre (by omega) n0 h
          rw [hno n0 (Nat.le_refl _)] at this; cases this
        · omega
      subst hin
      refine wpOp_mono (fun a' w' h => Or.inr h) (htailstep (Nat.le_refl _) (fun j hj => hno j (by omega)) ?_)
      refine hend a w H g hI hdf hts hold (fun d hd => ?_) (fun j hj hM => hg1 j (hpre (Nat.le_refl _) j hj) hM)
      simp only [List.contains_eq_mem, decide_eq_true_eq, dstsP, List.mem_filterMap] at hd
      obtain ⟨o', ho', hd⟩ := hd
      obtain ⟨i', hi'⟩ := List.getElem?_of_mem ho'
      have hi'l : i' < i := by
        have := (List.getElem?_eq_some_iff.1 hi').1; rw [List.length_take] at this; omega
      rw [List.getElem?_take_of_lt hi'l, Array.getElem?_toList] at hi'
      exact hnew i' o' d hi'l hi' hd (hpre (Nat.le_refl _) i' hi'l)
    obtain ⟨ds, hop, hds⟩ := hops i o hi0 ho
    have hok := hop a w H g hI hold (fun e he => by
      simp only [List.contains_eq_mem, decide_eq_true_eq, depSlots, List.mem_filterMap] at he
      obtain ⟨x, hx1, hx2⟩ := he
      split at hx2
      · rename_i hbd
        have hl := hall x (by simpa using hx1) hbd
        obtain ⟨ox, hox1, hox2⟩ := Option.bind_eq_some_iff.1 hx2
        have hxi : x.on < i := by
          have hb1 := List.all_eq_true.1 hb i (List.mem_range.2 hil)
          rw [ho] at hb1
          simp only [Option.map_some, Option.getD_some] at hb1
          rw [Array.all_eq_true_iff_forall_mem] at hb1
          have hb2 := hb1 x (by simpa using hx1)
          simpa using hb2
        exact hnew _ ox e (by omega) hox1 hox2 hl
      · cases hx2) (hg0 i (Or.inl hun')) (fun j hj hM => hg1 j (hdi j hj) hM) (fun j hj => by
        cases hlj : listed.getD j false with
        | false => exact hg0 j (Or.inl hlj)
        | true => have := hcl j hlj i hj; rw [hun'] at this; cases this)
    have hput : ∀ v d', (∀ d, o.dst = some d → d' ≠ d) → (a.put o.dst v).eval (.tmp d') = a.eval (.tmp d') := fun v d' hne => by
      cases hd : o.dst with
      | none => rfl
      | some d =>
        simp only [Act.put, Act.eval, Array.getD_eq_getD_getElem?]
        rw [Array.getElem?_setIfInBounds_ne (fun e => hne d hd e.symm)]
    have hput2 : ∀ v d, o.dst = some d → (a.put o.dst v).eval (.tmp d) = v := fun v d hd => by
      have hdl : d < a.tmps.size := by rw [hts]; simpa using hlt d (hmem hi0 ho hd)
      rw [hd]; simp [Act.put, Act.eval, hdl]
    have hcl' : ∀ j, (listed.setIfInBounds i true).getD j false = true → ∀ k, waitsI ops j k = true → (listed.setIfInBounds i true).getD k false = true := fun j hj k hk => by
      rcases hset j hj with rfl | ⟨-, hl⟩
      · refine hset3 k (hdi k ?_)
        unfold waitsI at hk
        rw [ho] at hk; exact hk
      · exact hset3 k (hcl j hl k hk)
    have fin : ∀ v w' H', H.le H' → I (if M.contains i then upd g i v else g) H' w' → (∀ d, o.dst = some d → (S d).sat H' v) → (∃ H g, I g H w' ∧ (a.put o.dst v).defers = a0.defers ∧ (a.put o.dst v).tmps.size = a0.tmps.size ∧ (∀ d', (dstsP ops n0).contains d' = false → (a.put o.dst v).eval (.tmp d') = a0.eval (.tmp d')) ∧
        (∀ (j : Nat) o' d', j < n0 → ops[j]? = some o' → o'.dst = some d' → (listed.setIfInBounds i true).getD j false = true → (S d').sat H ((a.put o.dst v).eval (.tmp d'))) ∧
        (∀ j, (listed.setIfInBounds i true).getD j false = false ∨ M.contains j = false → g j = none) ∧
        (∀ j, (listed.setIfInBounds i true).getD j false = true → M.contains j = true → ∃ u, g j = some u ∧ ∀ d, dstAt ops j = some d → (a.put o.dst v).eval (.tmp d) = u) ∧
        (∀ j, (listed.setIfInBounds i true).getD j false = true → ∀ k, waitsI ops j k = true → (listed.setIfInBounds i true).getD k false = true)) ∧ ∀ j, n0 ≤ j → (listed.setIfInBounds i true).getD j false = false := fun v w' H' hle hI' hsv => by
      refine ⟨⟨H', _, hI', ?_, ?_, fun d' hd' => ?_, fun j o' d' hj0 hj hd' hl => ?_, fun j hj => ?_, fun j hj hM => ?_, hcl'⟩, fun j hj => hset4 j (by omega) (hno j hj)⟩
      · cases hd : o.dst <;> simpa [Act.put] using hdf
      · cases hd : o.dst <;> simpa [Act.put] using hts
      · rw [hput v d' (fun d hd e => by subst e; simp only [List.contains_eq_mem, decide_eq_false_iff_not] at hd'; exact hd' (hmem hi0 ho hd))]
        exact hold d' hd'
      · rcases hset j hl with rfl | ⟨hne, hl'⟩
        · rw [ho] at hj; cases hj
          rw [hput2 v d' hd']; exact hsv d' hd'
        · rw [hput v d' (fun d hd e => by subst e; exact hne (huniq hj0 hi0 hj ho hd' hd))]
          exact Dv.mono hle (hnew j o' d' hj0 hj hd' hl')
      · by_cases hMi : M.contains i = true
        · rw [if_pos hMi]
          have hji : j ≠ i := fun e => by
            subst e
            rcases hj with hj | hj
            · exact (hset2 j hj).1 rfl
            · rw [hMi] at hj; cases hj
          rw [upd_ne _ _ hji]
          rcases hj with hj | hj
          · exact hg0 j (Or.inl (hset2 j hj).2)
          · exact hg0 j (Or.inr hj)
        · rw [if_neg hMi]
          rcases hj with hj | hj
          · exact hg0 j (Or.inl (hset2 j hj).2)
          · exact hg0 j (Or.inr hj)
      · rcases hset j hj with rfl | ⟨hne, hl'⟩
        · rw [if_pos hM, upd_eq]
          refine ⟨v, rfl, fun d hd => ?_⟩
          unfold dstAt at hd
          rw [ho] at hd
          exact hput2 v d hd
        · obtain ⟨u, hu1, hu2⟩ := hg1 j hl' hM
          have hgj : (if M.contains i = true then upd g i v else g) j = some u := by
            split
            · rw [upd_ne _ _ hne]; exact hu1
            · exact hu1
          refine ⟨u, hgj, fun d hd => ?_⟩
          obtain ⟨oj, hoj1, hoj2⟩ := Option.bind_eq_some_iff.1 hd
          have hj0 : j < n0 := by
            rcases Nat.lt_or_ge j n0 with h | h
            · exact h
            · rw [hno j h] at hl'; cases hl'
          rw [hput v d (fun d2 hd2 e => by subst e; exact hne (huniq hj0 hi0 hoj1 ho hoj2 hd2))]
          exact hu2 d hd
    unfold wpOp
    rw [ho]
    rcases hok with ⟨hw, hwp⟩ | ⟨hM, hw, hsv⟩
    · simp only [hw, if_true]
      refine Or.inl (Oper.wp_mono (fun a' w' hh => ?_) hwp)
      obtain ⟨v, H', rfl, hle, hI', hsv⟩ := hh
      exact Or.inl (fin v w' H' hle hI' (fun d hd => by rw [← hds d hd]; exact hsv))
    · simp only [hw]
      exact Or.inl (fin undef w H (PH.le_refl H) (by rw [hM]; exact hI) (fun d hd => by rw [← hds d hd]; exact hsv H))
  · rintro listed a w hsz hr hInv
    have hl := all_listed hb hsz hr
    rcases hInv with ⟨⟨H, g, hI, hdf, hts, hold, hnew, hg0, hg1, hcl⟩, hno⟩ | ⟨k, hk1, hk2, hk3, hk4, hw⟩
    · have hn : n0 = ops.size := by
        rcases Nat.lt_or_ge n0 ops.size with h | h
        · have := hl n0 h; rw [hno n0 (Nat.le_refl _)] at this; cases this
        · omega
      have := hend a w H g hI hdf hts hold (fun d hd => ?_) (fun j hj hM => hg1 j (hl j (by omega)) hM)
      · rw [List.drop_eq_nil_of_le (by simp; omega)] at this
        exact this
      · simp only [List.contains_eq_mem, decide_eq_true_eq, dstsP, List.mem_filterMap] at hd
        obtain ⟨o, ho, hd⟩ := hd
        obtain ⟨i, hi⟩ := List.getElem?_of_mem ho
        have hil : i < n0 := by
          have := (List.getElem?_eq_some_iff.1 hi).1; rw [List.length_take] at this; omega
        rw [List.getElem?_take_of_lt hil, Array.getElem?_toList] at hi
        exact hnew i o d hil hi hd (hl i (Array.getElem?_eq_some_iff.1 hi).1)
    · have hk : k = ops.size := by
        rcases Nat.lt_or_ge k ops.size with h | h
        · have := hl k h; rw [hk4 k (Nat.le_refl _)] at this; cases this
        · omega
      rw [List.drop_eq_nil_of_le (by simp; omega)] at hw
      exact hw
  · have hz : ∀ j, (Array.replicate ops.size false).getD j false = false := fun j => by
      rw [Array.getD_eq_getD_getElem?, Array.getElem?_replicate]; split <;> rfl
    exact Or.inl ⟨⟨H0, fun _ => none, h0, rfl, rfl, fun _ _ => rfl, fun i o d _ _ _ hl => (by rw [hz] at hl; cases hl), fun _ _ => rfl, fun j hl => (by rw [hz] at hl; cases hl), fun j hl => (by rw [hz] at hl; cases hl)⟩, fun j _ => hz j⟩

/-- what is left to show: the operations to come, and the end -/
def RegI (P : Program) (ops : Array Oper) (n0 : Nat) (ls : List Tmp) (Q : Exit → Act → World → Prop) (I : Mk → PH → World → Prop) (M : List Nat) (a0 : Act) : Nat → List Oper → List (Tmp × Dv) → Prop
  | _, [], T => ∀ (vs : Tmp → Value) (w : World) (H : PH) (g : Mk), I g H w → (∀ d, ls.contains d = true → (tbv T d).sat H (vs d)) → (∀ j, j < n0 → M.contains j = true → ∃ v, g j = some v ∧ ∀ d, dstAt ops j = some d → vs d = v) → wpList P ops Q (ops.toList.drop n0) ⟨setAll a0.tmps ls vs, a0.defers⟩ w
  | n, o :: rest, T => ∃ ds, OpI P ops n0 Q I M a0 (tbv T) n o ds ∧ RegI P ops n0 ls Q I M a0 (n + 1) rest (match o.dst with | some d => (d, ds) :: T | none => T)

theorem regI_all {ls : List Tmp} (hnd : (dstsP ops n0).Nodup) (hb : backB ops = true) (hn0 : n0 ≤ ops.size) : ∀ (suf pre : List Oper) (T : List (Tmp × Dv)), ops.toList.take n0 = pre ++ suf → RegI P ops n0 ls Q I M a0 pre.length suf T →
    ∃ T', (∀ d, d ∉ suf.filterMap Oper.dst → tbv T' d = tbv T d) ∧ (∀ k o, suf[k]? = some o → ∃ ds, OpI P ops n0 Q I M a0 (tbv T') (pre.length + k) o ds ∧ ∀ d, o.dst = some d → ds = tbv T' d) ∧ RegI P ops n0 ls Q I M a0 ops.size [] T'
  | [], pre, T, he, h => ⟨T, fun _ _ => rfl, fun k o ho => by simp at ho, h⟩
  | o :: suf, pre, T, he, ⟨ds, ho, hr⟩ => by
    have hpl : (pre ++ [o]).length = pre.length + 1 := by simp
    obtain ⟨T', h1, h2, h3⟩ := regI_all hnd hb hn0 suf (pre ++ [o]) _ (by rw [he]; simp) (by rw [hpl]; exact hr)
    have hnd' : (pre.filterMap Oper.dst ++ (o :: suf).filterMap Oper.dst).Nodup := by
      have := hnd
      unfold dstsP at this
      rw [he, List.filterMap_append] at this
      exact this
    obtain ⟨n1, n2, n3⟩ := List.nodup_append.1 hnd'
    have hdd : ∀ d, o.dst = some d → tbv T' d = ds := fun d hd => by
      have hn : d ∉ suf.filterMap Oper.dst := by
        rw [List.filterMap_cons_some hd] at n2; exact (List.nodup_cons.1 n2).1
      rw [h1 d hn]
      simp only [hd]
      exact tbv_eq _ _ _
    have hkeep : ∀ d', d' ∉ (o :: suf).filterMap Oper.dst → tbv T' d' = tbv T d' := fun d' hd' => by
      cases hd : o.dst with
      | none =>
        rw [List.filterMap_cons_none hd] at hd'
        rw [h1 d' hd']
        simp only [hd]
      | some d =>
        rw [List.filterMap_cons_some hd, List.mem_cons, not_or] at hd'
        rw [h1 d' hd'.2]
        simp only [hd]
        exact tbv_ne _ _ hd'.1
    have hlenp : pre.length < n0 := by
      have := congrArg List.length he
      simp at this; omega
    have hat : ∀ i, i < n0 → ops[i]? = (pre ++ o :: suf)[i]? := fun i hi => by
      rw [← he, List.getElem?_take_of_lt hi, Array.getElem?_toList]
    have hdep : ∀ d', (depSlots ops o).contains d' = true → tbv T' d' = tbv T d' := fun d' hd' => by
      simp only [List.contains_eq_mem, decide_eq_true_eq, depSlots, List.mem_filterMap] at hd'
      obtain ⟨x, hx1, hx2⟩ := hd'
      have hm : d' ∈ pre.filterMap Oper.dst := by
        split at hx2
        · have hoi : ops[pre.length]? = some o := by rw [hat _ hlenp]; simp
          have hb1 := List.all_eq_true.1 hb pre.length (List.mem_range.2 (Array.getElem?_eq_some_iff.1 hoi).1)
          rw [hoi] at hb1
          simp only [Option.map_some, Option.getD_some] at hb1
          rw [Array.all_eq_true_iff_forall_mem] at hb1
          have hb2 := hb1 x (by simpa using hx1)
          simp only [decide_eq_true_eq] at hb2
          have : ops[x.on]? = pre[x.on]? := by rw [hat _ (by omega), List.getElem?_append_left hb2]
          rw [this] at hx2
          obtain ⟨ox, ho1, ho2⟩ := Option.bind_eq_some_iff.1 hx2
          exact List.mem_filterMap.2 ⟨ox, List.mem_of_getElem? ho1, ho2⟩
        · cases hx2
      exact hkeep d' (fun hh => n3 d' hm d' hh rfl)
    refine ⟨T', hkeep, fun k o' ho' => ?_, h3⟩
    cases k with
    | zero =>
      simp at ho'; subst ho'
      refine ⟨ds, fun a w H g hI hold hF => ho a w H g hI hold fun e he' => by rw [← hdep e he']; exact hF e he', fun d hd => (hdd d hd).symm⟩
    | succ k =>
      obtain ⟨ds', h4, h5⟩ := h2 k o' (by simpa using ho')
      rw [hpl, show pre.length + 1 + k = pre.length + (k + 1) by omega] at h4
      exact ⟨ds', h4, h5⟩

theorem region_I {id : Nat} {w0 : World} {H0 : PH} (I : Mk → PH → World → Prop) (M : List Nat) (n0 : Nat) (ls : List Tmp) (hls : dstsP ops n0 = ls) (hm : P.follows .mixedOrders = true) (hb : backB ops = true) (hd : dstsI ops n0 a0.tmps.size = true) (h0 : I (fun _ => none) H0 w0.drew)
    (h : RegI P ops n0 ls Q I M a0 0 (ops.toList.take n0) []) : (Code.region id ops true).wp P Q a0 w0 := by
  subst hls
  have hd' := hd
  simp only [dstsI, Bool.and_eq_true, decide_eq_true_eq, List.all_eq_true] at hd'
  obtain ⟨T', -, h2, h3⟩ := regI_all hd'.1.1.1 hb hd'.1.2 (ops.toList.take n0) [] [] rfl h
  refine wp_region_I (I := I) (M := M) (tbv T') hm hb hd h0 (fun n o hn ho => ?_) fun a w H g hI hdf hts hold hnew hmk => ?_
  · have := h2 n o (by rw [List.getElem?_take_of_lt hn, Array.getElem?_toList]; exact ho)
    simpa using this
  · have := h3 (fun d => a.eval (.tmp d)) w H g hI hnew hmk
    rw [← setAll_eq hts hold, ← hdf] at this
    exact this

/-! ### one operation -/
/-- what an operation sees -/
structure SeesI (ops : Array Oper) (n0 : Nat) (I : Mk → PH → World → Prop) (M : List Nat) (a0 : Act) (T : List (Tmp × Dv)) (n : Nat) (o : Oper) (ρ : Operand → Value) (g : Mk) (w : World) (H : PH) : Prop where
  inv : I g H w
  const : ∀ v, ρ (.const v) = v
  func : ∀ f, ρ (.func f) = .func (.func f) #[] #[]
  old : ∀ d, (dstsP ops n0).contains d = false → ρ (.tmp d) = a0.tmps.getD d undef
  dep : ∀ d, (depSlots ops o).contains d = true → (tbv T d).sat H (ρ (.tmp d))
  here : g n = none
  done : ∀ j, (depIdx o).contains j = true → M.contains j = true → ∃ v, g j = some v ∧ ∀ d, dstAt ops j = some d → ρ (.tmp d) = v
  undone : ∀ j, waitsI ops j n = true → g j = none

variable {o : Oper} {rest : List Oper} {T : List (Tmp × Dv)} {ls : List Tmp} {n : Nat}
theorem regI_skip {d : Tmp} (hM : M.contains n = false) (hd : o.dst = some d) (hw : WantF ops T o) (hr : RegI P ops n0 ls Q I M a0 (n + 1) rest ((d, .val undef) :: T)) : RegI P ops n0 ls Q I M a0 n (o :: rest) T :=
  ⟨.val undef, fun _ _ _ _ _ _ F _ _ _ => Or.inr ⟨hM, hw.want F, fun _ => rfl⟩, by simp only [hd]; exact hr⟩
/-- it gives a value and leaves memory as it is -/
theorem regI_val {d : Tmp} (v : Value) (hM : M.contains n = false) (hd : o.dst = some d) (hw : WantT ops T o) (h : ∀ ρ g w H, SeesI ops n0 I M a0 T n o ρ g w H → (execOp ρ o).run P w = .ok (.value v) w) (hr : RegI P ops n0 ls Q I M a0 (n + 1) rest ((d, .val v) :: T)) : RegI P ops n0 ls Q I M a0 n (o :: rest) T :=
  ⟨.val v, fun a w H g hI hold F h1 h2 h3 => Or.inl ⟨hw.want F, by
    unfold Oper.wp
    rw [h a.eval g w H ⟨hI, fun _ => rfl, fun _ => rfl, hold, F, h1, h2, h3⟩, Oper.upon_value, hd]
    exact ⟨v, H, rfl, PH.le_refl H, by rw [hM]; exact hI, rfl⟩⟩, by simp only [hd]; exact hr⟩
/-- the same, the value said by what it is -/
theorem regI_pure {d : Tmp} (ds : Dv) (hM : M.contains n = false) (hd : o.dst = some d) (hw : WantT ops T o) (h : ∀ ρ g w H, SeesI ops n0 I M a0 T n o ρ g w H → ∃ v, (execOp ρ o).run P w = .ok (.value v) w ∧ ds.sat H v) (hr : RegI P ops n0 ls Q I M a0 (n + 1) rest ((d, ds) :: T)) : RegI P ops n0 ls Q I M a0 n (o :: rest) T :=
  ⟨ds, fun a w H g hI hold F h1 h2 h3 => Or.inl ⟨hw.want F, by
    obtain ⟨v, e, hv⟩ := h a.eval g w H ⟨hI, fun _ => rfl, fun _ => rfl, hold, F, h1, h2, h3⟩
    unfold Oper.wp
    rw [e, Oper.upon_value, hd]
    exact ⟨v, H, rfl, PH.le_refl H, by rw [hM]; exact hI, hv⟩⟩, by simp only [hd]; exact hr⟩
/-- it is shown by its own law; it is not marked -/
theorem regI_any {d : Tmp} (ds : Dv) (hM : M.contains n = false) (hd : o.dst = some d) (hw : WantT ops T o)
    (h : ∀ (a : Act) g w H, SeesI ops n0 I M a0 T n o a.eval g w H → o.wp P a w (fun a' w' => ∃ v H', a' = a.put (some d) v ∧ H.le H' ∧ I g H' w' ∧ ds.sat H' v) Q) (hr : RegI P ops n0 ls Q I M a0 (n + 1) rest ((d, ds) :: T)) : RegI P ops n0 ls Q I M a0 n (o :: rest) T :=
  ⟨ds, fun a w H g hI hold F h1 h2 h3 => Or.inl ⟨hw.want F, Oper.wp_mono (fun a' w' ⟨v, H', e, h4, h5, h6⟩ => ⟨v, H', by rw [hd]; exact e, h4, by rw [hM]; exact h5, h6⟩) (h a g w H ⟨hI, fun _ => rfl, fun _ => rfl, hold, F, h1, h2, h3⟩)⟩, by simp only [hd]; exact hr⟩
/-- it is marked -/
theorem regI_mark {d : Tmp} (ds : Dv) (hM : M.contains n = true) (hd : o.dst = some d) (hw : WantT ops T o)
    (h : ∀ (a : Act) g w H, SeesI ops n0 I M a0 T n o a.eval g w H → o.wp P a w (fun a' w' => ∃ v H', a' = a.put (some d) v ∧ H.le H' ∧ I (upd g n v) H' w' ∧ ds.sat H' v) Q) (hr : RegI P ops n0 ls Q I M a0 (n + 1) rest ((d, ds) :: T)) : RegI P ops n0 ls Q I M a0 n (o :: rest) T :=
  ⟨ds, fun a w H g hI hold F h1 h2 h3 => Or.inl ⟨hw.want F, Oper.wp_mono (fun a' w' ⟨v, H', e, h4, h5, h6⟩ => ⟨v, H', by rw [hd]; exact e, h4, by rw [hM]; exact h5, h6⟩) (h a g w H ⟨hI, fun _ => rfl, fun _ => rfl, hold, F, h1, h2, h3⟩)⟩, by simp only [hd]; exact hr⟩
/-- it is marked, and runs as said -/
theorem regI_run {d : Tmp} (ds : Dv) (hM : M.contains n = true) (hd : o.dst = some d) (hw : WantT ops T o)
    (h : ∀ ρ g w H, SeesI ops n0 I M a0 T n o ρ g w H → ∃ v w' H', (execOp ρ o).run P w = .ok (.value v) w' ∧ H.le H' ∧ I (upd g n v) H' w' ∧ ds.sat H' v) (hr : RegI P ops n0 ls Q I M a0 (n + 1) rest ((d, ds) :: T)) : RegI P ops n0 ls Q I M a0 n (o :: rest) T :=
  ⟨ds, fun a w H g hI hold F h1 h2 h3 => Or.inl ⟨hw.want F, by
    obtain ⟨v, w', H', e, h4, h5, h6⟩ := h a.eval g w H ⟨hI, fun _ => rfl, fun _ => rfl, hold, F, h1, h2, h3⟩
    unfold Oper.wp
    rw [e, Oper.upon_value]
    exact ⟨v, H', rfl, h4, by rw [hM]; exact h5, h6⟩⟩, by simp only [hd]; exact hr⟩
/-- it runs as said; it is not marked -/
theorem regI_runU {d : Tmp} (ds : Dv) (hM : M.contains n = false) (hd : o.dst = some d) (hw : WantT ops T o)
    (h : ∀ ρ g w H, SeesI ops n0 I M a0 T n o ρ g w H → ∃ v w' H', (execOp ρ o).run P w = .ok (.value v) w' ∧ H.le H' ∧ I g H' w' ∧ ds.sat H' v) (hr : RegI P ops n0 ls Q I M a0 (n + 1) rest ((d, ds) :: T)) : RegI P ops n0 ls Q I M a0 n (o :: rest) T :=
  ⟨ds, fun a w H g hI hold F h1 h2 h3 => Or.inl ⟨hw.want F, by
    obtain ⟨v, w', H', e, h4, h5, h6⟩ := h a.eval g w H ⟨hI, fun _ => rfl, fun _ => rfl, hold, F, h1, h2, h3⟩
    unfold Oper.wp
    rw [e, Oper.upon_value]
    exact ⟨v, H', rfl, h4, by rw [hM]; exact h5, h6⟩⟩, by simp only [hd]; exact hr⟩
/-- a store -/
theorem regI_store (hM : M.contains n = true) (hd : o.dst = none) (hw : WantT ops T o)
    (h : ∀ ρ g w H, SeesI ops n0 I M a0 T n o ρ g w H → ∃ w' H', (execOp ρ o).run P w = .ok .skip w' ∧ H.le H' ∧ I (upd g n undef) H' w') (hr : RegI P ops n0 ls Q I M a0 (n + 1) rest T) : RegI P ops n0 ls Q I M a0 n (o :: rest) T :=
  ⟨.any (fun _ _ => True) (fun _ _ _ _ h => h), fun a w H g hI hold F h1 h2 h3 => Or.inl ⟨hw.want F, by
    obtain ⟨w', H', e, h4, h5⟩ := h a.eval g w H ⟨hI, fun _ => rfl, fun _ => rfl, hold, F, h1, h2, h3⟩
    unfold Oper.wp
    rw [e, Oper.upon_skip, hd]
    exact ⟨undef, H', rfl, h4, by rw [hM]; exact h5, trivial⟩⟩, by simp only [hd]; exact hr⟩
/-- a call that leaves what was there -/
theorem regI_call {d : Tmp} (ds : Dv) (f : FuncId) {cl : Call} (ho : o.op = .call cl) (hc : cl.callee = .value (.func f)) {fn : Func} {c : Code} (hf : P.funcs[f]? = some fn) (hname : (fn.name == "runtime.NumGoroutine") = false) (hb : fn.body = some c) (hM : M.contains n = false) (hd : o.dst = some d) (hw : WantT ops T o)
    (h : ∀ ρ g w H, SeesI ops n0 I M a0 T n o ρ g w H → Calls P f (cl.args.map ρ) w fun e w' => ∃ v H', e = .returned v ∧ H.le H' ∧ I g H' w' ∧ ds.sat H' v) (hr : RegI P ops n0 ls Q I M a0 (n + 1) rest ((d, ds) :: T)) : RegI P ops n0 ls Q I M a0 n (o :: rest) T :=
  regI_any ds hM hd hw (fun a g w H hS => by
    refine op_call ho hc rfl hf hname hb (h a.eval g w H hS) ?_
    rintro e w' ⟨v, H', rfl, h1, h2, h3⟩
    exact ⟨v, rfl, by rw [hd]; exact ⟨v, H', rfl, h1, h2, h3⟩⟩) hr
/-- a call that is marked -/
theorem regI_callM {d : Tmp} (ds : Dv) (f : FuncId) {cl : Call} (ho : o.op = .call cl) (hc : cl.callee = .value (.func f)) {fn : Func} {c : Code} (hf : P.funcs[f]? = some fn) (hname : (fn.name == "runtime.NumGoroutine") = false) (hb : fn.body = some c) (hM : M.contains n = true) (hd : o.dst = some d) (hw : WantT ops T o)
    (h : ∀ ρ g w H, SeesI ops n0 I M a0 T n o ρ g w H → Calls P f (cl.args.map ρ) w fun e w' => ∃ v H', e = .returned v ∧ H.le H' ∧ I (upd g n v) H' w' ∧ ds.sat H' v) (hr : RegI P ops n0 ls Q I M a0 (n + 1) rest ((d, ds) :: T)) : RegI P ops n0 ls Q I M a0 n (o :: rest) T :=
  regI_mark ds hM hd hw (fun a g w H hS => by
    refine op_call ho hc rfl hf hname hb (h a.eval g w H hS) ?_
    rintro e w' ⟨v, H', rfl, h1, h2, h3⟩
    exact ⟨v, rfl, by rw [hd]; exact ⟨v, H', rfl, h1, h2, h3⟩⟩) hr
end
end Go.Proofs.Ytbpophdfnlagdaa.B
