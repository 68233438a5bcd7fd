/- Opening an argument: from how it reads as data to what my readings say. Opening an expression, a row of numbers. -/
import Derived.Test.YtbnahmeaeakhhaaBb
import Derived.Test.YtbnahmeaeakhhaaRows
import Derived.ProofKit
import Derived.OpenShut
import Derived.ChangeArms
namespace Go.Proofs.Ytbnahmeaeakhhaa.B
set_option linter.unusedVariables false
set_option linter.unusedSimpArgs false
open Go Go.RowKit

/-- all that the heap holds -/
def mem (W : World) : PH := fun b o => W.cell? ⟨b, o, none⟩
theorem sat_mem (W : World) : Sat W (mem W) := fun _ _ _ h => h

theorem choose_list {α : Type} {Q : Nat → α → Prop} : ∀ n, (∀ i, i < n → ∃ a, Q i a) → ∃ xs : List α, xs.length = n ∧ ∀ i (h : i < xs.length), Q i xs[i] := by
  intro n
  induction n with
  | zero => intro _; exact ⟨[], rfl, fun i h => absurd h (by simp)⟩
  | succ n ih =>
    intro h
    obtain ⟨xs, hl, hx⟩ := ih fun i hi => h i (by omega)
    obtain ⟨a, ha⟩ := h n (by omega)
    refine ⟨xs ++ [a], by simp [hl], fun i hi => ?_⟩
    by_cases e : i < xs.length
    · rw [List.getElem_append_left e]; exact hx i e
    · have : i = n := by simp at hi; omega
      subst this
      rw [List.getElem_append_right (by omega)]
      simpa [hl] using ha

section
variable {H : Type} {enc : TypeId × Value → H} {P : Program} {W : World} {sp : Nat → Bool} {held : Bool} {fuel : Nat} {t e : TypeId}

theorem bulk_one (d : DataW H) : 1 ≤ Rows.uptoBulk d := by
  cases d with
  | lit l => cases l <;> simp [Rows.uptoBulk]
  | nil => simp [Rows.uptoBulk]
  | ptr d => simp [Rows.uptoBulk]
  | slice elems spare => simp [Rows.uptoBulk]
  | agg parts => simp [Rows.uptoBulk]
  | iface t d => simp [Rows.uptoBulk]
  | map entries => simp [Rows.uptoBulk]
  | held h => simp [Rows.uptoBulk]
theorem bulk_length (l : List (DataW H)) : l.length ≤ Rows.uptoBulkAll l := by
  induction l with
  | nil => simp [Rows.uptoBulkAll]
  | cons x r ih => have := bulk_one x; simp only [Rows.uptoBulkAll, List.length_cons]; omega

/-- a slice whose elements are read by k -/
theorem open_sl {α : Type} (k : Kd α) (G : DataW H → Prop) (Q : α → DataW H → Prop) (ht : P.underlying t = some (.slice e)) (hk : P.cellsOf e = k.sz)
    (hE : ∀ m, m < fuel → ∀ cs x, DataW.trod enc P W 0 sp held m e cs = some x → G x.1 → ∃ a, k.rd (mem W) a cs ∧ Q a x.1) {cs : List Value} {x : DataW H × List MemPlace} (h : DataW.trod enc P W 0 sp held fuel t cs = some x) (hG : ∀ elems spare, x.1 = .slice elems spare → ∀ d ∈ elems, G d) (B : Nat) (hB : B ≤ 140737488355328)
    (hlen : ∀ A l c, cs = [.slice A l c] → l ≤ B) :
    ∃ A l c xs, cs = [.slice A l c] ∧ SlR k (mem W) A l c xs ∧ ((x.1 = .nil ∧ xs = []) ∨ ∃ elems spare, x.1 = .slice elems spare ∧ elems.length = xs.length ∧ ∀ i (h : i < xs.length) (h' : i < elems.length), Q xs[i] elems[i]) := by
  rcases DataW.trod_slice ht h with ⟨rfl, rfl⟩ | ⟨a, len, cap, elems, rest, n, rfl, rfl, rfl, -, hl, hc, hel, hg, -, -⟩
  · exact ⟨none, 0, 0, [], rfl, SlR.nil _ _, Or.inl ⟨rfl, rfl⟩⟩
  · have hlB := hlen _ _ _ rfl
    have hx : ∀ i, i < len → ∃ y, (∃ cells, W.cells? 0 (a.add (i * P.cellsOf e)) (P.cellsOf e) = some cells ∧ k.rd (mem W) y cells) ∧ ∃ q, elems[i]? = some q ∧ Q y q.1 := fun i hi => by
      have h1 := hg i hi
      have h2 : i < elems.length := by omega
      rw [List.getElem?_eq_getElem h2] at h1
      obtain ⟨cells, h3, h4⟩ := Option.bind_eq_some_iff.1 h1
      obtain ⟨y, hy, hq⟩ := hE n (by omega) cells _ h4 (hG _ _ rfl _ (List.mem_map.2 ⟨elems[i], List.getElem_mem h2, rfl⟩))
      exact ⟨y, ⟨cells, h3, hy⟩, elems[i], List.getElem?_eq_getElem h2, hq⟩
    obtain ⟨xs, hxl, hxs⟩ := choose_list len hx
    refine ⟨some a, len, cap, xs, rfl, ⟨hxl.symm, hl, hc, by omega, fun h => by simp at h, fun i hi => ?_⟩, Or.inr ⟨elems.map (·.1), rest.map (·.1), rfl, by simp [hel, hxl], fun i h h' => ?_⟩⟩
    · obtain ⟨⟨cells, h3, hy⟩, -⟩ := hxs i hi
      have hkl := k.len hy
      have hpos := k.pos
      unfold World.cells? at h3
      rw [if_pos (Nat.zero_le _)] at h3
      have hcell : ∀ j (u : Value), cells[j]? = some u → W.cell? ((a.add (i * P.cellsOf e)).add j) = some u := fun j u hj => by
        have hjl : j < P.cellsOf e := by rw [hk, ← hkl]; exact (List.getElem?_eq_some_iff.1 hj).1
        rw [mapM_some_get h3 j j (by simp [hjl]), hj]
      obtain ⟨u0, hu0⟩ : ∃ u0, cells[0]? = some u0 := ⟨cells[0]'(by omega), List.getElem?_eq_getElem (by omega)⟩
      have h00 := hxs 0 (by omega)
      obtain ⟨⟨cells0, h30, hy0⟩, -⟩ := h00
      unfold World.cells? at h30
      rw [if_pos (Nat.zero_le _)] at h30
      have hkl0 := k.len hy0
      have h0c := mapM_some_get h30 0 0 (by rw [List.getElem?_range (by rw [hk]; exact hpos)])
      rw [List.getElem?_eq_getElem (show 0 < cells0.length by omega)] at h0c
      obtain ⟨b, off, spot⟩ := a
      have hspot : spot = none := by simpa [Addr.add] using World.cell?_spot h0c
      subst hspot
      refine ⟨b, off, cells, rfl, hy, fun j u hj => ?_⟩
      have := hcell j u hj
      have hadd : ∀ (o n : Nat), (⟨b, o, none⟩ : Addr).add n = ⟨b, o + n, none⟩ := fun o n => by unfold Addr.add; split <;> simp_all
      rw [hadd, hadd, hk] at this
      exact this
    · obtain ⟨-, q, hq1, hq2⟩ := hxs i h
      have : elems[i]? = some q := hq1
      rw [List.getElem_map]
      have e2 : elems[i]'(by simpa using h') = q := (List.getElem?_eq_some_iff.1 this).2
      rw [e2]; exact hq2

/-- an integer -/
theorem trod_int {k : IntKind} (ht : P.underlying t = some (.int k)) {cs : List Value} {x : DataW H × List MemPlace} (h : DataW.trod enc P W 0 sp held fuel t cs = some x) : ∃ n : Int, cs = [.int k n] ∧ (Lit.int k n).wf = true ∧ x = (.lit (.int k n), []) := by
  cases fuel with
  | zero => simp [DataW.trod] at h
  | succ m =>
    unfold DataW.trod at h
    rw [ht] at h
    split at h <;> simp_all
theorem trod_bool (ht : P.underlying t = some .bool) {cs : List Value} {x : DataW H × List MemPlace} (h : DataW.trod enc P W 0 sp held fuel t cs = some x) : ∃ n : Bool, cs = [.bool n] ∧ x = (.lit (.bool n), []) := by
  cases fuel with
  | zero => simp [DataW.trod] at h
  | succ m =>
    unfold DataW.trod at h
    rw [ht] at h
    split at h <;> simp_all
end
end Go.Proofs.Ytbnahmeaeakhhaa.B

namespace Go.Proofs.Ytbnahmeaeakhhaa.B
set_option linter.unusedVariables false
set_option linter.unusedSimpArgs false
open Go Go.RowKit

theorem cellsRe : (Try.prog).cellsOf 25 = 6 := by kernel_rfl
theorem cellsSpan : (Try.prog).cellsOf 121 = 2 := by kernel_rfl
theorem cellsInt : (Try.prog).cellsOf 3 = 1 := by kernel_rfl
theorem cellsBool : (Try.prog).cellsOf 4 = 1 := by kernel_rfl
theorem cellsSpans : (Try.prog).cellsOf 22 = 1 := by kernel_rfl
theorem cellsRes : (Try.prog).cellsOf 23 = 1 := by kernel_rfl

section
variable {H : Type} {enc : TypeId × Value → H} {W : World} {sp : Nat → Bool} {held : Bool} {fuel : Nat}

set_option maxRecDepth 100000 in
theorem open_span {cs : List Value} {x : DataW H × List MemPlace} (h : DataW.trod enc Try.prog W 0 sp held fuel 121 cs = some x) : ∃ s, kSpan.rd (mem W) s cs := by
  obtain ⟨xs, n, rfl, rfl, hl, hxl, hf⟩ := DataW.trod_struct Try.underlying121 h
  rw [cellsSpan] at hl
  have h0 : DataW.trod enc Try.prog W 0 sp held n 3 ((cs.drop 0).take ((Try.prog).cellsOf 3)) = xs[0]? := hf 0 _ rfl
  have h1 : DataW.trod enc Try.prog W 0 sp held n 3 ((cs.drop 1).take ((Try.prog).cellsOf 3)) = xs[1]? := hf 1 _ rfl
  match cs, hl with
  | [a, b], _ =>
    have hx2 : xs.length = 2 := hxl
    rw [cellsInt, List.getElem?_eq_getElem (by omega)] at h0 h1
    obtain ⟨l, e0, -⟩ := trod_int Try.underlying3 h0
    obtain ⟨r, e1, -⟩ := trod_int Try.underlying3 h1
    simp at e0 e1
    subst e0; subst e1
    exact ⟨⟨l, r⟩, rfl⟩

theorem bulk_get {l : List (DataW H)} (i : Nat) (h : i < l.length) : Rows.uptoBulk l[i] ≤ Rows.uptoBulkAll l := by
  induction l generalizing i with
  | nil => simp at h
  | cons x r ih =>
    cases i with
    | zero => simp [Rows.uptoBulkAll]
    | succ i => have := ih i (by simpa using h); simp only [Rows.uptoBulkAll, List.getElem_cons_succ]; omega

theorem pre_bulk {xs : List Re} {elems : List (DataW H)} (hl : elems.length = xs.length) (h : ∀ i (h : i < xs.length) (h' : i < elems.length), (pre xs[i]).length ≤ Rows.uptoBulk elems[i]) : ((xs.map pre).flatten).length ≤ Rows.uptoBulkAll elems := by
  induction xs generalizing elems with
  | nil => simp
  | cons x xs ih =>
    match elems, hl with
    | e :: es, hl =>
      have h0 := h 0 (by simp) (by simp)
      have h1 := ih (elems := es) (by simpa using hl) fun i hi hi' => by have := h (i + 1) (by simpa using hi) (by simpa using hi'); simpa using this
      simp only [List.map_cons, List.flatten_cons, List.length_append, Rows.uptoBulkAll]
      simp only [List.getElem_cons_zero] at h0
      omega

set_option maxRecDepth 100000 in
/-- an expression -/
theorem open_re : ∀ (fuel : Nat) (cs : List Value) (x : DataW H × List MemPlace), DataW.trod enc Try.prog W 0 sp held fuel 25 cs = some x → Rows.uptoBulk x.1 ≤ 1048576 → ∃ r, RdRe (mem W) r cs ∧ (pre r).length ≤ Rows.uptoBulk x.1 := by
  intro fuel
  induction fuel using Nat.strongRecOn with
  | ind fuel ih =>
  intro cs x h hb
  obtain ⟨xs, n, rfl, rfl, hl, hxl, hf⟩ := DataW.trod_struct Try.underlying25 h
  rw [cellsRe] at hl
  have h0 : DataW.trod enc Try.prog W 0 sp held n 3 ((cs.drop 0).take ((Try.prog).cellsOf 3)) = xs[0]? := hf 0 _ rfl
  have h1 : DataW.trod enc Try.prog W 0 sp held n 22 ((cs.drop 1).take ((Try.prog).cellsOf 22)) = xs[1]? := hf 1 _ rfl
  have h2 : DataW.trod enc Try.prog W 0 sp held n 23 ((cs.drop 2).take ((Try.prog).cellsOf 23)) = xs[2]? := hf 2 _ rfl
  have h3 : DataW.trod enc Try.prog W 0 sp held n 3 ((cs.drop 3).take ((Try.prog).cellsOf 3)) = xs[3]? := hf 3 _ rfl
  have h4 : DataW.trod enc Try.prog W 0 sp held n 3 ((cs.drop 4).take ((Try.prog).cellsOf 3)) = xs[4]? := hf 4 _ rfl
  have h5 : DataW.trod enc Try.prog W 0 sp held n 4 ((cs.drop 5).take ((Try.prog).cellsOf 4)) = xs[5]? := hf 5 _ rfl
  have hxl6 : xs.length = 6 := hxl
  simp only [Rows.uptoBulk] at hb ⊢
  match xs, hxl6 with
  | [x0, x1, x2, x3, x4, x5], _ =>
  match cs, hl with
  | [c0, c1, c2, c3, c4, c5], _ =>
    simp only [cellsInt, cellsBool, cellsSpans, cellsRes, List.drop_succ_cons, List.drop_zero, List.take_succ_cons, List.take_zero, List.getElem?_cons_zero, List.getElem?_cons_succ] at h0 h1 h2 h3 h4 h5
    simp only [List.map_cons, List.map_nil, Rows.uptoBulkAll] at hb ⊢
    obtain ⟨kind, e0, -⟩ := trod_int Try.underlying3 h0
    obtain ⟨mn, e3, -⟩ := trod_int Try.underlying3 h3
    obtain ⟨mx, e4, -⟩ := trod_int Try.underlying3 h4
    obtain ⟨neg, e5, -⟩ := trod_bool Try.underlying4 h5
    have hlen1 : ∀ A l c, [c1] = [Value.slice A l c] → l ≤ 1048576 := fun A l c e => by
      rcases DataW.trod_slice Try.underlying22 h1 with ⟨hc, -⟩ | ⟨a, len, cap, elems, rest, m, -, hc, rfl, -, -, -, hel, -⟩
      · rw [e] at hc; simp at hc; omega
      · rw [e] at hc; simp at hc
        have := bulk_length (elems.map (·.1))
        simp only [Rows.uptoBulk] at hb
        simp at this
        omega
    have hlen2 : ∀ A l c, [c2] = [Value.slice A l c] → l ≤ 1048576 := fun A l c e => by
      rcases DataW.trod_slice Try.underlying23 h2 with ⟨hc, -⟩ | ⟨a, len, cap, elems, rest, m, -, hc, rfl, -, -, -, hel, -⟩
      · rw [e] at hc; simp at hc; omega
      · rw [e] at hc; simp at hc
        have := bulk_length (elems.map (·.1))
        simp only [Rows.uptoBulk] at hb
        simp at this
        omega
    obtain ⟨A1, l1, k1, set, es, hs, -⟩ := open_sl kSpan (fun _ => True) (fun _ _ => True) Try.underlying22 cellsSpan (fun m _ cs x hx _ => by obtain ⟨s, hs⟩ := open_span hx; exact ⟨s, hs, trivial⟩) h1 (fun _ _ _ _ _ => trivial) 1048576 (by omega) hlen1
    obtain ⟨A2, l2, k2, args, ea, ha, hq⟩ := open_sl kRe (fun d => Rows.uptoBulk d ≤ 1048576) (fun r d => (pre r).length ≤ Rows.uptoBulk d) Try.underlying23 cellsRe (fun m hm cs x hx hbx => ih m (by omega) cs x hx hbx) h2
      (fun elems spare e d hd => by
        obtain ⟨i, hi, rfl⟩ := List.getElem_of_mem hd
        have := bulk_get i hi
        rw [e] at hb
        simp only [Rows.uptoBulk] at hb
        omega) 1048576 (by omega) hlen2
    simp only [List.cons.injEq, and_true] at e0 e3 e4 e5 es ea
    subst e0; subst e3; subst e4; subst e5; subst es; subst ea
    refine ⟨.mk kind set args mn mx neg, RdRe.shut hs ha, ?_⟩
    rw [pre_eq, List.length_cons]
    have o0 := bulk_one x0.1
    have hp : ((args.map pre).flatten).length ≤ Rows.uptoBulk x2.1 := by
      rcases hq with ⟨-, rfl⟩ | ⟨elems, spare, e, hl, hq⟩
      · simp
      · rw [e]
        have := pre_bulk hl hq
        simp only [Rows.uptoBulk]
        omega
    omega
end
end Go.Proofs.Ytbnahmeaeakhhaa.B
