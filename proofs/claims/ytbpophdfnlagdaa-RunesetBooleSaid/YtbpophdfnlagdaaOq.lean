/- (the part of Opr that needs no expressions) Opening an argument: from how it reads as data to what my readings say. Opening an expression, a row of numbers. -/
import Derived.Test.YtbpophdfnlagdaaBb
import Derived.Test.YtbpophdfnlagdaaRows
import Derived.ProofKit
import Derived.OpenShut
import Derived.ChangeArms
namespace Go.Proofs.Ytbpophdfnlagdaa.B
set_option linter.unusedVariables false
set_option linter.unusedSimpArgs false
open Go Go.RowKit

/-- all that the heap holds -/
def mem (W : World) : PH := fun b o => W.cell? ⟨b, o, none⟩
theorem sat_mem (W : World) : Sat W (mem W) := fun _ _ _ h => h

theorem choose_list {α : Type} {Q : Nat → α → Prop} : ∀ n, (∀ i, i < n → ∃ a, Q i a) → ∃ xs : List α, xs.length = n ∧ ∀ i (h : i < xs.length), Q i xs[i] := by
  intro n
  induction n with
  | zero => intro _; exact ⟨[], rfl, fun i h => absurd h (by simp)⟩
  | succ n ih =>
    intro h
    obtain ⟨xs, hl, hx⟩ := ih fun i hi => h i (by omega)
    obtain ⟨a, ha⟩ := h n (by omega)
    refine ⟨xs ++ [a], by simp [hl], fun i hi => ?_⟩
    by_cases e : i < xs.length
    · rw [List.getElem_append_left e]; exact hx i e
    · have : i = n := by simp at hi; omega
      subst this
      rw [List.getElem_append_right (by omega)]
      simpa [hl] using ha

section
variable {H : Type} {enc : TypeId × Value → H} {P : Program} {W : World} {sp : Nat → Bool} {held : Bool} {fuel : Nat} {t e : TypeId}

theorem bulk_one (d : DataW H) : 1 ≤ Rows.uptoBulk d := by
  cases d with
  | lit l => cases l <;> simp [Rows.uptoBulk]
  | nil => simp [Rows.uptoBulk]
  | ptr d => simp [Rows.uptoBulk]
  | slice elems spare => simp [Rows.uptoBulk]
  | agg parts => simp [Rows.uptoBulk]
  | iface t d => simp [Rows.uptoBulk]
  | map entries => simp [Rows.uptoBulk]
  | held h => simp [Rows.uptoBulk]
theorem bulk_length (l : List (DataW H)) : l.length ≤ Rows.uptoBulkAll l := by
  induction l with
  | nil => simp [Rows.uptoBulkAll]
  | cons x r ih => have := bulk_one x; simp only [Rows.uptoBulkAll, List.length_cons]; omega

/-- a slice whose elements are read by k -/
theorem open_sl {α : Type} (k : Kd α) (G : DataW H → Prop) (Q : α → DataW H → Prop) (ht : P.underlying t = some (.slice e)) (hk : P.cellsOf e = k.sz)
    (hE : ∀ m, m < fuel → ∀ cs x, DataW.trod enc P W 0 sp held m e cs = some x → G x.1 → ∃ a, k.rd (mem W) a cs ∧ Q a x.1) {cs : List Value} {x : DataW H × List MemPlace} (h : DataW.trod enc P W 0 sp held fuel t cs = some x) (hG : ∀ elems spare, x.1 = .slice elems spare → ∀ d ∈ elems, G d) (B : Nat) (hB : B ≤ 140737488355328)
    (hlen : ∀ A l c, cs = [.slice A l c] → l ≤ B) :
    ∃ A l c xs, cs = [.slice A l c] ∧ SlR k (mem W) A l c xs ∧ ((x.1 = .nil ∧ xs = []) ∨ ∃ elems spare, x.1 = .slice elems spare ∧ elems.length = xs.length ∧ ∀ i (h : i < xs.length) (h' : i < elems.length), Q xs[i] elems[i]) := by
  rcases DataW.trod_slice ht h with ⟨rfl, rfl⟩ | ⟨a, len, cap, elems, rest, n, rfl, rfl, rfl, -, hl, hc, hel, hg, -, -⟩
  · exact ⟨none, 0, 0, [], rfl, SlR.nil _ _, Or.inl ⟨rfl, rfl⟩⟩
  · have hlB := hlen _ _ _ rfl
    have hx : ∀ i, i < len → ∃ y, (∃ cells, W.cells? 0 (a.add (i * P.cellsOf e)) (P.cellsOf e) = some cells ∧ k.rd (mem W) y cells) ∧ ∃ q, elems[i]? = some q ∧ Q y q.1 := fun i hi => by
      have h1 := hg i hi
      have h2 : i < elems.length := by omega
      rw [List.getElem?_eq_getElem h2] at h1
      obtain ⟨cells, h3, h4⟩ := Option.bind_eq_some_iff.1 h1
      obtain ⟨y, hy, hq⟩ := hE n (by omega) cells _ h4 (hG _ _ rfl _ (List.mem_map.2 ⟨elems[i], List.getElem_mem h2, rfl⟩))
      exact ⟨y, ⟨cells, h3, hy⟩, elems[i], List.getElem?_eq_getElem h2, hq⟩
    obtain ⟨xs, hxl, hxs⟩ := choose_list len hx
    refine ⟨some a, len, cap, xs, rfl, ⟨hxl.symm, hl, hc, by omega, fun h => by simp at h, fun i hi => ?_⟩, Or.inr ⟨elems.map (·.1), rest.map (·.1), rfl, by simp [hel, hxl], fun i h h' => ?_⟩⟩
    · obtain ⟨⟨cells, h3, hy⟩, -⟩ := hxs i hi
      have hkl := k.len hy
      have hpos := k.pos
      unfold World.cells? at h3
      rw [if_pos (Nat.zero_le _)] at h3
      have hcell : ∀ j (u : Value), cells[j]? = some u → W.cell? ((a.add (i * P.cellsOf e)).add j) = some u := fun j u hj => by
        have hjl : j < P.cellsOf e := by rw [hk, ← hkl]; exact (List.getElem?_eq_some_iff.1 hj).1
        rw [mapM_some_get h3 j j (by simp [hjl]), hj]
      obtain ⟨u0, hu0⟩ : ∃ u0, cells[0]? = some u0 := ⟨cells[0]'(by omega), List.getElem?_eq_getElem (by omega)⟩
      have h00 := hxs 0 (by omega)
      obtain ⟨⟨cells0, h30, hy0⟩, -⟩ := h00
      unfold World.cells? at h30
      rw [if_pos (Nat.zero_le _)] at h30
      have hkl0 := k.len hy0
      have h0c := mapM_some_get h30 0 0 (by rw [List.getElem?_range (by rw [hk]; exact hpos)])
      rw [List.getElem?_eq_getElem (show 0 < cells0.length by omega)] at h0c
      obtain ⟨b, off, spot⟩ := a
      have hspot : spot = none := by simpa [Addr.add] using World.cell?_spot h0c
      subst hspot
      refine ⟨b, off, cells, rfl, hy, fun j u hj => ?_⟩
      have := hcell j u hj
      have hadd : ∀ (o n : Nat), (⟨b, o, none⟩ : Addr).add n = ⟨b, o + n, none⟩ := fun o n => by unfold Addr.add; split <;> simp_all
      rw [hadd, hadd, hk] at this
      exact this
    · obtain ⟨-, q, hq1, hq2⟩ := hxs i h
      have : elems[i]? = some q := hq1
      rw [List.getElem_map]
      have e2 : elems[i]'(by simpa using h') = q := (List.getElem?_eq_some_iff.1 this).2
      rw [e2]; exact hq2

/-- an integer -/
theorem trod_int {k : IntKind} (ht : P.underlying t = some (.int k)) {cs : List Value} {x : DataW H × List MemPlace} (h : DataW.trod enc P W 0 sp held fuel t cs = some x) : ∃ n : Int, cs = [.int k n] ∧ (Lit.int k n).wf = true ∧ x = (.lit (.int k n), []) := by
  cases fuel with
  | zero => simp [DataW.trod] at h
  | succ m =>
    unfold DataW.trod at h
    rw [ht] at h
    split at h <;> simp_all
theorem trod_bool (ht : P.underlying t = some .bool) {cs : List Value} {x : DataW H × List MemPlace} (h : DataW.trod enc P W 0 sp held fuel t cs = some x) : ∃ n : Bool, cs = [.bool n] ∧ x = (.lit (.bool n), []) := by
  cases fuel with
  | zero => simp [DataW.trod] at h
  | succ m =>
    unfold DataW.trod at h
    rw [ht] at h
    split at h <;> simp_all
end
theorem cellsInt : (Try.prog).cellsOf 3 = 1 := by kernel_rfl
end Go.Proofs.Ytbpophdfnlagdaa.B
