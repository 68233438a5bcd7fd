/- Opening an argument whose weight is bounded (the form '..Said'): rows of numbers, of bytes, of rows. -/
import Derived.Test.YtbpophdfnlagdaaOq
import Derived.SizedLaws
namespace Go.Proofs.Ytbpophdfnlagdaa.B
set_option linter.unusedVariables false
set_option linter.unusedSimpArgs false
open Go Go.RowKit

section
variable {H : Type} {P : Program}
/-- all that a reading holds is of a weight that memory bears -/
def Szd (P : Program) (t : TypeId) (d : DataW H) : Prop := ∀ n ∈ d.weights P t, n ≤ reachBytes
theorem Szd.arg {ts : List TypeId} {ds : List (DataW H)} (h : (DataW.weightsEach P ts ds).all (· ≤ reachBytes) = true) {j : Nat} {t : TypeId} {d : DataW H} (ht : ts[j]? = some t) (hd : ds[j]? = some d) : Szd P t d := fun n hn => by
  simpa using List.all_eq_true.1 h _ (DataW.weights_mem_each ht hd n hn)
theorem Szd.len {t e : TypeId} {elems spare : List (DataW H)} (hu : P.underlying t = some (.slice e)) (h : Szd P t (.slice elems spare)) : elems.length * P.bytesOf e ≤ reachBytes := by
  have := h ((elems.length + spare.length) * P.bytesOf e) (by simp [DataW.weights, hu])
  exact Nat.le_trans (Nat.mul_le_mul_right _ (by omega)) this
theorem weights_mem_all {e : TypeId} {l : List (DataW H)} {d : DataW H} (hd : d ∈ l) : ∀ n ∈ d.weights P e, n ∈ DataW.weightsAll P e l := by
  induction l with
  | nil => simp at hd
  | cons x r ih =>
    intro n hn
    simp only [DataW.weightsAll, List.mem_append]
    rcases List.mem_cons.1 hd with rfl | hd
    · exact Or.inl hn
    · exact Or.inr (ih hd n hn)
theorem Szd.elem {t e : TypeId} {elems spare : List (DataW H)} (hu : P.underlying t = some (.slice e)) (h : Szd P t (.slice elems spare)) : ∀ d ∈ elems, Szd P e d := fun d hd n hn =>
  h n (by simp only [DataW.weights, hu, List.mem_cons, List.mem_append]; exact Or.inr (Or.inl (weights_mem_all hd n hn)))
theorem Szd.field {t : TypeId} {fs : Array Field} {parts : List (DataW H)} (hu : P.underlying t = some (.struct fs)) (h : Szd P t (.agg parts)) {i : Nat} {f : Field} (hf : fs[i]? = some f) {d : DataW H} (hd : parts[i]? = some d) : Szd P f.type d := fun n hn =>
  h n (by
    simp only [DataW.weights, hu]
    exact DataW.weights_mem_each (j := i) (t := f.type) (d := d) (by simp [hf]) hd n hn)
end

section
variable {H : Type} {enc : TypeId × Value → H} {P : Program} {W : World} {sp : Nat → Bool} {held : Bool} {fuel : Nat} {t e : TypeId}
theorem open_sz {α : Type} (k : Kd α) (Q : α → Prop) (b : Nat) (ht : P.underlying t = some (.slice e)) (hk : P.cellsOf e = k.sz) (hb : P.bytesOf e = b) (hp : 0 < b)
    (hE : ∀ m, m < fuel → ∀ cs x, DataW.trod enc P W 0 sp held m e cs = some x → Szd P e x.1 → ∃ a, k.rd (mem W) a cs ∧ Q a) {cs : List Value} {x : DataW H × List MemPlace} (h : DataW.trod enc P W 0 sp held fuel t cs = some x) (hs : Szd P t x.1) :
    ∃ A c xs, cs = [.slice A xs.length c] ∧ SlR k (mem W) A xs.length c xs ∧ (∀ a ∈ xs, Q a) ∧ xs.length * b ≤ 140737488351232 := by
  have hlen : ∀ A l c, cs = [.slice A l c] → l * b ≤ 140737488351232 := fun A l c e1 => by
    rcases DataW.trod_slice ht h with ⟨hc, -⟩ | ⟨a, len, cap, elems, rest, m, -, hc, rfl, -, -, -, hel, -⟩
    · rw [e1] at hc; simp at hc; rw [hc.2.1]; omega
    · rw [e1] at hc; simp at hc
      have := hs.len ht
      rw [hb, List.length_map, hel, ← hc.2.1] at this
      exact this
  obtain ⟨A, l, c, xs, rfl, hsl, hq⟩ := open_sl k (Szd P e) (fun a _ => Q a) ht hk (fun m hm cs x hx hg => hE m hm cs x hx hg) h (fun elems spare e1 => Szd.elem ht (by rw [← e1]; exact hs)) 140737488351232 (by omega)
    (fun A l c e1 => Nat.le_trans (Nat.le_mul_of_pos_right l hp) (hlen A l c e1))
  obtain rfl := hsl.1
  refine ⟨A, c, xs, rfl, hsl, fun a ha => ?_, hlen _ _ _ rfl⟩
  rcases hq with ⟨-, rfl⟩ | ⟨elems, spare, -, hl, hq⟩
  · simp at ha
  · obtain ⟨i, hi, rfl⟩ := List.getElem_of_mem ha
    exact hq i hi (by omega)
theorem open_nums {k : IntKind} (b : Nat) (ht : P.underlying t = some (.slice e)) (hu : P.underlying e = some (.int k)) (hk : P.cellsOf e = 1) (hb : P.bytesOf e = b) (hp : 0 < b)
    {cs : List Value} {x : DataW H × List MemPlace} (h : DataW.trod enc P W 0 sp held fuel t cs = some x) (hs : Szd P t x.1) :
    ∃ A c xs, cs = [.slice A xs.length c] ∧ SlR (kI k) (mem W) A xs.length c xs ∧ (∀ a ∈ xs, (Lit.int k a).wf = true) ∧ xs.length * b ≤ 140737488351232 :=
  open_sz (kI k) (fun a => (Lit.int k a).wf = true) b ht hk hb hp (fun m _ cs x hx _ => by obtain ⟨n, e1, e2, -⟩ := trod_int hu hx; exact ⟨n, e1, e2⟩) h hs
end
theorem bytesInt : (Try.prog).bytesOf 3 = 8 := by kernel_rfl
theorem wf64 {n : Int} (h : (Lit.int .i64 n).wf = true) : -9223372036854775808 ≤ n ∧ n ≤ 9223372036854775807 := by
  simp only [Lit.wf, Bool.and_eq_true, decide_eq_true_eq] at h
  have e1 : IntKind.min .i64 = -9223372036854775808 := by decide
  have e2 : IntKind.max .i64 = 9223372036854775807 := by decide
  rw [e1, e2] at h
  omega
end Go.Proofs.Ytbpophdfnlagdaa.B
