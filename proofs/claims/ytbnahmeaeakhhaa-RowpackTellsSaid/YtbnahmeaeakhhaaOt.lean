/- Opening a table, an automaton, a row of bytes (the form '..Said'). -/
import Derived.Test.YtbnahmeaeakhhaaOs
import Derived.Test.YtbnahmeaeakhhaaT4
import Derived.Test.YtbnahmeaeakhhaaQ8
namespace Go.Proofs.Ytbnahmeaeakhhaa.B
set_option linter.unusedVariables false
set_option linter.unusedSimpArgs false
open Go Go.RowKit Go.Proofs.Ytbnahmeaeakhhaa.Q

theorem slotErr_ok {cols : Int} {base own nxt : List Int} : ∀ (d i : Nat), slotErr cols base own nxt d i = 0 → ∀ j, i ≤ j → j < i + d → (-1 ≤ own.getD j 0 ∧ own.getD j 0 < base.length) ∧ (-1 ≤ nxt.getD j 0 ∧ nxt.getD j 0 < base.length)
  | 0, i, _ => fun j h1 h2 => by omega
  | d + 1, i, h => fun j h1 h2 => by
    unfold slotErr at h
    split at h
    · cases h
    · next g1 =>
      split at h
      · cases h
      · by_cases e : j = i
        · subst e; omega
        · exact slotErr_ok d (i + 1) h j (by omega) (by omega)
/-- the numbers of a valid table can be written -/
theorem inR_of {T : Tab} (h0 : errT T = 0) (ha : ∀ a ∈ T.acc, (Lit.int .i64 a).wf = true) : InR (numsF T.st T.cols T.acc T.base T.own T.nxt) := by
  have ok := tabErr_ok h0
  obtain ⟨o1, o2, o3, o4, o5, o6, o7, o8, o9, o10, o11⟩ := ok
  intro a h
  simp only [numsF, List.mem_append, List.mem_cons, List.not_mem_nil, or_false] at h
  have gD : ∀ (l : List Int) (i : Nat) (hi : i < l.length), l.getD i 0 = l[i] := fun l i hi => by rw [List.getD_eq_getElem?_getD, List.getElem?_eq_getElem hi]; rfl
  rcases h with (((((rfl | rfl | rfl | rfl) | h) | h) | h) | h)
  · omega
  · omega
  · omega
  · omega
  · have := wf64 (ha a h)
    obtain ⟨i, hi, rfl⟩ := List.getElem_of_mem h
    have h2 := (o10 i (Nat.zero_le _) (by omega)).1
    rw [gD _ _ hi] at h2
    omega
  · obtain ⟨i, hi, rfl⟩ := List.getElem_of_mem h
    have h2 := (o10 i (Nat.zero_le _) hi).2
    rw [gD _ _ hi] at h2
    omega
  · obtain ⟨i, hi, rfl⟩ := List.getElem_of_mem h
    have h2 := slotErr_ok _ _ o11 i (Nat.zero_le _) (by omega)
    rw [gD _ _ hi] at h2
    omega
  · obtain ⟨i, hi, rfl⟩ := List.getElem_of_mem h
    have h2 := slotErr_ok _ _ o11 i (Nat.zero_le _) (by omega)
    rw [gD T.nxt _ hi] at h2
    omega

theorem len6 {α : Type} : ∀ {l : List α}, l.length = 6 → ∃ a b c d e f, l = [a, b, c, d, e, f]
  | [a, b, c, d, e, f], _ => ⟨a, b, c, d, e, f, rfl⟩
theorem len3 {α : Type} : ∀ {l : List α}, l.length = 3 → ∃ a b c, l = [a, b, c]
  | [a, b, c], _ => ⟨a, b, c, rfl⟩
theorem cellsU8 : (Try.prog).cellsOf 5 = 1 := by kernel_rfl
theorem bytesU8 : (Try.prog).bytesOf 5 = 1 := by kernel_rfl
theorem cellsInts : (Try.prog).cellsOf 26 = 1 := by kernel_rfl
theorem bytesInts : (Try.prog).bytesOf 26 = 24 := by kernel_rfl
theorem cellsTab : (Try.prog).cellsOf 85 = 6 := by kernel_rfl
theorem cellsDfa : (Try.prog).cellsOf 58 = 3 := by kernel_rfl
section
variable {H : Type} {enc : TypeId × Value → H} {W : World} {sp : Nat → Bool} {held : Bool} {fuel : Nat}
theorem open_bytes {cs : List Value} {x : DataW H × List MemPlace} (h : DataW.trod enc Try.prog W 0 sp held fuel 96 cs = some x) (hs : Szd Try.prog 96 x.1) :
    ∃ A c xs, cs = [.slice A xs.length c] ∧ SlR (kI .u8) (mem W) A xs.length c xs ∧ InB xs := by
  obtain ⟨A, c, xs, e, h1, h2, -⟩ := open_nums 1 Try.underlying96 Try.underlying5 cellsU8 bytesU8 (by omega) h hs
  refine ⟨A, c, xs, e, h1, fun a ha => ?_⟩
  have := h2 a ha
  simp only [Lit.wf, Bool.and_eq_true, decide_eq_true_eq] at this
  have e1 : IntKind.min .u8 = 0 := by decide
  have e2 : IntKind.max .u8 = 255 := by decide
  rw [e1, e2] at this
  omega
theorem open_intsS {cs : List Value} {x : DataW H × List MemPlace} (h : DataW.trod enc Try.prog W 0 sp held fuel 26 cs = some x) (hs : Szd Try.prog 26 x.1) :
    ∃ A c xs, cs = [.slice A xs.length c] ∧ SlR (kI .i64) (mem W) A xs.length c xs ∧ (∀ a ∈ xs, (Lit.int .i64 a).wf = true) ∧ xs.length * 8 ≤ 140737488351232 :=
  open_nums 8 Try.underlying26 Try.underlying3 cellsInt bytesInt (by omega) h hs
theorem open_intss {cs : List Value} {x : DataW H × List MemPlace} (h : DataW.trod enc Try.prog W 0 sp held fuel 56 cs = some x) (hs : Szd Try.prog 56 x.1) :
    ∃ A c xs, cs = [.slice A xs.length c] ∧ SlR (kS (kI .i64)) (mem W) A xs.length c xs ∧ (∀ l ∈ xs, (∀ a ∈ l, (Lit.int .i64 a).wf = true) ∧ l.length * 8 ≤ 140737488351232) ∧ xs.length * 24 ≤ 140737488351232 :=
  open_sz (kS (kI .i64)) _ 24 Try.underlying56 cellsInts bytesInts (by omega) (fun m _ cs x hx hg => by
    obtain ⟨A, c, xs, e, h1, h2, h3⟩ := open_intsS hx hg
    exact ⟨xs, ⟨A, c, e, h1⟩, h2, h3⟩) h hs
set_option maxRecDepth 100000 in
theorem open_tab {cs : List Value} {x : DataW H × List MemPlace} (h : DataW.trod enc Try.prog W 0 sp held fuel 85 cs = some x) (hs : Szd Try.prog 85 x.1) :
    ∃ T, RdTab (mem W) T cs ∧ (∀ a ∈ T.acc, (Lit.int .i64 a).wf = true) := by
  obtain ⟨xs, n, rfl, rfl, hl, hxl, hf⟩ := DataW.trod_struct Try.underlying85 h
  rw [cellsTab] at hl
  have h0 : DataW.trod enc Try.prog W 0 sp held n 3 ((cs.drop 0).take ((Try.prog).cellsOf 3)) = xs[0]? := hf 0 _ rfl
  have h1 : DataW.trod enc Try.prog W 0 sp held n 3 ((cs.drop 1).take ((Try.prog).cellsOf 3)) = xs[1]? := hf 1 _ rfl
  have h2 : DataW.trod enc Try.prog W 0 sp held n 26 ((cs.drop 2).take ((Try.prog).cellsOf 26)) = xs[2]? := hf 2 _ rfl
  have h3 : DataW.trod enc Try.prog W 0 sp held n 26 ((cs.drop 3).take ((Try.prog).cellsOf 26)) = xs[3]? := hf 3 _ rfl
  have h4 : DataW.trod enc Try.prog W 0 sp held n 26 ((cs.drop 4).take ((Try.prog).cellsOf 26)) = xs[4]? := hf 4 _ rfl
  have h5 : DataW.trod enc Try.prog W 0 sp held n 26 ((cs.drop 5).take ((Try.prog).cellsOf 26)) = xs[5]? := hf 5 _ rfl
  have hxl6 : xs.length = 6 := hxl
  have s2 : ∀ d, (xs.map (·.1))[2]? = some d → Szd Try.prog 26 d := fun d hd => hs.field Try.underlying85 (i := 2) rfl hd
  have s3 : ∀ d, (xs.map (·.1))[3]? = some d → Szd Try.prog 26 d := fun d hd => hs.field Try.underlying85 (i := 3) rfl hd
  have s4 : ∀ d, (xs.map (·.1))[4]? = some d → Szd Try.prog 26 d := fun d hd => hs.field Try.underlying85 (i := 4) rfl hd
  have s5 : ∀ d, (xs.map (·.1))[5]? = some d → Szd Try.prog 26 d := fun d hd => hs.field Try.underlying85 (i := 5) rfl hd
  obtain ⟨x0, x1, x2, x3, x4, x5, rfl⟩ := len6 hxl6
  obtain ⟨c0, c1, c2, c3, c4, c5, rfl⟩ := len6 hl
  · simp only [cellsInt, cellsInts, List.drop_succ_cons, List.drop_zero, List.take_succ_cons, List.take_zero, List.getElem?_cons_zero, List.getElem?_cons_succ] at h0 h1 h2 h3 h4 h5
    obtain ⟨a, e0, -⟩ := trod_int Try.underlying3 h0
    obtain ⟨b, e1, -⟩ := trod_int Try.underlying3 h1
    obtain ⟨A2, k2, l2, e2, r2, w2, -⟩ := open_intsS h2 (s2 _ rfl)
    obtain ⟨A3, k3, l3, e3, r3, -, -⟩ := open_intsS h3 (s3 _ rfl)
    obtain ⟨A4, k4, l4, e4, r4, -, -⟩ := open_intsS h4 (s4 _ rfl)
    obtain ⟨A5, k5, l5, e5, r5, -, -⟩ := open_intsS h5 (s5 _ rfl)
    simp only [List.cons.injEq, and_true] at e0 e1 e2 e3 e4 e5
    subst e0; subst e1; subst e2; subst e3; subst e4; subst e5
    exact ⟨⟨a, b, l2, l3, l4, l5⟩, ⟨A2, k2, A3, k3, A4, k4, A5, k5, rfl, r2, r3, r4, r5⟩, w2⟩
set_option maxRecDepth 100000 in
theorem open_dfa {cs : List Value} {x : DataW H × List MemPlace} (h : DataW.trod enc Try.prog W 0 sp held fuel 58 cs = some x) (hs : Szd Try.prog 58 x.1) :
    ∃ D, RdAut (mem W) D cs ∧ (∀ a ∈ D.acc, (Lit.int .i64 a).wf = true) ∧ (∀ l ∈ D.next, (∀ a ∈ l, (Lit.int .i64 a).wf = true) ∧ l.length * 8 ≤ 140737488351232) ∧ D.acc.length * 8 ≤ 140737488351232 ∧ D.next.length * 24 ≤ 140737488351232 := by
  obtain ⟨xs, n, rfl, rfl, hl, hxl, hf⟩ := DataW.trod_struct Try.underlying58 h
  rw [cellsDfa] at hl
  have h0 : DataW.trod enc Try.prog W 0 sp held n 3 ((cs.drop 0).take ((Try.prog).cellsOf 3)) = xs[0]? := hf 0 _ rfl
  have h1 : DataW.trod enc Try.prog W 0 sp held n 26 ((cs.drop 1).take ((Try.prog).cellsOf 26)) = xs[1]? := hf 1 _ rfl
  have h2 : DataW.trod enc Try.prog W 0 sp held n 56 ((cs.drop 2).take ((Try.prog).cellsOf 56)) = xs[2]? := hf 2 _ rfl
  have hxl6 : xs.length = 3 := hxl
  have s1 : ∀ d, (xs.map (·.1))[1]? = some d → Szd Try.prog 26 d := fun d hd => hs.field Try.underlying58 (i := 1) rfl hd
  have s2 : ∀ d, (xs.map (·.1))[2]? = some d → Szd Try.prog 56 d := fun d hd => hs.field Try.underlying58 (i := 2) rfl hd
  obtain ⟨x0, x1, x2, rfl⟩ := len3 hxl6
  obtain ⟨c0, c1, c2, rfl⟩ := len3 hl
  · simp only [cellsInt, cellsInts, show (Try.prog).cellsOf 56 = 1 by kernel_rfl, List.drop_succ_cons, List.drop_zero, List.take_succ_cons, List.take_zero, List.getElem?_cons_zero, List.getElem?_cons_succ] at h0 h1 h2
    obtain ⟨a, e0, -⟩ := trod_int Try.underlying3 h0
    obtain ⟨A1, k1, l1, e1, r1, w1, b1⟩ := open_intsS h1 (s1 _ rfl)
    obtain ⟨A2, k2, l2, e2, r2, w2, b2⟩ := open_intss h2 (s2 _ rfl)
    simp only [List.cons.injEq, and_true] at e0 e1 e2
    subst e0; subst e1; subst e2
    exact ⟨⟨a, l1, l2⟩, ⟨A1, k1, A2, k2, rfl, r1, r2⟩, w1, w2, b1, b2⟩
end
end Go.Proofs.Ytbnahmeaeakhhaa.B
