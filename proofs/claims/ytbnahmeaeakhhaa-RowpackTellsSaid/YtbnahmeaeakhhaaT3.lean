/- Packing, in plain Lean: slots, rows laid one by one. No program is in sight here. -/
import Derived.Test.YtbnahmeaeakhhaaT1
import Derived.Test.YtbnahmeaeakhhaaS3
namespace Go.Proofs.Ytbnahmeaeakhhaa.Q
set_option linter.unusedVariables false
set_option linter.unusedSimpArgs false
open Go Go.RowKit Go.Proofs.Ytbnahmeaeakhhaa.S

/-- slots up to k, at least -/
def padN (l : List Int) (k : Nat) : List Int := l ++ List.replicate (k + 1 - l.length) (-1)
def putE (p : List Int × List Int) (k : Nat) (s x : Int) : List Int × List Int := ((padN p.1 k).set k s, (padN p.2 k).set k x)
/-- the entries of a row, laid from b + c on -/
def fillF (s : Int) (b : Nat) : Nat → List Int → List Int × List Int → List Int × List Int
  | _, [], p => p
  | c, x :: row, p => fillF s b (c + 1) row (if x < 0 then p else putE p (b + c) s x)
open Classical in
noncomputable def packStep (next : List (List Int)) (t : List Int × (List Int × List Int)) (s : Int) : List Int × (List Int × List Int) :=
  if cntF (next.getD s.toNat []) = 0 then t else (t.1.set s.toNat (placeN t.2.1 (next.getD s.toNat [])), fillF s (placeN t.2.1 (next.getD s.toNat [])) 0 (next.getD s.toNat []) t.2)
noncomputable def packGo (next : List (List Int)) (l : List Int) : List Int × (List Int × List Int) := l.foldl (packStep next) (List.replicate next.length 0, ([], []))
theorem packGo_snoc (next : List (List Int)) (l : List Int) (s : Int) : packGo next (l ++ [s]) = packStep next (packGo next l) s := by simp [packGo]
theorem padN_len (l : List Int) (k : Nat) : (padN l k).length = max l.length (k + 1) := by simp [padN]; omega
theorem putE_len (p : List Int × List Int) (k : Nat) (s x : Int) : (putE p k s x).1.length = max p.1.length (k + 1) ∧ (putE p k s x).2.length = max p.2.length (k + 1) := by simp [putE, padN_len]
theorem fillF_append (s : Int) (b : Nat) : ∀ (l1 l2 : List Int) (c : Nat) (p : List Int × List Int), fillF s b c (l1 ++ l2) p = fillF s b (c + l1.length) l2 (fillF s b c l1 p)
  | [], l2, c, p => by simp [fillF]
  | x :: l1, l2, c, p => by simp only [List.cons_append, fillF, fillF_append s b l1 l2, List.length_cons]; congr 1; omega
theorem fillF_take (s : Int) (b : Nat) (row : List Int) (c : Nat) (hc : c < row.length) (p : List Int × List Int) :
    fillF s b 0 (row.take (c + 1)) p = if row.getD c 0 < 0 then fillF s b 0 (row.take c) p else putE (fillF s b 0 (row.take c) p) (b + c) s (row.getD c 0) := by
  have h1 : row.take (c + 1) = row.take c ++ [row.getD c 0] := by
    rw [List.take_succ_eq_append_getElem hc, List.getD_eq_getElem?_getD, List.getElem?_eq_getElem hc]; rfl
  have h2 : (row.take c).length = c := by simp; omega
  rw [h1, fillF_append, h2, Nat.zero_add]
  simp only [fillF]
theorem fillF_len (s : Int) (b : Nat) : ∀ (row : List Int) (c : Nat) (p : List Int × List Int), p.1.length = p.2.length →
    (fillF s b c row p).1.length = (fillF s b c row p).2.length ∧ p.1.length ≤ (fillF s b c row p).1.length ∧ (fillF s b c row p).1.length ≤ max p.1.length (b + c + row.length)
  | [], c, p, h => by simp only [fillF]; exact ⟨h, Nat.le_refl _, by omega⟩
  | x :: row, c, p, h => by
    simp only [fillF]
    by_cases hx : x < 0
    · rw [if_pos hx]
      obtain ⟨h1, h2, h3⟩ := fillF_len s b row (c + 1) p h
      exact ⟨h1, h2, by simp only [List.length_cons]; omega⟩
    · rw [if_neg hx]
      obtain ⟨e1, e2⟩ := putE_len p (b + c) s x
      obtain ⟨h1, h2, h3⟩ := fillF_len s b row (c + 1) (putE p (b + c) s x) (by rw [e1, e2, h])
      exact ⟨h1, by omega, by simp only [List.length_cons]; omega⟩
/-- what stays within bounds -/
structure PackB (next : List (List Int)) (q : Nat) (t : List Int × (List Int × List Int)) : Prop where
  base : t.1.length = next.length
  len : t.2.1.length = t.2.2.length
  max : t.2.1.length ≤ 16 * q
theorem packStep_B {next : List (List Int)} {q : Nat} {t : List Int × (List Int × List Int)} (h : PackB next q t) (hr : ∀ i, (next.getD i []).length ≤ 16) (s : Int) : PackB next (q + 1) (packStep next t s) := by
  unfold packStep
  split
  · exact ⟨h.base, h.len, by have := h.max; omega⟩
  · have h1 := (placeN_spec t.2.1 (next.getD s.toNat [])).2.2
    obtain ⟨e1, e2, e3⟩ := fillF_len s (placeN t.2.1 (next.getD s.toNat [])) (next.getD s.toNat []) 0 t.2 h.len
    have := hr s.toNat
    exact ⟨by simpa using h.base, e1, by have := h.max; simp only; omega⟩
theorem packGo_B {next : List (List Int)} (hr : ∀ i, (next.getD i []).length ≤ 16) (l : List Int) : PackB next l.length (packGo next l) := by
  have : ∀ (l : List Int) (q : Nat) (t : List Int × (List Int × List Int)), PackB next q t → PackB next (q + l.length) (l.foldl (packStep next) t) := by
    intro l
    induction l with
    | nil => intro q t h; exact h
    | cons s l ih => intro q t h; have := ih (q + 1) _ (packStep_B h hr s); rw [List.length_cons, show q + (l.length + 1) = q + 1 + l.length by omega]; exact this
  have h := this l 0 (List.replicate next.length 0, ([], [])) ⟨by simp, rfl, by simp⟩
  rw [Nat.zero_add] at h
  exact h
/-- 0, 1, .. -/
def rangeI (n : Nat) : List Int := (List.range n).map fun (i : Nat) => (i : Int)
theorem rangeI_len (n : Nat) : (rangeI n).length = n := by simp [rangeI]
theorem rangeI_succ (n : Nat) : rangeI (n + 1) = rangeI n ++ [(n : Int)] := by simp [rangeI, List.range_succ]
theorem rangeI_mem {n : Nat} {x : Int} : x ∈ rangeI n ↔ 0 ≤ x ∧ x < n := by
  simp only [rangeI, List.mem_map, List.mem_range]
  constructor
  · rintro ⟨i, hi, rfl⟩; omega
  · rintro ⟨h1, h2⟩; exact ⟨x.toNat, by omega, by omega⟩
theorem rangeI_inc (n : Nat) : Inc (rangeI n) := by
  unfold rangeI Inc
  rw [List.pairwise_map]
  exact List.Pairwise.imp (fun h => by omega) List.pairwise_lt_range
theorem dfaErr_ok {st : Int} {acc : List Int} {next : List (List Int)} (h : dfaErr st acc next = 0) : 0 < next.length ∧ next.length ≤ 200 ∧ acc.length = next.length ∧ (next.getD 0 []).length ≤ 16 ∧ 0 < (next.getD 0 []).length ∧ rowsForm (next.getD 0 []).length next 0 ∧ 0 ≤ st ∧ st < next.length ∧ rowsIn next.length acc next 0 := by
  unfold dfaErr at h
  split at h
  · cases h
  · next h1 =>
    split at h
    · cases h
    · next h2 =>
      split at h
      · cases h
      · next h3 =>
        split at h
        · cases h
        · next h4 =>
          split at h
          · cases h
          · next h5 =>
            have h4 := Classical.not_not.1 h4
            have h5 := Classical.not_not.1 h5
            have h6 := h4 0 (Nat.le_refl _) (by omega)
            exact ⟨by omega, by omega, by omega, by omega, by omega, h4, h5.1, h5.2.1, h5.2.2⟩
theorem dfaErr_row {st : Int} {acc : List Int} {next : List (List Int)} (h : dfaErr st acc next = 0) (i : Nat) : (next.getD i []).length ≤ 16 := by
  have ok := dfaErr_ok h
  by_cases hi : i < next.length
  · have := (ok.2.2.2.2.2.1 i (Nat.zero_le _) hi).1; omega
  · rw [List.getD_eq_getElem?_getD, List.getElem?_eq_none (by omega)]; simp
end Go.Proofs.Ytbnahmeaeakhhaa.Q
