/- Tables, the plain words: what is wrong with one; steps of the loops. No program is in sight here. -/
import Derived.Test.YtbnahmeaeakhhaaBb
namespace Go.Proofs.Ytbnahmeaeakhhaa.B
set_option linter.unusedVariables false
set_option linter.unusedSimpArgs false
open Go Go.RowKit
theorem WR.atD {k : IntKind} {w : World} {A n c} {xs : List Int} (h : WR k w A n c xs) (i : Nat) (hi : i < xs.length) : ∃ b off, A = some ⟨b, off, none⟩ ∧ w.cell? ⟨b, off + i, none⟩ = some (.int k (xs.getD i 0)) := by
  obtain ⟨b, off, e, hc⟩ := h.at i hi
  exact ⟨b, off, e, by rw [hc, List.getD_eq_getElem?_getD, List.getElem?_eq_getElem hi]; rfl⟩
theorem SlR.rowD {H : PH} {w : World} {A2 : Option Addr} {n c : Nat} {next : List (List Int)} (h : SlR (kS (kI .i64)) H A2 n c next) (hs : Sat w H) (i : Nat) (hi : i < next.length) :
    ∃ b off A c', A2 = some ⟨b, off, none⟩ ∧ w.cell? ⟨b, off + i, none⟩ = some (.slice A (next.getD i []).length c') ∧ SlR (kI .i64) H A (next.getD i []).length c' (next.getD i []) := by
  obtain ⟨b, off, cs, e, hr, hc⟩ := h.row i hi
  obtain ⟨A', c', rfl, hr'⟩ := hr
  have e9 : next.getD i [] = next[i] := by rw [List.getD_eq_getElem?_getD, List.getElem?_eq_getElem hi]; rfl
  rw [e9]
  exact ⟨b, off, A', c', e, by have := hs _ _ _ (hc 0 _ rfl); simpa [kS] using this, hr'⟩
end Go.Proofs.Ytbnahmeaeakhhaa.B
namespace Go.Proofs.Ytbnahmeaeakhhaa.Q
set_option linter.unusedVariables false
set_option linter.unusedSimpArgs false
def slotErr (cols : Int) (base own nxt : List Int) : Nat → Nat → Int
  | 0, _ => 0
  | d + 1, i =>
    if own.getD i 0 < -1 ∨ (base.length : Int) ≤ own.getD i 0 ∨ nxt.getD i 0 < -1 ∨ (base.length : Int) ≤ nxt.getD i 0 then 1
    else if (own.getD i 0 < 0 ∧ ¬ nxt.getD i 0 < 0) ∨ (¬ own.getD i 0 < 0 ∧ nxt.getD i 0 < 0) ∨ (0 ≤ own.getD i 0 ∧ ((i : Int) < base.getD (own.getD i 0).toNat 0 ∨ base.getD (own.getD i 0).toNat 0 + cols ≤ i)) then 3
    else slotErr cols base own nxt d (i + 1)
def rowsOk (acc base : List Int) (i : Nat) : Prop := ∀ s, i ≤ s → s < base.length → -1 ≤ acc.getD s 0 ∧ 0 ≤ base.getD s 0 ∧ base.getD s 0 < 3200
open Classical in
/-- the error of a table -/
noncomputable def tabErr (st cols : Int) (acc base own nxt : List Int) : Int :=
  if 200 < base.length ∨ 16 < cols ∨ 3200 < own.length then 2
  else if base.length = 0 ∨ cols < 1 ∨ acc.length ≠ base.length ∨ own.length ≠ nxt.length then 3
  else if ¬ (0 ≤ st ∧ st < base.length ∧ rowsOk acc base 0) then 1
  else slotErr cols base own nxt own.length 0
theorem getD_ok {acc base : List Int} (h : rowsOk acc base 0) {s : Int} (h0 : 0 ≤ s) (h1 : s < base.length) : 0 ≤ base.getD s.toNat 0 ∧ base.getD s.toNat 0 < 3200 := (h s.toNat (by omega) (by omega)).2
def okUpto (acc base : List Int) (k : Nat) : Prop := ∀ s, s < k → -1 ≤ acc.getD s 0 ∧ 0 ≤ base.getD s 0 ∧ base.getD s 0 < 3200
theorem okUpto_zero (acc base : List Int) : okUpto acc base 0 := fun s h => by omega
theorem okUpto_step {acc base : List Int} {k : Nat} : okUpto acc base (k + 1) ↔ okUpto acc base k ∧ -1 ≤ acc.getD k 0 ∧ 0 ≤ base.getD k 0 ∧ base.getD k 0 < 3200 :=
  ⟨fun h => ⟨fun s hs => h s (by omega), h k (by omega)⟩, fun h s hs => by
    by_cases e : s = k
    · subst e; exact h.2
    · exact h.1 s (by omega)⟩
theorem okUpto_all {acc base : List Int} : rowsOk acc base 0 ↔ okUpto acc base base.length := ⟨fun h s hs => h s (Nat.zero_le _) hs, fun h s _ hs => h s hs⟩
theorem slotErr_step {cols : Int} {base own nxt : List Int} {n i : Nat} (h : i < n) : slotErr cols base own nxt (n - i) i =
    if own.getD i 0 < -1 ∨ (base.length : Int) ≤ own.getD i 0 ∨ nxt.getD i 0 < -1 ∨ (base.length : Int) ≤ nxt.getD i 0 then 1
    else if (own.getD i 0 < 0 ∧ ¬ nxt.getD i 0 < 0) ∨ (¬ own.getD i 0 < 0 ∧ nxt.getD i 0 < 0) ∨ (0 ≤ own.getD i 0 ∧ ((i : Int) < base.getD (own.getD i 0).toNat 0 ∨ base.getD (own.getD i 0).toNat 0 + cols ≤ i)) then 3
    else slotErr cols base own nxt (n - (i + 1)) (i + 1) := by
  rw [show n - i = (n - (i + 1)) + 1 by omega, slotErr]
/-! ### automata -/
def rowsForm (cols : Nat) (next : List (List Int)) (i : Nat) : Prop := ∀ s, i ≤ s → s < next.length → (next.getD s []).length = cols ∧ cols ≠ 0
def rowIn (n : Nat) (row : List Int) (i : Nat) : Prop := ∀ c, i ≤ c → c < row.length → -1 ≤ row.getD c 0 ∧ row.getD c 0 < n
def rowsIn (n : Nat) (acc : List Int) (next : List (List Int)) (i : Nat) : Prop := ∀ s, i ≤ s → s < next.length → -1 ≤ acc.getD s 0 ∧ rowIn n (next.getD s []) 0
open Classical in
/-- the error of an automaton -/
noncomputable def dfaErr (st : Int) (acc : List Int) (next : List (List Int)) : Int :=
  if 200 < next.length then 2
  else if next.length = 0 ∨ acc.length ≠ next.length then 3
  else if 16 < (next.getD 0 []).length then 2
  else if ¬ rowsForm (next.getD 0 []).length next 0 then 3
  else if ¬ (0 ≤ st ∧ st < next.length ∧ rowsIn next.length acc next 0) then 1
  else 0
/-- how many entries a row has -/
def cntF : List Int → Int
  | [] => 0
  | x :: l => (if 0 ≤ x then 1 else 0) + cntF l
theorem cntF_bd : ∀ l : List Int, 0 ≤ cntF l ∧ cntF l ≤ l.length
  | [] => by simp [cntF]
  | x :: l => by have := cntF_bd l; simp only [cntF, List.length_cons]; split <;> omega
/-- from c on, all entries of the row fall on free slots -/
def freeFrom (own row : List Int) (b c : Nat) : Prop := ∀ i, c ≤ i → i < row.length → 0 ≤ row.getD i 0 → b + i < own.length → own.getD (b + i) 0 < 0
def freeAt (own row : List Int) (b : Nat) : Prop := freeFrom own row b 0
open Classical in
noncomputable def placeGo (own row : List Int) : Nat → Nat → Nat
  | 0, b => b
  | n + 1, b => if freeAt own row b then b else placeGo own row n (b + 1)
noncomputable def placeN (own row : List Int) : Nat := placeGo own row own.length 0
theorem freeAt_end (own row : List Int) (b : Nat) (h : own.length ≤ b) : freeAt own row b := fun i _ _ _ h1 => by omega
theorem placeGo_spec (own row : List Int) : ∀ n b, b + n = own.length → freeAt own row (placeGo own row n b) ∧ (∀ c, b ≤ c → c < placeGo own row n b → ¬ freeAt own row c) ∧ b ≤ placeGo own row n b ∧ placeGo own row n b ≤ own.length
  | 0, b, h => ⟨freeAt_end _ _ _ (by simp [placeGo]; omega), fun c h1 h2 => by simp only [placeGo] at h2; omega, by simp [placeGo], by simp [placeGo]; omega⟩
  | n + 1, b, h => by
    simp only [placeGo]
    split
    · next hf => exact ⟨hf, fun c h1 h2 => by omega, by omega, by omega⟩
    · next hf =>
      obtain ⟨h1, h2, h3, h4⟩ := placeGo_spec own row n (b + 1) (by omega)
      refine ⟨h1, fun c g1 g2 => ?_, by omega, h4⟩
      by_cases e : c = b
      · subst e; exact hf
      · exact h2 c (by omega) g2
theorem placeN_spec (own row : List Int) : freeAt own row (placeN own row) ∧ (∀ c, c < placeN own row → ¬ freeAt own row c) ∧ placeN own row ≤ own.length := by
  obtain ⟨h1, h2, _, h4⟩ := placeGo_spec own row own.length 0 (by omega)
  exact ⟨h1, fun c hc => h2 c (by omega) hc, h4⟩
theorem freeFrom_step {own row : List Int} {b j : Nat} (hj : j < row.length) : freeFrom own row b j ↔ (0 ≤ row.getD j 0 → b + j < own.length → own.getD (b + j) 0 < 0) ∧ freeFrom own row b (j + 1) := by
  constructor
  · intro h; exact ⟨h j (Nat.le_refl _) hj, fun i h1 h2 => h i (by omega) h2⟩
  · rintro ⟨h1, h2⟩ i h3 h4
    by_cases e : i = j
    · subst e; exact h1
    · exact h2 i (by omega) h4
theorem cntF_take {row : List Int} {k : Nat} (h : k < row.length) : cntF (row.take (k + 1)) = cntF (row.take k) + (if 0 ≤ row.getD k 0 then 1 else 0) := by
  have e : row.take (k + 1) = row.take k ++ [row.getD k 0] := by
    rw [List.take_succ_eq_append_getElem h, List.getD_eq_getElem?_getD, List.getElem?_eq_getElem h]; rfl
  have hap : ∀ l m : List Int, cntF (l ++ m) = cntF l + cntF m := by
    intro l m
    induction l with
    | nil => simp [cntF]
    | cons x l ih => simp only [List.cons_append, cntF, ih]; omega
  rw [e, hap]; simp [cntF]
open Classical in
noncomputable def entF (base own nxt : List Int) (s c : Int) : Int :=
  if base.getD s.toNat 0 + c < own.length ∧ own.getD (base.getD s.toNat 0 + c).toNat 0 = s then nxt.getD (base.getD s.toNat 0 + c).toNat 0 else -1
theorem getD_ext {a b : List Int} (hl : a.length = b.length) (h : ∀ i, i < a.length → a.getD i 0 = b.getD i 0) : a = b := by
  refine List.ext_getElem hl fun i h1 h2 => ?_
  have := h i h1
  rw [List.getD_eq_getElem?_getD, List.getD_eq_getElem?_getD, List.getElem?_eq_getElem h1, List.getElem?_eq_getElem h2] at this
  exact this
theorem tabErr_ok {st cols : Int} {acc base own nxt : List Int} (h : tabErr st cols acc base own nxt = 0) : base.length ≤ 200 ∧ 0 < base.length ∧ 1 ≤ cols ∧ cols ≤ 16 ∧ own.length ≤ 3200 ∧ acc.length = base.length ∧ own.length = nxt.length ∧ 0 ≤ st ∧ st < base.length ∧ rowsOk acc base 0 ∧ slotErr cols base own nxt own.length 0 = 0 := by
  unfold tabErr at h
  split at h
  · cases h
  · next h1 =>
    split at h
    · cases h
    · next h2 =>
      split at h
      · cases h
      · next h3 =>
        have h3 := Classical.not_not.1 h3
        exact ⟨by omega, by omega, by omega, by omega, by omega, by omega, by omega, h3.1, h3.2.1, h3.2.2, h⟩
/-- a number in base 128, the least digit first -/
def encN (u : Nat) : List Int := if u < 128 then [(u : Int)] else (((u % 128 : Nat) : Int) + 128) :: encN (u / 128)
decreasing_by omega
theorem encN_small {u : Nat} (h : u < 128) : encN u = [(u : Int)] := by rw [encN, if_pos h]
theorem encN_big {u : Nat} (h : ¬ u < 128) : encN u = (((u % 128 : Nat) : Int) + 128) :: encN (u / 128) := by rw [encN, if_neg h]
theorem or128 : ∀ r : Fin 128, Go.bits .or .u8 ((r.val : Nat) : Int) 128 = ((r.val : Nat) : Int) + 128 := by decide
theorem or128' (r : Nat) (h : r < 128) : Go.bits .or .u8 (r : Int) 128 = (r : Int) + 128 := or128 ⟨r, h⟩
theorem encN_len (m : Nat) : ∀ u : Nat, u < 128 ^ (m + 1) → (encN u).length ≤ m + 1 := by
  induction m with
  | zero => intro u h; rw [encN_small (by omega)]; simp
  | succ m ih =>
    intro u h
    by_cases hs : u < 128
    · rw [encN_small hs]; simp
    · rw [encN_big hs, List.length_cons]
      have := ih (u / 128) (by rw [Nat.div_lt_iff_lt_mul (by omega)]; rw [Nat.pow_succ] at h; exact h)
      omega
def numsF (st cols : Int) (acc base own nxt : List Int) : List Int := [st, cols, (base.length : Int), (own.length : Int)] ++ acc ++ base ++ own ++ nxt
def bytesF (l : List Int) : List Int := (l.map fun a => encN (a + 1).toNat).flatten
def InR (l : List Int) : Prop := ∀ a ∈ l, -1 ≤ a ∧ a ≤ 9223372036854775807
theorem encN_le10 {a : Int} (h : -1 ≤ a ∧ a ≤ 9223372036854775807) : (encN (a + 1).toNat).length ≤ 10 :=
  encN_len 9 _ (by have : (128 : Nat) ^ (9 + 1) = 1180591620717411303424 := by decide
                   omega)
end Go.Proofs.Ytbnahmeaeakhhaa.Q
