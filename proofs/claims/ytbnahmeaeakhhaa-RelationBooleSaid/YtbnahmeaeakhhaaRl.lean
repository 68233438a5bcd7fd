/- Relations between the positions of a text, and what an expression matches. No program is in sight here. -/
import Derived.Test.YtbnahmeaeakhhaaTy
namespace Go.Proofs.Ytbnahmeaeakhhaa.B
set_option linter.unusedVariables false
set_option linter.unusedSimpArgs false
open Classical

abbrev Rel := Nat → Nat → Prop

/-- bit j for each j up to n with p j -/
noncomputable def mask : Nat → (Nat → Prop) → Nat
  | 0, p => if p 0 then 1 else 0
  | n + 1, p => mask n p ||| (if p (n + 1) then 2 ^ (n + 1) else 0)
theorem mask_bit (n : Nat) (p : Nat → Prop) (j : Nat) : (mask n p).testBit j = decide (j ≤ n ∧ p j) := by
  induction n with
  | zero =>
    simp only [mask]
    by_cases h : p 0
    · simp only [h, if_true]
      by_cases hj : j = 0
      · subst hj; simp [h]
      · rw [show (1 : Nat) = 2 ^ 0 from rfl, Nat.testBit_two_pow]; simp [show ¬ 0 = j by omega, hj]
    · simp [h]; intro hj; subst hj; exact h
  | succ n ih =>
    simp only [mask, Nat.testBit_or, ih]
    by_cases h : p (n + 1)
    · simp only [h, if_true, Nat.testBit_two_pow]
      by_cases hj : j = n + 1
      · subst hj; simp [h]
      · have e1 : decide (n + 1 = j) = false := by simp; omega
        rw [e1, Bool.or_false]
        have e2 : (j ≤ n ∧ p j) ↔ (j ≤ n + 1 ∧ p j) := ⟨fun ⟨a, b⟩ => ⟨by omega, b⟩, fun ⟨a, b⟩ => ⟨by omega, b⟩⟩
        exact decide_eq_decide.2 e2
    · simp only [h, if_false, Nat.zero_testBit, Bool.or_false]
      refine decide_eq_decide.2 ⟨fun ⟨a, b⟩ => ⟨by omega, b⟩, fun ⟨a, b⟩ => ⟨?_, b⟩⟩
      by_cases hj : j = n + 1
      · subst hj; exact absurd b h
      · omega
theorem mask_lt (n : Nat) (p : Nat → Prop) : mask n p < 2 ^ (n + 1) := by
  induction n with
  | zero => simp only [mask]; split <;> decide
  | succ n ih =>
    simp only [mask]
    refine Nat.or_lt_two_pow (Nat.lt_of_lt_of_le ih (Nat.pow_le_pow_right (by decide) (by omega))) ?_
    split
    · exact Nat.pow_lt_pow_right (by decide) (by omega)
    · exact Nat.pow_pos (by decide)
theorem mask_lt32 (n : Nat) (p : Nat → Prop) (h : n ≤ 24) : mask n p < 4294967296 :=
  Nat.lt_of_lt_of_le (mask_lt n p) (Nat.le_trans (Nat.pow_le_pow_right (by decide) (show n + 1 ≤ 25 by omega)) (by decide))
theorem mask_eq {n x : Nat} {p : Nat → Prop} (h : ∀ j, x.testBit j = decide (j ≤ n ∧ p j)) : mask n p = x :=
  Nat.eq_of_testBit_eq fun j => by rw [mask_bit, h]
theorem mask_congr {n : Nat} {p q : Nat → Prop} (h : ∀ j, j ≤ n → (p j ↔ q j)) : mask n p = mask n q :=
  mask_eq fun j => by rw [mask_bit]; exact decide_eq_decide.2 ⟨fun ⟨a, b⟩ => ⟨a, (h j a).2 b⟩, fun ⟨a, b⟩ => ⟨a, (h j a).1 b⟩⟩
theorem mask_inj {n : Nat} {p q : Nat → Prop} (h : mask n p = mask n q) {j : Nat} (hj : j ≤ n) : p j ↔ q j := by
  have := congrArg (fun x => x.testBit j) h
  simp only [mask_bit] at this
  have h2 := decide_eq_decide.1 this
  exact ⟨fun a => (h2.1 ⟨hj, a⟩).2, fun a => (h2.2 ⟨hj, a⟩).2⟩
theorem mask_false (n : Nat) : mask n (fun _ => False) = 0 := mask_eq fun j => by simp
theorem mask_or (n : Nat) (p q : Nat → Prop) : mask n p ||| mask n q = mask n fun j => p j ∨ q j := by
  symm; refine mask_eq fun j => ?_
  rw [Nat.testBit_or, mask_bit, mask_bit, ← Bool.decide_or]
  exact decide_eq_decide.2 ⟨fun h => by rcases h with ⟨a, b⟩ | ⟨a, b⟩ <;> simp [a, b], fun ⟨a, b⟩ => by rcases b with b | b <;> simp [a, b]⟩
theorem mask_and (n : Nat) (p q : Nat → Prop) : mask n p &&& mask n q = mask n fun j => p j ∧ q j := by
  symm; refine mask_eq fun j => ?_
  rw [Nat.testBit_and, mask_bit, mask_bit, ← Bool.decide_and]
  exact decide_eq_decide.2 ⟨fun ⟨⟨a, b⟩, ⟨_, c⟩⟩ => ⟨a, b, c⟩, fun ⟨a, b, c⟩ => ⟨⟨a, b⟩, ⟨a, c⟩⟩⟩
theorem mask_andNot (n : Nat) (hn : n ≤ 24) (p q : Nat → Prop) : mask n p &&& (4294967295 - mask n q) = mask n fun j => p j ∧ ¬ q j := by
  symm; refine mask_eq fun j => ?_
  rw [Nat.testBit_and, mask_bit]
  have hq := mask_lt32 n q hn
  have e : (4294967295 - mask n q).testBit j = (decide (j < 32) && !(mask n q).testBit j) := by
    have := Nat.testBit_two_pow_sub_succ (x := mask n q) (n := 32) (by simpa using hq) j
    rw [show 4294967295 - mask n q = 2 ^ 32 - (mask n q + 1) by omega]; exact this
  rw [e, mask_bit]
  by_cases hj : j ≤ n
  · simp [hj, show j < 32 by omega]
  · simp [hj]
theorem mask_one (n j : Nat) (h : j ≤ n) : mask n (fun i => j = i) = 2 ^ j := mask_eq fun i => by
  rw [Nat.testBit_two_pow]; exact decide_eq_decide.2 ⟨fun a => ⟨by omega, a⟩, fun a => a.2⟩
theorem mask_zero {n : Nat} {p : Nat → Prop} : mask n p = 0 ↔ ∀ j, j ≤ n → ¬ p j := by
  constructor
  · intro h j hj hp
    have := mask_bit n p j
    rw [h] at this; simp [hj, hp] at this
  · intro h; exact mask_eq fun j => by simp; exact h j
/-- the test of the program: x>>j&1 == 1 -/
theorem mask_test (n : Nat) (p : Nat → Prop) (j : Nat) : mask n p / 2 ^ j % 2 = if j ≤ n ∧ p j then 1 else 0 := by
  have h := mask_bit n p j
  rw [Nat.testBit_eq_decide_div_mod_eq] at h
  have h2 := decide_eq_decide.1 h
  split
  · rename_i h3; exact h2.2 h3
  · rename_i h3; have := mt h2.1 h3; omega

/-- a relation as the program holds it: of each position a number -/
noncomputable def rows (n : Nat) (R : Rel) : List Int := (List.range (n + 1)).map fun i => ((mask n (R i) : Nat) : Int)
theorem rows_length (n : Nat) (R : Rel) : (rows n R).length = n + 1 := by simp [rows]
theorem rows_get (n : Nat) (R : Rel) (i : Nat) (h : i < (rows n R).length) : (rows n R)[i] = ((mask n (R i) : Nat) : Int) := by simp [rows]
theorem rows_congr {n : Nat} {R S : Rel} (h : ∀ i j, i ≤ n → j ≤ n → (R i j ↔ S i j)) : rows n R = rows n S := by
  refine List.ext_getElem (by simp [rows_length]) fun i h1 h2 => ?_
  rw [rows_get, rows_get]
  rw [rows_length] at h1
  rw [mask_congr fun j hj => h i j (by omega) hj]
theorem rows_inj {n : Nat} {R S : Rel} (h : rows n R = rows n S) {i j : Nat} (hi : i ≤ n) (hj : j ≤ n) : R i j ↔ S i j := by
  have h1 : (rows n R)[i]'(by rw [rows_length]; omega) = (rows n S)[i]'(by rw [rows_length]; omega) := by simp only [h]
  rw [rows_get, rows_get] at h1
  exact mask_inj (by omega) hj

def Comp (n : Nat) (R S : Rel) : Rel := fun i j => ∃ k, k ≤ n ∧ R i k ∧ S k j
def Pow (n : Nat) (R : Rel) : Nat → Rel
  | 0 => fun i j => i = j
  | k + 1 => Comp n (Pow n R k) R
def Star (n : Nat) (R : Rel) : Rel := fun i j => ∃ k, Pow n R k i j

def inSet (l : List Span) (c : Int) : Prop := ∃ s ∈ l, s.lo ≤ c ∧ c ≤ s.hi

/-- what a node matches, of what its arguments match; n: the text's length -/
def opM (t : List Int) (kind : Int) (set : List Span) (mn mx : Int) (neg : Bool) (Rs : List Rel) : Rel :=
  if kind = 1 then fun i j => i = j
  else if kind = 2 then fun i j => j = i + 1 ∧ ∃ c, t[i]? = some c ∧ inSet set c
  else if kind = 3 then Rs.foldl (Comp t.length) (fun i j => i = j)
  else if kind = 4 then fun i j => ∃ R ∈ Rs, R i j
  else if kind = 5 then Star t.length (Rs.headD fun _ _ => False)
  else if kind = 6 then fun i j => ∃ k : Nat, mn ≤ k ∧ (k : Int) ≤ mx ∧ Pow t.length (Rs.headD fun _ _ => False) k i j
  else if kind = 7 then fun i j => i ≤ j ∧ ∀ R ∈ Rs, R i j
  else if kind = 8 then fun i j => i ≤ j ∧ ∀ R ∈ Rs, ¬ R i j
  else if kind = 9 then Rs.headD fun _ _ => False
  else if kind = 10 then fun i j => i = j ∧ ((∃ k, k ≤ t.length ∧ (Rs.headD fun _ _ => False) i k) ↔ neg = false)
  else fun _ _ => False

def M (t : List Int) : Re → Rel
  | .mk kind set args mn mx neg => opM t kind set mn mx neg (args.attach.map fun ⟨a, _⟩ => M t a)
decreasing_by simp_wf; have := List.sizeOf_lt_of_mem ‹_›; omega
theorem M_eq (t : List Int) (kind set args mn mx neg) : M t (.mk kind set args mn mx neg) = opM t kind set mn mx neg (args.map (M t)) := by rw [M]; simp

end Go.Proofs.Ytbnahmeaeakhhaa.B
