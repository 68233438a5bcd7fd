/- Tables as bytes, and back: plain. No program is in sight here. -/
import Derived.Test.YtbnahmeaeakhhaaQ2
namespace Go.Proofs.Ytbnahmeaeakhhaa.Q
set_option linter.unusedVariables false
set_option linter.unusedSimpArgs false
open Go Go.RowKit
/-! ### reading a number -/
/-- the bytes from the i-th on; u is what came before -/
def decGo (i u : Nat) : List Int → Option (Nat × List Int)
  | [] => none
  | x :: b => if 9 < i ∨ (i = 9 ∧ 1 < x) ∨ (0 < i ∧ x = 0) then none
    else if x < 128 then some (u + (x % 128).toNat * 128 ^ i, b) else decGo (i + 1) (u + (x % 128).toNat * 128 ^ i) b
theorem decGo_some (b : List Int) : ∀ (i u v : Nat) (r : List Int), (∀ x ∈ b, 0 ≤ x ∧ x < 256) → decGo i u b = some (v, r) → ∃ m, v = u + m * 128 ^ i ∧ b = encN m ++ r ∧ (0 < i → 0 < m) := by
  induction b with
  | nil => intro i u v r _ h; simp [decGo] at h
  | cons x b ih =>
    intro i u v r hb h
    obtain ⟨x0, x1⟩ := hb x (by simp)
    simp only [decGo] at h
    split at h
    · cases h
    · rename_i hg
      split at h
      · rename_i hx
        simp only [Option.some.injEq, Prod.mk.injEq] at h
        obtain ⟨rfl, rfl⟩ := h
        have e : (x % 128).toNat = x.toNat := by omega
        refine ⟨x.toNat, by rw [e], ?_, fun hi => by omega⟩
        rw [encN_small (by omega)]
        simp; omega
      · rename_i hx
        obtain ⟨m, h1, h2, h3⟩ := ih (i + 1) _ v r (fun y hy => hb y (by simp [hy])) h
        have hm := h3 (by omega)
        refine ⟨(x % 128).toNat + 128 * m, ?_, ?_, fun _ => by omega⟩
        · rw [h1, Nat.pow_succ, Nat.add_mul]
          have : 128 * m * 128 ^ i = m * (128 ^ i * 128) := by rw [Nat.mul_comm (128 ^ i) 128, ← Nat.mul_assoc, Nat.mul_comm 128 m]
          omega
        · rw [encN_big (by omega), show ((x % 128).toNat + 128 * m) / 128 = m by omega, h2]
          have : ((((x % 128).toNat + 128 * m) % 128 : Nat) : Int) + 128 = x := by omega
          rw [this]; rfl
theorem decGo_enc (n : Nat) : ∀ (m i u : Nat) (r : List Int), m ≤ n → m * 128 ^ i ≤ 9223372036854775808 → (0 < i → 0 < m) → i ≤ 9 → decGo i u (encN m ++ r) = some (u + m * 128 ^ i, r) := by
  induction n using Nat.strongRecOn with
  | ind n ih =>
  intro m i u r hm hb hp hi
  have h9 : i = 9 → m ≤ 1 := fun e => by
    subst e
    have : (128 : Nat) ^ 9 = 9223372036854775808 := by decide
    omega
  by_cases hs : m < 128
  · rw [encN_small hs]
    simp only [List.cons_append, List.nil_append, decGo]
    rw [if_neg (by
      rintro (h | h | h)
      · omega
      · have := h9 h.1; omega
      · have := hp h.1; omega), if_pos (by omega)]
    have : ((m : Int) % 128).toNat = m := by omega
    rw [this]
  · have h8 : i ≠ 9 := fun e => by have := h9 e; omega
    rw [encN_big hs]
    simp only [List.cons_append, decGo]
    rw [if_neg (by rintro (h | h | h) <;> omega), if_neg (by omega)]
    have e1 : (((((m % 128 : Nat) : Int) + 128) % 128)).toNat = m % 128 := by omega
    have e2 : m / 128 * 128 ^ (i + 1) + m % 128 * 128 ^ i = m * 128 ^ i := by
      rw [Nat.pow_succ, Nat.mul_comm (128 ^ i) 128, ← Nat.mul_assoc, ← Nat.add_mul]
      congr 1
      omega
    rw [e1, ih (m / 128) (by omega) (m / 128) (i + 1) _ r (Nat.le_refl _) (by omega) (by omega) (by omega)]
    simp only [Option.some.injEq, Prod.mk.injEq, and_true]
    omega
end Go.Proofs.Ytbnahmeaeakhhaa.Q
