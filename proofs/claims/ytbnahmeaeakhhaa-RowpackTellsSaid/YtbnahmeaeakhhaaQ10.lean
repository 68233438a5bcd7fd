/- rowpack.Read: what is read, in plain Lean. -/
import Derived.Test.YtbnahmeaeakhhaaQ8
namespace Go.Proofs.Ytbnahmeaeakhhaa.B
set_option linter.unusedVariables false
set_option linter.unusedSimpArgs false
open Go Go.RowKit Go.Proofs.Ytbnahmeaeakhhaa.Q

theorem NxL.ff : ∀ {ys l l' : List Int} {ok' : Bool}, NxL l false ys l' ok' → ok' = false ∧ l' = l
  | [], l, l', ok', h => ⟨h.2, h.1⟩
  | y :: ys, l, l', ok', ⟨l1, ok1, h1, h2⟩ => by
    simp only [Nx, if_neg (show ¬ (false = true) by decide)] at h1
    obtain ⟨_, rfl, rfl⟩ := h1; exact h2.ff
theorem bytesF_cons (x : Int) (xs : List Int) : bytesF (x :: xs) = encN (x + 1).toNat ++ bytesF xs := by simp [bytesF]
theorem nxl_enc : ∀ (xs ys : List Int) (rest l' : List Int) (ok' : Bool), InR xs → ys.length = xs.length → NxL (bytesF xs ++ rest) true ys l' ok' → ys = xs ∧ l' = rest ∧ ok' = true
  | [], [], rest, l', ok', _, _, h => by simp only [NxL, bytesF, List.map_nil, List.flatten_nil, List.nil_append] at h; exact ⟨rfl, h.1, h.2⟩
  | x :: xs, y :: ys, rest, l', ok', hr, hl, h => by
    obtain ⟨l1, ok1, h1, h2⟩ := h
    have hx := hr x (by simp)
    have e := decGo_enc (x + 1).toNat (x + 1).toNat 0 0 (bytesF xs ++ rest) (Nat.le_refl _) (by simp only [Nat.pow_zero]; omega) (by omega) (by omega)
    rw [bytesF_cons, List.append_assoc] at h1
    simp only [Nx, if_true, e, Nat.pow_zero, Nat.mul_one, Nat.zero_add] at h1
    obtain ⟨rfl, rfl, h3⟩ := h1
    have hv : (x + 1).toNat ≤ 9223372036854775808 := by omega
    rw [decide_eq_true hv] at h2
    obtain ⟨e1, e2, e3⟩ := nxl_enc xs ys rest l' ok' (fun a ha => hr a (by simp [ha])) (by simpa using hl) h2
    exact ⟨by rw [h3 hv, e1]; congr 1; omega, e2, e3⟩
theorem nxl_back : ∀ (ys l l' : List Int), InB l → NxL l true ys l' true → l = bytesF ys ++ l' ∧ InR ys
  | [], l, l', _, h => by obtain ⟨h, _⟩ := h; subst h; exact ⟨by simp [bytesF], by intro a ha; cases ha⟩
  | y :: ys, l, l', hb, h => by
    obtain ⟨l1, ok1, h1, h2⟩ := h
    cases ok1 with
    | false => exact absurd h2.ff.1 (by decide)
    | true =>
      have hb1 := h1.inB hb
      have ih := nxl_back ys l1 l' hb1 h2
      simp only [Nx, if_true] at h1
      cases hd : decGo 0 0 l with
      | none => rw [hd] at h1; exact absurd h1.2.2 (by decide)
      | some vr =>
        obtain ⟨v, r⟩ := vr
        rw [hd] at h1; dsimp only at h1
        obtain ⟨rfl, h3, h4⟩ := h1
        have hv := of_decide_eq_true h3.symm
        have hy := h4 hv
        obtain ⟨m, hm, he, _⟩ := decGo_some l 0 0 v l1 hb hd
        have hm' : v = m := by simpa using hm
        have hyv : (y + 1).toNat = m := by omega
        refine ⟨by rw [he, bytesF_cons, List.append_assoc, ← ih.1, hyv], ?_⟩
        intro a ha
        rcases List.mem_cons.1 ha with rfl | ha
        · omega
        · exact ih.2 a ha
end Go.Proofs.Ytbnahmeaeakhhaa.B
