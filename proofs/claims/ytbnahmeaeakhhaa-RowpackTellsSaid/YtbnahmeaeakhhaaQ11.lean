/- rowpack.Read: the plain law. -/
import Derived.Test.YtbnahmeaeakhhaaQ9
import Derived.Test.YtbnahmeaeakhhaaQ10
namespace Go.Proofs.Ytbnahmeaeakhhaa.B
set_option linter.unusedVariables false
set_option linter.unusedSimpArgs false
open Go Go.RowKit Go.Proofs.Ytbnahmeaeakhhaa.Q

theorem NxL.split : ∀ {xs ys l l' : List Int} {ok ok' : Bool}, NxL l ok (xs ++ ys) l' ok' → ∃ l1 ok1, NxL l ok xs l1 ok1 ∧ NxL l1 ok1 ys l' ok'
  | [], ys, l, l', ok, ok', h => ⟨l, ok, ⟨rfl, rfl⟩, h⟩
  | x :: xs, ys, l, l', ok, ok', ⟨l3, ok3, h1, h2⟩ => by obtain ⟨l1, ok1, h3, h4⟩ := NxL.split h2; exact ⟨l1, ok1, ⟨l3, ok3, h1, h3⟩, h4⟩
theorem tabErr_two (st cols : Int) (acc base own nxt : List Int) (h : 200 < base.length ∨ 3200 < own.length) : tabErr st cols acc base own nxt = 2 := by
  unfold tabErr; rw [if_pos (by rcases h with h | h; exact Or.inl h; exact Or.inr (Or.inr h))]
theorem tabErr_len (st cols : Int) (acc base own nxt : List Int) (h : tabErr st cols acc base own nxt = 0) : base.length ≤ 200 ∧ own.length ≤ 3200 ∧ acc.length = base.length ∧ own.length = nxt.length := by
  unfold tabErr at h
  split at h
  · cases h
  · next h1 =>
    split at h
    · cases h
    · next h2 => exact ⟨by omega, by omega, by omega, by omega⟩
/-- where Read is ok: the bytes are the table's -/
theorem readR_ok {l : List Int} {err : Int} {T : Tab} (h : ReadR l err T) (hb : InB l) (he : err = 0) : tabErr T.st T.cols T.acc T.base T.own T.nxt = 0 ∧ l = bytesF (numsF T.st T.cols T.acc T.base T.own T.nxt) ∧ InR (numsF T.st T.cols T.acc T.base T.own T.nxt) := by
  subst he
  obtain ⟨st, cols, n, slots, l1, ok1, h1, h2⟩ := h
  split at h2
  · exact absurd h2.1 (by decide)
  · next g1 =>
    split at h2
    · exact absurd h2.1 (by decide)
    · obtain ⟨a, b, o, x, l2, ok2, ha, hb', ho, hx, h3, h4⟩ := h2
      split at h4
      · exact absurd h4.1 (by decide)
      · next g2 =>
        split at h4
        · next g3 => exact absurd h4.1.symm g3
        · next g3 =>
          obtain ⟨_, rfl⟩ := h4
          have ok2t : ok2 = true := by cases ok2; exact absurd (Or.inl rfl) g2; rfl
          have l2n : l2 = [] := Classical.byContradiction fun e => g2 (Or.inr e)
          subst ok2t; subst l2n; subst hb'; subst ho
          have hh := nxl_back _ _ _ hb (h1.app h3)
          have e : [st, cols, (b.length : Int), (o.length : Int)] ++ (a ++ b ++ o ++ x) = numsF st cols a b o x := by simp [numsF]
          rw [e, List.append_nil] at hh
          exact ⟨Classical.byContradiction g3, hh.1, hh.2⟩
/-- where it is not, the table is nothing -/
theorem readR_err {l : List Int} {err : Int} {T : Tab} (h : ReadR l err T) (he : err ≠ 0) : T = zeroTab := by
  obtain ⟨st, cols, n, slots, l1, ok1, h1, h2⟩ := h
  split at h2
  · exact h2.2
  · split at h2
    · exact h2.2
    · obtain ⟨a, b, o, x, l2, ok2, ha, hb', ho, hx, h3, h4⟩ := h2
      split at h4
      · exact h4.2
      · split at h4
        · exact h4.2
        · exact absurd h4.1 he
/-- a table's own bytes read back as the table -/
theorem readR_back {err : Int} {T : Tab} {st cols : Int} {acc base own nxt : List Int} (h0 : tabErr st cols acc base own nxt = 0) (hr : InR (numsF st cols acc base own nxt)) (h : ReadR (bytesF (numsF st cols acc base own nxt)) err T) : err = 0 ∧ T = ⟨st, cols, acc, base, own, nxt⟩ := by
  obtain ⟨k1, k2, k3, k4⟩ := tabErr_len _ _ _ _ _ _ h0
  obtain ⟨st', cols', n, slots, l1, ok1, h1, h2⟩ := h
  have e : numsF st cols acc base own nxt = [st, cols, (base.length : Int), (own.length : Int)] ++ (acc ++ base ++ own ++ nxt) := by simp [numsF]
  rw [e] at h1 hr
  have hr1 : InR [st, cols, (base.length : Int), (own.length : Int)] := fun a ha => hr a (List.mem_append_left _ ha)
  have hr2 : InR (acc ++ base ++ own ++ nxt) := fun a ha => hr a (List.mem_append_right _ ha)
  rw [show bytesF ([st, cols, (base.length : Int), (own.length : Int)] ++ (acc ++ base ++ own ++ nxt)) = bytesF [st, cols, (base.length : Int), (own.length : Int)] ++ bytesF (acc ++ base ++ own ++ nxt) by simp only [bytesF, List.map_append, List.flatten_append]] at h1
  obtain ⟨e1, rfl, rfl⟩ := nxl_enc _ [st', cols', n, slots] _ _ _ hr1 rfl h1
  simp only [List.cons.injEq, and_true] at e1
  obtain ⟨rfl, rfl, rfl, rfl⟩ := e1
  rw [if_neg (by rintro (h | h | h); cases h; omega; omega), if_neg (by omega)] at h2
  obtain ⟨a, b, o, x, l2, ok2, ha, hb', ho, hx, h3, h4⟩ := h2
  have h3' : NxL (bytesF (acc ++ base ++ own ++ nxt) ++ []) true (a ++ b ++ o ++ x) l2 ok2 := by rw [List.append_nil]; exact h3
  obtain ⟨e1, rfl, rfl⟩ := nxl_enc _ _ _ _ _ hr2 (by simp only [List.length_append]; omega) h3'
  have hl4 : (a ++ b ++ o).length = (acc ++ base ++ own).length := by simp only [List.length_append]; omega
  have hl3 : (a ++ b).length = (acc ++ base).length := by simp only [List.length_append]; omega
  obtain ⟨e1, e5⟩ := List.append_inj e1 hl4
  obtain ⟨e1, e6⟩ := List.append_inj e1 hl3
  obtain ⟨e1, e7⟩ := List.append_inj e1 (by omega)
  clear h3 h3' hl4 hl3 ha hb' ho hx h1 e hr hr1 hr2
  subst e1; subst e5; subst e6; subst e7
  rw [if_neg (by rintro (h | h); cases h; exact h rfl), if_neg (fun h => h h0)] at h4
  exact h4
end Go.Proofs.Ytbnahmeaeakhhaa.B
