/- A stable sort, in plain Lean: the states of its loops. No program is in sight here. -/
import Derived.Test.YtbnahmeaeakhhaaS1
namespace Go.Proofs.Ytbnahmeaeakhhaa.S
set_option linter.unusedVariables false
set_option linter.unusedSimpArgs false
open Go

/-- x on its way through M: k elements of M stand ahead of it -/
def shR (pre M : List Int) (x : Int) (rest : List Int) (k : Nat) : List Int := pre ++ (M.take k ++ x :: (M.drop k ++ rest))
theorem shR_length (pre M : List Int) (x : Int) (rest : List Int) (k : Nat) : (shR pre M x rest k).length = pre.length + M.length + 1 + rest.length := by
  have : (M.take k).length + (M.drop k).length = M.length := by rw [← List.length_append, List.take_append_drop]
  simp only [shR, List.length_append, List.length_cons]; omega
theorem shR_zero (pre M : List Int) (x : Int) (rest : List Int) : shR pre M x rest 0 = pre ++ (x :: M) ++ rest := by simp [shR]
theorem shR_all (pre M : List Int) (x : Int) (rest : List Int) : shR pre M x rest M.length = pre ++ (M ++ [x]) ++ rest := by simp [shR]
theorem shR_at (pre M : List Int) (x : Int) (rest : List Int) (k : Nat) (h : k ≤ M.length) : at0 (shR pre M x rest k) (pre.length + k) = x := by
  have h1 : (M.take k).length = k := by simp; omega
  have := at0_mid (pre ++ M.take k) (M.drop k ++ rest) x
  rw [List.length_append, h1, List.append_assoc] at this
  exact this
theorem take_get (M : List Int) (k : Nat) (h : k < M.length) : M.take (k + 1) = M.take k ++ [at0 M k] := by
  rw [List.take_succ_eq_append_getElem h, at0_get _ _ h]
theorem drop_get (M : List Int) (k : Nat) (h : k < M.length) : M.drop k = at0 M k :: M.drop (k + 1) := by
  rw [List.drop_eq_getElem_cons h, at0_get _ _ h]
theorem shR_ahead (pre M : List Int) (x : Int) (rest : List Int) (k : Nat) (h : k < M.length) : at0 (shR pre M x rest (k + 1)) (pre.length + k) = at0 M k := by
  have h1 : (M.take k).length = k := by simp; omega
  have := at0_mid (pre ++ M.take k) (x :: (M.drop (k + 1) ++ rest)) (at0 M k)
  rw [List.length_append, h1] at this
  unfold shR
  rw [take_get M k h]
  simpa [List.append_assoc] using this
theorem shR_next (pre M : List Int) (x : Int) (rest : List Int) (k : Nat) (h : k < M.length) : swp (shR pre M x rest k) (pre.length + k) (pre.length + k + 1) = shR pre M x rest (k + 1) := by
  have h1 : (M.take k).length = k := by simp; omega
  have := swp_adj' (pre ++ M.take k) (M.drop (k + 1) ++ rest) x (at0 M k)
  rw [List.length_append, h1] at this
  unfold shR
  rw [take_get M k h, drop_get M k h]
  simpa [List.append_assoc] using this
theorem shR_back (pre M : List Int) (x : Int) (rest : List Int) (k : Nat) (h : k < M.length) : swp (shR pre M x rest (k + 1)) (pre.length + k + 1) (pre.length + k) = shR pre M x rest k := by
  have h1 : (M.take k).length = k := by simp; omega
  have := swp_adj (pre ++ M.take k) (M.drop (k + 1) ++ rest) (at0 M k) x
  rw [List.length_append, h1] at this
  unfold shR
  rw [take_get M k h, drop_get M k h]
  simpa [List.append_assoc] using this

theorem take_last {M : List Int} {k : Nat} {y : Int} (hk : k ≤ M.length) (h : (M.take k).getLast? = some y) : k ≠ 0 ∧ y = at0 M (k - 1) := by
  cases k with
  | zero => simp at h
  | succ k => rw [take_get M k (by omega)] at h; simp at h; exact ⟨by omega, h.symm⟩
theorem drop_head {M : List Int} {k : Nat} {y : Int} (h : (M.drop k).head? = some y) : k < M.length ∧ y = at0 M k := by
  by_cases hk : k < M.length
  · rw [drop_get M k hk] at h; simp at h; exact ⟨hk, h.symm⟩
  · rw [List.drop_of_length_le (by omega)] at h; cases h

theorem sorted_le {K : Int → Int} {M : List Int} (h : Srt K M) {i j : Nat} (hij : i ≤ j) (hj : j < M.length) : K (at0 M j) ≤ K (at0 M i) := by
  rcases Nat.lt_or_ge i j with hlt | hge
  · have := List.pairwise_iff_getElem.1 h i j (by omega) hj hlt
    rw [at0_get _ _ hj, at0_get _ _ (by omega)]
    unfold R at this; omega
  · obtain rfl : i = j := by omega
    omega
theorem mem_take_at {M : List Int} {k : Nat} {y : Int} (h : y ∈ M.take k) : ∃ i, i < k ∧ i < M.length ∧ y = at0 M i := by
  obtain ⟨i, hi, e⟩ := List.getElem_of_mem h
  simp only [List.length_take] at hi
  refine ⟨i, by omega, by omega, ?_⟩
  rw [at0_get _ _ (by omega)]; simp at e; exact e.symm
theorem mem_drop_at {M : List Int} {k : Nat} {y : Int} (h : y ∈ M.drop k) : ∃ i, k ≤ i ∧ i < M.length ∧ y = at0 M i := by
  obtain ⟨i, hi, e⟩ := List.getElem_of_mem h
  simp at hi
  refine ⟨k + i, by omega, by omega, ?_⟩
  rw [at0_get _ _ (by omega)]; simp at e; exact e.symm

/-- one element of the left: the end -/
theorem left_one {K : Int → Int} {x : Int} {M : List Int} {k : Nat} (hs : Srt K M) (hx : ∀ y ∈ M, x < y) (hk : k ≤ M.length) (h1 : k = 0 ∨ K x < K (at0 M (k - 1))) (h2 : k = M.length ∨ ¬ K x < K (at0 M k)) :
    Srt K (M.take k ++ x :: M.drop k) ∧ (M.take k ++ x :: M.drop k).Perm ([x] ++ M) := by
  refine ⟨one_left (by rw [List.take_append_drop]; exact hs) (fun y hy => ?_) (fun y hy => ?_) (by rw [List.take_append_drop]; exact hx), ?_⟩
  · obtain ⟨i, hi, hl, rfl⟩ := mem_take_at hy
    have := sorted_le hs (show i ≤ k - 1 by omega) (by omega)
    rcases h1 with h1 | h1 <;> omega
  · obtain ⟨hl, rfl⟩ := drop_head hy
    rcases h2 with h2 | h2
    · omega
    · exact h2
  · refine List.perm_middle.trans ?_
    rw [List.take_append_drop]; simp
/-- one element of the right: the end -/
theorem right_one {K : Int → Int} {x : Int} {L : List Int} {k : Nat} (hs : Srt K L) (hx : ∀ y ∈ L, y < x) (hk : k ≤ L.length) (h1 : k = 0 ∨ ¬ K (at0 L (k - 1)) < K x) (h2 : k = L.length ∨ K (at0 L k) < K x) :
    Srt K (L.take k ++ x :: L.drop k) ∧ (L.take k ++ x :: L.drop k).Perm (L ++ [x]) := by
  refine ⟨one_right (by rw [List.take_append_drop]; exact hs) (fun y hy => ?_) (fun y hy => ?_) (by rw [List.take_append_drop]; exact hx), ?_⟩
  · obtain ⟨i, hi, hl, rfl⟩ := mem_drop_at hy
    have := sorted_le hs hi hl
    rcases h2 with h2 | h2 <;> omega
  · obtain ⟨h0, rfl⟩ := take_last hk hy
    rcases h1 with h1 | h1
    · exact absurd h1 h0
    · exact h1
  · refine List.perm_middle.trans ?_
    rw [List.take_append_drop]
    exact List.perm_append_comm (l₁ := [x])

/-- the exchange of the middle: s elements of L and t of M stay ahead -/
theorem sym_cross {K : Int → Int} {L M : List Int} {s t : Nat} (hL : Srt K L) (hM : Srt K M) (hlt : ∀ x ∈ L, ∀ y ∈ M, x < y) (hs : s ≤ L.length) (ht : t ≤ M.length)
    (h1 : s = 0 ∨ t = M.length ∨ ¬ K (at0 L (s - 1)) < K (at0 M t)) (h2 : s = L.length ∨ t = 0 ∨ K (at0 L s) < K (at0 M (t - 1))) :
    ∀ x ∈ L.take s ++ M.take t, ∀ y ∈ L.drop s ++ M.drop t, R K x y := by
  refine sorted_cross (by rw [List.take_append_drop]; exact hL) (by rw [List.take_append_drop]; exact hM) (fun x hx y hy => ?_) (fun x hx y hy => ?_)
  · obtain ⟨g0, rfl⟩ := take_last hs hx
    obtain ⟨g1, rfl⟩ := drop_head hy
    rcases h1 with h1 | h1 | h1
    · exact absurd h1 g0
    · omega
    · exact R.of_le h1 (hlt _ (at0_mem _ _ (by omega)) _ (at0_mem _ _ g1))
  · obtain ⟨g0, rfl⟩ := take_last ht hx
    obtain ⟨g1, rfl⟩ := drop_head hy
    rcases h2 with h2 | h2 | h2
    · omega
    · exact absurd h2 g0
    · exact R.of_gt h2
theorem sub_srt {K : Int → Int} {L : List Int} (h : Srt K L) (k : Nat) : Srt K (L.take k) ∧ Srt K (L.drop k) := ⟨List.Pairwise.sublist (List.take_sublist _ _) h, List.Pairwise.sublist (List.drop_sublist _ _) h⟩

/-! ### exchanging blocks -/
/-- the first k elements of two blocks exchanged -/
def swR (pre A M B post : List Int) (k : Nat) : List Int := pre ++ ((B.take k ++ A.drop k) ++ (M ++ ((A.take k ++ B.drop k) ++ post)))
theorem swR_zero (pre A M B post : List Int) : swR pre A M B post 0 = pre ++ (A ++ (M ++ (B ++ post))) := by simp [swR]
theorem swR_all {A B : List Int} {n : Nat} (pre M post : List Int) (ha : A.length = n) (hb : B.length = n) : swR pre A M B post n = pre ++ (B ++ (M ++ (A ++ post))) := by
  unfold swR; rw [← ha, List.take_length, List.drop_length, ha, ← hb, List.take_length, List.drop_length]; simp
theorem swR_length {A B : List Int} {n : Nat} (pre M post : List Int) (ha : A.length = n) (hb : B.length = n) (k : Nat) : (swR pre A M B post k).length = pre.length + n + M.length + n + post.length := by
  have h1 : (A.take k).length + (A.drop k).length = A.length := by rw [← List.length_append, List.take_append_drop]
  have h2 : (B.take k).length + (B.drop k).length = B.length := by rw [← List.length_append, List.take_append_drop]
  simp only [swR, List.length_append]; omega
theorem swR_next {A B : List Int} {n : Nat} (pre M post : List Int) (ha : A.length = n) (hb : B.length = n) (k : Nat) (h : k < n) :
    swp (swR pre A M B post k) (pre.length + k) (pre.length + n + M.length + k) = swR pre A M B post (k + 1) := by
  have e1 : (A.take k).length = k := by simp; omega
  have e2 : (B.take k).length = k := by simp; omega
  have e3 : (A.drop (k + 1)).length = n - (k + 1) := by simp; omega
  have := swp_mid (pre ++ B.take k) (A.drop (k + 1) ++ (M ++ A.take k)) (B.drop (k + 1) ++ post) (at0 A k) (at0 B k)
  simp only [List.length_append, e1, e2, e3] at this
  rw [show pre.length + k + 1 + (n - (k + 1) + (M.length + k)) = pre.length + n + M.length + k by omega] at this
  unfold swR
  rw [take_get A k (by omega), take_get B k (by omega), drop_get A k (by omega), drop_get B k (by omega)]
  simpa [List.append_assoc] using this
end Go.Proofs.Ytbnahmeaeakhhaa.S
