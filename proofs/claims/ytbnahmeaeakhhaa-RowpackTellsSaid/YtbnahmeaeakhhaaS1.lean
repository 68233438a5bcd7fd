/- A stable sort, in plain Lean: an order by falling keys, equals as they stood. No program is in sight here. -/
import Derived.IntWalk
namespace Go.Proofs.Ytbnahmeaeakhhaa.S
set_option linter.unusedVariables false
set_option linter.unusedSimpArgs false
open Go

/-- x stands ahead of y -/
def R (K : Int → Int) (x y : Int) : Prop := K y < K x ∨ (K x = K y ∧ x < y)
theorem R.trans {K : Int → Int} {x y z : Int} (h : R K x y) (k : R K y z) : R K x z := by unfold R at *; omega
theorem R.of_gt {K : Int → Int} {x y : Int} (h : K y < K x) : R K x y := Or.inl h
theorem R.of_le {K : Int → Int} {x y : Int} (h : ¬ K x < K y) (hl : x < y) : R K x y := by unfold R; omega
abbrev Srt (K : Int → Int) (l : List Int) : Prop := l.Pairwise (R K)
abbrev Inc (l : List Int) : Prop := l.Pairwise (· < ·)

def at0 (xs : List Int) (i : Nat) : Int := xs.getD i 0
theorem at0_mid (a b : List Int) (x : Int) : at0 (a ++ x :: b) a.length = x := by simp [at0, List.getD_eq_getElem?_getD]
theorem at0_app (a b : List Int) (i : Nat) : at0 (a ++ b) (a.length + i) = at0 b i := by simp [at0, List.getD_eq_getElem?_getD, List.getElem?_append_right]
theorem at0_left (a b : List Int) (i : Nat) (h : i < a.length) : at0 (a ++ b) i = at0 a i := by simp [at0, List.getD_eq_getElem?_getD, List.getElem?_append_left h]
theorem at0_mem (a : List Int) (i : Nat) (h : i < a.length) : at0 a i ∈ a := by
  simp only [at0, List.getD_eq_getElem?_getD, List.getElem?_eq_getElem h, Option.getD_some]; exact List.getElem_mem h
theorem at0_get (a : List Int) (i : Nat) (h : i < a.length) : at0 a i = a[i] := by simp [at0, List.getD_eq_getElem?_getD, List.getElem?_eq_getElem h]

/-- two elements exchanged -/
def swp (xs : List Int) (i j : Nat) : List Int := (xs.set i (at0 xs j)).set j (at0 xs i)
theorem swp_length (xs : List Int) (i j : Nat) : (swp xs i j).length = xs.length := by simp [swp]
theorem swp_mid (a m b : List Int) (x y : Int) : swp (a ++ x :: (m ++ y :: b)) a.length (a.length + 1 + m.length) = a ++ y :: (m ++ x :: b) := by
  have e1 : at0 (a ++ x :: (m ++ y :: b)) a.length = x := at0_mid _ _ _
  have e2 : at0 (a ++ x :: (m ++ y :: b)) (a.length + 1 + m.length) = y := by
    have := at0_mid (a ++ x :: m) b y
    simp only [List.append_assoc, List.cons_append, List.length_append, List.length_cons] at this
    rw [show a.length + 1 + m.length = a.length + (m.length + 1) by omega]; exact this
  unfold swp
  rw [e1, e2]
  apply List.ext_getElem? 
  intro i
  simp only [List.getElem?_set, List.length_set, List.length_append, List.length_cons, List.getElem?_append, List.getElem?_cons]
  by_cases h1 : i < a.length
  · simp [h1, show ¬ a.length = i by omega, show ¬ a.length + 1 + m.length = i by omega]
  · by_cases h2 : i = a.length
    · subst h2; simp; intro h; omega
    · by_cases h3 : i < a.length + 1 + m.length
      · simp [h1, show ¬ a.length = i by omega, show ¬ a.length + 1 + m.length = i by omega, show ¬ i - a.length = 0 by omega, show i - a.length - 1 < m.length by omega]
      · by_cases h4 : i = a.length + 1 + m.length
        · subst h4; simp [show ¬ a.length + 1 + m.length < a.length by omega, show a.length + 1 + m.length - a.length - 1 - m.length = 0 by omega, show ¬ (a.length + 1 + m.length - a.length - 1 < m.length) by omega, show ¬ a.length + 1 + m.length - a.length = 0 by omega]; omega
        · simp [h1, show ¬ a.length = i by omega, show ¬ a.length + 1 + m.length = i by omega, show ¬ i - a.length = 0 by omega, show ¬ i - a.length - 1 < m.length by omega, show ¬ i - a.length - 1 - m.length = 0 by omega]
/-- exchanged with the element ahead -/
theorem swp_adj (a b : List Int) (x y : Int) : swp (a ++ x :: y :: b) (a.length + 1) a.length = a ++ y :: x :: b := by
  have h := swp_mid a [] b x y
  simp only [List.nil_append, List.length_nil, Nat.add_zero] at h
  rw [← h]
  unfold swp
  rw [List.set_comm _ _ (by omega)]
theorem swp_adj' (a b : List Int) (x y : Int) : swp (a ++ x :: y :: b) a.length (a.length + 1) = a ++ y :: x :: b := by
  have h := swp_mid a [] b x y
  simpa using h

/-! ### insertion -/
/-- where the new element has come to its place -/
theorem ins_done {K : Int → Int} {P Q : List Int} {x : Int} (hs : Srt K (P ++ Q)) (hx : ∀ p ∈ P, p < x) (hQ : ∀ q ∈ Q, K q < K x) (hP : ∀ p, P.getLast? = some p → ¬ K p < K x) : Srt K (P ++ x :: Q) := by
  rw [Srt, List.pairwise_append] at hs ⊢
  obtain ⟨h1, h2, h3⟩ := hs
  refine ⟨h1, List.pairwise_cons.2 ⟨fun q hq => R.of_gt (hQ q hq), h2⟩, fun p hp y hy => ?_⟩
  rcases List.mem_cons.1 hy with rfl | hy
  · rcases List.eq_nil_or_concat P with e | ⟨P', l, e⟩
    · subst e; cases hp
    · subst e
      simp only [List.concat_eq_append] at *
      have hl := hP l (by simp)
      have hr : R K l y := R.of_le hl (hx l (by simp))
      rcases List.mem_append.1 hp with hp | hp
      · exact ((List.pairwise_append.1 h1).2.2 p hp l (by simp)).trans hr
      · simp at hp; subst hp; exact hr
  · exact h3 p hp y hy

/-! ### merging two sorted halves by an exchange of their middle -/
theorem sorted_cross {K : Int → Int} {A B C D : List Int} (h1 : Srt K (A ++ B)) (h2 : Srt K (C ++ D))
    (hx : ∀ x, A.getLast? = some x → ∀ y, D.head? = some y → R K x y) (hy : ∀ x, C.getLast? = some x → ∀ y, B.head? = some y → R K x y) :
    ∀ x ∈ A ++ C, ∀ y ∈ B ++ D, R K x y := by
  obtain ⟨a1, b1, ab⟩ := List.pairwise_append.1 h1
  obtain ⟨c1, d1, cd⟩ := List.pairwise_append.1 h2
  have last : ∀ {l : List Int}, Srt K l → ∀ x ∈ l, ∃ z, l.getLast? = some z ∧ (x = z ∨ R K x z) := by
    intro l hl x hxl
    rcases List.eq_nil_or_concat l with e | ⟨l', z, e⟩
    · subst e; cases hxl
    · subst e
      simp only [List.concat_eq_append] at *
      refine ⟨z, by simp, ?_⟩
      rcases List.mem_append.1 hxl with h | h
      · exact Or.inr ((List.pairwise_append.1 hl).2.2 x h z (by simp))
      · simp at h; exact Or.inl h
  have head : ∀ {l : List Int}, Srt K l → ∀ x ∈ l, ∃ z, l.head? = some z ∧ (x = z ∨ R K z x) := by
    intro l hl x hxl
    cases l with
    | nil => cases hxl
    | cons z l =>
      refine ⟨z, rfl, ?_⟩
      rcases List.mem_cons.1 hxl with h | h
      · exact Or.inl h
      · exact Or.inr ((List.pairwise_cons.1 hl).1 x h)
  have tr : ∀ {A D : List Int}, Srt K A → Srt K D → (∀ x, A.getLast? = some x → ∀ y, D.head? = some y → R K x y) → ∀ x ∈ A, ∀ y ∈ D, R K x y := by
    intro A D ha hd h x hx y hy
    obtain ⟨z, e1, h1⟩ := last ha x hx
    obtain ⟨u, e2, h2⟩ := head hd y hy
    have h3 := h z e1 u e2
    rcases h1 with rfl | h1 <;> rcases h2 with rfl | h2
    · exact h3
    · exact h3.trans h2
    · exact h1.trans h3
    · exact (h1.trans h3).trans h2
  intro x hx' y hy'
  rcases List.mem_append.1 hx' with h | h <;> rcases List.mem_append.1 hy' with g | g
  · exact ab x h y g
  · exact tr a1 d1 hx x h y g
  · exact tr c1 b1 hy x h y g
  · exact cd x h y g
theorem sorted_join {K : Int → Int} {X Y N1 N2 : List Int} (h1 : Srt K N1) (h2 : Srt K N2) (p1 : N1.Perm X) (p2 : N2.Perm Y) (h : ∀ x ∈ X, ∀ y ∈ Y, R K x y) : Srt K (N1 ++ N2) :=
  List.pairwise_append.2 ⟨h1, h2, fun x hx y hy => h x (p1.mem_iff.1 hx) y (p2.mem_iff.1 hy)⟩
theorem perm_mid {A B C D N1 N2 : List Int} (p1 : N1.Perm (A ++ C)) (p2 : N2.Perm (B ++ D)) : (N1 ++ N2).Perm ((A ++ B) ++ (C ++ D)) := by
  refine (p1.append p2).trans ?_
  simp only [List.append_assoc]
  refine List.Perm.append_left A ?_
  rw [← List.append_assoc, ← List.append_assoc]
  exact List.Perm.append_right D List.perm_append_comm

/-- one element of the left brought behind those of the right that stand ahead of it -/
theorem one_left {K : Int → Int} {x : Int} {M1 M2 : List Int} (hs : Srt K (M1 ++ M2)) (h1 : ∀ y ∈ M1, K x < K y) (h2 : ∀ y, M2.head? = some y → ¬ K x < K y) (hx : ∀ y ∈ M1 ++ M2, x < y) : Srt K (M1 ++ x :: M2) := by
  obtain ⟨a1, b1, ab⟩ := List.pairwise_append.1 hs
  refine List.pairwise_append.2 ⟨a1, ?_, fun y hy z hz => ?_⟩
  · cases M2 with
    | nil => simp
    | cons z M2 =>
      have hz := h2 z rfl
      have hr : R K x z := R.of_le hz (hx z (by simp))
      refine List.pairwise_cons.2 ⟨fun y hy => ?_, b1⟩
      rcases List.mem_cons.1 hy with rfl | hy
      · exact hr
      · exact hr.trans ((List.pairwise_cons.1 b1).1 y hy)
  · rcases List.mem_cons.1 hz with rfl | hz
    · exact R.of_gt (h1 y hy)
    · exact ab y hy z hz
/-- one element of the right brought ahead of those of the left that it stands ahead of -/
theorem one_right {K : Int → Int} {x : Int} {L1 L2 : List Int} (hs : Srt K (L1 ++ L2)) (h2 : ∀ y ∈ L2, K y < K x) (h1 : ∀ y, L1.getLast? = some y → ¬ K y < K x) (hx : ∀ y ∈ L1 ++ L2, y < x) : Srt K (L1 ++ x :: L2) :=
  ins_done hs (fun p hp => hx p (by simp [hp])) h2 h1

/-! ### blocks -/
def sl (l u : Nat) (xs : List Int) : List Int := (xs.drop l).take (u - l)
theorem sl_length (l u : Nat) (xs : List Int) : (sl l u xs).length = min (u - l) (xs.length - l) := by simp [sl]
theorem sl_split (xs : List Int) {l m u : Nat} (h1 : l ≤ m) (h2 : m ≤ u) : sl l u xs = sl l m xs ++ sl m u xs := by
  unfold sl
  have : u - l = (m - l) + (u - m) := by omega
  rw [this, List.take_add, List.drop_drop, show l + (m - l) = m by omega]
theorem sl_all (xs : List Int) {u : Nat} (h : xs.length ≤ u) : sl 0 u xs = xs := by
  unfold sl; rw [List.drop_zero, List.take_of_length_le (by omega)]
theorem sl_parts (xs : List Int) {l m u : Nat} (h1 : l ≤ m) (h2 : m ≤ u) (h3 : u ≤ xs.length) : xs = xs.take l ++ (sl l m xs ++ sl m u xs) ++ xs.drop u := by
  rw [← sl_split xs h1 h2]
  unfold sl
  rw [show xs.drop u = (xs.drop l).drop (u - l) by rw [List.drop_drop]; congr 1; omega, List.append_assoc, List.take_append_drop, List.take_append_drop]
theorem sl_empty (xs : List Int) {l u : Nat} (h : xs.length ≤ l) : sl l u xs = [] := by unfold sl; rw [List.drop_of_length_le h]; simp
theorem sl_clip (xs : List Int) {l u : Nat} (h : xs.length ≤ u) : sl l u xs = sl l xs.length xs := by
  unfold sl
  by_cases h1 : l ≤ xs.length
  · rw [List.take_of_length_le (by simp; omega), List.take_of_length_le (by simp)]
  · rw [List.drop_of_length_le (by omega)]; simp
/-- what stands outside of a piece that was laid anew -/
theorem sl_before {pre mid post mid' : List Int} (h : mid'.length = mid.length) {l u : Nat} (hu : u ≤ pre.length) : sl l u (pre ++ mid' ++ post) = sl l u (pre ++ mid ++ post) := by
  unfold sl
  by_cases h1 : l ≤ pre.length
  · simp only [List.append_assoc, List.drop_append_of_le_length h1]
    rw [List.take_append_of_le_length (by simp; omega), List.take_append_of_le_length (by simp; omega)]
  · rw [show u - l = 0 by omega]; simp
theorem sl_behind {pre mid post mid' : List Int} (h : mid'.length = mid.length) {l u : Nat} (hl : pre.length + mid.length ≤ l) : sl l u (pre ++ mid' ++ post) = sl l u (pre ++ mid ++ post) := by
  unfold sl
  congr 1
  have e : ∀ M : List Int, M.length = mid.length → (pre ++ M ++ post).drop l = post.drop (l - (pre.length + mid.length)) := fun M hM => by
    rw [List.drop_append, List.drop_of_length_le (by rw [List.length_append, hM]; exact hl), List.nil_append, List.length_append, hM]
  rw [e _ h, e _ rfl]
theorem sl_mid (pre mid post : List Int) : sl pre.length (pre.length + mid.length) (pre ++ mid ++ post) = mid := by
  unfold sl
  rw [List.append_assoc, List.drop_left, show pre.length + mid.length - pre.length = mid.length by omega, List.take_left]

/-- the piece from l to u is sorted, and has what xs0 has there -/
def Ok (K : Int → Int) (xs0 xs : List Int) (l u : Nat) : Prop := Srt K (sl l u xs) ∧ (sl l u xs).Perm (sl l u xs0)
theorem Ok.keep {K : Int → Int} {xs0 xs xs' : List Int} {l u : Nat} (h : Ok K xs0 xs l u) (e : sl l u xs' = sl l u xs) : Ok K xs0 xs' l u := by unfold Ok at *; rw [e]; exact h
theorem Ok.empty {K : Int → Int} {xs0 xs : List Int} {l u : Nat} (hl : xs.length = xs0.length) (h : xs.length ≤ l) : Ok K xs0 xs l u := by
  unfold Ok; rw [sl_empty xs h, sl_empty xs0 (by omega)]; exact ⟨List.Pairwise.nil, List.Perm.refl _⟩
theorem Ok.clip {K : Int → Int} {xs0 xs : List Int} {l u : Nat} (hl : xs.length = xs0.length) (h : xs.length ≤ u) : Ok K xs0 xs l u ↔ Ok K xs0 xs l xs.length := by
  unfold Ok; rw [sl_clip xs h, sl_clip xs0 (by omega), hl]
theorem Ok.cross {K : Int → Int} {xs0 xs : List Int} {l m u : Nat} (h0 : Inc xs0) (h1 : l ≤ m) (h2 : m ≤ u) (ha : Ok K xs0 xs l m) (hb : Ok K xs0 xs m u) : ∀ x ∈ sl l m xs, ∀ y ∈ sl m u xs, x < y := by
  intro x hx y hy
  have hi : Inc (sl l u xs0) := (List.Pairwise.sublist (List.take_sublist _ _) (List.Pairwise.sublist (List.drop_sublist _ _) h0))
  rw [sl_split xs0 h1 h2] at hi
  exact (List.pairwise_append.1 hi).2.2 x (ha.2.mem_iff.1 hx) y (hb.2.mem_iff.1 hy)
theorem Ok.merged {K : Int → Int} {xs0 xs N : List Int} {l m u : Nat} (h1 : l ≤ m) (h2 : m ≤ u) (h3 : u ≤ xs.length) (hl : xs.length = xs0.length) (ha : Ok K xs0 xs l m) (hb : Ok K xs0 xs m u)
    (hN : N.Perm (sl l m xs ++ sl m u xs)) (hs : Srt K N) : Ok K xs0 (xs.take l ++ N ++ xs.drop u) l u := by
  have hlen : N.length = u - l := by rw [hN.length_eq, List.length_append, sl_length, sl_length]; omega
  have e : sl l u (xs.take l ++ N ++ xs.drop u) = N := by
    have := sl_mid (xs.take l) N (xs.drop u)
    rw [hlen, List.length_take, Nat.min_eq_left (by omega), show l + (u - l) = u by omega] at this
    exact this
  unfold Ok
  rw [e]
  refine ⟨hs, hN.trans ?_⟩
  rw [sl_split xs0 h1 h2]
  exact ha.2.append hb.2
theorem piece_len {xs N : List Int} {l m u : Nat} (h1 : l ≤ m) (h2 : m ≤ u) (h3 : u ≤ xs.length) (hN : N.Perm (sl l m xs ++ sl m u xs)) : N.length = u - l := by
  rw [hN.length_eq, List.length_append, sl_length, sl_length]; omega
theorem piece_before {xs N : List Int} {l m u : Nat} (h1 : l ≤ m) (h2 : m ≤ u) (h3 : u ≤ xs.length) (hN : N.length = u - l) {a b : Nat} (hb : b ≤ l) : sl a b (xs.take l ++ N ++ xs.drop u) = sl a b xs := by
  have e := sl_parts xs h1 h2 h3
  have hl : N.length = (sl l m xs ++ sl m u xs).length := by rw [hN, List.length_append, sl_length, sl_length]; omega
  rw [sl_before hl (by simp; omega), ← e]
theorem piece_behind {xs N : List Int} {l m u : Nat} (h1 : l ≤ m) (h2 : m ≤ u) (h3 : u ≤ xs.length) (hN : N.length = u - l) {a b : Nat} (hb : u ≤ a) : sl a b (xs.take l ++ N ++ xs.drop u) = sl a b xs := by
  have e := sl_parts xs h1 h2 h3
  have hl : N.length = (sl l m xs ++ sl m u xs).length := by rw [hN, List.length_append, sl_length, sl_length]; omega
  rw [sl_behind hl (by rw [← hl, hN]; simp; omega), ← e]
end Go.Proofs.Ytbnahmeaeakhhaa.S
