/- A stable sort, in plain Lean: blocks, and passes that merge them. No program is in sight here. -/
import Derived.Test.YtbnahmeaeakhhaaS2
namespace Go.Proofs.Ytbnahmeaeakhhaa.S
set_option linter.unusedVariables false
set_option linter.unusedSimpArgs false
open Go

theorem dvd_gap {d j a : Nat} (h1 : d ∣ j) (h2 : d ∣ a) (h : j < a) : j + d ≤ a := by
  have h3 : d ∣ a - j := Nat.dvd_sub h2 h1
  have := Nat.le_of_dvd (by omega) h3
  omega
theorem dvd_half {s j : Nat} (h : 2 * s ∣ j) : s ∣ j := Nat.dvd_trans ⟨2, by omega⟩ h

/-- sorted in blocks of s -/
def Blk (K : Int → Int) (xs0 xs : List Int) (s : Nat) : Prop := xs.length = xs0.length ∧ ∀ j, s ∣ j → Ok K xs0 xs j (j + s)
/-- sorted in blocks of 2s up to a, and of s from there on -/
def Pass (K : Int → Int) (xs0 xs : List Int) (s a : Nat) : Prop := xs.length = xs0.length ∧ (∀ j, 2 * s ∣ j → j < a → Ok K xs0 xs j (j + 2 * s)) ∧ (∀ j, s ∣ j → a ≤ j → Ok K xs0 xs j (j + s))
theorem Blk.pass {K : Int → Int} {xs0 xs : List Int} {s : Nat} (h : Blk K xs0 xs s) : Pass K xs0 xs s 0 := ⟨h.1, fun j _ hj => by omega, fun j hd _ => h.2 j hd⟩
theorem Blk.final {K : Int → Int} {xs0 xs : List Int} {s : Nat} (h : Blk K xs0 xs s) (hn : xs.length ≤ s) : Srt K xs ∧ xs.Perm xs0 := by
  have := h.2 0 (Nat.dvd_zero s)
  unfold Ok at this
  rw [Nat.zero_add, sl_all xs hn, sl_all xs0 (by have := h.1; omega)] at this
  exact this
theorem piece_length {xs N : List Int} {l u : Nat} (h2 : l ≤ u) (h3 : u ≤ xs.length) (hN : N.length = u - l) : (xs.take l ++ N ++ xs.drop u).length = xs.length := by
  simp only [List.length_append, List.length_take, List.length_drop, hN]; omega
theorem Pass.step {K : Int → Int} {xs0 xs N : List Int} {s a : Nat} (h0 : Inc xs0) (hs : 0 < s) (h : Pass K xs0 xs s a) (ha : 2 * s ∣ a) (hn : a + 2 * s ≤ xs.length)
    (hN : N.Perm (sl a (a + s) xs ++ sl (a + s) (a + 2 * s) xs)) (hS : Srt K N) : Pass K xs0 (xs.take a ++ N ++ xs.drop (a + 2 * s)) s (a + 2 * s) := by
  have hl := piece_len (by omega) (by omega) hn hN
  refine ⟨by rw [piece_length (by omega) hn hl]; exact h.1, fun j hd hj => ?_, fun j hd hj => ?_⟩
  · rcases Nat.lt_or_ge j a with hlt | hge
    · have := dvd_gap hd ha hlt
      exact (h.2.1 j hd hlt).keep (by
        exact piece_before (m := a + s) (by omega) (by omega) hn hl (by omega))
    · have : j = a := by
        rcases Nat.lt_or_ge a j with g | g
        · have := dvd_gap ha hd g; omega
        · omega
      subst this
      have e1 := h.2.2 j (dvd_half ha) (Nat.le_refl _)
      have e2 := h.2.2 (j + s) (Nat.dvd_add (dvd_half ha) (Nat.dvd_refl s)) (by omega)
      rw [show j + s + s = j + 2 * s by omega] at e2
      exact Ok.merged (by omega) (by omega) hn h.1 e1 e2 hN hS
  · exact (h.2.2 j hd (by omega)).keep (piece_behind (m := a + s) (by omega) (by omega) hn hl hj)
theorem Pass.last {K : Int → Int} {xs0 xs N : List Int} {s a : Nat} (h0 : Inc xs0) (hs : 0 < s) (h : Pass K xs0 xs s a) (ha : 2 * s ∣ a) (hm : a + s < xs.length) (hn : xs.length < a + 2 * s)
    (hN : N.Perm (sl a (a + s) xs ++ sl (a + s) xs.length xs)) (hS : Srt K N) : Blk K xs0 (xs.take a ++ N ++ xs.drop xs.length) (2 * s) := by
  have hl := piece_len (by omega) (by omega) (Nat.le_refl _) hN
  have hL := piece_length (by omega) (Nat.le_refl xs.length) hl
  refine ⟨by rw [hL]; exact h.1, fun j hd => ?_⟩
  rcases Nat.lt_or_ge j a with hlt | hge
  · have := dvd_gap hd ha hlt
    exact (h.2.1 j hd hlt).keep (piece_before (m := a + s) (by omega) (by omega) (Nat.le_refl _) hl (by omega))
  · rcases Nat.lt_or_ge a j with g | g
    · have := dvd_gap ha hd g
      exact Ok.empty (by rw [hL]; exact h.1) (by rw [hL]; omega)
    · obtain rfl : j = a := by omega
      have e1 := h.2.2 j (dvd_half ha) (Nat.le_refl _)
      have e2 := h.2.2 (j + s) (Nat.dvd_add (dvd_half ha) (Nat.dvd_refl s)) (by omega)
      rw [Ok.clip h.1 (by omega)] at e2
      have := Ok.merged (by omega) (by omega) (Nat.le_refl _) h.1 e1 e2 hN hS
      rw [Ok.clip (by rw [hL]; exact h.1) (by rw [hL]; omega), hL]
      exact this
theorem Pass.skip {K : Int → Int} {xs0 xs : List Int} {s a : Nat} (hs : 0 < s) (h : Pass K xs0 xs s a) (ha : 2 * s ∣ a) (hm : xs.length ≤ a + s) : Blk K xs0 xs (2 * s) := by
  refine ⟨h.1, fun j hd => ?_⟩
  rcases Nat.lt_or_ge j a with hlt | hge
  · exact h.2.1 j hd hlt
  · rcases Nat.lt_or_ge a j with g | g
    · have := dvd_gap ha hd g
      exact Ok.empty h.1 (by omega)
    · obtain rfl : j = a := by omega
      have e1 := h.2.2 j (dvd_half ha) (Nat.le_refl _)
      rw [Ok.clip h.1 (by omega)] at e1 ⊢
      exact e1

/-- the first sweep: sorted in blocks of s up to a, and as it was from there on -/
def Beg (K : Int → Int) (xs0 xs : List Int) (s a : Nat) : Prop := xs.length = xs0.length ∧ (∀ j, s ∣ j → j < a → Ok K xs0 xs j (j + s)) ∧ xs.drop a = xs0.drop a
theorem Beg.start (K : Int → Int) (xs0 : List Int) (s : Nat) : Beg K xs0 xs0 s 0 := ⟨rfl, fun j _ h => by omega, rfl⟩
theorem sl_drop {xs ys : List Int} {a l u : Nat} (h : xs.drop a = ys.drop a) (hl : a ≤ l) : sl l u xs = sl l u ys := by
  unfold sl
  have : xs.drop l = ys.drop l := by
    have e := congrArg (List.drop (l - a)) h
    rw [List.drop_drop, List.drop_drop, show a + (l - a) = l by omega] at e; exact e
  rw [this]
theorem Ok.anew {K : Int → Int} {xs0 xs N : List Int} {l u : Nat} (h1 : l ≤ u) (h3 : u ≤ xs.length) (hN : N.Perm (sl l u xs0)) (hl : xs.length = xs0.length) (hs : Srt K N) : Ok K xs0 (xs.take l ++ N ++ xs.drop u) l u := by
  have hlen : N.length = u - l := by rw [hN.length_eq, sl_length]; omega
  have e : sl l u (xs.take l ++ N ++ xs.drop u) = N := by
    have := sl_mid (xs.take l) N (xs.drop u)
    rw [hlen, List.length_take, Nat.min_eq_left (by omega), show l + (u - l) = u by omega] at this
    exact this
  unfold Ok
  rw [e]
  exact ⟨hs, hN⟩
theorem Beg.step {K : Int → Int} {xs0 xs N : List Int} {s a : Nat} (hs : 0 < s) (h : Beg K xs0 xs s a) (ha : s ∣ a) (hn : a + s ≤ xs.length) (hN : N.Perm (sl a (a + s) xs)) (hS : Srt K N) : Beg K xs0 (xs.take a ++ N ++ xs.drop (a + s)) s (a + s) := by
  have hl : N.length = a + s - a := by rw [hN.length_eq, sl_length]; omega
  have hp : N.length = (a + s) - a := by omega
  rw [sl_drop h.2.2 (Nat.le_refl a)] at hN
  refine ⟨by rw [piece_length (by omega) hn hl]; exact h.1, fun j hd hj => ?_, ?_⟩
  · rcases Nat.lt_or_ge j a with hlt | hge
    · have := dvd_gap hd ha hlt
      exact (h.2.1 j hd hlt).keep (piece_before (m := a) (by omega) (by omega) hn hl (by omega))
    · have : j = a := by
        rcases Nat.lt_or_ge a j with g | g
        · have := dvd_gap ha hd g; omega
        · omega
      subst this
      exact Ok.anew (by omega) hn hN h.1 hS
  · have e : (xs.take a ++ N).length = a + s := by simp only [List.length_append, List.length_take, hl]; omega
    rw [List.drop_append, List.drop_of_length_le (by omega), List.nil_append, e, Nat.sub_self, List.drop_zero]
    have := congrArg (List.drop s) h.2.2
    rw [List.drop_drop, List.drop_drop] at this
    exact this
theorem Beg.last {K : Int → Int} {xs0 xs N : List Int} {s a : Nat} (hs : 0 < s) (h : Beg K xs0 xs s a) (ha : s ∣ a) (hm : a ≤ xs.length) (hn : xs.length < a + s) (hN : N.Perm (sl a xs.length xs)) (hS : Srt K N) : Blk K xs0 (xs.take a ++ N ++ xs.drop xs.length) s := by
  have hl : N.length = xs.length - a := by rw [hN.length_eq, sl_length]; omega
  have hL := piece_length hm (Nat.le_refl xs.length) hl
  rw [sl_drop h.2.2 (Nat.le_refl a)] at hN
  refine ⟨by rw [hL]; exact h.1, fun j hd => ?_⟩
  rcases Nat.lt_or_ge j a with hlt | hge
  · have := dvd_gap hd ha hlt
    exact (h.2.1 j hd hlt).keep (piece_before (m := a) (by omega) (by omega) (Nat.le_refl _) hl (by omega))
  · rcases Nat.lt_or_ge a j with g | g
    · have := dvd_gap ha hd g
      exact Ok.empty (by rw [hL]; exact h.1) (by rw [hL]; omega)
    · obtain rfl : j = a := by omega
      rw [Ok.clip (by rw [hL]; exact h.1) (by rw [hL]; omega), hL]
      exact Ok.anew (by omega) (Nat.le_refl _) hN h.1 hS
end Go.Proofs.Ytbnahmeaeakhhaa.S
