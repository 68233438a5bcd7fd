/- Packing, the plain law: what holds while rows are laid. No program is in sight here. -/
import Derived.Test.YtbnahmeaeakhhaaT3
namespace Go.Proofs.Ytbnahmeaeakhhaa.Q
set_option linter.unusedVariables false
set_option linter.unusedSimpArgs false
open Go Go.RowKit Go.Proofs.Ytbnahmeaeakhhaa.S

/-- the i-th, or -1 -/
def gm (l : List Int) (i : Nat) : Int := l.getD i (-1)
theorem gm_in {l : List Int} {i : Nat} (h : i < l.length) : gm l i = l[i] := by rw [gm, List.getD_eq_getElem?_getD, List.getElem?_eq_getElem h]; rfl
theorem gm_out {l : List Int} {i : Nat} (h : l.length ≤ i) : gm l i = -1 := by rw [gm, List.getD_eq_getElem?_getD, List.getElem?_eq_none h]; rfl
theorem gm_getD {l : List Int} {i : Nat} (h : i < l.length) : l.getD i 0 = gm l i := by rw [gm_in h, List.getD_eq_getElem?_getD, List.getElem?_eq_getElem h]; rfl
theorem gm_pad (l : List Int) (k i : Nat) : gm (padN l k) i = gm l i := by
  simp only [gm, padN, List.getD_eq_getElem?_getD]
  by_cases h : i < l.length
  · rw [List.getElem?_append_left h]
  · rw [List.getElem?_append_right (by omega), List.getElem?_eq_none (l := l) (by omega), List.getElem?_replicate]
    split <;> rfl
theorem gm_set {l : List Int} {k : Nat} (hk : k < l.length) (x : Int) (i : Nat) : gm (l.set k x) i = if i = k then x else gm l i := by
  simp only [gm, List.getD_eq_getElem?_getD, List.getElem?_set]
  by_cases e : k = i
  · subst e; rw [if_pos rfl, if_pos rfl, if_pos hk]; rfl
  · rw [if_neg e, if_neg (fun h => e h.symm)]
theorem putE_gm (p : List Int × List Int) (k : Nat) (s x : Int) (i : Nat) : gm (putE p k s x).1 i = (if i = k then s else gm p.1 i) ∧ gm (putE p k s x).2 i = (if i = k then x else gm p.2 i) := by
  unfold putE
  rw [gm_set (by rw [padN_len]; omega), gm_set (by rw [padN_len]; omega), gm_pad, gm_pad]
  exact ⟨rfl, rfl⟩
theorem fillF_gm (s : Int) (b : Nat) : ∀ (row : List Int) (c : Nat) (p : List Int × List Int) (i : Nat),
    (gm (fillF s b c row p).1 i = if b + c ≤ i ∧ 0 ≤ gm row (i - (b + c)) then s else gm p.1 i) ∧
    (gm (fillF s b c row p).2 i = if b + c ≤ i ∧ 0 ≤ gm row (i - (b + c)) then gm row (i - (b + c)) else gm p.2 i)
  | [], c, p, i => by
    have : gm [] (i - (b + c)) = -1 := gm_out (by simp)
    simp only [fillF, this]
    rw [if_neg (by omega), if_neg (by omega)]
    exact ⟨rfl, rfl⟩
  | x :: row, c, p, i => by
    simp only [fillF]
    obtain ⟨h1, h2⟩ := fillF_gm s b row (c + 1) (if x < 0 then p else putE p (b + c) s x) i
    rw [h1, h2]
    by_cases e : i = b + c
    · subst e
      have hn : ¬ (b + (c + 1) ≤ b + c ∧ 0 ≤ gm row (b + c - (b + (c + 1)))) := by omega
      simp only [if_neg hn, Nat.sub_self]
      have hx : gm (x :: row) 0 = x := rfl
      rw [hx]
      by_cases hx0 : x < 0
      · have hn2 : ¬ (b + c ≤ b + c ∧ 0 ≤ x) := by omega
        simp only [if_pos hx0, if_neg hn2]; exact ⟨trivial, trivial⟩
      · have hn2 : b + c ≤ b + c ∧ 0 ≤ x := by omega
        simp only [if_neg hx0, (putE_gm _ _ _ _ _).1, (putE_gm _ _ _ _ _).2, if_pos hn2, if_true]; exact ⟨trivial, trivial⟩
    · have hp1 : gm (if x < 0 then p else putE p (b + c) s x).1 i = gm p.1 i := by
        split
        · rfl
        · rw [(putE_gm _ _ _ _ _).1, if_neg e]
      have hp2 : gm (if x < 0 then p else putE p (b + c) s x).2 i = gm p.2 i := by
        split
        · rfl
        · rw [(putE_gm _ _ _ _ _).2, if_neg e]
      rw [hp1, hp2]
      by_cases hi : b + c ≤ i
      · have e2 : i - (b + c) = (i - (b + (c + 1))) + 1 := by omega
        have hx : gm (x :: row) (i - (b + c)) = gm row (i - (b + (c + 1))) := by rw [e2]; rfl
        rw [hx]
        by_cases h0 : 0 ≤ gm row (i - (b + (c + 1)))
        · rw [if_pos ⟨by omega, h0⟩, if_pos ⟨by omega, h0⟩, if_pos ⟨by omega, h0⟩, if_pos ⟨by omega, h0⟩]; exact ⟨rfl, rfl⟩
        · rw [if_neg (fun h => h0 h.2), if_neg (fun h => h0 h.2), if_neg (fun h => h0 h.2), if_neg (fun h => h0 h.2)]; exact ⟨rfl, rfl⟩
      · rw [if_neg (by omega), if_neg (by omega), if_neg (by omega), if_neg (by omega)]; exact ⟨rfl, rfl⟩
/-- how many slots are taken -/
theorem cntF_append : ∀ (l m : List Int), cntF (l ++ m) = cntF l + cntF m
  | [], m => by simp [cntF]
  | x :: l, m => by simp only [List.cons_append, cntF, cntF_append l m]; omega
theorem cntF_pad (l : List Int) (k : Nat) : cntF (padN l k) = cntF l := by
  have : ∀ n, cntF (List.replicate n (-1)) = 0 := by
    intro n
    induction n with
    | zero => rfl
    | succ n ih => rw [List.replicate_succ, cntF, ih]; simp
  rw [padN, cntF_append, this]; omega
theorem cntF_set : ∀ (l : List Int) (k : Nat) (x : Int), k < l.length → gm l k < 0 → 0 ≤ x → cntF (l.set k x) = cntF l + 1
  | [], k, x, hk, h, hx => by simp at hk
  | y :: l, 0, x, hk, h, hx => by
    have hy : y < 0 := h
    simp only [List.set_cons_zero, cntF]
    rw [if_pos hx, if_neg (by omega)]; omega
  | y :: l, k + 1, x, hk, h, hx => by
    have := cntF_set l k x (by simpa using hk) h hx
    simp only [List.set_cons_succ, cntF, this]; omega
theorem fillF_cnt (s : Int) (hs : 0 ≤ s) (b : Nat) : ∀ (row : List Int) (c : Nat) (p : List Int × List Int), (∀ i, 0 ≤ gm row i → gm p.1 (b + c + i) < 0) → cntF (fillF s b c row p).1 = cntF p.1 + cntF row
  | [], c, p, h => by simp [fillF, cntF]
  | x :: row, c, p, h => by
    simp only [fillF]
    have h0 : 0 ≤ x → gm p.1 (b + c) < 0 := fun hx => h 0 hx
    rw [fillF_cnt s hs b row (c + 1) _ (fun i hi => ?_)]
    · by_cases hx : x < 0
      · rw [if_pos hx]; simp only [cntF]; rw [if_neg (by omega)]; omega
      · rw [if_neg hx]
        have : cntF (putE p (b + c) s x).1 = cntF p.1 + 1 := by
          unfold putE
          rw [cntF_set _ _ _ (by rw [padN_len]; omega) (by rw [gm_pad]; exact h0 (by omega)) hs, cntF_pad]
        rw [this]; simp only [cntF]; rw [if_pos (show 0 ≤ x by omega)]; omega
    · have hh := h (i + 1) hi
      rw [show b + c + (i + 1) = b + (c + 1) + i by omega] at hh
      split
      · exact hh
      · rw [(putE_gm _ _ _ _ _).1, if_neg (by omega)]; exact hh

/-- what holds while rows are laid -/
structure PInv (next : List (List Int)) (cols : Nat) (done : List Int) (t : List Int × (List Int × List Int)) : Prop where
  base : t.1.length = next.length
  len : t.2.1.length = t.2.2.length
  max : t.2.1.length ≤ done.length * cols
  slot : ∀ i, i < t.2.1.length → (gm t.2.1 i = -1 ∧ gm t.2.2 i = -1) ∨ ∃ s : Nat, gm t.2.1 i = s ∧ s < next.length ∧ (s : Int) ∈ done ∧ 0 ≤ gm t.2.2 i ∧ ∃ c : Nat, (i : Int) = gm t.1 s + c ∧ c < cols ∧ gm t.2.2 i = gm (next.getD s []) c
  entry : ∀ s : Nat, (s : Int) ∈ done → s < next.length → ∀ c : Nat, 0 ≤ gm (next.getD s []) c → ∃ i : Nat, (i : Int) = gm t.1 s + c ∧ i < t.2.1.length ∧ gm t.2.1 i = s
  pos : ∀ s, s < next.length → 0 ≤ gm t.1 s ∧ (gm t.1 s = 0 ∨ gm t.1 s + cols ≤ (done.length * cols : Nat))
  cnt : cntF t.2.1 = (done.map fun s => cntF (next.getD s.toNat [])).sum

theorem cntF_zero : ∀ {l : List Int}, cntF l = 0 → ∀ i, gm l i < 0
  | [], h, i => by rw [gm_out (by simp)]; omega
  | x :: l, h, i => by
    have := cntF_bd l
    simp only [cntF] at h
    by_cases hx : 0 ≤ x
    · rw [if_pos hx] at h; omega
    · rw [if_neg hx] at h
      cases i with
      | zero => show x < 0; omega
      | succ i => exact cntF_zero (by omega) i
theorem free_gm {own row : List Int} {b : Nat} (h : freeAt own row b) (i : Nat) (hi : 0 ≤ gm row i) : gm own (b + i) < 0 := by
  have hr : i < row.length := by
    by_cases e : i < row.length
    · exact e
    · rw [gm_out (by omega)] at hi; omega
  by_cases e : b + i < own.length
  · have := h i (Nat.zero_le _) hr (by rw [gm_getD hr]; exact hi) e
    rw [gm_getD e] at this; exact this
  · rw [gm_out (by omega)]; omega
theorem pinv_step {next : List (List Int)} {cols : Nat} {done : List Int} {t : List Int × (List Int × List Int)} (h : PInv next cols done t) (hf : rowsForm cols next 0) {s : Nat} (hs : s < next.length) (hn : (s : Int) ∉ done) :
    PInv next cols (done ++ [(s : Int)]) (packStep next t s) := by
  have hlen : (done ++ [(s : Int)]).length * cols = done.length * cols + cols := by simp [Nat.add_mul]
  have hrow : (next.getD s []).length = cols := (hf s (Nat.zero_le _) hs).1
  unfold packStep
  simp only [Int.toNat_natCast]
  generalize hr : next.getD s [] = row at *
  have hsum : ((done ++ [(s : Int)]).map fun s => cntF (next.getD s.toNat [])).sum = (done.map fun s => cntF (next.getD s.toNat [])).sum + cntF row := by
    rw [List.map_append, List.sum_append]
    simp only [List.map_cons, List.map_nil, List.sum_cons, List.sum_nil, Int.toNat_natCast, hr]; omega
  by_cases hc : cntF row = 0
  · rw [if_pos hc]
    have hz := cntF_zero hc
    refine ⟨h.base, h.len, by rw [hlen]; have := h.max; omega, fun i hi => ?_, fun s' hm hs' c hcc => ?_, fun s' hs' => ?_, by rw [hsum, h.cnt, hc]; omega⟩
    · rcases h.slot i hi with h1 | ⟨s', h1, h2, h3, h4⟩
      · exact Or.inl h1
      · exact Or.inr ⟨s', h1, h2, List.mem_append_left _ h3, h4⟩
    · rcases List.mem_append.1 hm with hm | hm
      · exact h.entry s' hm hs' c hcc
      · have e : s' = s := by have := List.mem_singleton.1 hm; omega
        subst e
        rw [hr] at hcc
        have := hz c; omega
    · obtain ⟨h1, h2⟩ := h.pos s' hs'
      exact ⟨h1, by rw [hlen]; rcases h2 with h2 | h2; exact Or.inl h2; right; omega⟩
  · rw [if_neg hc]
    obtain ⟨hp1, -, hp3⟩ := placeN_spec t.2.1 row
    generalize placeN t.2.1 row = b at *
    obtain ⟨hl1, hl2, hl3⟩ := fillF_len (s : Int) b row 0 t.2 h.len
    have hg := fun i => fillF_gm (s : Int) b row 0 t.2 i
    simp only [Nat.add_zero] at hg hl3
    have hb' : s < t.1.length := by rw [h.base]; exact hs
    have hgs : ∀ j, gm (t.1.set s (b : Int)) j = if j = s then (b : Int) else gm t.1 j := fun j => gm_set hb' _ _
    have hci : ∀ i, b ≤ i → 0 ≤ gm row (i - b) → i < (fillF (s : Int) b 0 row t.2).1.length := fun i h1 h2 => by
      have h3 := (hg i).1
      rw [if_pos ⟨h1, h2⟩] at h3
      by_cases e : i < (fillF (s : Int) b 0 row t.2).1.length
      · exact e
      · rw [gm_out (by omega)] at h3; omega
    have hcol : ∀ c, 0 ≤ gm row c → c < cols := fun c hcc => by
      by_cases e : c < row.length
      · omega
      · rw [gm_out (by omega)] at hcc; omega
    refine ⟨by simpa using h.base, hl1, ?_, fun i hi => ?_, fun s' hm hs' c hcc => ?_, fun s' hs' => ?_, ?_⟩
    · rw [hlen]; have := h.max; show (fillF (s : Int) b 0 row t.2).1.length ≤ _; omega
    · show (gm (fillF (s : Int) b 0 row t.2).1 i = -1 ∧ gm (fillF (s : Int) b 0 row t.2).2 i = -1) ∨ _
      by_cases hi2 : b ≤ i ∧ 0 ≤ gm row (i - b)
      · right
        refine ⟨s, ?_, hs, by simp, ?_, i - b, ?_, hcol _ hi2.2, ?_⟩
        · show gm (fillF (s : Int) b 0 row t.2).1 i = _
          rw [(hg i).1, if_pos hi2]
        · show 0 ≤ gm (fillF (s : Int) b 0 row t.2).2 i
          rw [(hg i).2, if_pos hi2]; exact hi2.2
        · show (i : Int) = gm (t.1.set s (b : Int)) s + _
          rw [hgs, if_pos rfl]; omega
        · show gm (fillF (s : Int) b 0 row t.2).2 i = _
          rw [(hg i).2, if_pos hi2, hr]
      · have e1 : gm (fillF (s : Int) b 0 row t.2).1 i = gm t.2.1 i := by rw [(hg i).1, if_neg hi2]
        have e2 : gm (fillF (s : Int) b 0 row t.2).2 i = gm t.2.2 i := by rw [(hg i).2, if_neg hi2]
        rw [e1, e2]
        by_cases hi3 : i < t.2.1.length
        · rcases h.slot i hi3 with h1 | ⟨s', h1, h2, h3, h4, c, h5, h6, h7⟩
          · exact Or.inl h1
          · have hne : s' ≠ s := fun e => hn (e ▸ h3)
            refine Or.inr ⟨s', h1, h2, List.mem_append_left _ h3, h4, c, ?_, h6, h7⟩
            show (i : Int) = gm (t.1.set s (b : Int)) s' + _
            rw [hgs, if_neg hne]; exact h5
        · exact Or.inl ⟨gm_out (by omega), gm_out (by have := h.len; omega)⟩
    · show ∃ i : Nat, (i : Int) = gm (t.1.set s (b : Int)) s' + c ∧ i < (fillF (s : Int) b 0 row t.2).1.length ∧ gm (fillF (s : Int) b 0 row t.2).1 i = s'
      by_cases e : s' = s
      · subst e
        rw [hr] at hcc
        refine ⟨b + c, by rw [hgs, if_pos rfl]; omega, hci _ (by omega) (by rw [show b + c - b = c by omega]; exact hcc), ?_⟩
        rw [(hg _).1, if_pos ⟨by omega, by rw [show b + c - b = c by omega]; exact hcc⟩]
      · rcases List.mem_append.1 hm with hm | hm
        · obtain ⟨i, h1, h2, h3⟩ := h.entry s' hm hs' c hcc
          refine ⟨i, by rw [hgs, if_neg e]; exact h1, by omega, ?_⟩
          rw [(hg i).1]
          by_cases hi2 : b ≤ i ∧ 0 ≤ gm row (i - b)
          · have := free_gm hp1 (i - b) hi2.2
            rw [show b + (i - b) = i by omega, h3] at this
            omega
          · rw [if_neg hi2, h3]
        · have e2 : s' = s := by have := List.mem_singleton.1 hm; omega
          exact absurd e2 e
    · show 0 ≤ gm (t.1.set s (b : Int)) s' ∧ (gm (t.1.set s (b : Int)) s' = 0 ∨ gm (t.1.set s (b : Int)) s' + cols ≤ _)
      rw [hgs, hlen]
      by_cases e : s' = s
      · rw [if_pos e]
        have := h.max
        exact ⟨by omega, Or.inr (by omega)⟩
      · rw [if_neg e]
        obtain ⟨h1, h2⟩ := h.pos s' hs'
        exact ⟨h1, by rcases h2 with h2 | h2; exact Or.inl h2; right; omega⟩
    · show cntF (fillF (s : Int) b 0 row t.2).1 = _
      rw [hsum, fillF_cnt (s : Int) (by omega) b row 0 t.2 (fun i hi => free_gm hp1 i hi), h.cnt]
theorem pinv_go {next : List (List Int)} {cols : Nat} (hf : rowsForm cols next 0) : ∀ (l done : List Int) (t : List Int × (List Int × List Int)), PInv next cols done t → (∀ s ∈ l, 0 ≤ s ∧ s < next.length) → (done ++ l).Nodup → PInv next cols (done ++ l) (l.foldl (packStep next) t)
  | [], done, t, h, _, _ => by simpa using h
  | s :: l, done, t, h, hin, hnd => by
    obtain ⟨h0, h1⟩ := hin s (by simp)
    have e : (s.toNat : Int) = s := Int.toNat_of_nonneg h0
    have hns : s ∉ done := fun hm => by
      have := List.nodup_append.1 hnd
      exact this.2.2 s hm s (by simp) rfl
    have := pinv_step h hf (s := s.toNat) (by omega) (by rw [e]; exact hns)
    rw [e] at this
    have := pinv_go hf l (done ++ [s]) _ this (fun x hx => hin x (by simp [hx])) (by rw [List.append_assoc]; simpa using hnd)
    simpa [List.append_assoc] using this
theorem pinv_all {next : List (List Int)} {cols : Nat} (hf : rowsForm cols next 0) {ord : List Int} (hp : ord.Perm (rangeI next.length)) : PInv next cols ord (packGo next ord) := by
  have h0 : PInv next cols [] (List.replicate next.length 0, ([], [])) := by
    refine ⟨by simp, rfl, by simp, fun i hi => by simp at hi, fun s hs => by simp at hs, fun s hs => ?_, by simp [cntF]⟩
    have : gm (List.replicate next.length 0) s = 0 := by rw [gm_in (by simpa using hs)]; simp
    show 0 ≤ gm (List.replicate next.length 0) s ∧ (gm (List.replicate next.length 0) s = 0 ∨ _)
    rw [this]; exact ⟨by omega, Or.inl rfl⟩
  have := pinv_go hf ord [] _ h0 (fun s hs => rangeI_mem.1 (hp.mem_iff.1 hs)) (by
    rw [List.nil_append]
    refine hp.nodup_iff.2 ?_
    have := rangeI_inc next.length
    unfold Inc at this
    exact List.Pairwise.imp (fun h => by omega) this)
  simpa [packGo] using this
theorem slotErr_zero {cols : Int} {base own nxt : List Int} : ∀ (d i : Nat), (∀ j, i ≤ j → j < i + d → -1 ≤ own.getD j 0 ∧ own.getD j 0 < base.length ∧ -1 ≤ nxt.getD j 0 ∧ nxt.getD j 0 < base.length ∧
      ((own.getD j 0 = -1 ∧ nxt.getD j 0 = -1) ∨ (0 ≤ own.getD j 0 ∧ 0 ≤ nxt.getD j 0 ∧ base.getD (own.getD j 0).toNat 0 ≤ j ∧ j < base.getD (own.getD j 0).toNat 0 + cols))) → slotErr cols base own nxt d i = 0
  | 0, i, _ => rfl
  | d + 1, i, h => by
    have h0 := h i (Nat.le_refl _) (by omega)
    unfold slotErr
    rw [if_neg (by omega), if_neg (by omega)]
    exact slotErr_zero d (i + 1) (fun j h1 h2 => h j (by omega) (by omega))
end Go.Proofs.Ytbnahmeaeakhhaa.Q
