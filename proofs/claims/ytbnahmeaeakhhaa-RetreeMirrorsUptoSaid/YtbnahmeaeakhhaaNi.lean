/- The normal form matches the same; it is its own normal form. No program is in sight here. -/
import Derived.Test.YtbnahmeaeakhhaaNm
namespace Go.Proofs.Ytbnahmeaeakhhaa.B
set_option linter.unusedVariables false
set_option linter.unusedSimpArgs false
open Go Go.RowKit Classical

theorem Pow_id {n : Nat} {R : Rel} (h : ∀ i j, i ≤ n → j ≤ n → (R i j ↔ i = j)) (k : Nat) : ∀ i j, i ≤ n → j ≤ n → (Pow n R k i j ↔ i = j) := by
  induction k with
  | zero => intro i j _ _; exact Iff.rfl
  | succ k ih =>
    intro i j hi hj
    constructor
    · rintro ⟨l, hl, h1, h2⟩; exact ((ih i l hi hl).1 h1).trans ((h l j hl hj).1 h2)
    · rintro rfl; exact ⟨i, hi, (ih i i hi hi).2 rfl, (h i i hi hi).2 rfl⟩
theorem Pow_none {n : Nat} {R : Rel} (h : ∀ i j, ¬ R i j) (k : Nat) (i j : Nat) : Pow n R k i j ↔ k = 0 ∧ i = j := by
  cases k with
  | zero => simp [Pow]
  | succ k => exact iff_of_false (fun ⟨l, _, _, h2⟩ => h l j h2) (fun h => by omega)
theorem Pow_Star {n : Nat} {R : Rel} (k : Nat) {i j : Nat} (h : Pow n (Star n R) k i j) : Star n R i j := by
  induction k generalizing j with
  | zero => cases h; exact Star_refl _
  | succ k ih => obtain ⟨l, hl, h1, h2⟩ := h; exact Star_trans hl (ih h1) h2
theorem Star_Pow {n : Nat} {R : Rel} (k : Nat) {i j : Nat} (hi : i ≤ n) (hj : j ≤ n) (h : Star n R i j) : Pow n (Star n R) (k + 1) i j := by
  induction k generalizing j with
  | zero => exact ⟨i, hi, rfl, h⟩
  | succ k ih => exact ⟨j, hj, ih hj h, Star_refl _⟩

theorem M6r {t : List Int} {s mn mx ng} (a : Re) (l : List Re) (i j : Nat) : M t (.mk 6 s (a :: l) mn mx ng) i j ↔ ∃ k : Nat, mn ≤ k ∧ (k : Int) ≤ mx ∧ Pow t.length (M t a) k i j := by rw [M6]; rfl
theorem kind_mk {r : Re} {k : Int} (h : r.kind = k) : ∃ s l mn mx ng, r = .mk k s l mn mx ng := by
  cases r with
  | mk k' s l mn mx ng => exact ⟨s, l, mn, mx, ng, by rw [show k' = k from h]⟩

theorem repF_M {t : List Int} {k : Int} {s : List Span} {a : Re} {mn mx : Int} {ng : Bool} (hk : k = 5 ∨ k = 6) (hg : Good (.mk k s [a] mn mx ng)) : Meq t (repF k s a [] mn mx ng) (.mk k s [a] mn mx ng) := by
  have hga := good_args hg a (by simp)
  intro i j hi hj
  unfold repF
  rcases hk with rfl | rfl
  · rw [M5]
    split
    · rename_i h
      rw [show emptyRe = Re.mk 1 [] [] 0 0 false from rfl, M1]
      rcases h with h | ⟨h, -⟩ | ⟨h, -⟩
      · obtain ⟨s', l', a', b', c', rfl⟩ := kind_mk h
        exact ⟨fun e => e ▸ Star_refl _, fun ⟨q, hq⟩ => (Pow_id (fun i j _ _ => M1 t s' l' a' b' c' i j) q i j hi hj).1 hq⟩
      · obtain ⟨s', l', a', b', c', rfl⟩ := kind_mk h
        exact ⟨fun e => e ▸ Star_refl _, fun ⟨q, hq⟩ => ((Pow_none (fun i j => M0 t s' l' a' b' c' i j 0 (by omega)) q i j).1 hq).2⟩
      · omega
    · rename_i h
      split
      · rename_i h'
        rcases h' with h' | h' | ⟨h', -⟩
        · exact absurd (Or.inr (Or.inl ⟨h', Or.inl rfl⟩)) h
        · obtain ⟨s', l', a', b', c', rfl⟩ := kind_mk h'
          obtain ⟨x, rfl⟩ := List.length_eq_one_iff.1 (node_one (good_node hga) (by omega))
          have e : M t (.mk 5 s' [x] a' b' c') = Star t.length (M t x) := by funext i j; exact propext (M5 ..)
          rw [e]
          exact ⟨Star_one hi, Star_Star⟩
        · omega
      · exact (M5 ..)
  · obtain ⟨m1, m2, m3⟩ := node_rep (good_node hg)
    rw [M6r]
    split
    · rename_i h
      rw [show emptyRe = Re.mk 1 [] [] 0 0 false from rfl, M1]
      rcases h with h | ⟨h, h2⟩ | ⟨-, h⟩
      · obtain ⟨s', l', a', b', c', rfl⟩ := kind_mk h
        have hp := fun q => Pow_id (R := M t (.mk 1 s' l' a' b' c')) (fun i j _ _ => M1 t s' l' a' b' c' i j) q i j hi hj
        exact ⟨fun e => ⟨mn.toNat, by omega, by omega, (hp _).2 e⟩, fun ⟨q, _, _, hq⟩ => (hp q).1 hq⟩
      · obtain ⟨s', l', a', b', c', rfl⟩ := kind_mk h
        have h2 : mn = 0 := by omega
        subst h2
        have hp := fun q => Pow_none (n := t.length) (R := M t (.mk 0 s' l' a' b' c')) (fun i j => M0 t s' l' a' b' c' i j 0 (by omega)) q i j
        exact ⟨fun e => ⟨0, by omega, by omega, (hp 0).2 ⟨rfl, e⟩⟩, fun ⟨q, _, _, hq⟩ => ((hp q).1 hq).2⟩
      · subst h
        constructor
        · exact fun e => ⟨0, by omega, by omega, e⟩
        · rintro ⟨q, -, h3, hq⟩
          obtain rfl : q = 0 := by omega
          exact hq
    · rename_i h
      have hmx : mx ≠ 0 := fun e => h (Or.inr (Or.inr ⟨rfl, e⟩))
      split
      · rename_i h'
        rcases h' with h' | h' | ⟨-, h1, h2⟩
        · have hmn : mn ≠ 0 := fun e => h (Or.inr (Or.inl ⟨h', Or.inr e⟩))
          obtain ⟨s', l', a', b', c', rfl⟩ := kind_mk h'
          refine iff_of_false (M0 t s' l' a' b' c' i j 0 (by omega)) ?_
          rintro ⟨q, h3, -, hq⟩
          have := ((Pow_none (fun i j => M0 t s' l' a' b' c' i j 0 (by omega)) q i j).1 hq).1
          omega
        · obtain ⟨s', l', a', b', c', rfl⟩ := kind_mk h'
          obtain ⟨x, rfl⟩ := List.length_eq_one_iff.1 (node_one (good_node hga) (by omega))
          have e : M t (.mk 5 s' [x] a' b' c') = Star t.length (M t x) := by funext i j; exact propext (M5 ..)
          rw [e]
          constructor
          · intro hq
            obtain ⟨q, hq2⟩ : ∃ q : Nat, mx = ((q + 1 : Nat) : Int) := ⟨mx.toNat - 1, by omega⟩
            exact ⟨q + 1, by omega, by omega, Star_Pow q hi hj hq⟩
          · rintro ⟨q, -, -, hq⟩; exact Pow_Star q hq
        · subst h1; subst h2
          constructor
          · intro hq; exact ⟨1, by omega, by omega, i, hi, rfl, hq⟩
          · rintro ⟨q, h3, h4, hq⟩
            obtain rfl : q = 1 := by omega
            obtain ⟨l, hl, e, h5⟩ := hq
            have e : i = l := e
            rw [e]; exact h5
      · exact (M6r ..)

theorem normTop_M {t : List Int} {k : Int} {s : List Span} {l : List Re} {mn mx : Int} {ng : Bool} (hg : Good (.mk k s l mn mx ng)) : Meq t (normTop k s l mn mx ng) (.mk k s l mn mx ng) := by
  have hn := good_node hg
  have hga := good_args hg
  unfold normTop
  split
  · rename_i h
    rcases h with rfl | rfl | rfl
    · exact sevF_3 _ _ _ _ _
    · exact sevF_4 _ _ _ _ _
    · exact sevF_7 _ _ _ _ _ (fun e => by have := node_many hn (by omega); rw [e] at this; simp at this) hga
  · match l, hg, hn, hga with
    | [], _, _, _ => exact Meq.refl _ _
    | a :: rest, hg, hn, hga =>
      simp only
      split
      · rename_i h
        have := node_one hn (by omega)
        obtain rfl : rest = [] := by cases rest with | nil => rfl | cons => simp at this
        exact repF_M h hg
      · split
        · rename_i h8
          subst h8
          have := node_one hn (by omega)
          obtain rfl : rest = [] := by cases rest with | nil => rfl | cons => simp at this
          split
          · rename_i h
            obtain ⟨s', l', a', b', c', rfl⟩ := kind_mk h
            obtain ⟨x, rfl⟩ := List.length_eq_one_iff.1 (node_one (good_node (hga (.mk 8 s' l' a' b' c') (by simp))) (by omega))
            intro i j hi hj
            rw [M8, M8]
            show M t x i j ↔ _
            constructor
            · intro h; exact ⟨M_le t x i j h, fun h2 => h2.2 h⟩
            · rintro ⟨h1, h2⟩
              by_cases h : M t x i j
              · exact h
              · exact absurd ⟨h1, h⟩ h2
          · exact Meq.refl _ _
        · split
          · rename_i h10
            subst h10
            have := node_one hn (by omega)
            obtain rfl : rest = [] := by cases rest with | nil => rfl | cons => simp at this
            intro i j hi hj
            have he : M t emptyRe i j ↔ i = j := M1 ..
            have hno : ¬ M t noneRe i j := M0 t [] [] 0 0 false i j 0 (by omega)
            split
            · rename_i h
              obtain ⟨s', l', a', b', c', rfl⟩ := kind_mk h
              have hex : ∃ k, k ≤ t.length ∧ M t (.mk 1 s' l' a' b' c') i k := ⟨i, hi, (M1 ..).2 rfl⟩
              rw [M10]
              cases ng with
              | true => rw [if_pos rfl]; exact iff_of_false hno (fun h => by have := h.2.1 hex; simp at this)
              | false => rw [if_neg (by simp), he]; exact ⟨fun h => ⟨h, fun _ => rfl, fun _ => hex⟩, fun h => h.1⟩
            · split
              · rename_i h
                obtain ⟨s', l', a', b', c', rfl⟩ := kind_mk h
                have hex : ¬ ∃ k, k ≤ t.length ∧ M t (.mk 0 s' l' a' b' c') i k := fun ⟨k, _, h⟩ => M0 t s' l' a' b' c' i k 0 (by omega) h
                rw [M10]
                cases ng with
                | true => rw [if_pos rfl, he]; exact ⟨fun h => ⟨h, fun h2 => absurd h2 hex, fun h2 => by simp at h2⟩, fun h => h.1⟩
                | false => rw [if_neg (by simp)]; exact iff_of_false hno (fun h => hex (h.2.2 rfl))
              · exact Iff.rfl
          · exact Meq.refl _ _

theorem normF_M {t : List Int} (r : Re) (hg : Good r) : Meq t (normF r) r := by
  induction r using Re.ind with
  | h k s args mn mx ng ih =>
    have hga := good_args hg
    rw [normF_eq]
    have h1 : Good (.mk k s (args.map normF) mn mx ng) := good_mk (by rw [List.length_map]; exact good_node hg) fun a ha => by
      obtain ⟨b, hb, rfl⟩ := List.mem_map.1 ha; exact (normF_ok b (hga b hb)).1
    exact (normTop_M h1).trans (Meq_node fun a ha => ih a ha (hga a ha))

/-! ### its own normal form -/
def IsN : Re → Prop
  | .mk k s args mn mx ng => normTop k s args mn mx ng = .mk k s args mn mx ng ∧ ∀ a : {x // x ∈ args}, IsN a.1
decreasing_by simp_wf; have := List.sizeOf_lt_of_mem a.2; omega
theorem IsN_iff (k s args mn mx ng) : IsN (.mk k s args mn mx ng) ↔ normTop k s args mn mx ng = .mk k s args mn mx ng ∧ ∀ a ∈ args, IsN a := by
  rw [IsN]; exact and_congr_right fun _ => ⟨fun h a ha => h ⟨a, ha⟩, fun h a => h a.1 a.2⟩
theorem normF_of_IsN (r : Re) (h : IsN r) : normF r = r := by
  induction r using Re.ind with
  | h k s args mn mx ng ih =>
    obtain ⟨h1, h2⟩ := (IsN_iff ..).1 h
    rw [normF_eq, show args.map normF = args from (List.map_congr_left fun a ha => ih a ha (h2 a ha)).trans (by simp), h1]
theorem IsN_none : IsN noneRe := by unfold noneRe; rw [IsN_iff]; exact ⟨by simp [normTop], by simp⟩
theorem IsN_empty : IsN emptyRe := by unfold emptyRe; rw [IsN_iff]; exact ⟨by simp [normTop], by simp⟩
theorem IsN_args {r : Re} (h : IsN r) : ∀ a ∈ r.args, IsN a := by cases r; exact ((IsN_iff ..).1 h).2

def Clean (K : Int) (a : Re) : Prop := a.kind ≠ K ∧ ¬ (a.kind = 1 ∧ K = 3) ∧ ¬ (a.kind = 0 ∧ K = 4)
theorem flat1_clean {K : Int} {a : Re} (h : Clean K a) : flat1 K a = [a] := by unfold flat1; rw [if_neg h.1, if_neg (fun hh => hh.elim h.2.1 h.2.2)]
theorem sevL_clean {K : Int} {l : List Re} (h : ∀ a ∈ l, Clean K a) : sevL K l = l := by
  induction l with
  | nil => rfl
  | cons a l ih =>
    have e : sevL K (a :: l) = flat1 K a ++ sevL K l := by simp [sevL]
    rw [e, flat1_clean (h a (by simp)), ih fun b hb => h b (by simp [hb])]; rfl
theorem sz_flat1_lt {K : Int} {a : Re} (h : ¬ Clean K a) : szL (flat1 K a) < sz a := by
  have h1 := sz_args a
  have h2 := sz_pos a
  unfold flat1
  split
  · omega
  · rename_i h3
    split
    · simp [szL]; omega
    · rename_i h4; exact absurd ⟨h3, fun h => h4 (Or.inl h), fun h => h4 (Or.inr h)⟩ h
theorem sz_sevL_lt {K : Int} {l : List Re} (h : ∃ a ∈ l, ¬ Clean K a) : szL (sevL K l) < szL l := by
  induction l with
  | nil => obtain ⟨a, ha, -⟩ := h; simp at ha
  | cons b l ih =>
    have e : sevL K (b :: l) = flat1 K b ++ sevL K l := by simp [sevL]
    rw [e, szL_append, szL_cons]
    obtain ⟨a, ha, hc⟩ := h
    rcases List.mem_cons.1 ha with rfl | ha
    · have := sz_flat1_lt hc; have := sz_sevL K l; omega
    · have := ih ⟨a, ha, hc⟩; have := sz_flat1 K b; omega
/-- what is not turned is clean -/
theorem clean_of {K : Int} {s l mn mx ng} (hK : K = 3 ∨ K = 4 ∨ K = 7) (h : sevF K l = .mk K s l mn mx ng) : ∀ a ∈ l, Clean K a := by
  intro a ha
  by_cases hc : Clean K a
  · exact hc
  exfalso
  have hlt := sz_sevL_lt ⟨a, ha, hc⟩
  have hsz : sz (sevF K l) = szL l + 1 := by rw [h, sz_mk]
  have hle : ∀ m : List Re, szL m < szL l → sz (sevEnd K m) ≤ szL l := by
    intro m hm
    match m with
    | [] => have := len_szL l; have h3 : 0 < l.length := List.length_pos_of_mem ha; simp only [sevEnd]; split <;> simp [sz_empty, sz_none] <;> omega
    | [x] => simp only [sevEnd]; rw [szL_cons] at hm; omega
    | x :: y :: m => simp only [sevEnd]; rw [sz_mk]; omega
  unfold sevF at hsz
  split at hsz
  · rw [sz_none] at hsz; have h3 := len_szL l; have : 0 < l.length := List.length_pos_of_mem ha; omega
  · split at hsz
    · have := hle _ (Nat.lt_of_le_of_lt (sz_onceL _) hlt); omega
    · have := hle _ hlt; omega
theorem foldOnce_nodup {l o : List Re} (h : (o ++ l).Nodup) : l.foldl (fun o a => if a ∈ o then o else o ++ [a]) o = o ++ l := by
  induction l generalizing o with
  | nil => simp
  | cons x l ih =>
    have hx : x ∉ o := fun hx => by
      rw [List.nodup_append] at h
      exact h.2.2 x hx x (by simp) rfl
    rw [List.foldl_cons, if_neg hx, ih (by simpa using h)]; simp
theorem nodup_foldOnce (l : List Re) : ∀ o : List Re, o.Nodup → (l.foldl (fun o a => if a ∈ o then o else o ++ [a]) o).Nodup := by
  induction l with
  | nil => intro o h; exact h
  | cons x l ih =>
    intro o h
    rw [List.foldl_cons]
    refine ih _ ?_
    split
    · exact h
    · rename_i hx
      rw [List.nodup_append]
      exact ⟨h, by simp, fun a ha b hb => by rw [List.mem_singleton.1 hb]; exact fun e => hx (e ▸ ha)⟩
theorem onceL_twice (l : List Re) : onceL (onceL l) = onceL l := by
  have h : (onceL l).Nodup := nodup_foldOnce l [] (by simp)
  have := foldOnce_nodup (l := onceL l) (o := []) (by simpa using h)
  simpa [onceL] using this

theorem sevF_IsN {K : Int} (hK : K = 3 ∨ K = 4 ∨ K = 7) {l : List Re} (hl : ∀ a ∈ l, IsN a) : IsN (sevF K l) := by
  have hcl : ∀ a ∈ sevL K l, Clean K a ∧ IsN a := by
    intro x hx
    obtain ⟨m, hm, hx⟩ := List.mem_flatten.1 hx
    obtain ⟨a, ha, rfl⟩ := List.mem_map.1 hm
    by_cases hc : Clean K a
    · rw [flat1_clean hc] at hx; rw [List.mem_singleton.1 hx]; exact ⟨hc, hl a ha⟩
    · by_cases hk : a.kind = K
      · obtain ⟨s', l', a', b', c', rfl⟩ := kind_mk hk
        rw [flat1_self] at hx
        have hN := (IsN_iff ..).1 (hl _ ha)
        have h1 := hN.1
        unfold normTop at h1
        rw [if_pos hK] at h1
        exact ⟨clean_of hK h1 x hx, hN.2 x hx⟩
      · unfold flat1 at hx
        rw [if_neg hk] at hx
        split at hx
        · simp at hx
        · rename_i h4; exact absurd ⟨hk, fun h => h4 (Or.inl h), fun h => h4 (Or.inr h)⟩ hc
  have hend : ∀ m : List Re, (∀ a ∈ m, Clean K a ∧ IsN a) → ¬ (K ≠ 4 ∧ ∃ a ∈ m, a.kind = 0) → (K ≠ 3 → onceL m = m) → IsN (sevEnd K m) := by
    intro m hm h0 ho
    match m, hm, h0, ho with
    | [], _, _, _ => simp only [sevEnd]; split; exact IsN_empty; exact IsN_none
    | [a], hm, _, _ => exact (hm a (by simp)).2
    | a :: b :: m, hm, h0, ho =>
      simp only [sevEnd]
      rw [IsN_iff]
      refine ⟨?_, fun x hx => (hm x hx).2⟩
      unfold normTop
      rw [if_pos hK]
      have hs := sevL_clean (K := K) (l := a :: b :: m) fun x hx => (hm x hx).1
      unfold sevF
      rw [hs, if_neg h0]
      split
      · rename_i h3; rw [ho h3]; rfl
      · rfl
  unfold sevF
  split
  · exact IsN_none
  · rename_i h0
    split
    · refine hend _ (fun a ha => hcl a ((mem_onceL _ _).1 ha)) (fun h => h0 ⟨h.1, ?_⟩) (fun _ => onceL_twice _)
      obtain ⟨a, ha, h1⟩ := h.2
      exact ⟨a, (mem_onceL _ _).1 ha, h1⟩
    · rename_i h3; exact hend _ hcl h0 (fun h => absurd h h3)

theorem normTop_IsN {k : Int} {s : List Span} {l : List Re} {mn mx : Int} {ng : Bool} (hl : ∀ a ∈ l, IsN a) : IsN (normTop k s l mn mx ng) := by
  unfold normTop
  split
  · exact sevF_IsN ‹_› hl
  · rename_i h347
    match l, hl with
    | [], _ => rw [IsN_iff]; exact ⟨by unfold normTop; rw [if_neg h347], by simp⟩
    | a :: rest, hl =>
      have ha := hl a (by simp)
      have hsame : normTop k s (a :: rest) mn mx ng = .mk k s (a :: rest) mn mx ng → IsN (.mk k s (a :: rest) mn mx ng) := fun h => (IsN_iff ..).2 ⟨h, hl⟩
      simp only
      split
      · rename_i h56
        unfold repF
        split
        · exact IsN_empty
        · rename_i h1
          split
          · exact ha
          · rename_i h2
            refine hsame ?_
            unfold normTop
            rw [if_neg h347]; simp only
            rw [if_pos h56]; unfold repF; rw [if_neg h1, if_neg h2]
      · rename_i h56
        split
        · rename_i h8
          split
          · have hq := IsN_args ha
            cases h9 : a.args with
            | nil => exact IsN_none
            | cons x m => exact hq x (by rw [h9]; simp)
          · rename_i h1
            refine hsame ?_
            unfold normTop
            rw [if_neg h347]; simp only
            rw [if_neg h56, if_pos h8, if_neg h1]
        · rename_i h8
          split
          · rename_i h10
            split
            · split; exact IsN_none; exact IsN_empty
            · rename_i h1
              split
              · split; exact IsN_empty; exact IsN_none
              · rename_i h0
                refine hsame ?_
                unfold normTop
                rw [if_neg h347]; simp only
                rw [if_neg h56, if_neg h8, if_pos h10, if_neg h1, if_neg h0]
          · rename_i h10
            refine hsame ?_
            unfold normTop
            rw [if_neg h347]; simp only
            rw [if_neg h56, if_neg h8, if_neg h10]
theorem normF_IsN (r : Re) : IsN (normF r) := by
  induction r using Re.ind with
  | h k s args mn mx ng ih =>
    rw [normF_eq]
    exact normTop_IsN fun a ha => by obtain ⟨b, hb, rfl⟩ := List.mem_map.1 ha; exact ih b hb
theorem normF_twice (r : Re) : normF (normF r) = normF r := normF_of_IsN _ (normF_IsN r)
end Go.Proofs.Ytbnahmeaeakhhaa.B
