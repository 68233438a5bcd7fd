/- Rule by rule: the reference's way to the normal form comes to the same. No program is in sight here. Contracts: the reference's empty, none, left, ruleRepeat. Contracts: the reference's mapped. -/
import Derived.Test.YtbnahmeaeakhhaaNi
import Derived.Test.YtbnahmeaeakhhaaN6
import Derived.Test.YtbnahmeaeakhhaaBd
import Derived.Test.YtbnahmeaeakhhaaN2
namespace Go.Proofs.Ytbnahmeaeakhhaa.B
set_option linter.unusedVariables false
set_option linter.unusedSimpArgs false
open Go Go.RowKit Classical

/-- what is left of a node of several arguments -/
def leftF (K : Int) (l : List Re) : Re := if l ≠ [] then .mk K [] l 0 0 false else if K = 3 then emptyRe else noneRe
/-- the first place that has a rule -/
noncomputable def manyGo (K : Int) (acc : List Re) : List Re → Option Re
  | [] => none
  | a :: rest =>
    if a.kind = K then some (.mk K [] (acc ++ a.args ++ rest) 0 0 false)
    else if a.kind = 0 ∧ K ≠ 4 then some noneRe
    else if (a.kind = 0 ∨ (a.kind = 1 ∧ K = 3)) ∨ (K ≠ 3 ∧ a ∈ acc) then some (leftF K (acc ++ rest))
    else manyGo K (acc ++ [a]) rest
def oneOf : List Re → Option Re
  | [a] => some a
  | _ => none
noncomputable def manyF (K : Int) (l : List Re) : Option Re := match manyGo K [] l with
  | some x => some x
  | none => oneOf l
noncomputable def repG (k : Int) (a : Re) (mn mx : Int) : Option Re :=
  if (k = 6 ∧ mx = 0) ∨ a.kind = 1 then some emptyRe
  else if a.kind = 0 then (if k = 5 ∨ mn = 0 then some emptyRe else some noneRe)
  else if a.kind = 5 ∨ (k = 6 ∧ mn = 1 ∧ mx = 1) then some a
  else none
noncomputable def ruleF : Re → Option Re
  | .mk k _ args mn mx ng =>
    if k = 3 ∨ k = 4 ∨ k = 7 then manyF k args
    else match args with
      | [] => none
      | a :: _ =>
        if k = 5 ∨ k = 6 then repG k a mn mx
        else if k = 8 then (if a.kind = 8 then some (a.args.headD noneRe) else none)
        else if k = 10 then (if a.kind ≤ 1 then (if (decide (a.kind = 1)) ≠ ng then some emptyRe else some noneRe) else none)
        else none

/-- what a node comes to whose arguments are normal -/
noncomputable def topF : Re → Re
  | .mk k s args mn mx ng => normTop k s args mn mx ng
theorem topF_IsN {r : Re} (h : IsN r) : topF r = r := by cases r; exact ((IsN_iff ..).1 h).1
/-- what holds at each rule -/
def OkN : Re → Prop
  | .mk k s args mn mx ng => (∀ a ∈ args, Good a ∧ IsN a) ∧ (k = 3 ∨ k = 4 ∨ k = 7 → args ≠ [] ∧ s = [] ∧ mn = 0 ∧ mx = 0 ∧ ng = false) ∧ (k = 5 ∨ k = 6 ∨ k = 8 ∨ k = 10 → args ≠ [])
theorem OkN_of {r : Re} (hg : Good r) (hn : ∀ a ∈ r.args, IsN a) : OkN r := by
  cases r with
  | mk k s args mn mx ng =>
    have h1 := good_node hg
    refine ⟨fun a ha => ⟨good_args hg a ha, hn a ha⟩, fun hk => ?_, fun hk => ?_⟩
    · unfold nodeErr at h1
      rw [if_neg (by omega)] at h1
      split at h1
      · omega
      · rename_i h2
        refine ⟨?_, ?_, ?_, ?_, ?_⟩
        · rintro rfl; apply h2; left; simp [need, hk]
        · cases s with
          | nil => rfl
          | cons x l => exact absurd (Or.inr (Or.inr (Or.inl ⟨by omega, by simp⟩))) h2
        · by_cases h : mn = 0; exact h; exact absurd (Or.inr (Or.inr (Or.inr (Or.inl ⟨by omega, by omega, h⟩)))) h2
        · by_cases h : mx = 0; exact h; exact absurd (Or.inr (Or.inr (Or.inr (Or.inr (Or.inl ⟨by omega, h⟩))))) h2
        · cases ng; rfl; exact absurd (Or.inr (Or.inr (Or.inr (Or.inr (Or.inr ⟨by omega, rfl⟩))))) h2
    · unfold nodeErr at h1
      rw [if_neg (by omega)] at h1
      split at h1
      · omega
      · rename_i h2
        rintro rfl; apply h2; left
        have : ¬ (k = 3 ∨ k = 4 ∨ k = 7) := by omega
        simp only [need, if_neg this]
        rw [if_pos (by omega)]; simp
theorem OkN_normal {r : Re} (hg : Good r) (hn : IsN r) : OkN r := OkN_of hg (IsN_args hn)

theorem sevL_cons (K : Int) (a : Re) (l : List Re) : sevL K (a :: l) = flat1 K a ++ sevL K l := by simp [sevL]
theorem sevL_append (K : Int) (l m : List Re) : sevL K (l ++ m) = sevL K l ++ sevL K m := by simp [sevL]
theorem sevF_congr {K : Int} {l m : List Re} (h : sevL K l = sevL K m) : sevF K l = sevF K m := by unfold sevF; rw [h]
theorem onceL_drop {a : Re} {l m : List Re} (h : a ∈ l) : onceL (l ++ a :: m) = onceL (l ++ m) := by
  unfold onceL
  rw [List.foldl_append, List.foldl_append, List.foldl_cons, if_pos]
  exact (mem_foldOnce l [] a).2 (Or.inr h)
theorem clean_args {K : Int} (hK : K = 3 ∨ K = 4 ∨ K = 7) {a : Re} (ha : IsN a) (hk : a.kind = K) : ∀ x ∈ a.args, Clean K x := by
  obtain ⟨s', l', a', b', c', rfl⟩ := kind_mk hk
  have h1 := ((IsN_iff ..).1 ha).1
  unfold normTop at h1
  rw [if_pos hK] at h1
  exact clean_of hK h1
/-- the arguments before: no rule -/
def Pre (K : Int) (acc : List Re) : Prop := (∀ a ∈ acc, Clean K a) ∧ (K ≠ 4 → ∀ a ∈ acc, a.kind ≠ 0) ∧ (K ≠ 3 → acc.Nodup)
theorem leftF_top {K : Int} (hK : K = 3 ∨ K = 4 ∨ K = 7) (l : List Re) : topF (leftF K l) = sevF K l := by
  unfold leftF
  split
  · show normTop K [] l 0 0 false = _; unfold normTop; rw [if_pos hK]
  · rename_i h
    obtain rfl : l = [] := by cases l; rfl; exact absurd (by simp) h
    have e : sevF K [] = sevEnd K [] := by unfold sevF; simp [sevL, onceL]
    rw [e]; simp only [sevEnd]
    split
    · exact topF_IsN IsN_empty
    · exact topF_IsN IsN_none
theorem leftF_ok {K : Int} (hK : K = 3 ∨ K = 4 ∨ K = 7) {l : List Re} (h : ∀ a ∈ l, Good a ∧ IsN a) : OkN (leftF K l) := by
  unfold leftF
  split
  · rename_i h1; exact ⟨h, fun _ => ⟨h1, rfl, rfl, rfl, rfl⟩, fun hh => by omega⟩
  · split
    · exact OkN_normal good_empty IsN_empty
    · exact OkN_normal good_none IsN_none
theorem leftF_sz {K : Int} (l : List Re) : sz (leftF K l) ≤ szL l + 1 := by
  unfold leftF
  split
  · rw [sz_mk]; omega
  · split
    · rw [sz_empty]; omega
    · rw [sz_none]; omega

theorem manyGo_some {K : Int} (hK : K = 3 ∨ K = 4 ∨ K = 7) (l : List Re) : ∀ (acc : List Re), Pre K acc → (∀ a ∈ acc ++ l, Good a ∧ IsN a) → ∀ x, manyGo K acc l = some x →
    OkN x ∧ topF x = sevF K (acc ++ l) ∧ sz x < szL (acc ++ l) + 1 := by
  induction l with
  | nil => intro acc _ _ x h; simp [manyGo] at h
  | cons a rest ih =>
    intro acc hp hn x h
    have ha := hn a (by simp)
    have hza := sz_pos a
    have hsz : szL (acc ++ a :: rest) = szL acc + (sz a + szL rest) := by rw [szL_append, szL_cons]
    simp only [manyGo] at h
    split at h
    · rename_i h1
      cases h
      have hca := clean_args hK ha.2 h1
      have hsl : sevL K (acc ++ a :: rest) = sevL K (acc ++ a.args ++ rest) := by
        rw [sevL_append, sevL_append, sevL_append, sevL_cons, sevL_clean hca]
        unfold flat1; rw [if_pos h1]; simp
      refine ⟨⟨fun y hy => ?_, fun _ => ⟨?_, rfl, rfl, rfl, rfl⟩, fun hh => by omega⟩, ?_, ?_⟩
      · rcases List.mem_append.1 hy with hy | hy
        · rcases List.mem_append.1 hy with hy | hy
          · exact hn y (by simp [hy])
          · exact ⟨good_args' ha.1 y hy, IsN_args ha.2 y hy⟩
        · exact hn y (by simp [hy])
      · intro he
        have h2 : a.args = [] := by cases hh : a.args with | nil => rfl | cons y l => rw [hh] at he; simp at he
        have := OkN_normal ha.1 ha.2
        cases a with
        | mk k' s' l' x1 x2 x3 =>
          have h1 : k' = K := h1
          subst h1
          exact (this.2.1 hK).1 h2
      · rw [sevF_congr hsl]; show normTop K [] _ 0 0 false = _; unfold normTop; rw [if_pos hK]
      · rw [sz_mk, hsz, szL_append, szL_append]; have := sz_args a; omega
    · rename_i h1
      split at h
      · rename_i h2
        cases h
        refine ⟨OkN_normal good_none IsN_none, ?_, by rw [sz_none, hsz]; omega⟩
        rw [topF_IsN IsN_none]
        unfold sevF
        rw [if_pos]
        refine ⟨h2.2, a, ?_, h2.1⟩
        rw [sevL_append, sevL_cons, flat1_clean ⟨h1, by omega, by omega⟩]; simp
      · rename_i h2
        split at h
        · rename_i h3
          cases h
          refine ⟨leftF_ok hK fun y hy => hn y (by rcases List.mem_append.1 hy with h | h <;> simp [h]), ?_, by have := leftF_sz (K := K) (acc ++ rest); rw [szL_append] at this; rw [hsz]; omega⟩
          rw [leftF_top hK]
          by_cases h4 : a.kind = 0 ∨ (a.kind = 1 ∧ K = 3)
          · refine (sevF_congr ?_).symm
            rw [sevL_append, sevL_append, sevL_cons]
            unfold flat1; rw [if_neg h1, if_pos]
            · simp
            · rcases h4 with h4 | h4
              · exact Or.inr ⟨h4, by by_cases h5 : K = 4; exact h5; exact absurd ⟨h4, h5⟩ h2⟩
              · exact Or.inl h4
          · obtain ⟨h5, h6⟩ := h3.resolve_left h4
            have hc : Clean K a := ⟨h1, fun h => h4 (Or.inr h), fun h => h4 (Or.inl h.1)⟩
            have e1 : sevL K (acc ++ a :: rest) = acc ++ a :: sevL K rest := by rw [sevL_append, sevL_cons, flat1_clean hc, sevL_clean hp.1]; rfl
            have e2 : sevL K (acc ++ rest) = acc ++ sevL K rest := by rw [sevL_append, sevL_clean hp.1]
            unfold sevF
            rw [e1, e2, onceL_drop h6]
            have : (∃ y ∈ acc ++ a :: sevL K rest, y.kind = 0) ↔ (∃ y ∈ acc ++ sevL K rest, y.kind = 0) := by
              constructor
              · rintro ⟨y, hy, hy0⟩
                rcases List.mem_append.1 hy with hy | hy
                · exact ⟨y, by simp [hy], hy0⟩
                · rcases List.mem_cons.1 hy with rfl | hy
                  · exact ⟨_, by simp [h6], hy0⟩
                  · exact ⟨y, by simp [hy], hy0⟩
              · rintro ⟨y, hy, hy0⟩
                exact ⟨y, by rcases List.mem_append.1 hy with h | h <;> simp [h], hy0⟩
            simp only [this, if_pos h5]
        · rename_i h3
          have hc : Clean K a := ⟨h1, fun h => h3 (Or.inl (Or.inr h)), fun h => h3 (Or.inl (Or.inl h.1))⟩
          have := ih (acc ++ [a]) ⟨fun y hy => ?_, fun h4 y hy => ?_, fun h4 => ?_⟩ (fun y hy => hn y (by simpa using hy)) x h
          · simpa using this
          · rcases List.mem_append.1 hy with hy | hy
            · exact hp.1 y hy
            · rw [List.mem_singleton.1 hy]; exact hc
          · rcases List.mem_append.1 hy with hy | hy
            · exact hp.2.1 h4 y hy
            · rw [List.mem_singleton.1 hy]; exact fun h0 => h3 (Or.inl (Or.inl h0))
          · rw [List.nodup_append]
            exact ⟨hp.2.2 h4, by simp, fun y hy b hb => by rw [List.mem_singleton.1 hb]; exact fun e => h3 (Or.inr ⟨h4, e ▸ hy⟩)⟩
theorem manyGo_none {K : Int} (hK : K = 3 ∨ K = 4 ∨ K = 7) (l : List Re) : ∀ (acc : List Re), Pre K acc → manyGo K acc l = none → Pre K (acc ++ l) := by
  induction l with
  | nil => intro acc h _; simpa using h
  | cons a rest ih =>
    intro acc hp h
    simp only [manyGo] at h
    split at h
    · cases h
    · rename_i h1
      split at h
      · cases h
      · rename_i h2
        split at h
        · cases h
        · rename_i h3
          have hc : Clean K a := ⟨h1, fun h => h3 (Or.inl (Or.inr h)), fun h => h3 (Or.inl (Or.inl h.1))⟩
          have := ih (acc ++ [a]) ⟨fun y hy => ?_, fun h4 y hy => ?_, fun h4 => ?_⟩ h
          · simpa using this
          · rcases List.mem_append.1 hy with hy | hy
            · exact hp.1 y hy
            · rw [List.mem_singleton.1 hy]; exact hc
          · rcases List.mem_append.1 hy with hy | hy
            · exact hp.2.1 h4 y hy
            · rw [List.mem_singleton.1 hy]; exact fun h0 => h3 (Or.inl (Or.inl h0))
          · rw [List.nodup_append]
            exact ⟨hp.2.2 h4, by simp, fun y hy b hb => by rw [List.mem_singleton.1 hb]; exact fun e => h3 (Or.inr ⟨h4, e ▸ hy⟩)⟩
theorem sevF_pre {K : Int} {l : List Re} (h : Pre K l) : sevF K l = sevEnd K l := by
  unfold sevF
  rw [sevL_clean h.1, if_neg (fun hh => by obtain ⟨y, hy, h0⟩ := hh.2; exact h.2.1 hh.1 y hy h0)]
  split
  · rename_i h3
    have := foldOnce_nodup (l := l) (o := []) (by simpa using h.2.2 h3)
    congr 1
  · rfl

/-- a rule comes nearer, and keeps what the node comes to -/
theorem rule_some {r x : Re} (h : OkN r) (hx : ruleF r = some x) : OkN x ∧ topF x = topF r ∧ sz x < sz r := by
  cases r with
  | mk k s args mn mx ng =>
    obtain ⟨h1, h2, h3⟩ := h
    simp only [ruleF] at hx
    split at hx
    · rename_i hK
      obtain ⟨h4, rfl, rfl, rfl, rfl⟩ := h2 hK
      have ht : topF (.mk k [] args 0 0 false) = sevF k args := by show normTop _ _ _ _ _ _ = _; unfold normTop; rw [if_pos hK]
      rw [ht, sz_mk]
      unfold manyF at hx
      split at hx
      · rename_i y hy
        cases hx
        have := manyGo_some hK args [] ⟨by simp, by simp, by simp⟩ (by simpa using h1) _ hy
        simpa using this
      · rename_i hy
        have hp := manyGo_none hK args [] ⟨by simp, by simp, by simp⟩ hy
        rw [List.nil_append] at hp
        match args, hx, h1, hp with
        | [a], hx, h1, hp =>
          simp only [oneOf] at hx; cases hx
          have ha := h1 x (by simp)
          refine ⟨OkN_normal ha.1 ha.2, ?_, by rw [szL_cons]; omega⟩
          rw [topF_IsN ha.2, sevF_pre hp]; rfl
    · rename_i hK
      cases args with
      | nil => simp at hx
      | cons a rest =>
        have ha := h1 a (by simp)
        have hza := sz_pos a
        have hsz : sz (.mk k s (a :: rest) mn mx ng) = sz a + szL rest + 1 := by rw [sz_mk, szL_cons]
        have ht : ∀ y, IsN y → y = normTop k s (a :: rest) mn mx ng → topF y = topF (.mk k s (a :: rest) mn mx ng) := fun y hy e => (topF_IsN hy).trans e
        have hE : ∀ y, y = emptyRe ∨ y = noneRe → OkN y ∧ IsN y ∧ sz y = 1 := by
          rintro y (rfl | rfl)
          · exact ⟨OkN_normal good_empty IsN_empty, IsN_empty, sz_empty⟩
          · exact ⟨OkN_normal good_none IsN_none, IsN_none, sz_none⟩
        have fin : ∀ y, y = emptyRe ∨ y = noneRe → y = normTop k s (a :: rest) mn mx ng → OkN y ∧ topF y = topF (.mk k s (a :: rest) mn mx ng) ∧ sz y < sz (.mk k s (a :: rest) mn mx ng) := fun y hy e => by
          obtain ⟨q1, q2, q3⟩ := hE y hy
          exact ⟨q1, ht y q2 e, by omega⟩
        have hnone : a.kind = 0 → a = noneRe := by
          intro h0
          cases a with
          | mk k' s' l' m' x' g' =>
            have h0 : k' = 0 := h0
            subst h0
            have hh := good_node ha.1
            unfold nodeErr at hh
            rw [if_neg (by omega)] at hh
            split at hh
            · omega
            · rename_i hc
              simp only [need] at hc
              unfold noneRe
              obtain rfl : s' = [] := by cases s'; rfl; exact absurd (by simp) hc
              obtain rfl : l' = [] := by cases l'; rfl; exact absurd (by simp) hc
              obtain rfl : m' = 0 := by by_cases h : m' = 0; exact h; exact absurd (by simp [h]) hc
              obtain rfl : x' = 0 := by by_cases h : x' = 0; exact h; exact absurd (by simp [h]) hc
              obtain rfl : g' = false := by cases g'; rfl; exact absurd (by simp) hc
              rfl
        simp only at hx
        split at hx
        · rename_i h56
          have hN : normTop k s (a :: rest) mn mx ng = repF k s a rest mn mx ng := by unfold normTop; rw [if_neg hK]; simp only; rw [if_pos h56]
          unfold repG at hx
          split at hx
          · rename_i q1
            cases hx
            refine fin _ (Or.inl rfl) ?_
            rw [hN]; unfold repF; rw [if_pos (by rcases q1 with q | q; exact Or.inr (Or.inr q); exact Or.inl q)]
          · rename_i q1
            split at hx
            · rename_i q2
              split at hx
              · rename_i q3
                cases hx
                refine fin _ (Or.inl rfl) ?_
                rw [hN]; unfold repF; rw [if_pos (Or.inr (Or.inl ⟨q2, q3⟩))]
              · rename_i q3
                cases hx
                refine fin _ (Or.inr rfl) ?_
                rw [hN]; unfold repF
                rw [if_neg (by rintro (h | h | h); exact q1 (Or.inr h); exact q3 h.2; exact q1 (Or.inl h)), if_pos (Or.inl q2), hnone q2]
            · rename_i q2
              split at hx
              · rename_i q3
                cases hx
                refine ⟨OkN_normal ha.1 ha.2, ht _ ha.2 ?_, by omega⟩
                rw [hN]; unfold repF
                rw [if_neg (by rintro (h | h | h); exact q1 (Or.inr h); exact q2 h.1; exact q1 (Or.inl h)), if_pos (Or.inr q3)]
              · cases hx
        · rename_i h56
          split at hx
          · rename_i h8
            subst h8
            have hN : normTop 8 s (a :: rest) mn mx ng = if a.kind = 8 then a.args.headD noneRe else .mk 8 s (a :: rest) mn mx ng := by unfold normTop; rw [if_neg hK]; simp only [if_neg h56, if_true]
            split at hx
            · rename_i q
              cases hx
              have hok := OkN_normal ha.1 ha.2
              have hs := sz_args a
              cases a with
              | mk k' s' l' m' x' g' =>
                have q' : k' = 8 := q
                subst q'
                match l', hok, hs with
                | [], hok, _ => exact absurd rfl (hok.2.2 (by omega))
                | y :: l', hok, hs =>
                  simp only [Re.args, List.headD_cons] at hs ⊢
                  have hy := hok.1 y (by simp)
                  rw [szL_cons] at hs
                  refine ⟨OkN_normal hy.1 hy.2, ht _ hy.2 ?_, by omega⟩
                  rw [hN, if_pos q]; rfl
            · cases hx
          · rename_i h8
            split at hx
            · rename_i h10
              subst h10
              have hN : normTop 10 s (a :: rest) mn mx ng = if a.kind = 1 then (if ng then noneRe else emptyRe) else if a.kind = 0 then (if ng then emptyRe else noneRe) else .mk 10 s (a :: rest) mn mx ng := by unfold normTop; rw [if_neg hK]; simp only [if_neg h56, if_neg h8, if_true]
              have h0 : 0 ≤ a.kind := by
                have hh := ha.1
                cases a with
                | mk k' s' l' m' x' g' =>
                  have hh := good_node hh
                  unfold nodeErr at hh
                  show 0 ≤ k'
                  by_cases hq : k' < 0
                  · rw [if_pos (Or.inl hq)] at hh; omega
                  · omega
              split at hx
              · rename_i q1
                split at hx
                · rename_i q2
                  cases hx
                  refine fin _ (Or.inl rfl) ?_
                  rw [hN]
                  by_cases q3 : a.kind = 1
                  · rw [if_pos q3]; rw [decide_eq_true q3] at q2; cases ng; rfl; exact absurd rfl q2
                  · rw [if_neg q3, if_pos (by omega)]; rw [decide_eq_false q3] at q2; cases ng; exact absurd rfl q2; rfl
                · rename_i q2
                  cases hx
                  have q2 := Decidable.not_not.1 q2
                  refine fin _ (Or.inr rfl) ?_
                  rw [hN]
                  by_cases q3 : a.kind = 1
                  · rw [if_pos q3]; rw [decide_eq_true q3] at q2; subst q2; rfl
                  · rw [if_neg q3, if_pos (by omega)]; rw [decide_eq_false q3] at q2; subst q2; rfl
              · cases hx
            · cases hx
theorem rule_none {r : Re} (h : OkN r) (hx : ruleF r = none) : topF r = r := by
  cases r with
  | mk k s args mn mx ng =>
    obtain ⟨h1, h2, h3⟩ := h
    simp only [ruleF] at hx
    show normTop _ _ _ _ _ _ = _
    unfold normTop
    split at hx
    · rename_i hK
      obtain ⟨h4, rfl, rfl, rfl, rfl⟩ := h2 hK
      rw [if_pos hK]
      unfold manyF at hx
      split at hx
      · cases hx
      · rename_i hy
        have hp := manyGo_none hK args [] ⟨by simp, by simp, by simp⟩ hy
        rw [List.nil_append] at hp
        rw [sevF_pre hp]
        match args, h4, hx with
        | [], h4, _ => exact absurd rfl h4
        | [a], _, hx => simp [oneOf] at hx
        | a :: b :: l, _, _ => rfl
    · rename_i hK
      rw [if_neg hK]
      match args, hx with
      | [], _ => rfl
      | a :: rest, hx =>
        simp only at hx ⊢
        split at hx
        · rename_i h56
          rw [if_pos h56]
          unfold repG at hx
          unfold repF
          split at hx
          · cases hx
          · rename_i q1
            split at hx
            · split at hx <;> cases hx
            · rename_i q2
              split at hx
              · cases hx
              · rename_i q3
                rw [if_neg (by rintro (h | h | h); exact q1 (Or.inr h); exact q2 h.1; exact q1 (Or.inl h)), if_neg (by rintro (h | h); exact q2 h; exact q3 h)]
        · rename_i h56
          rw [if_neg h56]
          split at hx
          · rename_i h8
            rw [if_pos h8]
            split at hx
            · cases hx
            · rename_i q; rw [if_neg q]
          · rename_i h8
            rw [if_neg h8]
            split at hx
            · rename_i h10
              rw [if_pos h10]
              split at hx
              · split at hx <;> cases hx
              · rename_i q; rw [if_neg (by omega), if_neg (by omega)]
            · rename_i h10; rw [if_neg h10]
end Go.Proofs.Ytbnahmeaeakhhaa.B

namespace Go.Proofs.Ytbnahmeaeakhhaa.B
set_option linter.unusedVariables false
set_option linter.unusedSimpArgs false
open Go Go.RowKit Classical

/-- what a rule gives -/
def RuleR (H : PH) (w : World) (r : Re) (o : Option Re) (e : Ending) (w' : World) : Prop := ∃ H' cs, e = .returned (.tuple #[.agg cs.toArray, .bool o.isSome]) ∧ RdRe H' (o.getD r) cs ∧ Ext H H' w w'

theorem refEmpty_any (w : World) : Calls Try.prog 149 #[] w fun e w' => e = .returned (.agg #[.int .i64 1, .slice none 0 0, .slice none 0 0, .int .i64 0, .int .i64 0, .bool false]) ∧ Below w.heap.size w w' := by
  go_enter Try.func149, Try.ntmps149
  go_wp2_with fail
  refine bodyPost_ret (resC rfl _ _ _ rfl (run_loadVar_row _ _ _ _ #[.int .i64 1, .slice none 0 0, .slice none 0 0, .int .i64 0, .int .i64 0, .bool false] (0, 0) _ (heap_alloc_new _ _) Try.underlying25 rfl (by kernel_rfl))) rfl ?_
  exact ⟨rfl, bA (Below.refl _ _) _⟩

theorem refNone_any (w : World) : Calls Try.prog 150 #[] w fun e w' => e = .returned (.agg #[.int .i64 0, .slice none 0 0, .slice none 0 0, .int .i64 0, .int .i64 0, .bool false]) ∧ Below w.heap.size w w' := by
  go_enter Try.func150, Try.ntmps150
  go_wp2_with fail
  refine bodyPost_ret (resC rfl _ _ _ rfl (run_loadVar_row _ _ _ _ #[.int .i64 0, .slice none 0 0, .slice none 0 0, .int .i64 0, .int .i64 0, .bool false] (0, 0) _ (heap_alloc_new _ _) Try.underlying25 rfl (by kernel_rfl))) rfl ?_
  exact ⟨rfl, bA (Below.refl _ _) _⟩

set_option maxRecDepth 100000 in
set_option maxHeartbeats 4000000 in
theorem left_any (H : PH) (K : Int) (l : List Re) (A : Option Addr) (n c : Nat) (w : World) (hl : SlR kRe H A n c l) (hs : Sat w H) : Calls Try.prog 173 #[.int .i64 K, .slice A n c] w (ReR H w (leftF K l)) := by
  have hn := hl.1
  have hl48 : n ≤ 140737488355328 := hl.2.2.2.1
  by_cases hq : l = []
  case pos =>
    subst hq
    obtain rfl : n = 0 := hn
    clear hl48
    by_cases h3 : K = 3
    case pos =>
      subst h3
      have hx := Aside.mk (Ext.refl hs)
      go_enter Try.func173, Try.ntmps173
      go_wp2_with fail
      have hszw := hx.out.size
      have kz_ : (w.alloc (.cells #[.int .i64 0, .slice none 0 0, .slice none 0 0, .int .i64 0, .int .i64 0, .bool false] 25)).heap[w.heap.size]? = some (.cells #[.int .i64 0, .slice none 0 0, .slice none 0 0, .int .i64 0, .int .i64 0, .bool false] 25) := (heap_alloc_new _ _)
      have nz := Aside.mk (fun o => hx.out.sat.new (b := w.heap.size) (show w.heap.size ≤ _ by omega) o)
      replace hx := Aside.mk ((hx.out.alloc (.cells #[.int .i64 0, .slice none 0 0, .slice none 0 0, .int .i64 0, .int .i64 0, .bool false] 25)))
      generalize (w.alloc (.cells #[.int .i64 0, .slice none 0 0, .slice none 0 0, .int .i64 0, .int .i64 0, .bool false] 25)) = W1 at *
      have kz := Aside.mk kz_
      clear kz_
      refine (refEmpty_any _).mono ?_
      rintro e w1 ⟨rfl, hb⟩
      replace kz := Aside.mk (box_below kz.out hb)
      replace hx := Aside.mk (hx.out.then_below hb)
      clear hb
      have lqz : w.heap.size < w1.heap.size := boxL kz.out
      obtain ⟨⟨cz0, cz1, cz2, cz3, cz4, cz5⟩, fz0, fz1, fz2, fz3, fz4, fz5⟩ := kb6 kz.out
      go_wp2_with fail
      clear lqz cz0 cz1 cz2 cz3 cz4 cz5 fz0 fz1 fz2 fz3 fz4 fz5
      have kz_ : ((((((w1.setCell ⟨w.heap.size, 0, none⟩ (.int .i64 1)).setCell ⟨w.heap.size, 1, none⟩ (.slice none 0 0)).setCell ⟨w.heap.size, 2, none⟩ (.slice none 0 0)).setCell ⟨w.heap.size, 3, none⟩ (.int .i64 0)).setCell ⟨w.heap.size, 4, none⟩ (.int .i64 0)).setCell ⟨w.heap.size, 5, none⟩ (.bool false)).heap[w.heap.size]? = some (.cells #[.int .i64 1, .slice none 0 0, .slice none 0 0, .int .i64 0, .int .i64 0, .bool false] 25) := (boxS (boxS (boxS (boxS (boxS (boxS kz.out 0 (.int .i64 1)) 1 (.slice none 0 0)) 2 (.slice none 0 0)) 3 (.int .i64 0)) 4 (.int .i64 0)) 5 (.bool false))
      replace hx := Aside.mk (((((((hx.out.setCell (b := w.heap.size) (o := 0) (by first | omega | (simp; omega)) nz.out (.int .i64 1)).setCell (b := w.heap.size) (o := 1) (by first | omega | (simp; omega)) nz.out (.slice none 0 0)).setCell (b := w.heap.size) (o := 2) (by first | omega | (simp; omega)) nz.out (.slice none 0 0)).setCell (b := w.heap.size) (o := 3) (by first | omega | (simp; omega)) nz.out (.int .i64 0)).setCell (b := w.heap.size) (o := 4) (by first | omega | (simp; omega)) nz.out (.int .i64 0)).setCell (b := w.heap.size) (o := 5) (by first | omega | (simp; omega)) nz.out (.bool false)))
      generalize ((((((w1.setCell ⟨w.heap.size, 0, none⟩ (.int .i64 1)).setCell ⟨w.heap.size, 1, none⟩ (.slice none 0 0)).setCell ⟨w.heap.size, 2, none⟩ (.slice none 0 0)).setCell ⟨w.heap.size, 3, none⟩ (.int .i64 0)).setCell ⟨w.heap.size, 4, none⟩ (.int .i64 0)).setCell ⟨w.heap.size, 5, none⟩ (.bool false)) = W2 at *
      replace kz := Aside.mk kz_
      clear kz_
      refine bodyPost_ret (resC rfl _ _ _ rfl (run_loadVar_row _ _ _ _ _ (0, 0) _ kz.out Try.underlying25 rfl (by kernel_rfl))) rfl ?_
      exact ⟨_, _, rfl, by unfold leftF; simp only [ne_eq, not_true_eq_false, if_false, if_true]; exact rd_empty _, hx.out⟩
    case neg =>
      replace h3 := h3
      have hx := Aside.mk (Ext.refl hs)
      go_enter Try.func173, Try.ntmps173
      go_wp2_with fail
      have hszw := hx.out.size
      have kz_ : (w.alloc (.cells #[.int .i64 0, .slice none 0 0, .slice none 0 0, .int .i64 0, .int .i64 0, .bool false] 25)).heap[w.heap.size]? = some (.cells #[.int .i64 0, .slice none 0 0, .slice none 0 0, .int .i64 0, .int .i64 0, .bool false] 25) := (heap_alloc_new _ _)
      have nz := Aside.mk (fun o => hx.out.sat.new (b := w.heap.size) (show w.heap.size ≤ _ by omega) o)
      replace hx := Aside.mk ((hx.out.alloc (.cells #[.int .i64 0, .slice none 0 0, .slice none 0 0, .int .i64 0, .int .i64 0, .bool false] 25)))
      generalize (w.alloc (.cells #[.int .i64 0, .slice none 0 0, .slice none 0 0, .int .i64 0, .int .i64 0, .bool false] 25)) = W3 at *
      have kz := Aside.mk kz_
      clear kz_
      refine (refNone_any _).mono ?_
      rintro e w1 ⟨rfl, hb⟩
      replace kz := Aside.mk (box_below kz.out hb)
      replace hx := Aside.mk (hx.out.then_below hb)
      clear hb
      have lqz : w.heap.size < w1.heap.size := boxL kz.out
      obtain ⟨⟨cz0, cz1, cz2, cz3, cz4, cz5⟩, fz0, fz1, fz2, fz3, fz4, fz5⟩ := kb6 kz.out
      go_wp2_with fail
      clear lqz cz0 cz1 cz2 cz3 cz4 cz5 fz0 fz1 fz2 fz3 fz4 fz5
      have kz_ : ((((((w1.setCell ⟨w.heap.size, 0, none⟩ (.int .i64 0)).setCell ⟨w.heap.size, 1, none⟩ (.slice none 0 0)).setCell ⟨w.heap.size, 2, none⟩ (.slice none 0 0)).setCell ⟨w.heap.size, 3, none⟩ (.int .i64 0)).setCell ⟨w.heap.size, 4, none⟩ (.int .i64 0)).setCell ⟨w.heap.size, 5, none⟩ (.bool false)).heap[w.heap.size]? = some (.cells #[.int .i64 0, .slice none 0 0, .slice none 0 0, .int .i64 0, .int .i64 0, .bool false] 25) := (boxS (boxS (boxS (boxS (boxS (boxS kz.out 0 (.int .i64 0)) 1 (.slice none 0 0)) 2 (.slice none 0 0)) 3 (.int .i64 0)) 4 (.int .i64 0)) 5 (.bool false))
      replace hx := Aside.mk (((((((hx.out.setCell (b := w.heap.size) (o := 0) (by first | omega | (simp; omega)) nz.out (.int .i64 0)).setCell (b := w.heap.size) (o := 1) (by first | omega | (simp; omega)) nz.out (.slice none 0 0)).setCell (b := w.heap.size) (o := 2) (by first | omega | (simp; omega)) nz.out (.slice none 0 0)).setCell (b := w.heap.size) (o := 3) (by first | omega | (simp; omega)) nz.out (.int .i64 0)).setCell (b := w.heap.size) (o := 4) (by first | omega | (simp; omega)) nz.out (.int .i64 0)).setCell (b := w.heap.size) (o := 5) (by first | omega | (simp; omega)) nz.out (.bool false)))
      generalize ((((((w1.setCell ⟨w.heap.size, 0, none⟩ (.int .i64 0)).setCell ⟨w.heap.size, 1, none⟩ (.slice none 0 0)).setCell ⟨w.heap.size, 2, none⟩ (.slice none 0 0)).setCell ⟨w.heap.size, 3, none⟩ (.int .i64 0)).setCell ⟨w.heap.size, 4, none⟩ (.int .i64 0)).setCell ⟨w.heap.size, 5, none⟩ (.bool false)) = W4 at *
      replace kz := Aside.mk kz_
      clear kz_
      refine bodyPost_ret (resC rfl _ _ _ rfl (run_loadVar_row _ _ _ _ _ (0, 0) _ kz.out Try.underlying25 rfl (by kernel_rfl))) rfl ?_
      exact ⟨_, _, rfl, by unfold leftF; simp only [ne_eq, not_true_eq_false, if_false, if_neg h3]; exact rd_none _, hx.out⟩
  case neg =>
    have hp : 0 < n := by rw [hn]; exact List.length_pos_iff.2 hq
    have hp2 : (0 : Int) < (n : Int) := by omega
    replace hn := Aside.mk hn
    replace hq := Aside.mk hq
    have hx := Aside.mk (Ext.refl hs)
    replace hl := Aside.mk hl
    go_enter Try.func173, Try.ntmps173
    go_wp2_with fail
    have hszw := hx.out.size
    have kz_ : (w.alloc (.cells #[.int .i64 K, .slice none 0 0, .slice A n c, .int .i64 0, .int .i64 0, .bool false] 25)).heap[w.heap.size]? = some (.cells #[.int .i64 K, .slice none 0 0, .slice A n c, .int .i64 0, .int .i64 0, .bool false] 25) := (heap_alloc_new _ _)
    have nz := Aside.mk (fun o => hx.out.sat.new (b := w.heap.size) (show w.heap.size ≤ _ by omega) o)
    replace hx := Aside.mk ((hx.out.alloc (.cells #[.int .i64 K, .slice none 0 0, .slice A n c, .int .i64 0, .int .i64 0, .bool false] 25)))
    generalize (w.alloc (.cells #[.int .i64 K, .slice none 0 0, .slice A n c, .int .i64 0, .int .i64 0, .bool false] 25)) = W5 at *
    have kz := Aside.mk kz_
    clear kz_
    refine bodyPost_ret (resC rfl _ _ _ rfl (run_loadVar_row _ _ _ _ _ (0, 0) _ kz.out Try.underlying25 rfl (by kernel_rfl))) rfl ?_
    exact ⟨_, _, rfl, by unfold leftF; rw [if_pos hq.out]; exact RdRe.shut (SlR.nil _ _) hl.out, hx.out⟩

set_option maxRecDepth 100000 in
set_option maxHeartbeats 16000000 in
theorem ruleRepeat_any (H : PH) (k : Int) (set : List Span) (a : Re) (rest : List Re) (mn mx : Int) (ng : Bool) (cs : List Value) (w : World) (hr : RdRe H (.mk k set (a :: rest) mn mx ng) cs) (hs : Sat w H) (hk : k = 5 ∨ k = 6) :
    Calls Try.prog 148 #[.agg cs.toArray] w (RuleR H w (.mk k set (a :: rest) mn mx ng) (repG k a mn mx)) := by
  obtain ⟨A1, c1, A2, c2, rfl, h1, h2⟩ := hr.open
  obtain ⟨b, off, k1, s1, a1, u1, v1, g1, P1, d1, P2, d2, rfl, hq, hrd, g0, g1_, g2, g3, g4, g5⟩ := cell_elem h2 hs 0 (by simp)
  simp only [List.getElem_cons_zero, Nat.zero_mul, Nat.add_zero] at hq g0 g1_ g2 g3 g4 g5
  subst hq
  have hc2 := h2.2.1
  have hbz : b < w.heap.size := World.block_lt_of_cell? w _ g0
  simp only [List.length_cons] at hc2 hr ⊢
  have hll : (0 : Int) < (rest.length : Int) + 1 := by omega
  have HR := Aside.mk (And.intro hr hrd)
  clear hr hrd h1 h2
  rcases hk with rfl | rfl
  · skip
    by_cases q0 : k1 = 1
    case pos =>
      subst q0
      have HF := Aside.mk (show repG 5 (Re.mk 1 s1 a1 u1 v1 g1) mn mx = some emptyRe from by unfold repG; simp [Re.kind])
      have hx := Aside.mk (Ext.refl hs)
      go_enter Try.func148, Try.ntmps148
      go_wp2_with fail
      have hszw := hx.out.size
      have kr_ : (((w.alloc (.cells #[.int .i64 5, .slice A1 set.length c1, .slice (some ⟨b, off, none⟩) (rest.length + 1) c2, .int .i64 mn, .int .i64 mx, .bool ng] 25)).alloc (.cells #[.int .i64 0, .slice none 0 0, .slice none 0 0, .int .i64 0, .int .i64 0, .bool false] 25)).alloc (.cells #[.int .i64 1, .slice P1 s1.length d1, .slice P2 a1.length d2, .int .i64 u1, .int .i64 v1, .bool g1] 25)).heap[w.heap.size]? = some (.cells #[.int .i64 5, .slice A1 set.length c1, .slice (some ⟨b, off, none⟩) (rest.length + 1) c2, .int .i64 mn, .int .i64 mx, .bool ng] 25) := (boxA (boxA (heap_alloc_new _ _) (.cells #[.int .i64 0, .slice none 0 0, .slice none 0 0, .int .i64 0, .int .i64 0, .bool false] 25)) (.cells #[.int .i64 1, .slice P1 s1.length d1, .slice P2 a1.length d2, .int .i64 u1, .int .i64 v1, .bool g1] 25))
      have kz_ : (((w.alloc (.cells #[.int .i64 5, .slice A1 set.length c1, .slice (some ⟨b, off, none⟩) (rest.length + 1) c2, .int .i64 mn, .int .i64 mx, .bool ng] 25)).alloc (.cells #[.int .i64 0, .slice none 0 0, .slice none 0 0, .int .i64 0, .int .i64 0, .bool false] 25)).alloc (.cells #[.int .i64 1, .slice P1 s1.length d1, .slice P2 a1.length d2, .int .i64 u1, .int .i64 v1, .bool g1] 25)).heap[w.heap.size + 1]? = some (.cells #[.int .i64 0, .slice none 0 0, .slice none 0 0, .int .i64 0, .int .i64 0, .bool false] 25) := (boxA (by rw [show w.heap.size + 1 = ((w.alloc (.cells #[.int .i64 5, .slice A1 set.length c1, .slice (some ⟨b, off, none⟩) (rest.length + 1) c2, .int .i64 mn, .int .i64 mx, .bool ng] 25))).heap.size by simp]; exact heap_alloc_new _ _) (.cells #[.int .i64 1, .slice P1 s1.length d1, .slice P2 a1.length d2, .int .i64 u1, .int .i64 v1, .bool g1] 25))
      have ka_ : (((w.alloc (.cells #[.int .i64 5, .slice A1 set.length c1, .slice (some ⟨b, off, none⟩) (rest.length + 1) c2, .int .i64 mn, .int .i64 mx, .bool ng] 25)).alloc (.cells #[.int .i64 0, .slice none 0 0, .slice none 0 0, .int .i64 0, .int .i64 0, .bool false] 25)).alloc (.cells #[.int .i64 1, .slice P1 s1.length d1, .slice P2 a1.length d2, .int .i64 u1, .int .i64 v1, .bool g1] 25)).heap[w.heap.size + 1 + 1]? = some (.cells #[.int .i64 1, .slice P1 s1.length d1, .slice P2 a1.length d2, .int .i64 u1, .int .i64 v1, .bool g1] 25) := (by rw [show w.heap.size + 1 + 1 = (((w.alloc (.cells #[.int .i64 5, .slice A1 set.length c1, .slice (some ⟨b, off, none⟩) (rest.length + 1) c2, .int .i64 mn, .int .i64 mx, .bool ng] 25)).alloc (.cells #[.int .i64 0, .slice none 0 0, .slice none 0 0, .int .i64 0, .int .i64 0, .bool false] 25))).heap.size by simp]; exact heap_alloc_new _ _)
      have nr := Aside.mk (fun o => hx.out.sat.new (b := w.heap.size) (show w.heap.size ≤ _ by omega) o)
      have nz := Aside.mk (fun o => hx.out.sat.new (b := w.heap.size + 1) (show w.heap.size ≤ _ by omega) o)
      have na := Aside.mk (fun o => hx.out.sat.new (b := w.heap.size + 1 + 1) (show w.heap.size ≤ _ by omega) o)
      replace hx := Aside.mk ((((hx.out.alloc (.cells #[.int .i64 5, .slice A1 set.length c1, .slice (some ⟨b, off, none⟩) (rest.length + 1) c2, .int .i64 mn, .int .i64 mx, .bool ng] 25)).alloc (.cells #[.int .i64 0, .slice none 0 0, .slice none 0 0, .int .i64 0, .int .i64 0, .bool false] 25)).alloc (.cells #[.int .i64 1, .slice P1 s1.length d1, .slice P2 a1.length d2, .int .i64 u1, .int .i64 v1, .bool g1] 25)))
      generalize (((w.alloc (.cells #[.int .i64 5, .slice A1 set.length c1, .slice (some ⟨b, off, none⟩) (rest.length + 1) c2, .int .i64 mn, .int .i64 mx, .bool ng] 25)).alloc (.cells #[.int .i64 0, .slice none 0 0, .slice none 0 0, .int .i64 0, .int .i64 0, .bool false] 25)).alloc (.cells #[.int .i64 1, .slice P1 s1.length d1, .slice P2 a1.length d2, .int .i64 u1, .int .i64 v1, .bool g1] 25)) = W1 at *
      have kr := Aside.mk kr_
      clear kr_
      have kz := Aside.mk kz_
      clear kz_
      have ka := Aside.mk ka_
      clear ka_
      refine (refEmpty_any _).mono ?_
      rintro e w1 ⟨rfl, hb⟩
      replace kr := Aside.mk (box_below kr.out hb)
      replace kz := Aside.mk (box_below kz.out hb)
      replace ka := Aside.mk (box_below ka.out hb)
      replace hx := Aside.mk (hx.out.then_below hb)
      clear hb
      have lqr : w.heap.size < w1.heap.size := boxL kr.out
      obtain ⟨⟨cr0, cr1, cr2, cr3, cr4, cr5⟩, fr0, fr1, fr2, fr3, fr4, fr5⟩ := kb6 kr.out
      have lqz : w.heap.size + 1 < w1.heap.size := boxL kz.out
      obtain ⟨⟨cz0, cz1, cz2, cz3, cz4, cz5⟩, fz0, fz1, fz2, fz3, fz4, fz5⟩ := kb6 kz.out
      have lqa : w.heap.size + 1 + 1 < w1.heap.size := boxL ka.out
      obtain ⟨⟨ca0, ca1, ca2, ca3, ca4, ca5⟩, fa0, fa1, fa2, fa3, fa4, fa5⟩ := kb6 ka.out
      go_wp2_with fail
      clear lqr cr0 cr1 cr2 cr3 cr4 cr5 fr0 fr1 fr2 fr3 fr4 fr5 lqz cz0 cz1 cz2 cz3 cz4 cz5 fz0 fz1 fz2 fz3 fz4 fz5 lqa ca0 ca1 ca2 ca3 ca4 ca5 fa0 fa1 fa2 fa3 fa4 fa5
      have kr_ : ((((((w1.setCell ⟨w.heap.size + 1, 0, none⟩ (.int .i64 1)).setCell ⟨w.heap.size + 1, 1, none⟩ (.slice none 0 0)).setCell ⟨w.heap.size + 1, 2, none⟩ (.slice none 0 0)).setCell ⟨w.heap.size + 1, 3, none⟩ (.int .i64 0)).setCell ⟨w.heap.size + 1, 4, none⟩ (.int .i64 0)).setCell ⟨w.heap.size + 1, 5, none⟩ (.bool false)).heap[w.heap.size]? = some (.cells #[.int .i64 5, .slice A1 set.length c1, .slice (some ⟨b, off, none⟩) (rest.length + 1) c2, .int .i64 mn, .int .i64 mx, .bool ng] 25) := (boxS_ne (boxS_ne (boxS_ne (boxS_ne (boxS_ne (boxS_ne kr.out (by first | omega | (simp; omega)) 0 (.int .i64 1)) (by first | omega | (simp; omega)) 1 (.slice none 0 0)) (by first | omega | (simp; omega)) 2 (.slice none 0 0)) (by first | omega | (simp; omega)) 3 (.int .i64 0)) (by first | omega | (simp; omega)) 4 (.int .i64 0)) (by first | omega | (simp; omega)) 5 (.bool false))
      have kz_ : ((((((w1.setCell ⟨w.heap.size + 1, 0, none⟩ (.int .i64 1)).setCell ⟨w.heap.size + 1, 1, none⟩ (.slice none 0 0)).setCell ⟨w.heap.size + 1, 2, none⟩ (.slice none 0 0)).setCell ⟨w.heap.size + 1, 3, none⟩ (.int .i64 0)).setCell ⟨w.heap.size + 1, 4, none⟩ (.int .i64 0)).setCell ⟨w.heap.size + 1, 5, none⟩ (.bool false)).heap[w.heap.size + 1]? = some (.cells #[.int .i64 1, .slice none 0 0, .slice none 0 0, .int .i64 0, .int .i64 0, .bool false] 25) := (boxS (boxS (boxS (boxS (boxS (boxS kz.out 0 (.int .i64 1)) 1 (.slice none 0 0)) 2 (.slice none 0 0)) 3 (.int .i64 0)) 4 (.int .i64 0)) 5 (.bool false))
      have ka_ : ((((((w1.setCell ⟨w.heap.size + 1, 0, none⟩ (.int .i64 1)).setCell ⟨w.heap.size + 1, 1, none⟩ (.slice none 0 0)).setCell ⟨w.heap.size + 1, 2, none⟩ (.slice none 0 0)).setCell ⟨w.heap.size + 1, 3, none⟩ (.int .i64 0)).setCell ⟨w.heap.size + 1, 4, none⟩ (.int .i64 0)).setCell ⟨w.heap.size + 1, 5, none⟩ (.bool false)).heap[w.heap.size + 1 + 1]? = some (.cells #[.int .i64 1, .slice P1 s1.length d1, .slice P2 a1.length d2, .int .i64 u1, .int .i64 v1, .bool g1] 25) := (boxS_ne (boxS_ne (boxS_ne (boxS_ne (boxS_ne (boxS_ne ka.out (by first | omega | (simp; omega)) 0 (.int .i64 1)) (by first | omega | (simp; omega)) 1 (.slice none 0 0)) (by first | omega | (simp; omega)) 2 (.slice none 0 0)) (by first | omega | (simp; omega)) 3 (.int .i64 0)) (by first | omega | (simp; omega)) 4 (.int .i64 0)) (by first | omega | (simp; omega)) 5 (.bool false))
      replace hx := Aside.mk (((((((hx.out.setCell (b := w.heap.size + 1) (o := 0) (by first | omega | (simp; omega)) nz.out (.int .i64 1)).setCell (b := w.heap.size + 1) (o := 1) (by first | omega | (simp; omega)) nz.out (.slice none 0 0)).setCell (b := w.heap.size + 1) (o := 2) (by first | omega | (simp; omega)) nz.out (.slice none 0 0)).setCell (b := w.heap.size + 1) (o := 3) (by first | omega | (simp; omega)) nz.out (.int .i64 0)).setCell (b := w.heap.size + 1) (o := 4) (by first | omega | (simp; omega)) nz.out (.int .i64 0)).setCell (b := w.heap.size + 1) (o := 5) (by first | omega | (simp; omega)) nz.out (.bool false)))
      generalize ((((((w1.setCell ⟨w.heap.size + 1, 0, none⟩ (.int .i64 1)).setCell ⟨w.heap.size + 1, 1, none⟩ (.slice none 0 0)).setCell ⟨w.heap.size + 1, 2, none⟩ (.slice none 0 0)).setCell ⟨w.heap.size + 1, 3, none⟩ (.int .i64 0)).setCell ⟨w.heap.size + 1, 4, none⟩ (.int .i64 0)).setCell ⟨w.heap.size + 1, 5, none⟩ (.bool false)) = W2 at *
      replace kr := Aside.mk kr_
      clear kr_
      replace kz := Aside.mk kz_
      clear kz_
      replace ka := Aside.mk ka_
      clear ka_
      refine bodyPost_ret (resC2 rfl _ _ _ rfl (run_loadVar_row _ _ _ _ _ (0, 0) _ kz.out Try.underlying25 rfl (by kernel_rfl))) rfl ?_
      rw [HF.out]
      exact ⟨_, _, rfl, rd_empty _, hx.out⟩
    case neg =>
      by_cases q1 : k1 = 0
      case pos =>
        subst q1
        have HF := Aside.mk (show repG 5 (Re.mk 0 s1 a1 u1 v1 g1) mn mx = some emptyRe from by unfold repG; simp [Re.kind, q0])
        have hx := Aside.mk (Ext.refl hs)
        go_enter Try.func148, Try.ntmps148
        go_wp2_with fail
        have hszw := hx.out.size
        have kr_ : (((w.alloc (.cells #[.int .i64 5, .slice A1 set.length c1, .slice (some ⟨b, off, none⟩) (rest.length + 1) c2, .int .i64 mn, .int .i64 mx, .bool ng] 25)).alloc (.cells #[.int .i64 0, .slice none 0 0, .slice none 0 0, .int .i64 0, .int .i64 0, .bool false] 25)).alloc (.cells #[.int .i64 0, .slice P1 s1.length d1, .slice P2 a1.length d2, .int .i64 u1, .int .i64 v1, .bool g1] 25)).heap[w.heap.size]? = some (.cells #[.int .i64 5, .slice A1 set.length c1, .slice (some ⟨b, off, none⟩) (rest.length + 1) c2, .int .i64 mn, .int .i64 mx, .bool ng] 25) := (boxA (boxA (heap_alloc_new _ _) (.cells #[.int .i64 0, .slice none 0 0, .slice none 0 0, .int .i64 0, .int .i64 0, .bool false] 25)) (.cells #[.int .i64 0, .slice P1 s1.length d1, .slice P2 a1.length d2, .int .i64 u1, .int .i64 v1, .bool g1] 25))
        have kz_ : (((w.alloc (.cells #[.int .i64 5, .slice A1 set.length c1, .slice (some ⟨b, off, none⟩) (rest.length + 1) c2, .int .i64 mn, .int .i64 mx, .bool ng] 25)).alloc (.cells #[.int .i64 0, .slice none 0 0, .slice none 0 0, .int .i64 0, .int .i64 0, .bool false] 25)).alloc (.cells #[.int .i64 0, .slice P1 s1.length d1, .slice P2 a1.length d2, .int .i64 u1, .int .i64 v1, .bool g1] 25)).heap[w.heap.size + 1]? = some (.cells #[.int .i64 0, .slice none 0 0, .slice none 0 0, .int .i64 0, .int .i64 0, .bool false] 25) := (boxA (by rw [show w.heap.size + 1 = ((w.alloc (.cells #[.int .i64 5, .slice A1 set.length c1, .slice (some ⟨b, off, none⟩) (rest.length + 1) c2, .int .i64 mn, .int .i64 mx, .bool ng] 25))).heap.size by simp]; exact heap_alloc_new _ _) (.cells #[.int .i64 0, .slice P1 s1.length d1, .slice P2 a1.length d2, .int .i64 u1, .int .i64 v1, .bool g1] 25))
        have ka_ : (((w.alloc (.cells #[.int .i64 5, .slice A1 set.length c1, .slice (some ⟨b, off, none⟩) (rest.length + 1) c2, .int .i64 mn, .int .i64 mx, .bool ng] 25)).alloc (.cells #[.int .i64 0, .slice none 0 0, .slice none 0 0, .int .i64 0, .int .i64 0, .bool false] 25)).alloc (.cells #[.int .i64 0, .slice P1 s1.length d1, .slice P2 a1.length d2, .int .i64 u1, .int .i64 v1, .bool g1] 25)).heap[w.heap.size + 1 + 1]? = some (.cells #[.int .i64 0, .slice P1 s1.length d1, .slice P2 a1.length d2, .int .i64 u1, .int .i64 v1, .bool g1] 25) := (by rw [show w.heap.size + 1 + 1 = (((w.alloc (.cells #[.int .i64 5, .slice A1 set.length c1, .slice (some ⟨b, off, none⟩) (rest.length + 1) c2, .int .i64 mn, .int .i64 mx, .bool ng] 25)).alloc (.cells #[.int .i64 0, .slice none 0 0, .slice none 0 0, .int .i64 0, .int .i64 0, .bool false] 25))).heap.size by simp]; exact heap_alloc_new _ _)
        have nr := Aside.mk (fun o => hx.out.sat.new (b := w.heap.size) (show w.heap.size ≤ _ by omega) o)
        have nz := Aside.mk (fun o => hx.out.sat.new (b := w.heap.size + 1) (show w.heap.size ≤ _ by omega) o)
        have na := Aside.mk (fun o => hx.out.sat.new (b := w.heap.size + 1 + 1) (show w.heap.size ≤ _ by omega) o)
        replace hx := Aside.mk ((((hx.out.alloc (.cells #[.int .i64 5, .slice A1 set.length c1, .slice (some ⟨b, off, none⟩) (rest.length + 1) c2, .int .i64 mn, .int .i64 mx, .bool ng] 25)).alloc (.cells #[.int .i64 0, .slice none 0 0, .slice none 0 0, .int .i64 0, .int .i64 0, .bool false] 25)).alloc (.cells #[.int .i64 0, .slice P1 s1.length d1, .slice P2 a1.length d2, .int .i64 u1, .int .i64 v1, .bool g1] 25)))
        generalize (((w.alloc (.cells #[.int .i64 5, .slice A1 set.length c1, .slice (some ⟨b, off, none⟩) (rest.length + 1) c2, .int .i64 mn, .int .i64 mx, .bool ng] 25)).alloc (.cells #[.int .i64 0, .slice none 0 0, .slice none 0 0, .int .i64 0, .int .i64 0, .bool false] 25)).alloc (.cells #[.int .i64 0, .slice P1 s1.length d1, .slice P2 a1.length d2, .int .i64 u1, .int .i64 v1, .bool g1] 25)) = W3 at *
        have kr := Aside.mk kr_
        clear kr_
        have kz := Aside.mk kz_
        clear kz_
        have ka := Aside.mk ka_
        clear ka_
        refine (refEmpty_any _).mono ?_
        rintro e w1 ⟨rfl, hb⟩
        replace kr := Aside.mk (box_below kr.out hb)
        replace kz := Aside.mk (box_below kz.out hb)
        replace ka := Aside.mk (box_below ka.out hb)
        replace hx := Aside.mk (hx.out.then_below hb)
        clear hb
        have lqr : w.heap.size < w1.heap.size := boxL kr.out
        obtain ⟨⟨cr0, cr1, cr2, cr3, cr4, cr5⟩, fr0, fr1, fr2, fr3, fr4, fr5⟩ := kb6 kr.out
        have lqz : w.heap.size + 1 < w1.heap.size := boxL kz.out
        obtain ⟨⟨cz0, cz1, cz2, cz3, cz4, cz5⟩, fz0, fz1, fz2, fz3, fz4, fz5⟩ := kb6 kz.out
        have lqa : w.heap.size + 1 + 1 < w1.heap.size := boxL ka.out
        obtain ⟨⟨ca0, ca1, ca2, ca3, ca4, ca5⟩, fa0, fa1, fa2, fa3, fa4, fa5⟩ := kb6 ka.out
        go_wp2_with fail
        clear lqr cr0 cr1 cr2 cr3 cr4 cr5 fr0 fr1 fr2 fr3 fr4 fr5 lqz cz0 cz1 cz2 cz3 cz4 cz5 fz0 fz1 fz2 fz3 fz4 fz5 lqa ca0 ca1 ca2 ca3 ca4 ca5 fa0 fa1 fa2 fa3 fa4 fa5
        have kr_ : ((((((w1.setCell ⟨w.heap.size + 1, 0, none⟩ (.int .i64 1)).setCell ⟨w.heap.size + 1, 1, none⟩ (.slice none 0 0)).setCell ⟨w.heap.size + 1, 2, none⟩ (.slice none 0 0)).setCell ⟨w.heap.size + 1, 3, none⟩ (.int .i64 0)).setCell ⟨w.heap.size + 1, 4, none⟩ (.int .i64 0)).setCell ⟨w.heap.size + 1, 5, none⟩ (.bool false)).heap[w.heap.size]? = some (.cells #[.int .i64 5, .slice A1 set.length c1, .slice (some ⟨b, off, none⟩) (rest.length + 1) c2, .int .i64 mn, .int .i64 mx, .bool ng] 25) := (boxS_ne (boxS_ne (boxS_ne (boxS_ne (boxS_ne (boxS_ne kr.out (by first | omega | (simp; omega)) 0 (.int .i64 1)) (by first | omega | (simp; omega)) 1 (.slice none 0 0)) (by first | omega | (simp; omega)) 2 (.slice none 0 0)) (by first | omega | (simp; omega)) 3 (.int .i64 0)) (by first | omega | (simp; omega)) 4 (.int .i64 0)) (by first | omega | (simp; omega)) 5 (.bool false))
        have kz_ : ((((((w1.setCell ⟨w.heap.size + 1, 0, none⟩ (.int .i64 1)).setCell ⟨w.heap.size + 1, 1, none⟩ (.slice none 0 0)).setCell ⟨w.heap.size + 1, 2, none⟩ (.slice none 0 0)).setCell ⟨w.heap.size + 1, 3, none⟩ (.int .i64 0)).setCell ⟨w.heap.size + 1, 4, none⟩ (.int .i64 0)).setCell ⟨w.heap.size + 1, 5, none⟩ (.bool false)).heap[w.heap.size + 1]? = some (.cells #[.int .i64 1, .slice none 0 0, .slice none 0 0, .int .i64 0, .int .i64 0, .bool false] 25) := (boxS (boxS (boxS (boxS (boxS (boxS kz.out 0 (.int .i64 1)) 1 (.slice none 0 0)) 2 (.slice none 0 0)) 3 (.int .i64 0)) 4 (.int .i64 0)) 5 (.bool false))
        have ka_ : ((((((w1.setCell ⟨w.heap.size + 1, 0, none⟩ (.int .i64 1)).setCell ⟨w.heap.size + 1, 1, none⟩ (.slice none 0 0)).setCell ⟨w.heap.size + 1, 2, none⟩ (.slice none 0 0)).setCell ⟨w.heap.size + 1, 3, none⟩ (.int .i64 0)).setCell ⟨w.heap.size + 1, 4, none⟩ (.int .i64 0)).setCell ⟨w.heap.size + 1, 5, none⟩ (.bool false)).heap[w.heap.size + 1 + 1]? = some (.cells #[.int .i64 0, .slice P1 s1.length d1, .slice P2 a1.length d2, .int .i64 u1, .int .i64 v1, .bool g1] 25) := (boxS_ne (boxS_ne (boxS_ne (boxS_ne (boxS_ne (boxS_ne ka.out (by first | omega | (simp; omega)) 0 (.int .i64 1)) (by first | omega | (simp; omega)) 1 (.slice none 0 0)) (by first | omega | (simp; omega)) 2 (.slice none 0 0)) (by first | omega | (simp; omega)) 3 (.int .i64 0)) (by first | omega | (simp; omega)) 4 (.int .i64 0)) (by first | omega | (simp; omega)) 5 (.bool false))
        replace hx := Aside.mk (((((((hx.out.setCell (b := w.heap.size + 1) (o := 0) (by first | omega | (simp; omega)) nz.out (.int .i64 1)).setCell (b := w.heap.size + 1) (o := 1) (by first | omega | (simp; omega)) nz.out (.slice none 0 0)).setCell (b := w.heap.size + 1) (o := 2) (by first | omega | (simp; omega)) nz.out (.slice none 0 0)).setCell (b := w.heap.size + 1) (o := 3) (by first | omega | (simp; omega)) nz.out (.int .i64 0)).setCell (b := w.heap.size + 1) (o := 4) (by first | omega | (simp; omega)) nz.out (.int .i64 0)).setCell (b := w.heap.size + 1) (o := 5) (by first | omega | (simp; omega)) nz.out (.bool false)))
        generalize ((((((w1.setCell ⟨w.heap.size + 1, 0, none⟩ (.int .i64 1)).setCell ⟨w.heap.size + 1, 1, none⟩ (.slice none 0 0)).setCell ⟨w.heap.size + 1, 2, none⟩ (.slice none 0 0)).setCell ⟨w.heap.size + 1, 3, none⟩ (.int .i64 0)).setCell ⟨w.heap.size + 1, 4, none⟩ (.int .i64 0)).setCell ⟨w.heap.size + 1, 5, none⟩ (.bool false)) = W4 at *
        replace kr := Aside.mk kr_
        clear kr_
        replace kz := Aside.mk kz_
        clear kz_
        replace ka := Aside.mk ka_
        clear ka_
        refine bodyPost_ret (resC2 rfl _ _ _ rfl (run_loadVar_row _ _ _ _ _ (0, 0) _ kz.out Try.underlying25 rfl (by kernel_rfl))) rfl ?_
        rw [HF.out]
        exact ⟨_, _, rfl, rd_empty _, hx.out⟩
      case neg =>
        by_cases q2 : k1 = 5
        case pos =>
          subst q2
          have HF := Aside.mk (show repG 5 (Re.mk 5 s1 a1 u1 v1 g1) mn mx = some (Re.mk 5 s1 a1 u1 v1 g1) from by unfold repG; simp [Re.kind, q0, q1])
          have hx := Aside.mk (Ext.refl hs)
          go_enter Try.func148, Try.ntmps148
          go_wp2_with fail
          have hszw := hx.out.size
          have kr_ : (((w.alloc (.cells #[.int .i64 5, .slice A1 set.length c1, .slice (some ⟨b, off, none⟩) (rest.length + 1) c2, .int .i64 mn, .int .i64 mx, .bool ng] 25)).alloc (.cells #[.int .i64 5, .slice P1 s1.length d1, .slice P2 a1.length d2, .int .i64 u1, .int .i64 v1, .bool g1] 25)).alloc (.cells #[.int .i64 5, .slice P1 s1.length d1, .slice P2 a1.length d2, .int .i64 u1, .int .i64 v1, .bool g1] 25)).heap[w.heap.size]? = some (.cells #[.int .i64 5, .slice A1 set.length c1, .slice (some ⟨b, off, none⟩) (rest.length + 1) c2, .int .i64 mn, .int .i64 mx, .bool ng] 25) := (boxA (boxA (heap_alloc_new _ _) (.cells #[.int .i64 5, .slice P1 s1.length d1, .slice P2 a1.length d2, .int .i64 u1, .int .i64 v1, .bool g1] 25)) (.cells #[.int .i64 5, .slice P1 s1.length d1, .slice P2 a1.length d2, .int .i64 u1, .int .i64 v1, .bool g1] 25))
          have kz_ : (((w.alloc (.cells #[.int .i64 5, .slice A1 set.length c1, .slice (some ⟨b, off, none⟩) (rest.length + 1) c2, .int .i64 mn, .int .i64 mx, .bool ng] 25)).alloc (.cells #[.int .i64 5, .slice P1 s1.length d1, .slice P2 a1.length d2, .int .i64 u1, .int .i64 v1, .bool g1] 25)).alloc (.cells #[.int .i64 5, .slice P1 s1.length d1, .slice P2 a1.length d2, .int .i64 u1, .int .i64 v1, .bool g1] 25)).heap[w.heap.size + 1]? = some (.cells #[.int .i64 5, .slice P1 s1.length d1, .slice P2 a1.length d2, .int .i64 u1, .int .i64 v1, .bool g1] 25) := (boxA (by rw [show w.heap.size + 1 = ((w.alloc (.cells #[.int .i64 5, .slice A1 set.length c1, .slice (some ⟨b, off, none⟩) (rest.length + 1) c2, .int .i64 mn, .int .i64 mx, .bool ng] 25))).heap.size by simp]; exact heap_alloc_new _ _) (.cells #[.int .i64 5, .slice P1 s1.length d1, .slice P2 a1.length d2, .int .i64 u1, .int .i64 v1, .bool g1] 25))
          have ka_ : (((w.alloc (.cells #[.int .i64 5, .slice A1 set.length c1, .slice (some ⟨b, off, none⟩) (rest.length + 1) c2, .int .i64 mn, .int .i64 mx, .bool ng] 25)).alloc (.cells #[.int .i64 5, .slice P1 s1.length d1, .slice P2 a1.length d2, .int .i64 u1, .int .i64 v1, .bool g1] 25)).alloc (.cells #[.int .i64 5, .slice P1 s1.length d1, .slice P2 a1.length d2, .int .i64 u1, .int .i64 v1, .bool g1] 25)).heap[w.heap.size + 1 + 1]? = some (.cells #[.int .i64 5, .slice P1 s1.length d1, .slice P2 a1.length d2, .int .i64 u1, .int .i64 v1, .bool g1] 25) := (by rw [show w.heap.size + 1 + 1 = (((w.alloc (.cells #[.int .i64 5, .slice A1 set.length c1, .slice (some ⟨b, off, none⟩) (rest.length + 1) c2, .int .i64 mn, .int .i64 mx, .bool ng] 25)).alloc (.cells #[.int .i64 5, .slice P1 s1.length d1, .slice P2 a1.length d2, .int .i64 u1, .int .i64 v1, .bool g1] 25))).heap.size by simp]; exact heap_alloc_new _ _)
          have nr := Aside.mk (fun o => hx.out.sat.new (b := w.heap.size) (show w.heap.size ≤ _ by omega) o)
          have nz := Aside.mk (fun o => hx.out.sat.new (b := w.heap.size + 1) (show w.heap.size ≤ _ by omega) o)
          have na := Aside.mk (fun o => hx.out.sat.new (b := w.heap.size + 1 + 1) (show w.heap.size ≤ _ by omega) o)
          replace hx := Aside.mk ((((hx.out.alloc (.cells #[.int .i64 5, .slice A1 set.length c1, .slice (some ⟨b, off, none⟩) (rest.length + 1) c2, .int .i64 mn, .int .i64 mx, .bool ng] 25)).alloc (.cells #[.int .i64 5, .slice P1 s1.length d1, .slice P2 a1.length d2, .int .i64 u1, .int .i64 v1, .bool g1] 25)).alloc (.cells #[.int .i64 5, .slice P1 s1.length d1, .slice P2 a1.length d2, .int .i64 u1, .int .i64 v1, .bool g1] 25)))
          generalize (((w.alloc (.cells #[.int .i64 5, .slice A1 set.length c1, .slice (some ⟨b, off, none⟩) (rest.length + 1) c2, .int .i64 mn, .int .i64 mx, .bool ng] 25)).alloc (.cells #[.int .i64 5, .slice P1 s1.length d1, .slice P2 a1.length d2, .int .i64 u1, .int .i64 v1, .bool g1] 25)).alloc (.cells #[.int .i64 5, .slice P1 s1.length d1, .slice P2 a1.length d2, .int .i64 u1, .int .i64 v1, .bool g1] 25)) = W5 at *
          have kr := Aside.mk kr_
          clear kr_
          have kz := Aside.mk kz_
          clear kz_
          have ka := Aside.mk ka_
          clear ka_
          refine bodyPost_ret (resC2 rfl _ _ _ rfl (run_loadVar_row _ _ _ _ _ (0, 0) _ kz.out Try.underlying25 rfl (by kernel_rfl))) rfl ?_
          rw [HF.out]
          exact ⟨_, _, rfl, HR.out.2.mono hx.out.le, hx.out⟩
        case neg =>
          have HF := Aside.mk (show repG 5 (Re.mk k1 s1 a1 u1 v1 g1) mn mx = none from by unfold repG; simp [Re.kind, q0, q1, q2])
          have qb0 : (k1 == 1) = false := by simpa using q0
          have qb1 : (k1 == 0) = false := by simpa using q1
          have qb2 : (k1 == 5) = false := by simpa using q2
          have hx := Aside.mk (Ext.refl hs)
          go_enter Try.func148, Try.ntmps148
          go_wp2_with fail
          have hszw := hx.out.size
          have kr_ : (((w.alloc (.cells #[.int .i64 5, .slice A1 set.length c1, .slice (some ⟨b, off, none⟩) (rest.length + 1) c2, .int .i64 mn, .int .i64 mx, .bool ng] 25)).alloc (.cells #[.int .i64 5, .slice A1 set.length c1, .slice (some ⟨b, off, none⟩) (rest.length + 1) c2, .int .i64 mn, .int .i64 mx, .bool ng] 25)).alloc (.cells #[.int .i64 k1, .slice P1 s1.length d1, .slice P2 a1.length d2, .int .i64 u1, .int .i64 v1, .bool g1] 25)).heap[w.heap.size]? = some (.cells #[.int .i64 5, .slice A1 set.length c1, .slice (some ⟨b, off, none⟩) (rest.length + 1) c2, .int .i64 mn, .int .i64 mx, .bool ng] 25) := (boxA (boxA (heap_alloc_new _ _) (.cells #[.int .i64 5, .slice A1 set.length c1, .slice (some ⟨b, off, none⟩) (rest.length + 1) c2, .int .i64 mn, .int .i64 mx, .bool ng] 25)) (.cells #[.int .i64 k1, .slice P1 s1.length d1, .slice P2 a1.length d2, .int .i64 u1, .int .i64 v1, .bool g1] 25))
          have kz_ : (((w.alloc (.cells #[.int .i64 5, .slice A1 set.length c1, .slice (some ⟨b, off, none⟩) (rest.length + 1) c2, .int .i64 mn, .int .i64 mx, .bool ng] 25)).alloc (.cells #[.int .i64 5, .slice A1 set.length c1, .slice (some ⟨b, off, none⟩) (rest.length + 1) c2, .int .i64 mn, .int .i64 mx, .bool ng] 25)).alloc (.cells #[.int .i64 k1, .slice P1 s1.length d1, .slice P2 a1.length d2, .int .i64 u1, .int .i64 v1, .bool g1] 25)).heap[w.heap.size + 1]? = some (.cells #[.int .i64 5, .slice A1 set.length c1, .slice (some ⟨b, off, none⟩) (rest.length + 1) c2, .int .i64 mn, .int .i64 mx, .bool ng] 25) := (boxA (by rw [show w.heap.size + 1 = ((w.alloc (.cells #[.int .i64 5, .slice A1 set.length c1, .slice (some ⟨b, off, none⟩) (rest.length + 1) c2, .int .i64 mn, .int .i64 mx, .bool ng] 25))).heap.size by simp]; exact heap_alloc_new _ _) (.cells #[.int .i64 k1, .slice P1 s1.length d1, .slice P2 a1.length d2, .int .i64 u1, .int .i64 v1, .bool g1] 25))
          have ka_ : (((w.alloc (.cells #[.int .i64 5, .slice A1 set.length c1, .slice (some ⟨b, off, none⟩) (rest.length + 1) c2, .int .i64 mn, .int .i64 mx, .bool ng] 25)).alloc (.cells #[.int .i64 5, .slice A1 set.length c1, .slice (some ⟨b, off, none⟩) (rest.length + 1) c2, .int .i64 mn, .int .i64 mx, .bool ng] 25)).alloc (.cells #[.int .i64 k1, .slice P1 s1.length d1, .slice P2 a1.length d2, .int .i64 u1, .int .i64 v1, .bool g1] 25)).heap[w.heap.size + 1 + 1]? = some (.cells #[.int .i64 k1, .slice P1 s1.length d1, .slice P2 a1.length d2, .int .i64 u1, .int .i64 v1, .bool g1] 25) := (by rw [show w.heap.size + 1 + 1 = (((w.alloc (.cells #[.int .i64 5, .slice A1 set.length c1, .slice (some ⟨b, off, none⟩) (rest.length + 1) c2, .int .i64 mn, .int .i64 mx, .bool ng] 25)).alloc (.cells #[.int .i64 5, .slice A1 set.length c1, .slice (some ⟨b, off, none⟩) (rest.length + 1) c2, .int .i64 mn, .int .i64 mx, .bool ng] 25))).heap.size by simp]; exact heap_alloc_new _ _)
          have nr := Aside.mk (fun o => hx.out.sat.new (b := w.heap.size) (show w.heap.size ≤ _ by omega) o)
          have nz := Aside.mk (fun o => hx.out.sat.new (b := w.heap.size + 1) (show w.heap.size ≤ _ by omega) o)
          have na := Aside.mk (fun o => hx.out.sat.new (b := w.heap.size + 1 + 1) (show w.heap.size ≤ _ by omega) o)
          replace hx := Aside.mk ((((hx.out.alloc (.cells #[.int .i64 5, .slice A1 set.length c1, .slice (some ⟨b, off, none⟩) (rest.length + 1) c2, .int .i64 mn, .int .i64 mx, .bool ng] 25)).alloc (.cells #[.int .i64 5, .slice A1 set.length c1, .slice (some ⟨b, off, none⟩) (rest.length + 1) c2, .int .i64 mn, .int .i64 mx, .bool ng] 25)).alloc (.cells #[.int .i64 k1, .slice P1 s1.length d1, .slice P2 a1.length d2, .int .i64 u1, .int .i64 v1, .bool g1] 25)))
          generalize (((w.alloc (.cells #[.int .i64 5, .slice A1 set.length c1, .slice (some ⟨b, off, none⟩) (rest.length + 1) c2, .int .i64 mn, .int .i64 mx, .bool ng] 25)).alloc (.cells #[.int .i64 5, .slice A1 set.length c1, .slice (some ⟨b, off, none⟩) (rest.length + 1) c2, .int .i64 mn, .int .i64 mx, .bool ng] 25)).alloc (.cells #[.int .i64 k1, .slice P1 s1.length d1, .slice P2 a1.length d2, .int .i64 u1, .int .i64 v1, .bool g1] 25)) = W6 at *
          have kr := Aside.mk kr_
          clear kr_
          have kz := Aside.mk kz_
          clear kz_
          have ka := Aside.mk ka_
          clear ka_
          refine bodyPost_ret (resC2 rfl _ _ _ rfl (run_loadVar_row _ _ _ _ _ (0, 0) _ kz.out Try.underlying25 rfl (by kernel_rfl))) rfl ?_
          rw [HF.out]
          exact ⟨_, _, rfl, HR.out.1.mono hx.out.le, hx.out⟩
  · skip
    by_cases q0 : mx = 0
    case pos =>
      subst q0
      have HF := Aside.mk (show repG 6 (Re.mk k1 s1 a1 u1 v1 g1) mn 0 = some emptyRe from by unfold repG; simp [Re.kind])
      have hx := Aside.mk (Ext.refl hs)
      go_enter Try.func148, Try.ntmps148
      go_wp2_with fail
      have hszw := hx.out.size
      have kr_ : (((w.alloc (.cells #[.int .i64 6, .slice A1 set.length c1, .slice (some ⟨b, off, none⟩) (rest.length + 1) c2, .int .i64 mn, .int .i64 0, .bool ng] 25)).alloc (.cells #[.int .i64 0, .slice none 0 0, .slice none 0 0, .int .i64 0, .int .i64 0, .bool false] 25)).alloc (.cells #[.int .i64 k1, .slice P1 s1.length d1, .slice P2 a1.length d2, .int .i64 u1, .int .i64 v1, .bool g1] 25)).heap[w.heap.size]? = some (.cells #[.int .i64 6, .slice A1 set.length c1, .slice (some ⟨b, off, none⟩) (rest.length + 1) c2, .int .i64 mn, .int .i64 0, .bool ng] 25) := (boxA (boxA (heap_alloc_new _ _) (.cells #[.int .i64 0, .slice none 0 0, .slice none 0 0, .int .i64 0, .int .i64 0, .bool false] 25)) (.cells #[.int .i64 k1, .slice P1 s1.length d1, .slice P2 a1.length d2, .int .i64 u1, .int .i64 v1, .bool g1] 25))
      have kz_ : (((w.alloc (.cells #[.int .i64 6, .slice A1 set.length c1, .slice (some ⟨b, off, none⟩) (rest.length + 1) c2, .int .i64 mn, .int .i64 0, .bool ng] 25)).alloc (.cells #[.int .i64 0, .slice none 0 0, .slice none 0 0, .int .i64 0, .int .i64 0, .bool false] 25)).alloc (.cells #[.int .i64 k1, .slice P1 s1.length d1, .slice P2 a1.length d2, .int .i64 u1, .int .i64 v1, .bool g1] 25)).heap[w.heap.size + 1]? = some (.cells #[.int .i64 0, .slice none 0 0, .slice none 0 0, .int .i64 0, .int .i64 0, .bool false] 25) := (boxA (by rw [show w.heap.size + 1 = ((w.alloc (.cells #[.int .i64 6, .slice A1 set.length c1, .slice (some ⟨b, off, none⟩) (rest.length + 1) c2, .int .i64 mn, .int .i64 0, .bool ng] 25))).heap.size by simp]; exact heap_alloc_new _ _) (.cells #[.int .i64 k1, .slice P1 s1.length d1, .slice P2 a1.length d2, .int .i64 u1, .int .i64 v1, .bool g1] 25))
      have ka_ : (((w.alloc (.cells #[.int .i64 6, .slice A1 set.length c1, .slice (some ⟨b, off, none⟩) (rest.length + 1) c2, .int .i64 mn, .int .i64 0, .bool ng] 25)).alloc (.cells #[.int .i64 0, .slice none 0 0, .slice none 0 0, .int .i64 0, .int .i64 0, .bool false] 25)).alloc (.cells #[.int .i64 k1, .slice P1 s1.length d1, .slice P2 a1.length d2, .int .i64 u1, .int .i64 v1, .bool g1] 25)).heap[w.heap.size + 1 + 1]? = some (.cells #[.int .i64 k1, .slice P1 s1.length d1, .slice P2 a1.length d2, .int .i64 u1, .int .i64 v1, .bool g1] 25) := (by rw [show w.heap.size + 1 + 1 = (((w.alloc (.cells #[.int .i64 6, .slice A1 set.length c1, .slice (some ⟨b, off, none⟩) (rest.length + 1) c2, .int .i64 mn, .int .i64 0, .bool ng] 25)).alloc (.cells #[.int .i64 0, .slice none 0 0, .slice none 0 0, .int .i64 0, .int .i64 0, .bool false] 25))).heap.size by simp]; exact heap_alloc_new _ _)
      have nr := Aside.mk (fun o => hx.out.sat.new (b := w.heap.size) (show w.heap.size ≤ _ by omega) o)
      have nz := Aside.mk (fun o => hx.out.sat.new (b := w.heap.size + 1) (show w.heap.size ≤ _ by omega) o)
      have na := Aside.mk (fun o => hx.out.sat.new (b := w.heap.size + 1 + 1) (show w.heap.size ≤ _ by omega) o)
      replace hx := Aside.mk ((((hx.out.alloc (.cells #[.int .i64 6, .slice A1 set.length c1, .slice (some ⟨b, off, none⟩) (rest.length + 1) c2, .int .i64 mn, .int .i64 0, .bool ng] 25)).alloc (.cells #[.int .i64 0, .slice none 0 0, .slice none 0 0, .int .i64 0, .int .i64 0, .bool false] 25)).alloc (.cells #[.int .i64 k1, .slice P1 s1.length d1, .slice P2 a1.length d2, .int .i64 u1, .int .i64 v1, .bool g1] 25)))
      generalize (((w.alloc (.cells #[.int .i64 6, .slice A1 set.length c1, .slice (some ⟨b, off, none⟩) (rest.length + 1) c2, .int .i64 mn, .int .i64 0, .bool ng] 25)).alloc (.cells #[.int .i64 0, .slice none 0 0, .slice none 0 0, .int .i64 0, .int .i64 0, .bool false] 25)).alloc (.cells #[.int .i64 k1, .slice P1 s1.length d1, .slice P2 a1.length d2, .int .i64 u1, .int .i64 v1, .bool g1] 25)) = W7 at *
      have kr := Aside.mk kr_
      clear kr_
      have kz := Aside.mk kz_
      clear kz_
      have ka := Aside.mk ka_
      clear ka_
      refine (refEmpty_any _).mono ?_
      rintro e w1 ⟨rfl, hb⟩
      replace kr := Aside.mk (box_below kr.out hb)
      replace kz := Aside.mk (box_below kz.out hb)
      replace ka := Aside.mk (box_below ka.out hb)
      replace hx := Aside.mk (hx.out.then_below hb)
      clear hb
      have lqr : w.heap.size < w1.heap.size := boxL kr.out
      obtain ⟨⟨cr0, cr1, cr2, cr3, cr4, cr5⟩, fr0, fr1, fr2, fr3, fr4, fr5⟩ := kb6 kr.out
      have lqz : w.heap.size + 1 < w1.heap.size := boxL kz.out
      obtain ⟨⟨cz0, cz1, cz2, cz3, cz4, cz5⟩, fz0, fz1, fz2, fz3, fz4, fz5⟩ := kb6 kz.out
      have lqa : w.heap.size + 1 + 1 < w1.heap.size := boxL ka.out
      obtain ⟨⟨ca0, ca1, ca2, ca3, ca4, ca5⟩, fa0, fa1, fa2, fa3, fa4, fa5⟩ := kb6 ka.out
      go_wp2_with fail
      clear lqr cr0 cr1 cr2 cr3 cr4 cr5 fr0 fr1 fr2 fr3 fr4 fr5 lqz cz0 cz1 cz2 cz3 cz4 cz5 fz0 fz1 fz2 fz3 fz4 fz5 lqa ca0 ca1 ca2 ca3 ca4 ca5 fa0 fa1 fa2 fa3 fa4 fa5
      have kr_ : ((((((w1.setCell ⟨w.heap.size + 1, 0, none⟩ (.int .i64 1)).setCell ⟨w.heap.size + 1, 1, none⟩ (.slice none 0 0)).setCell ⟨w.heap.size + 1, 2, none⟩ (.slice none 0 0)).setCell ⟨w.heap.size + 1, 3, none⟩ (.int .i64 0)).setCell ⟨w.heap.size + 1, 4, none⟩ (.int .i64 0)).setCell ⟨w.heap.size + 1, 5, none⟩ (.bool false)).heap[w.heap.size]? = some (.cells #[.int .i64 6, .slice A1 set.length c1, .slice (some ⟨b, off, none⟩) (rest.length + 1) c2, .int .i64 mn, .int .i64 0, .bool ng] 25) := (boxS_ne (boxS_ne (boxS_ne (boxS_ne (boxS_ne (boxS_ne kr.out (by first | omega | (simp; omega)) 0 (.int .i64 1)) (by first | omega | (simp; omega)) 1 (.slice none 0 0)) (by first | omega | (simp; omega)) 2 (.slice none 0 0)) (by first | omega | (simp; omega)) 3 (.int .i64 0)) (by first | omega | (simp; omega)) 4 (.int .i64 0)) (by first | omega | (simp; omega)) 5 (.bool false))
      have kz_ : ((((((w1.setCell ⟨w.heap.size + 1, 0, none⟩ (.int .i64 1)).setCell ⟨w.heap.size + 1, 1, none⟩ (.slice none 0 0)).setCell ⟨w.heap.size + 1, 2, none⟩ (.slice none 0 0)).setCell ⟨w.heap.size + 1, 3, none⟩ (.int .i64 0)).setCell ⟨w.heap.size + 1, 4, none⟩ (.int .i64 0)).setCell ⟨w.heap.size + 1, 5, none⟩ (.bool false)).heap[w.heap.size + 1]? = some (.cells #[.int .i64 1, .slice none 0 0, .slice none 0 0, .int .i64 0, .int .i64 0, .bool false] 25) := (boxS (boxS (boxS (boxS (boxS (boxS kz.out 0 (.int .i64 1)) 1 (.slice none 0 0)) 2 (.slice none 0 0)) 3 (.int .i64 0)) 4 (.int .i64 0)) 5 (.bool false))
      have ka_ : ((((((w1.setCell ⟨w.heap.size + 1, 0, none⟩ (.int .i64 1)).setCell ⟨w.heap.size + 1, 1, none⟩ (.slice none 0 0)).setCell ⟨w.heap.size + 1, 2, none⟩ (.slice none 0 0)).setCell ⟨w.heap.size + 1, 3, none⟩ (.int .i64 0)).setCell ⟨w.heap.size + 1, 4, none⟩ (.int .i64 0)).setCell ⟨w.heap.size + 1, 5, none⟩ (.bool false)).heap[w.heap.size + 1 + 1]? = some (.cells #[.int .i64 k1, .slice P1 s1.length d1, .slice P2 a1.length d2, .int .i64 u1, .int .i64 v1, .bool g1] 25) := (boxS_ne (boxS_ne (boxS_ne (boxS_ne (boxS_ne (boxS_ne ka.out (by first | omega | (simp; omega)) 0 (.int .i64 1)) (by first | omega | (simp; omega)) 1 (.slice none 0 0)) (by first | omega | (simp; omega)) 2 (.slice none 0 0)) (by first | omega | (simp; omega)) 3 (.int .i64 0)) (by first | omega | (simp; omega)) 4 (.int .i64 0)) (by first | omega | (simp; omega)) 5 (.bool false))
      replace hx := Aside.mk (((((((hx.out.setCell (b := w.heap.size + 1) (o := 0) (by first | omega | (simp; omega)) nz.out (.int .i64 1)).setCell (b := w.heap.size + 1) (o := 1) (by first | omega | (simp; omega)) nz.out (.slice none 0 0)).setCell (b := w.heap.size + 1) (o := 2) (by first | omega | (simp; omega)) nz.out (.slice none 0 0)).setCell (b := w.heap.size + 1) (o := 3) (by first | omega | (simp; omega)) nz.out (.int .i64 0)).setCell (b := w.heap.size + 1) (o := 4) (by first | omega | (simp; omega)) nz.out (.int .i64 0)).setCell (b := w.heap.size + 1) (o := 5) (by first | omega | (simp; omega)) nz.out (.bool false)))
      generalize ((((((w1.setCell ⟨w.heap.size + 1, 0, none⟩ (.int .i64 1)).setCell ⟨w.heap.size + 1, 1, none⟩ (.slice none 0 0)).setCell ⟨w.heap.size + 1, 2, none⟩ (.slice none 0 0)).setCell ⟨w.heap.size + 1, 3, none⟩ (.int .i64 0)).setCell ⟨w.heap.size + 1, 4, none⟩ (.int .i64 0)).setCell ⟨w.heap.size + 1, 5, none⟩ (.bool false)) = W8 at *
      replace kr := Aside.mk kr_
      clear kr_
      replace kz := Aside.mk kz_
      clear kz_
      replace ka := Aside.mk ka_
      clear ka_
      refine bodyPost_ret (resC2 rfl _ _ _ rfl (run_loadVar_row _ _ _ _ _ (0, 0) _ kz.out Try.underlying25 rfl (by kernel_rfl))) rfl ?_
      rw [HF.out]
      exact ⟨_, _, rfl, rd_empty _, hx.out⟩
    case neg =>
      by_cases q1 : k1 = 1
      case pos =>
        subst q1
        have HF := Aside.mk (show repG 6 (Re.mk 1 s1 a1 u1 v1 g1) mn mx = some emptyRe from by unfold repG; simp [Re.kind, q0])
        have qb0 : (mx == 0) = false := by simpa using q0
        have hx := Aside.mk (Ext.refl hs)
        go_enter Try.func148, Try.ntmps148
        go_wp2_with fail
        have hszw := hx.out.size
        have kr_ : (((w.alloc (.cells #[.int .i64 6, .slice A1 set.length c1, .slice (some ⟨b, off, none⟩) (rest.length + 1) c2, .int .i64 mn, .int .i64 mx, .bool ng] 25)).alloc (.cells #[.int .i64 0, .slice none 0 0, .slice none 0 0, .int .i64 0, .int .i64 0, .bool false] 25)).alloc (.cells #[.int .i64 1, .slice P1 s1.length d1, .slice P2 a1.length d2, .int .i64 u1, .int .i64 v1, .bool g1] 25)).heap[w.heap.size]? = some (.cells #[.int .i64 6, .slice A1 set.length c1, .slice (some ⟨b, off, none⟩) (rest.length + 1) c2, .int .i64 mn, .int .i64 mx, .bool ng] 25) := (boxA (boxA (heap_alloc_new _ _) (.cells #[.int .i64 0, .slice none 0 0, .slice none 0 0, .int .i64 0, .int .i64 0, .bool false] 25)) (.cells #[.int .i64 1, .slice P1 s1.length d1, .slice P2 a1.length d2, .int .i64 u1, .int .i64 v1, .bool g1] 25))
        have kz_ : (((w.alloc (.cells #[.int .i64 6, .slice A1 set.length c1, .slice (some ⟨b, off, none⟩) (rest.length + 1) c2, .int .i64 mn, .int .i64 mx, .bool ng] 25)).alloc (.cells #[.int .i64 0, .slice none 0 0, .slice none 0 0, .int .i64 0, .int .i64 0, .bool false] 25)).alloc (.cells #[.int .i64 1, .slice P1 s1.length d1, .slice P2 a1.length d2, .int .i64 u1, .int .i64 v1, .bool g1] 25)).heap[w.heap.size + 1]? = some (.cells #[.int .i64 0, .slice none 0 0, .slice none 0 0, .int .i64 0, .int .i64 0, .bool false] 25) := (boxA (by rw [show w.heap.size + 1 = ((w.alloc (.cells #[.int .i64 6, .slice A1 set.length c1, .slice (some ⟨b, off, none⟩) (rest.length + 1) c2, .int .i64 mn, .int .i64 mx, .bool ng] 25))).heap.size by simp]; exact heap_alloc_new _ _) (.cells #[.int .i64 1, .slice P1 s1.length d1, .slice P2 a1.length d2, .int .i64 u1, .int .i64 v1, .bool g1] 25))
        have ka_ : (((w.alloc (.cells #[.int .i64 6, .slice A1 set.length c1, .slice (some ⟨b, off, none⟩) (rest.length + 1) c2, .int .i64 mn, .int .i64 mx, .bool ng] 25)).alloc (.cells #[.int .i64 0, .slice none 0 0, .slice none 0 0, .int .i64 0, .int .i64 0, .bool false] 25)).alloc (.cells #[.int .i64 1, .slice P1 s1.length d1, .slice P2 a1.length d2, .int .i64 u1, .int .i64 v1, .bool g1] 25)).heap[w.heap.size + 1 + 1]? = some (.cells #[.int .i64 1, .slice P1 s1.length d1, .slice P2 a1.length d2, .int .i64 u1, .int .i64 v1, .bool g1] 25) := (by rw [show w.heap.size + 1 + 1 = (((w.alloc (.cells #[.int .i64 6, .slice A1 set.length c1, .slice (some ⟨b, off, none⟩) (rest.length + 1) c2, .int .i64 mn, .int .i64 mx, .bool ng] 25)).alloc (.cells #[.int .i64 0, .slice none 0 0, .slice none 0 0, .int .i64 0, .int .i64 0, .bool false] 25))).heap.size by simp]; exact heap_alloc_new _ _)
        have nr := Aside.mk (fun o => hx.out.sat.new (b := w.heap.size) (show w.heap.size ≤ _ by omega) o)
        have nz := Aside.mk (fun o => hx.out.sat.new (b := w.heap.size + 1) (show w.heap.size ≤ _ by omega) o)
        have na := Aside.mk (fun o => hx.out.sat.new (b := w.heap.size + 1 + 1) (show w.heap.size ≤ _ by omega) o)
        replace hx := Aside.mk ((((hx.out.alloc (.cells #[.int .i64 6, .slice A1 set.length c1, .slice (some ⟨b, off, none⟩) (rest.length + 1) c2, .int .i64 mn, .int .i64 mx, .bool ng] 25)).alloc (.cells #[.int .i64 0, .slice none 0 0, .slice none 0 0, .int .i64 0, .int .i64 0, .bool false] 25)).alloc (.cells #[.int .i64 1, .slice P1 s1.length d1, .slice P2 a1.length d2, .int .i64 u1, .int .i64 v1, .bool g1] 25)))
        generalize (((w.alloc (.cells #[.int .i64 6, .slice A1 set.length c1, .slice (some ⟨b, off, none⟩) (rest.length + 1) c2, .int .i64 mn, .int .i64 mx, .bool ng] 25)).alloc (.cells #[.int .i64 0, .slice none 0 0, .slice none 0 0, .int .i64 0, .int .i64 0, .bool false] 25)).alloc (.cells #[.int .i64 1, .slice P1 s1.length d1, .slice P2 a1.length d2, .int .i64 u1, .int .i64 v1, .bool g1] 25)) = W9 at *
        have kr := Aside.mk kr_
        clear kr_
        have kz := Aside.mk kz_
        clear kz_
        have ka := Aside.mk ka_
        clear ka_
        refine (refEmpty_any _).mono ?_
        rintro e w1 ⟨rfl, hb⟩
        replace kr := Aside.mk (box_below kr.out hb)
        replace kz := Aside.mk (box_below kz.out hb)
        replace ka := Aside.mk (box_below ka.out hb)
        replace hx := Aside.mk (hx.out.then_below hb)
        clear hb
        have lqr : w.heap.size < w1.heap.size := boxL kr.out
        obtain ⟨⟨cr0, cr1, cr2, cr3, cr4, cr5⟩, fr0, fr1, fr2, fr3, fr4, fr5⟩ := kb6 kr.out
        have lqz : w.heap.size + 1 < w1.heap.size := boxL kz.out
        obtain ⟨⟨cz0, cz1, cz2, cz3, cz4, cz5⟩, fz0, fz1, fz2, fz3, fz4, fz5⟩ := kb6 kz.out
        have lqa : w.heap.size + 1 + 1 < w1.heap.size := boxL ka.out
        obtain ⟨⟨ca0, ca1, ca2, ca3, ca4, ca5⟩, fa0, fa1, fa2, fa3, fa4, fa5⟩ := kb6 ka.out
        go_wp2_with fail
        clear lqr cr0 cr1 cr2 cr3 cr4 cr5 fr0 fr1 fr2 fr3 fr4 fr5 lqz cz0 cz1 cz2 cz3 cz4 cz5 fz0 fz1 fz2 fz3 fz4 fz5 lqa ca0 ca1 ca2 ca3 ca4 ca5 fa0 fa1 fa2 fa3 fa4 fa5
        have kr_ : ((((((w1.setCell ⟨w.heap.size + 1, 0, none⟩ (.int .i64 1)).setCell ⟨w.heap.size + 1, 1, none⟩ (.slice none 0 0)).setCell ⟨w.heap.size + 1, 2, none⟩ (.slice none 0 0)).setCell ⟨w.heap.size + 1, 3, none⟩ (.int .i64 0)).setCell ⟨w.heap.size + 1, 4, none⟩ (.int .i64 0)).setCell ⟨w.heap.size + 1, 5, none⟩ (.bool false)).heap[w.heap.size]? = some (.cells #[.int .i64 6, .slice A1 set.length c1, .slice (some ⟨b, off, none⟩) (rest.length + 1) c2, .int .i64 mn, .int .i64 mx, .bool ng] 25) := (boxS_ne (boxS_ne (boxS_ne (boxS_ne (boxS_ne (boxS_ne kr.out (by first | omega | (simp; omega)) 0 (.int .i64 1)) (by first | omega | (simp; omega)) 1 (.slice none 0 0)) (by first | omega | (simp; omega)) 2 (.slice none 0 0)) (by first | omega | (simp; omega)) 3 (.int .i64 0)) (by first | omega | (simp; omega)) 4 (.int .i64 0)) (by first | omega | (simp; omega)) 5 (.bool false))
        have kz_ : ((((((w1.setCell ⟨w.heap.size + 1, 0, none⟩ (.int .i64 1)).setCell ⟨w.heap.size + 1, 1, none⟩ (.slice none 0 0)).setCell ⟨w.heap.size + 1, 2, none⟩ (.slice none 0 0)).setCell ⟨w.heap.size + 1, 3, none⟩ (.int .i64 0)).setCell ⟨w.heap.size + 1, 4, none⟩ (.int .i64 0)).setCell ⟨w.heap.size + 1, 5, none⟩ (.bool false)).heap[w.heap.size + 1]? = some (.cells #[.int .i64 1, .slice none 0 0, .slice none 0 0, .int .i64 0, .int .i64 0, .bool false] 25) := (boxS (boxS (boxS (boxS (boxS (boxS kz.out 0 (.int .i64 1)) 1 (.slice none 0 0)) 2 (.slice none 0 0)) 3 (.int .i64 0)) 4 (.int .i64 0)) 5 (.bool false))
        have ka_ : ((((((w1.setCell ⟨w.heap.size + 1, 0, none⟩ (.int .i64 1)).setCell ⟨w.heap.size + 1, 1, none⟩ (.slice none 0 0)).setCell ⟨w.heap.size + 1, 2, none⟩ (.slice none 0 0)).setCell ⟨w.heap.size + 1, 3, none⟩ (.int .i64 0)).setCell ⟨w.heap.size + 1, 4, none⟩ (.int .i64 0)).setCell ⟨w.heap.size + 1, 5, none⟩ (.bool false)).heap[w.heap.size + 1 + 1]? = some (.cells #[.int .i64 1, .slice P1 s1.length d1, .slice P2 a1.length d2, .int .i64 u1, .int .i64 v1, .bool g1] 25) := (boxS_ne (boxS_ne (boxS_ne (boxS_ne (boxS_ne (boxS_ne ka.out (by first | omega | (simp; omega)) 0 (.int .i64 1)) (by first | omega | (simp; omega)) 1 (.slice none 0 0)) (by first | omega | (simp; omega)) 2 (.slice none 0 0)) (by first | omega | (simp; omega)) 3 (.int .i64 0)) (by first | omega | (simp; omega)) 4 (.int .i64 0)) (by first | omega | (simp; omega)) 5 (.bool false))
        replace hx := Aside.mk (((((((hx.out.setCell (b := w.heap.size + 1) (o := 0) (by first | omega | (simp; omega)) nz.out (.int .i64 1)).setCell (b := w.heap.size + 1) (o := 1) (by first | omega | (simp; omega)) nz.out (.slice none 0 0)).setCell (b := w.heap.size + 1) (o := 2) (by first | omega | (simp; omega)) nz.out (.slice none 0 0)).setCell (b := w.heap.size + 1) (o := 3) (by first | omega | (simp; omega)) nz.out (.int .i64 0)).setCell (b := w.heap.size + 1) (o := 4) (by first | omega | (simp; omega)) nz.out (.int .i64 0)).setCell (b := w.heap.size + 1) (o := 5) (by first | omega | (simp; omega)) nz.out (.bool false)))
        generalize ((((((w1.setCell ⟨w.heap.size + 1, 0, none⟩ (.int .i64 1)).setCell ⟨w.heap.size + 1, 1, none⟩ (.slice none 0 0)).setCell ⟨w.heap.size + 1, 2, none⟩ (.slice none 0 0)).setCell ⟨w.heap.size + 1, 3, none⟩ (.int .i64 0)).setCell ⟨w.heap.size + 1, 4, none⟩ (.int .i64 0)).setCell ⟨w.heap.size + 1, 5, none⟩ (.bool false)) = W10 at *
        replace kr := Aside.mk kr_
        clear kr_
        replace kz := Aside.mk kz_
        clear kz_
        replace ka := Aside.mk ka_
        clear ka_
        refine bodyPost_ret (resC2 rfl _ _ _ rfl (run_loadVar_row _ _ _ _ _ (0, 0) _ kz.out Try.underlying25 rfl (by kernel_rfl))) rfl ?_
        rw [HF.out]
        exact ⟨_, _, rfl, rd_empty _, hx.out⟩
      case neg =>
        by_cases q2 : k1 = 0
        case pos =>
          subst q2
          by_cases q3 : mn = 0
          case pos =>
            subst q3
            have HF := Aside.mk (show repG 6 (Re.mk 0 s1 a1 u1 v1 g1) 0 mx = some emptyRe from by unfold repG; simp [Re.kind, q0, q1])
            have qb0 : (mx == 0) = false := by simpa using q0
            have hx := Aside.mk (Ext.refl hs)
            go_enter Try.func148, Try.ntmps148
            go_wp2_with fail
            have hszw := hx.out.size
            have kr_ : (((w.alloc (.cells #[.int .i64 6, .slice A1 set.length c1, .slice (some ⟨b, off, none⟩) (rest.length + 1) c2, .int .i64 0, .int .i64 mx, .bool ng] 25)).alloc (.cells #[.int .i64 0, .slice none 0 0, .slice none 0 0, .int .i64 0, .int .i64 0, .bool false] 25)).alloc (.cells #[.int .i64 0, .slice P1 s1.length d1, .slice P2 a1.length d2, .int .i64 u1, .int .i64 v1, .bool g1] 25)).heap[w.heap.size]? = some (.cells #[.int .i64 6, .slice A1 set.length c1, .slice (some ⟨b, off, none⟩) (rest.length + 1) c2, .int .i64 0, .int .i64 mx, .bool ng] 25) := (boxA (boxA (heap_alloc_new _ _) (.cells #[.int .i64 0, .slice none 0 0, .slice none 0 0, .int .i64 0, .int .i64 0, .bool false] 25)) (.cells #[.int .i64 0, .slice P1 s1.length d1, .slice P2 a1.length d2, .int .i64 u1, .int .i64 v1, .bool g1] 25))
            have kz_ : (((w.alloc (.cells #[.int .i64 6, .slice A1 set.length c1, .slice (some ⟨b, off, none⟩) (rest.length + 1) c2, .int .i64 0, .int .i64 mx, .bool ng] 25)).alloc (.cells #[.int .i64 0, .slice none 0 0, .slice none 0 0, .int .i64 0, .int .i64 0, .bool false] 25)).alloc (.cells #[.int .i64 0, .slice P1 s1.length d1, .slice P2 a1.length d2, .int .i64 u1, .int .i64 v1, .bool g1] 25)).heap[w.heap.size + 1]? = some (.cells #[.int .i64 0, .slice none 0 0, .slice none 0 0, .int .i64 0, .int .i64 0, .bool false] 25) := (boxA (by rw [show w.heap.size + 1 = ((w.alloc (.cells #[.int .i64 6, .slice A1 set.length c1, .slice (some ⟨b, off, none⟩) (rest.length + 1) c2, .int .i64 0, .int .i64 mx, .bool ng] 25))).heap.size by simp]; exact heap_alloc_new _ _) (.cells #[.int .i64 0, .slice P1 s1.length d1, .slice P2 a1.length d2, .int .i64 u1, .int .i64 v1, .bool g1] 25))
            have ka_ : (((w.alloc (.cells #[.int .i64 6, .slice A1 set.length c1, .slice (some ⟨b, off, none⟩) (rest.length + 1) c2, .int .i64 0, .int .i64 mx, .bool ng] 25)).alloc (.cells #[.int .i64 0, .slice none 0 0, .slice none 0 0, .int .i64 0, .int .i64 0, .bool false] 25)).alloc (.cells #[.int .i64 0, .slice P1 s1.length d1, .slice P2 a1.length d2, .int .i64 u1, .int .i64 v1, .bool g1] 25)).heap[w.heap.size + 1 + 1]? = some (.cells #[.int .i64 0, .slice P1 s1.length d1, .slice P2 a1.length d2, .int .i64 u1, .int .i64 v1, .bool g1] 25) := (by rw [show w.heap.size + 1 + 1 = (((w.alloc (.cells #[.int .i64 6, .slice A1 set.length c1, .slice (some ⟨b, off, none⟩) (rest.length + 1) c2, .int .i64 0, .int .i64 mx, .bool ng] 25)).alloc (.cells #[.int .i64 0, .slice none 0 0, .slice none 0 0, .int .i64 0, .int .i64 0, .bool false] 25))).heap.size by simp]; exact heap_alloc_new _ _)
            have nr := Aside.mk (fun o => hx.out.sat.new (b := w.heap.size) (show w.heap.size ≤ _ by omega) o)
            have nz := Aside.mk (fun o => hx.out.sat.new (b := w.heap.size + 1) (show w.heap.size ≤ _ by omega) o)
            have na := Aside.mk (fun o => hx.out.sat.new (b := w.heap.size + 1 + 1) (show w.heap.size ≤ _ by omega) o)
            replace hx := Aside.mk ((((hx.out.alloc (.cells #[.int .i64 6, .slice A1 set.length c1, .slice (some ⟨b, off, none⟩) (rest.length + 1) c2, .int .i64 0, .int .i64 mx, .bool ng] 25)).alloc (.cells #[.int .i64 0, .slice none 0 0, .slice none 0 0, .int .i64 0, .int .i64 0, .bool false] 25)).alloc (.cells #[.int .i64 0, .slice P1 s1.length d1, .slice P2 a1.length d2, .int .i64 u1, .int .i64 v1, .bool g1] 25)))
            generalize (((w.alloc (.cells #[.int .i64 6, .slice A1 set.length c1, .slice (some ⟨b, off, none⟩) (rest.length + 1) c2, .int .i64 0, .int .i64 mx, .bool ng] 25)).alloc (.cells #[.int .i64 0, .slice none 0 0, .slice none 0 0, .int .i64 0, .int .i64 0, .bool false] 25)).alloc (.cells #[.int .i64 0, .slice P1 s1.length d1, .slice P2 a1.length d2, .int .i64 u1, .int .i64 v1, .bool g1] 25)) = W11 at *
            have kr := Aside.mk kr_
            clear kr_
            have kz := Aside.mk kz_
            clear kz_
            have ka := Aside.mk ka_
            clear ka_
            refine (refEmpty_any _).mono ?_
            rintro e w1 ⟨rfl, hb⟩
            replace kr := Aside.mk (box_below kr.out hb)
            replace kz := Aside.mk (box_below kz.out hb)
            replace ka := Aside.mk (box_below ka.out hb)
            replace hx := Aside.mk (hx.out.then_below hb)
            clear hb
            have lqr : w.heap.size < w1.heap.size := boxL kr.out
            obtain ⟨⟨cr0, cr1, cr2, cr3, cr4, cr5⟩, fr0, fr1, fr2, fr3, fr4, fr5⟩ := kb6 kr.out
            have lqz : w.heap.size + 1 < w1.heap.size := boxL kz.out
            obtain ⟨⟨cz0, cz1, cz2, cz3, cz4, cz5⟩, fz0, fz1, fz2, fz3, fz4, fz5⟩ := kb6 kz.out
            have lqa : w.heap.size + 1 + 1 < w1.heap.size := boxL ka.out
            obtain ⟨⟨ca0, ca1, ca2, ca3, ca4, ca5⟩, fa0, fa1, fa2, fa3, fa4, fa5⟩ := kb6 ka.out
            go_wp2_with fail
            clear lqr cr0 cr1 cr2 cr3 cr4 cr5 fr0 fr1 fr2 fr3 fr4 fr5 lqz cz0 cz1 cz2 cz3 cz4 cz5 fz0 fz1 fz2 fz3 fz4 fz5 lqa ca0 ca1 ca2 ca3 ca4 ca5 fa0 fa1 fa2 fa3 fa4 fa5
            have kr_ : ((((((w1.setCell ⟨w.heap.size + 1, 0, none⟩ (.int .i64 1)).setCell ⟨w.heap.size + 1, 1, none⟩ (.slice none 0 0)).setCell ⟨w.heap.size + 1, 2, none⟩ (.slice none 0 0)).setCell ⟨w.heap.size + 1, 3, none⟩ (.int .i64 0)).setCell ⟨w.heap.size + 1, 4, none⟩ (.int .i64 0)).setCell ⟨w.heap.size + 1, 5, none⟩ (.bool false)).heap[w.heap.size]? = some (.cells #[.int .i64 6, .slice A1 set.length c1, .slice (some ⟨b, off, none⟩) (rest.length + 1) c2, .int .i64 0, .int .i64 mx, .bool ng] 25) := (boxS_ne (boxS_ne (boxS_ne (boxS_ne (boxS_ne (boxS_ne kr.out (by first | omega | (simp; omega)) 0 (.int .i64 1)) (by first | omega | (simp; omega)) 1 (.slice none 0 0)) (by first | omega | (simp; omega)) 2 (.slice none 0 0)) (by first | omega | (simp; omega)) 3 (.int .i64 0)) (by first | omega | (simp; omega)) 4 (.int .i64 0)) (by first | omega | (simp; omega)) 5 (.bool false))
            have kz_ : ((((((w1.setCell ⟨w.heap.size + 1, 0, none⟩ (.int .i64 1)).setCell ⟨w.heap.size + 1, 1, none⟩ (.slice none 0 0)).setCell ⟨w.heap.size + 1, 2, none⟩ (.slice none 0 0)).setCell ⟨w.heap.size + 1, 3, none⟩ (.int .i64 0)).setCell ⟨w.heap.size + 1, 4, none⟩ (.int .i64 0)).setCell ⟨w.heap.size + 1, 5, none⟩ (.bool false)).heap[w.heap.size + 1]? = some (.cells #[.int .i64 1, .slice none 0 0, .slice none 0 0, .int .i64 0, .int .i64 0, .bool false] 25) := (boxS (boxS (boxS (boxS (boxS (boxS kz.out 0 (.int .i64 1)) 1 (.slice none 0 0)) 2 (.slice none 0 0)) 3 (.int .i64 0)) 4 (.int .i64 0)) 5 (.bool false))
            have ka_ : ((((((w1.setCell ⟨w.heap.size + 1, 0, none⟩ (.int .i64 1)).setCell ⟨w.heap.size + 1, 1, none⟩ (.slice none 0 0)).setCell ⟨w.heap.size + 1, 2, none⟩ (.slice none 0 0)).setCell ⟨w.heap.size + 1, 3, none⟩ (.int .i64 0)).setCell ⟨w.heap.size + 1, 4, none⟩ (.int .i64 0)).setCell ⟨w.heap.size + 1, 5, none⟩ (.bool false)).heap[w.heap.size + 1 + 1]? = some (.cells #[.int .i64 0, .slice P1 s1.length d1, .slice P2 a1.length d2, .int .i64 u1, .int .i64 v1, .bool g1] 25) := (boxS_ne (boxS_ne (boxS_ne (boxS_ne (boxS_ne (boxS_ne ka.out (by first | omega | (simp; omega)) 0 (.int .i64 1)) (by first | omega | (simp; omega)) 1 (.slice none 0 0)) (by first | omega | (simp; omega)) 2 (.slice none 0 0)) (by first | omega | (simp; omega)) 3 (.int .i64 0)) (by first | omega | (simp; omega)) 4 (.int .i64 0)) (by first | omega | (simp; omega)) 5 (.bool false))
            replace hx := Aside.mk (((((((hx.out.setCell (b := w.heap.size + 1) (o := 0) (by first | omega | (simp; omega)) nz.out (.int .i64 1)).setCell (b := w.heap.size + 1) (o := 1) (by first | omega | (simp; omega)) nz.out (.slice none 0 0)).setCell (b := w.heap.size + 1) (o := 2) (by first | omega | (simp; omega)) nz.out (.slice none 0 0)).setCell (b := w.heap.size + 1) (o := 3) (by first | omega | (simp; omega)) nz.out (.int .i64 0)).setCell (b := w.heap.size + 1) (o := 4) (by first | omega | (simp; omega)) nz.out (.int .i64 0)).setCell (b := w.heap.size + 1) (o := 5) (by first | omega | (simp; omega)) nz.out (.bool false)))
            generalize ((((((w1.setCell ⟨w.heap.size + 1, 0, none⟩ (.int .i64 1)).setCell ⟨w.heap.size + 1, 1, none⟩ (.slice none 0 0)).setCell ⟨w.heap.size + 1, 2, none⟩ (.slice none 0 0)).setCell ⟨w.heap.size + 1, 3, none⟩ (.int .i64 0)).setCell ⟨w.heap.size + 1, 4, none⟩ (.int .i64 0)).setCell ⟨w.heap.size + 1, 5, none⟩ (.bool false)) = W12 at *
            replace kr := Aside.mk kr_
            clear kr_
            replace kz := Aside.mk kz_
            clear kz_
            replace ka := Aside.mk ka_
            clear ka_
            refine bodyPost_ret (resC2 rfl _ _ _ rfl (run_loadVar_row _ _ _ _ _ (0, 0) _ kz.out Try.underlying25 rfl (by kernel_rfl))) rfl ?_
            rw [HF.out]
            exact ⟨_, _, rfl, rd_empty _, hx.out⟩
          case neg =>
            have HF := Aside.mk (show repG 6 (Re.mk 0 s1 a1 u1 v1 g1) mn mx = some noneRe from by unfold repG; simp [Re.kind, q0, q1, q3])
            have qb0 : (mx == 0) = false := by simpa using q0
            have qb3 : (mn == 0) = false := by simpa using q3
            have hx := Aside.mk (Ext.refl hs)
            go_enter Try.func148, Try.ntmps148
            go_wp2_with fail
            have hszw := hx.out.size
            have kr_ : (((w.alloc (.cells #[.int .i64 6, .slice A1 set.length c1, .slice (some ⟨b, off, none⟩) (rest.length + 1) c2, .int .i64 mn, .int .i64 mx, .bool ng] 25)).alloc (.cells #[.int .i64 0, .slice none 0 0, .slice none 0 0, .int .i64 0, .int .i64 0, .bool false] 25)).alloc (.cells #[.int .i64 0, .slice P1 s1.length d1, .slice P2 a1.length d2, .int .i64 u1, .int .i64 v1, .bool g1] 25)).heap[w.heap.size]? = some (.cells #[.int .i64 6, .slice A1 set.length c1, .slice (some ⟨b, off, none⟩) (rest.length + 1) c2, .int .i64 mn, .int .i64 mx, .bool ng] 25) := (boxA (boxA (heap_alloc_new _ _) (.cells #[.int .i64 0, .slice none 0 0, .slice none 0 0, .int .i64 0, .int .i64 0, .bool false] 25)) (.cells #[.int .i64 0, .slice P1 s1.length d1, .slice P2 a1.length d2, .int .i64 u1, .int .i64 v1, .bool g1] 25))
            have kz_ : (((w.alloc (.cells #[.int .i64 6, .slice A1 set.length c1, .slice (some ⟨b, off, none⟩) (rest.length + 1) c2, .int .i64 mn, .int .i64 mx, .bool ng] 25)).alloc (.cells #[.int .i64 0, .slice none 0 0, .slice none 0 0, .int .i64 0, .int .i64 0, .bool false] 25)).alloc (.cells #[.int .i64 0, .slice P1 s1.length d1, .slice P2 a1.length d2, .int .i64 u1, .int .i64 v1, .bool g1] 25)).heap[w.heap.size + 1]? = some (.cells #[.int .i64 0, .slice none 0 0, .slice none 0 0, .int .i64 0, .int .i64 0, .bool false] 25) := (boxA (by rw [show w.heap.size + 1 = ((w.alloc (.cells #[.int .i64 6, .slice A1 set.length c1, .slice (some ⟨b, off, none⟩) (rest.length + 1) c2, .int .i64 mn, .int .i64 mx, .bool ng] 25))).heap.size by simp]; exact heap_alloc_new _ _) (.cells #[.int .i64 0, .slice P1 s1.length d1, .slice P2 a1.length d2, .int .i64 u1, .int .i64 v1, .bool g1] 25))
            have ka_ : (((w.alloc (.cells #[.int .i64 6, .slice A1 set.length c1, .slice (some ⟨b, off, none⟩) (rest.length + 1) c2, .int .i64 mn, .int .i64 mx, .bool ng] 25)).alloc (.cells #[.int .i64 0, .slice none 0 0, .slice none 0 0, .int .i64 0, .int .i64 0, .bool false] 25)).alloc (.cells #[.int .i64 0, .slice P1 s1.length d1, .slice P2 a1.length d2, .int .i64 u1, .int .i64 v1, .bool g1] 25)).heap[w.heap.size + 1 + 1]? = some (.cells #[.int .i64 0, .slice P1 s1.length d1, .slice P2 a1.length d2, .int .i64 u1, .int .i64 v1, .bool g1] 25) := (by rw [show w.heap.size + 1 + 1 = (((w.alloc (.cells #[.int .i64 6, .slice A1 set.length c1, .slice (some ⟨b, off, none⟩) (rest.length + 1) c2, .int .i64 mn, .int .i64 mx, .bool ng] 25)).alloc (.cells #[.int .i64 0, .slice none 0 0, .slice none 0 0, .int .i64 0, .int .i64 0, .bool false] 25))).heap.size by simp]; exact heap_alloc_new _ _)
            have nr := Aside.mk (fun o => hx.out.sat.new (b := w.heap.size) (show w.heap.size ≤ _ by omega) o)
            have nz := Aside.mk (fun o => hx.out.sat.new (b := w.heap.size + 1) (show w.heap.size ≤ _ by omega) o)
            have na := Aside.mk (fun o => hx.out.sat.new (b := w.heap.size + 1 + 1) (show w.heap.size ≤ _ by omega) o)
            replace hx := Aside.mk ((((hx.out.alloc (.cells #[.int .i64 6, .slice A1 set.length c1, .slice (some ⟨b, off, none⟩) (rest.length + 1) c2, .int .i64 mn, .int .i64 mx, .bool ng] 25)).alloc (.cells #[.int .i64 0, .slice none 0 0, .slice none 0 0, .int .i64 0, .int .i64 0, .bool false] 25)).alloc (.cells #[.int .i64 0, .slice P1 s1.length d1, .slice P2 a1.length d2, .int .i64 u1, .int .i64 v1, .bool g1] 25)))
            generalize (((w.alloc (.cells #[.int .i64 6, .slice A1 set.length c1, .slice (some ⟨b, off, none⟩) (rest.length + 1) c2, .int .i64 mn, .int .i64 mx, .bool ng] 25)).alloc (.cells #[.int .i64 0, .slice none 0 0, .slice none 0 0, .int .i64 0, .int .i64 0, .bool false] 25)).alloc (.cells #[.int .i64 0, .slice P1 s1.length d1, .slice P2 a1.length d2, .int .i64 u1, .int .i64 v1, .bool g1] 25)) = W13 at *
            have kr := Aside.mk kr_
            clear kr_
            have kz := Aside.mk kz_
            clear kz_
            have ka := Aside.mk ka_
            clear ka_
            refine (refNone_any _).mono ?_
            rintro e w1 ⟨rfl, hb⟩
            replace kr := Aside.mk (box_below kr.out hb)
            replace kz := Aside.mk (box_below kz.out hb)
            replace ka := Aside.mk (box_below ka.out hb)
            replace hx := Aside.mk (hx.out.then_below hb)
            clear hb
            have lqr : w.heap.size < w1.heap.size := boxL kr.out
            obtain ⟨⟨cr0, cr1, cr2, cr3, cr4, cr5⟩, fr0, fr1, fr2, fr3, fr4, fr5⟩ := kb6 kr.out
            have lqz : w.heap.size + 1 < w1.heap.size := boxL kz.out
            obtain ⟨⟨cz0, cz1, cz2, cz3, cz4, cz5⟩, fz0, fz1, fz2, fz3, fz4, fz5⟩ := kb6 kz.out
            have lqa : w.heap.size + 1 + 1 < w1.heap.size := boxL ka.out
            obtain ⟨⟨ca0, ca1, ca2, ca3, ca4, ca5⟩, fa0, fa1, fa2, fa3, fa4, fa5⟩ := kb6 ka.out
            go_wp2_with fail
            clear lqr cr0 cr1 cr2 cr3 cr4 cr5 fr0 fr1 fr2 fr3 fr4 fr5 lqz cz0 cz1 cz2 cz3 cz4 cz5 fz0 fz1 fz2 fz3 fz4 fz5 lqa ca0 ca1 ca2 ca3 ca4 ca5 fa0 fa1 fa2 fa3 fa4 fa5
            have kr_ : ((((((w1.setCell ⟨w.heap.size + 1, 0, none⟩ (.int .i64 0)).setCell ⟨w.heap.size + 1, 1, none⟩ (.slice none 0 0)).setCell ⟨w.heap.size + 1, 2, none⟩ (.slice none 0 0)).setCell ⟨w.heap.size + 1, 3, none⟩ (.int .i64 0)).setCell ⟨w.heap.size + 1, 4, none⟩ (.int .i64 0)).setCell ⟨w.heap.size + 1, 5, none⟩ (.bool false)).heap[w.heap.size]? = some (.cells #[.int .i64 6, .slice A1 set.length c1, .slice (some ⟨b, off, none⟩) (rest.length + 1) c2, .int .i64 mn, .int .i64 mx, .bool ng] 25) := (boxS_ne (boxS_ne (boxS_ne (boxS_ne (boxS_ne (boxS_ne kr.out (by first | omega | (simp; omega)) 0 (.int .i64 0)) (by first | omega | (simp; omega)) 1 (.slice none 0 0)) (by first | omega | (simp; omega)) 2 (.slice none 0 0)) (by first | omega | (simp; omega)) 3 (.int .i64 0)) (by first | omega | (simp; omega)) 4 (.int .i64 0)) (by first | omega | (simp; omega)) 5 (.bool false))
            have kz_ : ((((((w1.setCell ⟨w.heap.size + 1, 0, none⟩ (.int .i64 0)).setCell ⟨w.heap.size + 1, 1, none⟩ (.slice none 0 0)).setCell ⟨w.heap.size + 1, 2, none⟩ (.slice none 0 0)).setCell ⟨w.heap.size + 1, 3, none⟩ (.int .i64 0)).setCell ⟨w.heap.size + 1, 4, none⟩ (.int .i64 0)).setCell ⟨w.heap.size + 1, 5, none⟩ (.bool false)).heap[w.heap.size + 1]? = some (.cells #[.int .i64 0, .slice none 0 0, .slice none 0 0, .int .i64 0, .int .i64 0, .bool false] 25) := (boxS (boxS (boxS (boxS (boxS (boxS kz.out 0 (.int .i64 0)) 1 (.slice none 0 0)) 2 (.slice none 0 0)) 3 (.int .i64 0)) 4 (.int .i64 0)) 5 (.bool false))
            have ka_ : ((((((w1.setCell ⟨w.heap.size + 1, 0, none⟩ (.int .i64 0)).setCell ⟨w.heap.size + 1, 1, none⟩ (.slice none 0 0)).setCell ⟨w.heap.size + 1, 2, none⟩ (.slice none 0 0)).setCell ⟨w.heap.size + 1, 3, none⟩ (.int .i64 0)).setCell ⟨w.heap.size + 1, 4, none⟩ (.int .i64 0)).setCell ⟨w.heap.size + 1, 5, none⟩ (.bool false)).heap[w.heap.size + 1 + 1]? = some (.cells #[.int .i64 0, .slice P1 s1.length d1, .slice P2 a1.length d2, .int .i64 u1, .int .i64 v1, .bool g1] 25) := (boxS_ne (boxS_ne (boxS_ne (boxS_ne (boxS_ne (boxS_ne ka.out (by first | omega | (simp; omega)) 0 (.int .i64 0)) (by first | omega | (simp; omega)) 1 (.slice none 0 0)) (by first | omega | (simp; omega)) 2 (.slice none 0 0)) (by first | omega | (simp; omega)) 3 (.int .i64 0)) (by first | omega | (simp; omega)) 4 (.int .i64 0)) (by first | omega | (simp; omega)) 5 (.bool false))
            replace hx := Aside.mk (((((((hx.out.setCell (b := w.heap.size + 1) (o := 0) (by first | omega | (simp; omega)) nz.out (.int .i64 0)).setCell (b := w.heap.size + 1) (o := 1) (by first | omega | (simp; omega)) nz.out (.slice none 0 0)).setCell (b := w.heap.size + 1) (o := 2) (by first | omega | (simp; omega)) nz.out (.slice none 0 0)).setCell (b := w.heap.size + 1) (o := 3) (by first | omega | (simp; omega)) nz.out (.int .i64 0)).setCell (b := w.heap.size + 1) (o := 4) (by first | omega | (simp; omega)) nz.out (.int .i64 0)).setCell (b := w.heap.size + 1) (o := 5) (by first | omega | (simp; omega)) nz.out (.bool false)))
            generalize ((((((w1.setCell ⟨w.heap.size + 1, 0, none⟩ (.int .i64 0)).setCell ⟨w.heap.size + 1, 1, none⟩ (.slice none 0 0)).setCell ⟨w.heap.size + 1, 2, none⟩ (.slice none 0 0)).setCell ⟨w.heap.size + 1, 3, none⟩ (.int .i64 0)).setCell ⟨w.heap.size + 1, 4, none⟩ (.int .i64 0)).setCell ⟨w.heap.size + 1, 5, none⟩ (.bool false)) = W14 at *
            replace kr := Aside.mk kr_
            clear kr_
            replace kz := Aside.mk kz_
            clear kz_
            replace ka := Aside.mk ka_
            clear ka_
            refine bodyPost_ret (resC2 rfl _ _ _ rfl (run_loadVar_row _ _ _ _ _ (0, 0) _ kz.out Try.underlying25 rfl (by kernel_rfl))) rfl ?_
            rw [HF.out]
            exact ⟨_, _, rfl, rd_none _, hx.out⟩
        case neg =>
          by_cases q3 : k1 = 5
          case pos =>
            subst q3
            have HF := Aside.mk (show repG 6 (Re.mk 5 s1 a1 u1 v1 g1) mn mx = some (Re.mk 5 s1 a1 u1 v1 g1) from by unfold repG; simp [Re.kind, q0, q1, q2])
            have qb0 : (mx == 0) = false := by simpa using q0
            have hx := Aside.mk (Ext.refl hs)
            go_enter Try.func148, Try.ntmps148
            go_wp2_with fail
            have hszw := hx.out.size
            have kr_ : (((w.alloc (.cells #[.int .i64 6, .slice A1 set.length c1, .slice (some ⟨b, off, none⟩) (rest.length + 1) c2, .int .i64 mn, .int .i64 mx, .bool ng] 25)).alloc (.cells #[.int .i64 5, .slice P1 s1.length d1, .slice P2 a1.length d2, .int .i64 u1, .int .i64 v1, .bool g1] 25)).alloc (.cells #[.int .i64 5, .slice P1 s1.length d1, .slice P2 a1.length d2, .int .i64 u1, .int .i64 v1, .bool g1] 25)).heap[w.heap.size]? = some (.cells #[.int .i64 6, .slice A1 set.length c1, .slice (some ⟨b, off, none⟩) (rest.length + 1) c2, .int .i64 mn, .int .i64 mx, .bool ng] 25) := (boxA (boxA (heap_alloc_new _ _) (.cells #[.int .i64 5, .slice P1 s1.length d1, .slice P2 a1.length d2, .int .i64 u1, .int .i64 v1, .bool g1] 25)) (.cells #[.int .i64 5, .slice P1 s1.length d1, .slice P2 a1.length d2, .int .i64 u1, .int .i64 v1, .bool g1] 25))
            have kz_ : (((w.alloc (.cells #[.int .i64 6, .slice A1 set.length c1, .slice (some ⟨b, off, none⟩) (rest.length + 1) c2, .int .i64 mn, .int .i64 mx, .bool ng] 25)).alloc (.cells #[.int .i64 5, .slice P1 s1.length d1, .slice P2 a1.length d2, .int .i64 u1, .int .i64 v1, .bool g1] 25)).alloc (.cells #[.int .i64 5, .slice P1 s1.length d1, .slice P2 a1.length d2, .int .i64 u1, .int .i64 v1, .bool g1] 25)).heap[w.heap.size + 1]? = some (.cells #[.int .i64 5, .slice P1 s1.length d1, .slice P2 a1.length d2, .int .i64 u1, .int .i64 v1, .bool g1] 25) := (boxA (by rw [show w.heap.size + 1 = ((w.alloc (.cells #[.int .i64 6, .slice A1 set.length c1, .slice (some ⟨b, off, none⟩) (rest.length + 1) c2, .int .i64 mn, .int .i64 mx, .bool ng] 25))).heap.size by simp]; exact heap_alloc_new _ _) (.cells #[.int .i64 5, .slice P1 s1.length d1, .slice P2 a1.length d2, .int .i64 u1, .int .i64 v1, .bool g1] 25))
            have ka_ : (((w.alloc (.cells #[.int .i64 6, .slice A1 set.length c1, .slice (some ⟨b, off, none⟩) (rest.length + 1) c2, .int .i64 mn, .int .i64 mx, .bool ng] 25)).alloc (.cells #[.int .i64 5, .slice P1 s1.length d1, .slice P2 a1.length d2, .int .i64 u1, .int .i64 v1, .bool g1] 25)).alloc (.cells #[.int .i64 5, .slice P1 s1.length d1, .slice P2 a1.length d2, .int .i64 u1, .int .i64 v1, .bool g1] 25)).heap[w.heap.size + 1 + 1]? = some (.cells #[.int .i64 5, .slice P1 s1.length d1, .slice P2 a1.length d2, .int .i64 u1, .int .i64 v1, .bool g1] 25) := (by rw [show w.heap.size + 1 + 1 = (((w.alloc (.cells #[.int .i64 6, .slice A1 set.length c1, .slice (some ⟨b, off, none⟩) (rest.length + 1) c2, .int .i64 mn, .int .i64 mx, .bool ng] 25)).alloc (.cells #[.int .i64 5, .slice P1 s1.length d1, .slice P2 a1.length d2, .int .i64 u1, .int .i64 v1, .bool g1] 25))).heap.size by simp]; exact heap_alloc_new _ _)
            have nr := Aside.mk (fun o => hx.out.sat.new (b := w.heap.size) (show w.heap.size ≤ _ by omega) o)
            have nz := Aside.mk (fun o => hx.out.sat.new (b := w.heap.size + 1) (show w.heap.size ≤ _ by omega) o)
            have na := Aside.mk (fun o => hx.out.sat.new (b := w.heap.size + 1 + 1) (show w.heap.size ≤ _ by omega) o)
            replace hx := Aside.mk ((((hx.out.alloc (.cells #[.int .i64 6, .slice A1 set.length c1, .slice (some ⟨b, off, none⟩) (rest.length + 1) c2, .int .i64 mn, .int .i64 mx, .bool ng] 25)).alloc (.cells #[.int .i64 5, .slice P1 s1.length d1, .slice P2 a1.length d2, .int .i64 u1, .int .i64 v1, .bool g1] 25)).alloc (.cells #[.int .i64 5, .slice P1 s1.length d1, .slice P2 a1.length d2, .int .i64 u1, .int .i64 v1, .bool g1] 25)))
            generalize (((w.alloc (.cells #[.int .i64 6, .slice A1 set.length c1, .slice (some ⟨b, off, none⟩) (rest.length + 1) c2, .int .i64 mn, .int .i64 mx, .bool ng] 25)).alloc (.cells #[.int .i64 5, .slice P1 s1.length d1, .slice P2 a1.length d2, .int .i64 u1, .int .i64 v1, .bool g1] 25)).alloc (.cells #[.int .i64 5, .slice P1 s1.length d1, .slice P2 a1.length d2, .int .i64 u1, .int .i64 v1, .bool g1] 25)) = W15 at *
            have kr := Aside.mk kr_
            clear kr_
            have kz := Aside.mk kz_
            clear kz_
            have ka := Aside.mk ka_
            clear ka_
            refine bodyPost_ret (resC2 rfl _ _ _ rfl (run_loadVar_row _ _ _ _ _ (0, 0) _ kz.out Try.underlying25 rfl (by kernel_rfl))) rfl ?_
            rw [HF.out]
            exact ⟨_, _, rfl, HR.out.2.mono hx.out.le, hx.out⟩
          case neg =>
            by_cases q4 : mn = 1
            case pos =>
              subst q4
              by_cases q5 : mx = 1
              case pos =>
                subst q5
                have HF := Aside.mk (show repG 6 (Re.mk k1 s1 a1 u1 v1 g1) 1 1 = some (Re.mk k1 s1 a1 u1 v1 g1) from by unfold repG; simp [Re.kind, q0, q1, q2, q3])
                have qb1 : (k1 == 1) = false := by simpa using q1
                have qb2 : (k1 == 0) = false := by simpa using q2
                have qb3 : (k1 == 5) = false := by simpa using q3
                have hx := Aside.mk (Ext.refl hs)
                go_enter Try.func148, Try.ntmps148
                go_wp2_with fail
                have hszw := hx.out.size
                have kr_ : (((w.alloc (.cells #[.int .i64 6, .slice A1 set.length c1, .slice (some ⟨b, off, none⟩) (rest.length + 1) c2, .int .i64 1, .int .i64 1, .bool ng] 25)).alloc (.cells #[.int .i64 k1, .slice P1 s1.length d1, .slice P2 a1.length d2, .int .i64 u1, .int .i64 v1, .bool g1] 25)).alloc (.cells #[.int .i64 k1, .slice P1 s1.length d1, .slice P2 a1.length d2, .int .i64 u1, .int .i64 v1, .bool g1] 25)).heap[w.heap.size]? = some (.cells #[.int .i64 6, .slice A1 set.length c1, .slice (some ⟨b, off, none⟩) (rest.length + 1) c2, .int .i64 1, .int .i64 1, .bool ng] 25) := (boxA (boxA (heap_alloc_new _ _) (.cells #[.int .i64 k1, .slice P1 s1.length d1, .slice P2 a1.length d2, .int .i64 u1, .int .i64 v1, .bool g1] 25)) (.cells #[.int .i64 k1, .slice P1 s1.length d1, .slice P2 a1.length d2, .int .i64 u1, .int .i64 v1, .bool g1] 25))
                have kz_ : (((w.alloc (.cells #[.int .i64 6, .slice A1 set.length c1, .slice (some ⟨b, off, none⟩) (rest.length + 1) c2, .int .i64 1, .int .i64 1, .bool ng] 25)).alloc (.cells #[.int .i64 k1, .slice P1 s1.length d1, .slice P2 a1.length d2, .int .i64 u1, .int .i64 v1, .bool g1] 25)).alloc (.cells #[.int .i64 k1, .slice P1 s1.length d1, .slice P2 a1.length d2, .int .i64 u1, .int .i64 v1, .bool g1] 25)).heap[w.heap.size + 1]? = some (.cells #[.int .i64 k1, .slice P1 s1.length d1, .slice P2 a1.length d2, .int .i64 u1, .int .i64 v1, .bool g1] 25) := (boxA (by rw [show w.heap.size + 1 = ((w.alloc (.cells #[.int .i64 6, .slice A1 set.length c1, .slice (some ⟨b, off, none⟩) (rest.length + 1) c2, .int .i64 1, .int .i64 1, .bool ng] 25))).heap.size by simp]; exact heap_alloc_new _ _) (.cells #[.int .i64 k1, .slice P1 s1.length d1, .slice P2 a1.length d2, .int .i64 u1, .int .i64 v1, .bool g1] 25))
                have ka_ : (((w.alloc (.cells #[.int .i64 6, .slice A1 set.length c1, .slice (some ⟨b, off, none⟩) (rest.length + 1) c2, .int .i64 1, .int .i64 1, .bool ng] 25)).alloc (.cells #[.int .i64 k1, .slice P1 s1.length d1, .slice P2 a1.length d2, .int .i64 u1, .int .i64 v1, .bool g1] 25)).alloc (.cells #[.int .i64 k1, .slice P1 s1.length d1, .slice P2 a1.length d2, .int .i64 u1, .int .i64 v1, .bool g1] 25)).heap[w.heap.size + 1 + 1]? = some (.cells #[.int .i64 k1, .slice P1 s1.length d1, .slice P2 a1.length d2, .int .i64 u1, .int .i64 v1, .bool g1] 25) := (by rw [show w.heap.size + 1 + 1 = (((w.alloc (.cells #[.int .i64 6, .slice A1 set.length c1, .slice (some ⟨b, off, none⟩) (rest.length + 1) c2, .int .i64 1, .int .i64 1, .bool ng] 25)).alloc (.cells #[.int .i64 k1, .slice P1 s1.length d1, .slice P2 a1.length d2, .int .i64 u1, .int .i64 v1, .bool g1] 25))).heap.size by simp]; exact heap_alloc_new _ _)
                have nr := Aside.mk (fun o => hx.out.sat.new (b := w.heap.size) (show w.heap.size ≤ _ by omega) o)
                have nz := Aside.mk (fun o => hx.out.sat.new (b := w.heap.size + 1) (show w.heap.size ≤ _ by omega) o)
                have na := Aside.mk (fun o => hx.out.sat.new (b := w.heap.size + 1 + 1) (show w.heap.size ≤ _ by omega) o)
                replace hx := Aside.mk ((((hx.out.alloc (.cells #[.int .i64 6, .slice A1 set.length c1, .slice (some ⟨b, off, none⟩) (rest.length + 1) c2, .int .i64 1, .int .i64 1, .bool ng] 25)).alloc (.cells #[.int .i64 k1, .slice P1 s1.length d1, .slice P2 a1.length d2, .int .i64 u1, .int .i64 v1, .bool g1] 25)).alloc (.cells #[.int .i64 k1, .slice P1 s1.length d1, .slice P2 a1.length d2, .int .i64 u1, .int .i64 v1, .bool g1] 25)))
                generalize (((w.alloc (.cells #[.int .i64 6, .slice A1 set.length c1, .slice (some ⟨b, off, none⟩) (rest.length + 1) c2, .int .i64 1, .int .i64 1, .bool ng] 25)).alloc (.cells #[.int .i64 k1, .slice P1 s1.length d1, .slice P2 a1.length d2, .int .i64 u1, .int .i64 v1, .bool g1] 25)).alloc (.cells #[.int .i64 k1, .slice P1 s1.length d1, .slice P2 a1.length d2, .int .i64 u1, .int .i64 v1, .bool g1] 25)) = W16 at *
                have kr := Aside.mk kr_
                clear kr_
                have kz := Aside.mk kz_
                clear kz_
                have ka := Aside.mk ka_
                clear ka_
                refine bodyPost_ret (resC2 rfl _ _ _ rfl (run_loadVar_row _ _ _ _ _ (0, 0) _ kz.out Try.underlying25 rfl (by kernel_rfl))) rfl ?_
                rw [HF.out]
                exact ⟨_, _, rfl, HR.out.2.mono hx.out.le, hx.out⟩
              case neg =>
                have HF := Aside.mk (show repG 6 (Re.mk k1 s1 a1 u1 v1 g1) 1 mx = none from by unfold repG; simp [Re.kind, q0, q1, q2, q3, q5])
                have qb0 : (mx == 0) = false := by simpa using q0
                have qb1 : (k1 == 1) = false := by simpa using q1
                have qb2 : (k1 == 0) = false := by simpa using q2
                have qb3 : (k1 == 5) = false := by simpa using q3
                have qb5 : (mx == 1) = false := by simpa using q5
                have hx := Aside.mk (Ext.refl hs)
                go_enter Try.func148, Try.ntmps148
                go_wp2_with fail
                have hszw := hx.out.size
                have kr_ : (((w.alloc (.cells #[.int .i64 6, .slice A1 set.length c1, .slice (some ⟨b, off, none⟩) (rest.length + 1) c2, .int .i64 1, .int .i64 mx, .bool ng] 25)).alloc (.cells #[.int .i64 6, .slice A1 set.length c1, .slice (some ⟨b, off, none⟩) (rest.length + 1) c2, .int .i64 1, .int .i64 mx, .bool ng] 25)).alloc (.cells #[.int .i64 k1, .slice P1 s1.length d1, .slice P2 a1.length d2, .int .i64 u1, .int .i64 v1, .bool g1] 25)).heap[w.heap.size]? = some (.cells #[.int .i64 6, .slice A1 set.length c1, .slice (some ⟨b, off, none⟩) (rest.length + 1) c2, .int .i64 1, .int .i64 mx, .bool ng] 25) := (boxA (boxA (heap_alloc_new _ _) (.cells #[.int .i64 6, .slice A1 set.length c1, .slice (some ⟨b, off, none⟩) (rest.length + 1) c2, .int .i64 1, .int .i64 mx, .bool ng] 25)) (.cells #[.int .i64 k1, .slice P1 s1.length d1, .slice P2 a1.length d2, .int .i64 u1, .int .i64 v1, .bool g1] 25))
                have kz_ : (((w.alloc (.cells #[.int .i64 6, .slice A1 set.length c1, .slice (some ⟨b, off, none⟩) (rest.length + 1) c2, .int .i64 1, .int .i64 mx, .bool ng] 25)).alloc (.cells #[.int .i64 6, .slice A1 set.length c1, .slice (some ⟨b, off, none⟩) (rest.length + 1) c2, .int .i64 1, .int .i64 mx, .bool ng] 25)).alloc (.cells #[.int .i64 k1, .slice P1 s1.length d1, .slice P2 a1.length d2, .int .i64 u1, .int .i64 v1, .bool g1] 25)).heap[w.heap.size + 1]? = some (.cells #[.int .i64 6, .slice A1 set.length c1, .slice (some ⟨b, off, none⟩) (rest.length + 1) c2, .int .i64 1, .int .i64 mx, .bool ng] 25) := (boxA (by rw [show w.heap.size + 1 = ((w.alloc (.cells #[.int .i64 6, .slice A1 set.length c1, .slice (some ⟨b, off, none⟩) (rest.length + 1) c2, .int .i64 1, .int .i64 mx, .bool ng] 25))).heap.size by simp]; exact heap_alloc_new _ _) (.cells #[.int .i64 k1, .slice P1 s1.length d1, .slice P2 a1.length d2, .int .i64 u1, .int .i64 v1, .bool g1] 25))
                have ka_ : (((w.alloc (.cells #[.int .i64 6, .slice A1 set.length c1, .slice (some ⟨b, off, none⟩) (rest.length + 1) c2, .int .i64 1, .int .i64 mx, .bool ng] 25)).alloc (.cells #[.int .i64 6, .slice A1 set.length c1, .slice (some ⟨b, off, none⟩) (rest.length + 1) c2, .int .i64 1, .int .i64 mx, .bool ng] 25)).alloc (.cells #[.int .i64 k1, .slice P1 s1.length d1, .slice P2 a1.length d2, .int .i64 u1, .int .i64 v1, .bool g1] 25)).heap[w.heap.size + 1 + 1]? = some (.cells #[.int .i64 k1, .slice P1 s1.length d1, .slice P2 a1.length d2, .int .i64 u1, .int .i64 v1, .bool g1] 25) := (by rw [show w.heap.size + 1 + 1 = (((w.alloc (.cells #[.int .i64 6, .slice A1 set.length c1, .slice (some ⟨b, off, none⟩) (rest.length + 1) c2, .int .i64 1, .int .i64 mx, .bool ng] 25)).alloc (.cells #[.int .i64 6, .slice A1 set.length c1, .slice (some ⟨b, off, none⟩) (rest.length + 1) c2, .int .i64 1, .int .i64 mx, .bool ng] 25))).heap.size by simp]; exact heap_alloc_new _ _)
                have nr := Aside.mk (fun o => hx.out.sat.new (b := w.heap.size) (show w.heap.size ≤ _ by omega) o)
                have nz := Aside.mk (fun o => hx.out.sat.new (b := w.heap.size + 1) (show w.heap.size ≤ _ by omega) o)
                have na := Aside.mk (fun o => hx.out.sat.new (b := w.heap.size + 1 + 1) (show w.heap.size ≤ _ by omega) o)
                replace hx := Aside.mk ((((hx.out.alloc (.cells #[.int .i64 6, .slice A1 set.length c1, .slice (some ⟨b, off, none⟩) (rest.length + 1) c2, .int .i64 1, .int .i64 mx, .bool ng] 25)).alloc (.cells #[.int .i64 6, .slice A1 set.length c1, .slice (some ⟨b, off, none⟩) (rest.length + 1) c2, .int .i64 1, .int .i64 mx, .bool ng] 25)).alloc (.cells #[.int .i64 k1, .slice P1 s1.length d1, .slice P2 a1.length d2, .int .i64 u1, .int .i64 v1, .bool g1] 25)))
                generalize (((w.alloc (.cells #[.int .i64 6, .slice A1 set.length c1, .slice (some ⟨b, off, none⟩) (rest.length + 1) c2, .int .i64 1, .int .i64 mx, .bool ng] 25)).alloc (.cells #[.int .i64 6, .slice A1 set.length c1, .slice (some ⟨b, off, none⟩) (rest.length + 1) c2, .int .i64 1, .int .i64 mx, .bool ng] 25)).alloc (.cells #[.int .i64 k1, .slice P1 s1.length d1, .slice P2 a1.length d2, .int .i64 u1, .int .i64 v1, .bool g1] 25)) = W17 at *
                have kr := Aside.mk kr_
                clear kr_
                have kz := Aside.mk kz_
                clear kz_
                have ka := Aside.mk ka_
                clear ka_
                refine bodyPost_ret (resC2 rfl _ _ _ rfl (run_loadVar_row _ _ _ _ _ (0, 0) _ kz.out Try.underlying25 rfl (by kernel_rfl))) rfl ?_
                rw [HF.out]
                exact ⟨_, _, rfl, HR.out.1.mono hx.out.le, hx.out⟩
            case neg =>
              have HF := Aside.mk (show repG 6 (Re.mk k1 s1 a1 u1 v1 g1) mn mx = none from by unfold repG; simp [Re.kind, q0, q1, q2, q3, q4])
              have qb0 : (mx == 0) = false := by simpa using q0
              have qb1 : (k1 == 1) = false := by simpa using q1
              have qb2 : (k1 == 0) = false := by simpa using q2
              have qb3 : (k1 == 5) = false := by simpa using q3
              have qb4 : (mn == 1) = false := by simpa using q4
              have hx := Aside.mk (Ext.refl hs)
              go_enter Try.func148, Try.ntmps148
              go_wp2_with fail
              have hszw := hx.out.size
              have kr_ : (((w.alloc (.cells #[.int .i64 6, .slice A1 set.length c1, .slice (some ⟨b, off, none⟩) (rest.length + 1) c2, .int .i64 mn, .int .i64 mx, .bool ng] 25)).alloc (.cells #[.int .i64 6, .slice A1 set.length c1, .slice (some ⟨b, off, none⟩) (rest.length + 1) c2, .int .i64 mn, .int .i64 mx, .bool ng] 25)).alloc (.cells #[.int .i64 k1, .slice P1 s1.length d1, .slice P2 a1.length d2, .int .i64 u1, .int .i64 v1, .bool g1] 25)).heap[w.heap.size]? = some (.cells #[.int .i64 6, .slice A1 set.length c1, .slice (some ⟨b, off, none⟩) (rest.length + 1) c2, .int .i64 mn, .int .i64 mx, .bool ng] 25) := (boxA (boxA (heap_alloc_new _ _) (.cells #[.int .i64 6, .slice A1 set.length c1, .slice (some ⟨b, off, none⟩) (rest.length + 1) c2, .int .i64 mn, .int .i64 mx, .bool ng] 25)) (.cells #[.int .i64 k1, .slice P1 s1.length d1, .slice P2 a1.length d2, .int .i64 u1, .int .i64 v1, .bool g1] 25))
              have kz_ : (((w.alloc (.cells #[.int .i64 6, .slice A1 set.length c1, .slice (some ⟨b, off, none⟩) (rest.length + 1) c2, .int .i64 mn, .int .i64 mx, .bool ng] 25)).alloc (.cells #[.int .i64 6, .slice A1 set.length c1, .slice (some ⟨b, off, none⟩) (rest.length + 1) c2, .int .i64 mn, .int .i64 mx, .bool ng] 25)).alloc (.cells #[.int .i64 k1, .slice P1 s1.length d1, .slice P2 a1.length d2, .int .i64 u1, .int .i64 v1, .bool g1] 25)).heap[w.heap.size + 1]? = some (.cells #[.int .i64 6, .slice A1 set.length c1, .slice (some ⟨b, off, none⟩) (rest.length + 1) c2, .int .i64 mn, .int .i64 mx, .bool ng] 25) := (boxA (by rw [show w.heap.size + 1 = ((w.alloc (.cells #[.int .i64 6, .slice A1 set.length c1, .slice (some ⟨b, off, none⟩) (rest.length + 1) c2, .int .i64 mn, .int .i64 mx, .bool ng] 25))).heap.size by simp]; exact heap_alloc_new _ _) (.cells #[.int .i64 k1, .slice P1 s1.length d1, .slice P2 a1.length d2, .int .i64 u1, .int .i64 v1, .bool g1] 25))
              have ka_ : (((w.alloc (.cells #[.int .i64 6, .slice A1 set.length c1, .slice (some ⟨b, off, none⟩) (rest.length + 1) c2, .int .i64 mn, .int .i64 mx, .bool ng] 25)).alloc (.cells #[.int .i64 6, .slice A1 set.length c1, .slice (some ⟨b, off, none⟩) (rest.length + 1) c2, .int .i64 mn, .int .i64 mx, .bool ng] 25)).alloc (.cells #[.int .i64 k1, .slice P1 s1.length d1, .slice P2 a1.length d2, .int .i64 u1, .int .i64 v1, .bool g1] 25)).heap[w.heap.size + 1 + 1]? = some (.cells #[.int .i64 k1, .slice P1 s1.length d1, .slice P2 a1.length d2, .int .i64 u1, .int .i64 v1, .bool g1] 25) := (by rw [show w.heap.size + 1 + 1 = (((w.alloc (.cells #[.int .i64 6, .slice A1 set.length c1, .slice (some ⟨b, off, none⟩) (rest.length + 1) c2, .int .i64 mn, .int .i64 mx, .bool ng] 25)).alloc (.cells #[.int .i64 6, .slice A1 set.length c1, .slice (some ⟨b, off, none⟩) (rest.length + 1) c2, .int .i64 mn, .int .i64 mx, .bool ng] 25))).heap.size by simp]; exact heap_alloc_new _ _)
              have nr := Aside.mk (fun o => hx.out.sat.new (b := w.heap.size) (show w.heap.size ≤ _ by omega) o)
              have nz := Aside.mk (fun o => hx.out.sat.new (b := w.heap.size + 1) (show w.heap.size ≤ _ by omega) o)
              have na := Aside.mk (fun o => hx.out.sat.new (b := w.heap.size + 1 + 1) (show w.heap.size ≤ _ by omega) o)
              replace hx := Aside.mk ((((hx.out.alloc (.cells #[.int .i64 6, .slice A1 set.length c1, .slice (some ⟨b, off, none⟩) (rest.length + 1) c2, .int .i64 mn, .int .i64 mx, .bool ng] 25)).alloc (.cells #[.int .i64 6, .slice A1 set.length c1, .slice (some ⟨b, off, none⟩) (rest.length + 1) c2, .int .i64 mn, .int .i64 mx, .bool ng] 25)).alloc (.cells #[.int .i64 k1, .slice P1 s1.length d1, .slice P2 a1.length d2, .int .i64 u1, .int .i64 v1, .bool g1] 25)))
              generalize (((w.alloc (.cells #[.int .i64 6, .slice A1 set.length c1, .slice (some ⟨b, off, none⟩) (rest.length + 1) c2, .int .i64 mn, .int .i64 mx, .bool ng] 25)).alloc (.cells #[.int .i64 6, .slice A1 set.length c1, .slice (some ⟨b, off, none⟩) (rest.length + 1) c2, .int .i64 mn, .int .i64 mx, .bool ng] 25)).alloc (.cells #[.int .i64 k1, .slice P1 s1.length d1, .slice P2 a1.length d2, .int .i64 u1, .int .i64 v1, .bool g1] 25)) = W18 at *
              have kr := Aside.mk kr_
              clear kr_
              have kz := Aside.mk kz_
              clear kz_
              have ka := Aside.mk ka_
              clear ka_
              refine bodyPost_ret (resC2 rfl _ _ _ rfl (run_loadVar_row _ _ _ _ _ (0, 0) _ kz.out Try.underlying25 rfl (by kernel_rfl))) rfl ?_
              rw [HF.out]
              exact ⟨_, _, rfl, HR.out.1.mono hx.out.le, hx.out⟩
end Go.Proofs.Ytbnahmeaeakhhaa.B

namespace Go.Proofs.Ytbnahmeaeakhhaa.B
set_option linter.unusedVariables false
set_option linter.unusedSimpArgs false
open Go Go.RowKit Classical

set_option maxRecDepth 100000 in
set_option maxHeartbeats 16000000 in
theorem mapped_norm (g : Re → Re) (H : PH) (kind : Int) (set : List Span) (args : List Re) (mn mx : Int) (neg : Bool) (cs : List Value) (w : World) (hr : RdRe H (.mk kind set args mn mx neg) cs) (hs : Sat w H) (hb2 : args.length ≤ 1048576)
    (hf : ∀ a ∈ args, ∀ (H' : PH) (cs' : List Value) (w' : World), RdRe H' a cs' → Sat w' H' → Calls Try.prog 35 #[.agg cs'.toArray] w' (ReR H' w' (g a))) :
    Calls Try.prog 94 #[.agg cs.toArray, .func (.func 35) #[] #[]] w (ReR H w (.mk kind set (args.map g) mn mx neg)) := by
  obtain ⟨A1, c1, A2, c2, rfl, h1, h2⟩ := hr.open
  clear hr
  have hx := Aside.mk (Ext.refl hs)
  replace h1 := Aside.mk h1
  replace h2 := Aside.mk h2
  replace hf := Aside.mk hf
  go_enter Try.func94, Try.ntmps94
  go_wp2_with fail
  have hszw := hx.out.size
  have kr_ : ((w.alloc (.cells #[.int .i64 kind, .slice A1 set.length c1, .slice A2 args.length c2, .int .i64 mn, .int .i64 mx, .bool neg] 25)).alloc (.cells #[.int .i64 0, .slice none 0 0, .slice none 0 0, .int .i64 0, .int .i64 0, .bool false] 25)).heap[w.heap.size]? = some (.cells #[.int .i64 kind, .slice A1 set.length c1, .slice A2 args.length c2, .int .i64 mn, .int .i64 mx, .bool neg] 25) := (boxA (heap_alloc_new _ _) (.cells #[.int .i64 0, .slice none 0 0, .slice none 0 0, .int .i64 0, .int .i64 0, .bool false] 25))
  have kz_ : ((w.alloc (.cells #[.int .i64 kind, .slice A1 set.length c1, .slice A2 args.length c2, .int .i64 mn, .int .i64 mx, .bool neg] 25)).alloc (.cells #[.int .i64 0, .slice none 0 0, .slice none 0 0, .int .i64 0, .int .i64 0, .bool false] 25)).heap[w.heap.size + 1]? = some (.cells #[.int .i64 0, .slice none 0 0, .slice none 0 0, .int .i64 0, .int .i64 0, .bool false] 25) := (by rw [show w.heap.size + 1 = ((w.alloc (.cells #[.int .i64 kind, .slice A1 set.length c1, .slice A2 args.length c2, .int .i64 mn, .int .i64 mx, .bool neg] 25))).heap.size by simp]; exact heap_alloc_new _ _)
  have nr := Aside.mk (fun o => hx.out.sat.new (b := w.heap.size) (show w.heap.size ≤ _ by omega) o)
  have nz := Aside.mk (fun o => hx.out.sat.new (b := w.heap.size + 1) (show w.heap.size ≤ _ by omega) o)
  replace hx := Aside.mk (((hx.out.alloc (.cells #[.int .i64 kind, .slice A1 set.length c1, .slice A2 args.length c2, .int .i64 mn, .int .i64 mx, .bool neg] 25)).alloc (.cells #[.int .i64 0, .slice none 0 0, .slice none 0 0, .int .i64 0, .int .i64 0, .bool false] 25)))
  generalize ((w.alloc (.cells #[.int .i64 kind, .slice A1 set.length c1, .slice A2 args.length c2, .int .i64 mn, .int .i64 mx, .bool neg] 25)).alloc (.cells #[.int .i64 0, .slice none 0 0, .slice none 0 0, .int .i64 0, .int .i64 0, .bool false] 25)) = W1 at *
  have kr := Aside.mk kr_
  clear kr_
  have kz := Aside.mk kz_
  clear kz_
  go_loopw [5, 11] (fun o i wr => ∃ (k : Nat) (A5 : Option Addr) (l5 c5 : Nat) (Hk : PH), k ≤ args.length ∧ i = .int .i64 k ∧ o = .slice A5 l5 c5 ∧ Aside (Ext H Hk w wr) ∧ Aside (SlR kSpan Hk A1 set.length c1 set) ∧ Aside (SlR kRe Hk A2 args.length c2 args) ∧ Aside (wr.heap[w.heap.size]? = some (.cells #[.int .i64 kind, .slice A1 set.length c1, .slice A2 args.length c2, .int .i64 mn, .int .i64 mx, .bool neg] 25)) ∧ Aside (∀ o, Hk (w.heap.size) o = none) ∧ Aside (wr.heap[w.heap.size + 1]? = some (.cells #[.int .i64 0, .slice none 0 0, .slice none 0 0, .int .i64 0, .int .i64 0, .bool false] 25)) ∧ Aside (∀ o, Hk (w.heap.size + 1) o = none) ∧ Aside (Own kRe 25 wr (w.heap.size + 1 + 1) Hk (.slice A5 l5 c5) ((args.take k).map g))) (fun _ i _ => args.length - (intOf i).toNat)
  case atStart => exact ⟨0, none, 0, 0, _, by omega, rfl, rfl, hx, h1, h2, kr, nr, kz, nz, ⟨by simpa using Own.nil _ _ _ _ _⟩⟩
  case round =>
    clear hx h1 h2 kr nr kz nz
    obtain ⟨k, A5, l5, c5, Hk, hk, rfl, rfl, hx, h1, h2, kr, nr, kz, nz, ho⟩ := hrel
    by_cases hlt : k < args.length
    case pos =>
      obtain ⟨b, off, k1, s1, a1, u1, v1, g1, P1, d1, P2, d2, rfl, hq, hrd, g0, g1_, g2, g3, g4, g5⟩ := cell_elem h2.out hx.out.sat k hlt
      have hmem : args[k] ∈ args := List.getElem_mem hlt
      have htk : (args.take (k + 1)).map g = (args.take k).map g ++ [g args[k]] := by rw [List.take_succ_eq_append_getElem hlt, List.map_append]; rfl
      have hlt2 := Aside.mk hlt
      rw [hq] at hmem htk
      have hcall := hf.out _ hmem
      have hln : ((args.take k).map g).length ≤ 1048576 := by simp; omega
      generalize g (Re.mk k1 s1 a1 u1 v1 g1) = gr at *
      replace htk := Aside.mk htk
      replace hrd := Aside.mk hrd
      replace hcall := Aside.mk hcall
      have hbz : b < wr.heap.size := World.block_lt_of_cell? wr _ g0
      have hby : Aside ((((args.take k).map g).length + 1) * 80 ≤ 140737488355328 ∧ ((args.take k).map g).length + 1 ≤ maxLen) := ⟨by omega, by unfold maxLen; omega⟩
      clear hmem hq hln
      have lqr : w.heap.size < wr.heap.size := boxL kr.out
      obtain ⟨⟨cr0, cr1, cr2, cr3, cr4, cr5⟩, fr0, fr1, fr2, fr3, fr4, fr5⟩ := kb6 kr.out
      have lqz : w.heap.size + 1 < wr.heap.size := boxL kz.out
      obtain ⟨⟨cz0, cz1, cz2, cz3, cz4, cz5⟩, fz0, fz1, fz2, fz3, fz4, fz5⟩ := kb6 kz.out
      go_wp2_with fail
      clear lqr cr0 cr1 cr2 cr3 cr4 cr5 fr0 fr1 fr2 fr3 fr4 fr5 lqz cz0 cz1 cz2 cz3 cz4 cz5 fz0 fz1 fz2 fz3 fz4 fz5 g0 g1_ g2 g3 g4 g5
      have kr_ : (wr.alloc (.cells #[.int .i64 k1, .slice P1 s1.length d1, .slice P2 a1.length d2, .int .i64 u1, .int .i64 v1, .bool g1] 25)).heap[w.heap.size]? = some (.cells #[.int .i64 kind, .slice A1 set.length c1, .slice (some ⟨b, off, none⟩) args.length c2, .int .i64 mn, .int .i64 mx, .bool neg] 25) := (boxA kr.out (.cells #[.int .i64 k1, .slice P1 s1.length d1, .slice P2 a1.length d2, .int .i64 u1, .int .i64 v1, .bool g1] 25))
      have kz_ : (wr.alloc (.cells #[.int .i64 k1, .slice P1 s1.length d1, .slice P2 a1.length d2, .int .i64 u1, .int .i64 v1, .bool g1] 25)).heap[w.heap.size + 1]? = some (.cells #[.int .i64 0, .slice none 0 0, .slice none 0 0, .int .i64 0, .int .i64 0, .bool false] 25) := (boxA kz.out (.cells #[.int .i64 k1, .slice P1 s1.length d1, .slice P2 a1.length d2, .int .i64 u1, .int .i64 v1, .bool g1] 25))
      replace ho := Aside.mk (ho.out.alloc (hx.out).sat (.cells #[.int .i64 k1, .slice P1 s1.length d1, .slice P2 a1.length d2, .int .i64 u1, .int .i64 v1, .bool g1] 25))
      replace hx := Aside.mk ((hx.out.alloc (.cells #[.int .i64 k1, .slice P1 s1.length d1, .slice P2 a1.length d2, .int .i64 u1, .int .i64 v1, .bool g1] 25)))
      generalize (wr.alloc (.cells #[.int .i64 k1, .slice P1 s1.length d1, .slice P2 a1.length d2, .int .i64 u1, .int .i64 v1, .bool g1] 25)) = W2 at *
      replace kr := Aside.mk kr_
      clear kr_
      replace kz := Aside.mk kz_
      clear kz_
      have hbse := hx.out.size
      have hbsz := boxL kz.out
      refine (hcall.out _ _ _ hrd.out hx.out.sat).mono ?_
      rintro e w2 ⟨H2, cs2, rfl, hr2, hz⟩
      clear hrd
      have hle2 := hz.below.size
      have hle := hz.le
      replace h1 := Aside.mk (h1.out.mono hle)
      replace h2 := Aside.mk (h2.out.mono hle)
      replace nr := Aside.mk (fun o => (hz.old _ o (boxL kr.out)).trans (nr.out o))
      replace nz := Aside.mk (fun o => (hz.old _ o (boxL kz.out)).trans (nz.out o))
      replace kr := Aside.mk (box_below kr.out hz.below)
      replace kz := Aside.mk (box_below kz.out hz.below)
      replace ho := Aside.mk (ho.out.ext hz)
      replace hx := Aside.mk (hx.out.trans hz)
      clear hle hz
      obtain ⟨k7, s7, a7, u7, v7, g7, e7⟩ : ∃ a b c d e f, gr = Re.mk a b c d e f := (by cases gr; exact ⟨_, _, _, _, _, _, rfl⟩)
      subst e7
      have hr3 := hr2
      obtain ⟨Q1, q1, Q2, q2, rfl, -, -⟩ := hr2.open
      clear hr2
      replace hr3 := Aside.mk hr3
      have lqr : w.heap.size < w2.heap.size := boxL kr.out
      obtain ⟨⟨cr0, cr1, cr2, cr3, cr4, cr5⟩, fr0, fr1, fr2, fr3, fr4, fr5⟩ := kb6 kr.out
      have lqz : w.heap.size + 1 < w2.heap.size := boxL kz.out
      obtain ⟨⟨cz0, cz1, cz2, cz3, cz4, cz5⟩, fz0, fz1, fz2, fz3, fz4, fz5⟩ := kb6 kz.out
      go_upto_region 6 with (at_builtin; go_must (refine wpList_app1 kRe rfl (.tmp 15) (.tmp 19) 23 rfl 25 Try.underlying23 info25 rfl ho.out hx.out.sat rfl rfl rfl hr3.out hby.out.1 hby.out.2 (by omega) ?_); intro v9 w9 ho9 hg9 hs9 hn9)
      clear lqr cr0 cr1 cr2 cr3 cr4 cr5 fr0 fr1 fr2 fr3 fr4 fr5 lqz cz0 cz1 cz2 cz3 cz4 cz5 fz0 fz1 fz2 fz3 fz4 fz5
      obtain ⟨A9, c9, rfl, -, -, -, -⟩ := ho9.form
      replace kr := Aside.mk (boxG kr.out hg9 (fun e => by have h1 := (ho.out.blk e).1; omega))
      replace kz := Aside.mk (boxG kz.out hg9 (fun e => by have h1 := (ho.out.blk e).1; omega))
      replace hx := Aside.mk (ho.out.extG hx.out (by omega) hg9)
      replace ho := Aside.mk ho9
      clear ho9 hg9 hs9 hn9 hcall hby hr3 hbse hbsz hle2
      have lqr : w.heap.size < w9.heap.size := boxL kr.out
      obtain ⟨⟨cr0, cr1, cr2, cr3, cr4, cr5⟩, fr0, fr1, fr2, fr3, fr4, fr5⟩ := kb6 kr.out
      have lqz : w.heap.size + 1 < w9.heap.size := boxL kz.out
      obtain ⟨⟨cz0, cz1, cz2, cz3, cz4, cz5⟩, fz0, fz1, fz2, fz3, fz4, fz5⟩ := kb6 kz.out
      go_wp2_with fail
      clear lqr cr0 cr1 cr2 cr3 cr4 cr5 fr0 fr1 fr2 fr3 fr4 fr5 lqz cz0 cz1 cz2 cz3 cz4 cz5 fz0 fz1 fz2 fz3 fz4 fz5
      go_roundw
      case rel => exact ⟨k + 1, _, _, _, _, hlt2.out, by go_num, rfl, hx, h1, h2, kr, nr, kz, nz, ⟨by rw [htk.out]; exact ho.out⟩⟩
      case measure => (have := hlt2.out; simp [intOf]; omega)
    case neg =>
      obtain rfl : k = args.length := by omega
      have ho2 := ho.out
      rw [List.take_of_length_le (Nat.le_refl _)] at ho2
      replace ho := Aside.mk ho2
      clear ho2
      have lqr : w.heap.size < wr.heap.size := boxL kr.out
      obtain ⟨⟨cr0, cr1, cr2, cr3, cr4, cr5⟩, fr0, fr1, fr2, fr3, fr4, fr5⟩ := kb6 kr.out
      have lqz : w.heap.size + 1 < wr.heap.size := boxL kz.out
      obtain ⟨⟨cz0, cz1, cz2, cz3, cz4, cz5⟩, fz0, fz1, fz2, fz3, fz4, fz5⟩ := kb6 kz.out
      go_wp2_with fail
      clear lqr cr0 cr1 cr2 cr3 cr4 cr5 fr0 fr1 fr2 fr3 fr4 fr5 lqz cz0 cz1 cz2 cz3 cz4 cz5 fz0 fz1 fz2 fz3 fz4 fz5
      have kr_ : (((((((wr.setCell ⟨w.heap.size, 2, none⟩ (.slice A5 l5 c5)).setCell ⟨w.heap.size + 1, 0, none⟩ (.int .i64 kind)).setCell ⟨w.heap.size + 1, 1, none⟩ (.slice A1 set.length c1)).setCell ⟨w.heap.size + 1, 2, none⟩ (.slice A5 l5 c5)).setCell ⟨w.heap.size + 1, 3, none⟩ (.int .i64 mn)).setCell ⟨w.heap.size + 1, 4, none⟩ (.int .i64 mx)).setCell ⟨w.heap.size + 1, 5, none⟩ (.bool neg)).heap[w.heap.size]? = some (.cells #[.int .i64 kind, .slice A1 set.length c1, .slice A5 l5 c5, .int .i64 mn, .int .i64 mx, .bool neg] 25) := (boxS_ne (boxS_ne (boxS_ne (boxS_ne (boxS_ne (boxS_ne (boxS kr.out 2 (.slice A5 l5 c5)) (by first | omega | (simp; omega)) 0 (.int .i64 kind)) (by first | omega | (simp; omega)) 1 (.slice A1 set.length c1)) (by first | omega | (simp; omega)) 2 (.slice A5 l5 c5)) (by first | omega | (simp; omega)) 3 (.int .i64 mn)) (by first | omega | (simp; omega)) 4 (.int .i64 mx)) (by first | omega | (simp; omega)) 5 (.bool neg))
      have kz_ : (((((((wr.setCell ⟨w.heap.size, 2, none⟩ (.slice A5 l5 c5)).setCell ⟨w.heap.size + 1, 0, none⟩ (.int .i64 kind)).setCell ⟨w.heap.size + 1, 1, none⟩ (.slice A1 set.length c1)).setCell ⟨w.heap.size + 1, 2, none⟩ (.slice A5 l5 c5)).setCell ⟨w.heap.size + 1, 3, none⟩ (.int .i64 mn)).setCell ⟨w.heap.size + 1, 4, none⟩ (.int .i64 mx)).setCell ⟨w.heap.size + 1, 5, none⟩ (.bool neg)).heap[w.heap.size + 1]? = some (.cells #[.int .i64 kind, .slice A1 set.length c1, .slice A5 l5 c5, .int .i64 mn, .int .i64 mx, .bool neg] 25) := (boxS (boxS (boxS (boxS (boxS (boxS (boxS_ne kz.out (by first | omega | (simp; omega)) 2 (.slice A5 l5 c5)) 0 (.int .i64 kind)) 1 (.slice A1 set.length c1)) 2 (.slice A5 l5 c5)) 3 (.int .i64 mn)) 4 (.int .i64 mx)) 5 (.bool neg))
      replace ho := Aside.mk (((((((ho.out.grown (grownBy_setCell _ (w.heap.size) 2 (.slice A5 l5 c5)) (Or.inr (fun e => by have h1 := (ho.out.blk e).1; omega))).grown (grownBy_setCell _ (w.heap.size + 1) 0 (.int .i64 kind)) (Or.inr (fun e => by have h1 := (ho.out.blk e).1; omega))).grown (grownBy_setCell _ (w.heap.size + 1) 1 (.slice A1 set.length c1)) (Or.inr (fun e => by have h1 := (ho.out.blk e).1; omega))).grown (grownBy_setCell _ (w.heap.size + 1) 2 (.slice A5 l5 c5)) (Or.inr (fun e => by have h1 := (ho.out.blk e).1; omega))).grown (grownBy_setCell _ (w.heap.size + 1) 3 (.int .i64 mn)) (Or.inr (fun e => by have h1 := (ho.out.blk e).1; omega))).grown (grownBy_setCell _ (w.heap.size + 1) 4 (.int .i64 mx)) (Or.inr (fun e => by have h1 := (ho.out.blk e).1; omega))).grown (grownBy_setCell _ (w.heap.size + 1) 5 (.bool neg)) (Or.inr (fun e => by have h1 := (ho.out.blk e).1; omega)))
      replace hx := Aside.mk ((((((((hx.out.setCell (b := w.heap.size) (o := 2) (by first | omega | (simp; omega)) nr.out (.slice A5 l5 c5)).setCell (b := w.heap.size + 1) (o := 0) (by first | omega | (simp; omega)) nz.out (.int .i64 kind)).setCell (b := w.heap.size + 1) (o := 1) (by first | omega | (simp; omega)) nz.out (.slice A1 set.length c1)).setCell (b := w.heap.size + 1) (o := 2) (by first | omega | (simp; omega)) nz.out (.slice A5 l5 c5)).setCell (b := w.heap.size + 1) (o := 3) (by first | omega | (simp; omega)) nz.out (.int .i64 mn)).setCell (b := w.heap.size + 1) (o := 4) (by first | omega | (simp; omega)) nz.out (.int .i64 mx)).setCell (b := w.heap.size + 1) (o := 5) (by first | omega | (simp; omega)) nz.out (.bool neg)))
      generalize (((((((wr.setCell ⟨w.heap.size, 2, none⟩ (.slice A5 l5 c5)).setCell ⟨w.heap.size + 1, 0, none⟩ (.int .i64 kind)).setCell ⟨w.heap.size + 1, 1, none⟩ (.slice A1 set.length c1)).setCell ⟨w.heap.size + 1, 2, none⟩ (.slice A5 l5 c5)).setCell ⟨w.heap.size + 1, 3, none⟩ (.int .i64 mn)).setCell ⟨w.heap.size + 1, 4, none⟩ (.int .i64 mx)).setCell ⟨w.heap.size + 1, 5, none⟩ (.bool neg)) = W3 at *
      replace kr := Aside.mk kr_
      clear kr_
      replace kz := Aside.mk kz_
      clear kz_
      obtain ⟨H9, hx9, hle, ⟨A9, c9, e1, hsl⟩, hold⟩ := ho.out.freezeE hx.out (by omega) (by simp; omega)
      simp only [List.cons.injEq, Value.slice.injEq, and_true] at e1
      obtain ⟨rfl, e2, rfl⟩ := e1
      rw [← e2] at hsl
      refine bodyPost_ret (resC rfl _ _ _ rfl (run_loadVar_row _ _ _ _ _ (0, 0) _ kz.out Try.underlying25 rfl (by kernel_rfl))) rfl ?_
      exact ⟨_, _, rfl, RdRe.shut (h1.out.mono hle) hsl, hx9⟩
end Go.Proofs.Ytbnahmeaeakhhaa.B
