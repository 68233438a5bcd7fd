/- Packing, the plain law: a packed automaton's table is valid, and unpacks to the automaton; as many slots are taken as there are entries. No program is in sight here. -/
import Derived.Test.YtbnahmeaeakhhaaUa
import Derived.Test.YtbnahmeaeakhhaaOt
import Derived.Test.YtbnahmeaeakhhaaT5
namespace Go.Proofs.Ytbnahmeaeakhhaa.B
set_option linter.unusedVariables false
set_option linter.unusedSimpArgs false
open Go Go.RowKit Go.Proofs.Ytbnahmeaeakhhaa.Q Go.Proofs.Ytbnahmeaeakhhaa.S
theorem perm_sum {l m : List Int} (h : l.Perm m) : l.sum = m.sum := by
  induction h with
  | nil => rfl
  | cons x _ ih => simp only [List.sum_cons, ih]
  | swap x y l => simp only [List.sum_cons]; omega
  | trans _ _ h1 h2 => exact h1.trans h2
/-- the table of a packed automaton is valid -/
theorem packT_ok {st : Int} {acc : List Int} {next : List (List Int)} {ord : List Int} (h0 : dfaErr st acc next = 0) (hp : ord.Perm (rangeI next.length)) :
    errT (packT st acc next ord) = 0 ∧ (packT st acc next ord).base.length = next.length ∧ (packT st acc next ord).own.length ≤ next.length * (next.getD 0 []).length ∧ cntF (packT st acc next ord).own = ((rangeI next.length).map fun s => cntF (next.getD s.toNat [])).sum := by
  obtain ⟨k1, k2, k3, k4, k5, k6, k7, k8, k9⟩ := dfaErr_ok h0
  have hi := pinv_all k6 hp
  have hol : ord.length = next.length := by rw [hp.length_eq, rangeI_len]
  have hmax := hi.max
  rw [hol] at hmax
  have hmax2 : next.length * (next.getD 0 []).length ≤ 200 * 16 := Nat.mul_le_mul k2 k4
  refine ⟨?_, hi.base, hmax, by rw [show cntF (packT st acc next ord).own = _ from hi.cnt]; exact perm_sum (hp.map _)⟩
  show tabErr st ((next.getD 0 []).length : Int) acc (packGo next ord).1 (packGo next ord).2.1 (packGo next ord).2.2 = 0
  have hb := hi.base
  have hl := hi.len
  generalize hcols : (next.getD 0 []).length = cols at *
  have hrows : rowsOk acc (packGo next ord).1 0 := by
    intro s _ hs
    have hs' : s < next.length := by omega
    obtain ⟨p1, p2⟩ := hi.pos s hs'
    rw [gm_getD hs]
    rw [hol] at p2
    exact ⟨(k9 s (Nat.zero_le _) hs').1, p1, by omega⟩
  unfold tabErr
  rw [if_neg (by omega), if_neg (by omega), if_neg (fun h => h ⟨by omega, by omega, hrows⟩)]
  refine slotErr_zero _ _ fun j _ hj => ?_
  rw [Nat.zero_add] at hj
  rw [gm_getD hj, gm_getD (l := (packGo next ord).2.2) (by omega)]
  rcases hi.slot j hj with ⟨h1, h2⟩ | ⟨s, h1, h2, h3, h4, c, h5, h6, h7⟩
  · rw [h1, h2]; exact ⟨by omega, by omega, by omega, by omega, Or.inl ⟨rfl, rfl⟩⟩
  · rw [h1, Int.toNat_natCast, gm_getD (l := (packGo next ord).1) (by omega)]
    have hc : c < (next.getD s []).length := by have := (k6 s (Nat.zero_le _) h2).1; omega
    have h8 := (k9 s (Nat.zero_le _) h2).2 c (Nat.zero_le _) hc
    rw [gm_getD hc] at h8
    exact ⟨by omega, by omega, by omega, by omega, Or.inr ⟨by omega, h4, by omega, by omega⟩⟩
/-- it unpacks to the automaton -/
theorem packT_aut {st : Int} {acc : List Int} {next : List (List Int)} {ord : List Int} (h0 : dfaErr st acc next = 0) (hp : ord.Perm (rangeI next.length)) :
    autT (packT st acc next ord) = ⟨st, acc, next⟩ := by
  obtain ⟨k1, k2, k3, k4, k5, k6, k7, k8, k9⟩ := dfaErr_ok h0
  have hi := pinv_all k6 hp
  have hb := hi.base
  have hl := hi.len
  unfold autT
  show Aut.mk st acc ((List.range (packGo next ord).1.length).map (rowT (packT st acc next ord))) = _
  congr 1
  rw [hb]
  refine List.ext_getElem (by simp) fun s h1 h2 => ?_
  rw [List.getElem_map, List.getElem_range]
  have hs : s < next.length := h2
  have hgd : next.getD s [] = next[s] := by rw [List.getD_eq_getElem?_getD, List.getElem?_eq_getElem hs]; rfl
  have hrl : (next.getD s []).length = (next.getD 0 []).length := (k6 s (Nat.zero_le _) hs).1
  unfold rowT
  show (List.range ((next.getD 0 []).length : Int).toNat).map (fun (c : Nat) => entF (packGo next ord).1 (packGo next ord).2.1 (packGo next ord).2.2 s c) = _
  rw [Int.toNat_natCast]
  refine List.ext_getElem (by rw [← hgd, List.length_map, List.length_range]; exact hrl.symm) fun c h3 h4 => ?_
  rw [List.getElem_map, List.getElem_range]
  have hc : c < (next.getD s []).length := by rw [hgd]; exact h4
  have hgc : gm (next.getD s []) c = next[s][c] := by
    rw [gm_in hc]; simp only [hgd]
  rw [← hgc]
  have hsm : (s : Int) ∈ ord := hp.mem_iff.2 (rangeI_mem.2 ⟨by omega, by omega⟩)
  have hlow := (k9 s (Nat.zero_le _) hs).2 c (Nat.zero_le _) hc
  rw [gm_getD hc] at hlow
  have hbs := (hi.pos s hs).1
  unfold entF
  rw [Int.toNat_natCast, gm_getD (l := (packGo next ord).1) (by omega)]
  by_cases hx : 0 ≤ gm (next.getD s []) c
  · obtain ⟨i, i1, i2, i3⟩ := hi.entry s hsm hs c hx
    have e : (gm (packGo next ord).1 s + (c : Int)).toNat = i := by omega
    rw [e, gm_getD i2, i3, if_pos ⟨by omega, rfl⟩, gm_getD (by omega)]
    rcases hi.slot i i2 with ⟨g1, g2⟩ | ⟨s', g1, g2, g3, g4, c', g5, g6, g7⟩
    · rw [i3] at g1; omega
    · have es : s' = s := by rw [i3] at g1; omega
      subst es
      have ec : c' = c := by omega
      subst ec
      exact g7
  · have hm1 : gm (next.getD s []) c = -1 := by omega
    rw [hm1]
    by_cases hh : gm (packGo next ord).1 s + (c : Int) < ((packGo next ord).2.1.length : Int) ∧ (packGo next ord).2.1.getD (gm (packGo next ord).1 s + (c : Int)).toNat 0 = (s : Int)
    · rw [if_pos hh]
      obtain ⟨g0, gh⟩ := hh
      generalize hie : (gm (packGo next ord).1 s + (c : Int)).toNat = i at *
      have hil : i < (packGo next ord).2.1.length := by omega
      rw [gm_getD hil] at gh
      rcases hi.slot i hil with ⟨g1, g2⟩ | ⟨s', g1, g2, g3, g4, c', g5, g6, g7⟩
      · rw [gh] at g1; omega
      · have es : s' = s := by rw [gh] at g1; omega
        subst es
        have ec : c' = c := by omega
        subst ec
        rw [hm1] at g7; omega
    · rw [if_neg hh]
end Go.Proofs.Ytbnahmeaeakhhaa.B
