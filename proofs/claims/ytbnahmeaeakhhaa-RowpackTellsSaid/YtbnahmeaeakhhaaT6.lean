/- The packed table of the automaton of even words, in plain Lean. No program is in sight here. -/
import Derived.Test.YtbnahmeaeakhhaaT3
namespace Go.Proofs.Ytbnahmeaeakhhaa.Q
set_option linter.unusedVariables false
set_option linter.unusedSimpArgs false
open Go Go.RowKit Go.Proofs.Ytbnahmeaeakhhaa.S

def evN : List (List Int) := [[1], [0]]
theorem dfaErr_ev : dfaErr 0 [0, -1] evN = 0 := by
  unfold dfaErr
  rw [if_neg (by decide), if_neg (by decide), if_neg (by decide), if_neg, if_neg]
  · refine fun h => h ⟨by decide, by decide, fun s _ hs => ?_⟩
    have hs' : s < 2 := hs
    rcases (show s = 0 ∨ s = 1 by omega) with rfl | rfl
    · refine ⟨by decide, fun c _ hc => ?_⟩
      obtain rfl : c = 0 := by have : c < 1 := hc; omega
      decide
    · refine ⟨by decide, fun c _ hc => ?_⟩
      obtain rfl : c = 0 := by have : c < 1 := hc; omega
      decide
  · refine fun h => h fun s _ hs => ?_
    have hs' : s < 2 := hs
    rcases (show s = 0 ∨ s = 1 by omega) with rfl | rfl <;> decide
theorem place_ev0 : placeN [] [1] = 0 := by have := (placeN_spec [] [1]).2.2; simpa using this
theorem place_ev1 : placeN [0] [0] = 1 := by
  obtain ⟨h1, h2, h3⟩ := placeN_spec [0] [0]
  have h4 : placeN [0] [0] ≤ 1 := h3
  rcases (show placeN [0] [0] = 0 ∨ placeN [0] [0] = 1 by omega) with h | h
  · rw [h] at h1
    have := h1 0 (Nat.le_refl _) (by decide) (by decide) (by decide)
    exact absurd this (by decide)
  · exact h
theorem ord_ev {ord : List Int} (hp : ord.Perm (rangeI evN.length)) (hs : Srt (fun s => cntF (evN.getD s.toNat [])) ord) : ord = [0, 1] := by
  have h1 : rangeI evN.length = [0, 1] := by decide
  rw [h1] at hp
  have hl := hp.length_eq
  match ord, hl with
  | [a, b], _ =>
    have ha : a = 0 ∨ a = 1 := by have := hp.mem_iff.1 (show a ∈ [a, b] by simp); simpa using this
    have hb : b = 0 ∨ b = 1 := by have := hp.mem_iff.1 (show b ∈ [a, b] by simp); simpa using this
    have h0 : (0 : Int) ∈ [a, b] := hp.mem_iff.2 (by simp)
    have h9 : (1 : Int) ∈ [a, b] := hp.mem_iff.2 (by simp)
    have hr := (List.pairwise_cons.1 hs).1 b (by simp)
    rcases ha with rfl | rfl <;> rcases hb with rfl | rfl
    · simp at h9
    · rfl
    · exfalso
      unfold R at hr
      rcases hr with h | h
      · exact absurd h (by decide)
      · exact absurd h.2 (by decide)
    · simp at h0
theorem packGo_ev : packGo evN [0, 1] = ([0, 1], ([0, 1], [1, 0])) := by
  have e0 : packStep evN ([0, 0], ([], [])) 0 = ([0, 0], ([0], [1])) := by
    unfold packStep
    rw [if_neg (by decide)]
    show (([0, 0] : List Int).set 0 (placeN [] [1] : Int), fillF 0 (placeN [] [1]) 0 [1] ([], [])) = _
    rw [place_ev0]; decide
  have e1 : packStep evN ([0, 0], ([0], [1])) 1 = ([0, 1], ([0, 1], [1, 0])) := by
    unfold packStep
    rw [if_neg (by decide)]
    show (([0, 0] : List Int).set 1 (placeN [0] [0] : Int), fillF 1 (placeN [0] [0]) 0 [0] ([0], [1])) = _
    rw [place_ev1]; decide
  show packStep evN (packStep evN ([0, 0], ([], [])) 0) 1 = _
  rw [e0, e1]
end Go.Proofs.Ytbnahmeaeakhhaa.Q
