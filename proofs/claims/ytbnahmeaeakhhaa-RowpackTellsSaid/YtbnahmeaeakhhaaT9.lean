/- Contracts: the reference's CheckTable, TableEqual, TableBytes, Entry. -/
import Derived.Test.YtbnahmeaeakhhaaT8
import Derived.Test.YtbnahmeaeakhhaaQ5
import Derived.Test.YtbnahmeaeakhhaaV2
import Derived.Laws.BytesArg
namespace Go.Proofs.Ytbnahmeaeakhhaa.B
set_option linter.unusedVariables false
set_option linter.unusedSimpArgs false
open Go Go.RowKit Go.Proofs.Ytbnahmeaeakhhaa.Q Go.Proofs.Ytbnahmeaeakhhaa.S Classical

theorem refCheck_any {H : PH} {T : Tab} {cs : List Value} {w : World} (hT : RdTab H T cs) (hs : Sat w H) :
    Calls Try.prog 71 #[.agg cs.toArray] w fun e w' => e = .returned (.int .i64 (errT T)) ∧ Below w.heap.size w w' := by
  obtain ⟨A1, c1, A2, c2, A3, c3, A4, c4, rfl, h1, h2, h3, h4⟩ := hT
  exact refCheck_hand H T.st T.cols T.acc T.base T.own T.nxt A1 A2 A3 A4 c1 c2 c3 c4 w h1 h2 h3 h4 hs
theorem checkT_any {H : PH} {T : Tab} {cs : List Value} {w : World} (hT : RdTab H T cs) (hs : Sat w H) :
    Calls Try.prog 72 #[.agg cs.toArray] w fun e w' => e = .returned (.int .i64 (errT T)) ∧ Below w.heap.size w w' := by
  obtain ⟨A1, c1, A2, c2, A3, c3, A4, c4, rfl, h1, h2, h3, h4⟩ := hT
  exact check_any H T.st T.cols T.acc T.base T.own T.nxt A1 A2 A3 A4 c1 c2 c3 c4 w h1 h2 h3 h4 hs
theorem dfaT_any {H : PH} {T : Tab} {cs : List Value} {w : World} (hT : RdTab H T cs) (hs : Sat w H) : Calls Try.prog 61 #[.agg cs.toArray] w (DfaPost H w T) := by
  obtain ⟨A1, c1, A2, c2, A3, c3, A4, c4, rfl, h1, h2, h3, h4⟩ := hT
  exact tabDfa_any H T.st T.cols T.acc T.base T.own T.nxt A1 A2 A3 A4 c1 c2 c3 c4 w h1 h2 h3 h4 hs
def lenT (T : Tab) : Nat := T.acc.length + T.base.length + T.own.length + T.nxt.length
theorem tabEq_any {H : PH} {T U : Tab} {cs ds : List Value} {w : World} (hT : RdTab H T cs) (hU : RdTab H U ds) (hs : Sat w H) (hb : lenT T ≤ 4611686018427386) :
    Calls Try.prog 58 #[.agg cs.toArray, .agg ds.toArray] w fun e w' => e = .returned (.bool (decide (T = U))) ∧ Below w.heap.size w w' := by
  obtain ⟨A1, c1, A2, c2, A3, c3, A4, c4, rfl, h1, h2, h3, h4⟩ := hT
  obtain ⟨B1, d1, B2, d2, B3, d3, B4, d4, rfl, g1, g2, g3, g4⟩ := hU
  have he : (decide (T.st = U.st ∧ T.cols = U.cols ∧ T.acc = U.acc ∧ T.base = U.base ∧ T.own = U.own ∧ T.nxt = U.nxt)) = decide (T = U) := by
    rw [decide_eq_decide]
    constructor
    · rintro ⟨a, b, c, d, e, f⟩; cases T; cases U; simp_all
    · rintro rfl; simp
  refine (tabEq_hand H T.st T.cols T.acc T.base T.own T.nxt A1 A2 A3 A4 c1 c2 c3 c4 U.st U.cols U.acc U.base U.own U.nxt B1 B2 B3 B4 d1 d2 d3 d4 w h1 h2 h3 h4 g1 g2 g3 g4 hs).mono ?_
  rintro e w' ⟨rfl, hb⟩
  have hp := decide_eq_decide.1 he
  refine ⟨?_, hb⟩
  by_cases h : T = U
  · exact (dB_t (hp.2 h)).trans (retT h).symm
  · exact (dB_f (fun x => h (hp.1 x))).trans (retF h).symm
theorem tabBytes_any {H : PH} {T : Tab} {cs : List Value} {w : World} (hT : RdTab H T cs) (hs : Sat w H) (h0 : errT T = 0) (hr : InR (numsF T.st T.cols T.acc T.base T.own T.nxt)) :
    Calls Try.prog 62 #[.agg cs.toArray] w fun e w' => ∃ v, e = .returned v ∧ Own (kI .u8) 5 w' w.heap.size emp v (bytesT T) ∧ Below w.heap.size w w' := by
  obtain ⟨A1, c1, A2, c2, A3, c3, A4, c4, rfl, h1, h2, h3, h4⟩ := hT
  have ok := tabErr_ok h0
  unfold bytesT
  rw [if_pos h0]
  exact tableBytes_any H T.st T.cols T.acc T.base T.own T.nxt A1 A2 A3 A4 c1 c2 c3 c4 w h1 h2 h3 h4 hs hr (by omega)
theorem entry_any {H : PH} {T : Tab} {cs : List Value} {w : World} (hT : RdTab H T cs) (hs : Sat w H) (h0 : errT T = 0) (s c : Int) (hs0 : 0 ≤ s) (hs1 : s < T.base.length) (hc0 : 0 ≤ c) (hc1 : c < T.cols) :
    Calls Try.prog 74 #[.agg cs.toArray, .int .i64 s, .int .i64 c] w fun e w' => e = .returned (.int .i64 (entF T.base T.own T.nxt s c)) ∧ Below w.heap.size w w' := by
  obtain ⟨A1, c1, A2, c2, A3, c3, A4, c4, rfl, h1, h2, h3, h4⟩ := hT
  have ok := tabErr_ok h0
  exact entry_hand H T.st T.cols T.acc T.base T.own T.nxt A1 A2 A3 A4 c1 c2 c3 c4 s c w h1 h2 h3 h4 hs ok.2.2.2.2.2.2.2.2.2.1 ok.2.2.2.2.2.2.1 ok.2.2.2.2.1 hs0 hs1 hc0 (by omega)

/-- []byte to string, of a slice that is read -/
theorem run_str {w : World} {A : Option Addr} {n c : Nat} {l : List Int} (h : WR .u8 w A n c l) : (convert 96 9 (.slice A n c)).run Try.prog w = .ok (.string (strOfNums l)) w := by
  have hn := h.1
  cases A with
  | none =>
    have hc := h.2.2.2.2.1 rfl
    have hz : n = 0 := by have := h.2.1; omega
    have hl : l = [] := List.eq_nil_of_length_eq_zero (by omega)
    subst hl
    exact run_convert_bytes_nil (P := Try.prog) w 96 5 Try.underlying96 Try.underlying5 n c 9 Try.underlying9
  | some a =>
    by_cases hl : l.length = 0
    · have hl' : l = [] := List.eq_nil_of_length_eq_zero hl
      subst hl'
      obtain ⟨b, off, t⟩ := a
      have hn0 : n = 0 := hn
      subst hn0
      rw [run_convert_bytes_string (P := Try.prog) w 96 9 5 _ 0 c Try.underlying96 Try.underlying5 Try.underlying9]
      rw [run_bytesToString (P := Try.prog) w _ 0 c [] (by simpa using run_loadCells_list (P := Try.prog) w ⟨b, off, t⟩ [] (fun j v h => by simp at h))]
      simp [strOfNums, ByteArray.empty, ByteArray.emptyWithCapacity, Result.andThen]
      rfl
    · obtain ⟨b, off, e, -⟩ := h.at 0 (by omega)
      cases e
      refine run_convert_bytes_arg (P := Try.prog) w 96 5 Try.underlying96 Try.underlying5 b off n c l hn.symm (fun i hi => ?_) 9 Try.underlying9
      obtain ⟨b', off', e, hc⟩ := h.at i (by omega)
      cases e
      rw [hc, List.getD_eq_getElem?_getD, List.getElem?_eq_getElem (by omega)]
      rfl
end Go.Proofs.Ytbnahmeaeakhhaa.B
