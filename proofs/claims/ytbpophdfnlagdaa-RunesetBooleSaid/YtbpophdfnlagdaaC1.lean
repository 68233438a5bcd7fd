/- Contracts: runeset.span, runeset.Check. -/
import Derived.Test.YtbpophdfnlagdaaProg
import Derived.Test.YtbpophdfnlagdaaTy
import Derived.Deep.QuietTactic
import Derived.BigQuiet
namespace Go.Proofs.Ytbpophdfnlagdaa.B
set_option linter.unusedVariables false
set_option linter.unusedSimpArgs false
open Go Go.RowKit

set_option maxHeartbeats 400000 in
theorem span_any (lo hi : Int) (w : World) :
    Calls Try.prog 63 #[.agg #[.int .i64 lo, .int .i64 hi]] w fun e w' => e = .returned (.bool (goodSpan ⟨lo, hi⟩)) ∧ Below w.heap.size w w' := by
  by_cases h1 : 0 ≤ lo
  · by_cases h2 : lo ≤ hi
    · by_cases h3 : hi ≤ 1114111
      all_goals
        go_enter Try.func63, Try.ntmps63
        go_wp2
        go_ret
        exact ⟨by simp [goodSpan]; omega, (Below.refl _ _).alloc (Nat.le_refl _) _⟩
    · go_enter Try.func63, Try.ntmps63
      go_wp2
      go_ret
      exact ⟨by simp [goodSpan]; omega, (Below.refl _ _).alloc (Nat.le_refl _) _⟩
  · go_enter Try.func63, Try.ntmps63
    go_wp2
    go_ret
    exact ⟨by simp [goodSpan]; omega, (Below.refl _ _).alloc (Nat.le_refl _) _⟩

theorem setGo_take (l : List Span) (e : Int) (k : Nat) (hk : k ≤ l.length) :
    (setGo e (l.take k) = 0) → setGo e l = setGo (if k = 0 then e else (l[k-1]?.getD default).hi) (l.drop k) := by
  induction l generalizing e k with
  | nil => simp at hk; subst hk; simp
  | cons s l ih =>
    cases k with
    | zero => simp
    | succ k =>
      simp only [List.take_succ_cons, setGo, List.drop_succ_cons]
      by_cases h1 : goodSpan s = false
      · simp [h1]
      · by_cases h2 : s.lo < e + 2
        · simp [h1, h2]
        · simp only [h1, h2, if_false]
          intro h
          rw [ih _ k (by simpa using hk) h]
          cases k with
          | zero => simp
          | succ k => simp

theorem setGo_good {l : List Span} {e : Int} (h : setGo e l = 0) : ∀ s ∈ l, 0 ≤ s.lo ∧ s.lo ≤ s.hi ∧ s.hi ≤ 1114111 := by
  induction l generalizing e with
  | nil => simp
  | cons s l ih =>
    simp only [setGo] at h
    by_cases h1 : goodSpan s = false
    · simp [h1] at h
    · by_cases h2 : s.lo < e + 2
      · simp [h1, h2] at h
      · simp only [h1, h2, if_false] at h
        intro x hx
        rcases List.mem_cons.1 hx with rfl | hx
        · simpa [goodSpan, and_assoc] using h1
        · exact ih h x hx

theorem setGo_succ (l : List Span) (e : Int) (k : Nat) (hk : k < l.length) (h : setGo e (l.take k) = 0) (hg : goodSpan l[k] = true) (ho : ¬ l[k].lo < (if k = 0 then e else (l[k-1]?.getD default).hi) + 2) :
    setGo e (l.take (k+1)) = 0 := by
  have h2 := setGo_take (l.take (k+1)) e k (by simp; omega) (by rw [List.take_take, Nat.min_eq_left (by omega)]; exact h)
  rw [h2]
  have e1 : (l.take (k+1)).drop k = [l[k]] := by rw [List.take_succ_eq_append_getElem hk]; rw [List.drop_append_of_le_length (by simp; omega)]; simp
  have e2 : ((l.take (k+1))[k-1]?.getD default) = l[k-1]?.getD default := by simp [List.getElem?_take, show k - 1 < k + 1 by omega]
  rw [e1, e2]
  simp [setGo, hg]
  simpa using ho

set_option maxHeartbeats 1000000 in
theorem rcheck_any (H : PH) (l : List Span) (A : Option Addr) (n c : Nat) (w : World) (hl : SlR kSpan H A n c l) (hs : Sat w H) :
    Calls Try.prog 20 #[.slice A n c] w fun e w' => e = .returned (.int .i64 (setErr l)) ∧ Below w.heap.size w w' := by
  obtain ⟨rfl, h1, h2, h3, h4, hrow⟩ := hl
  by_cases hbig : 16 < l.length
  · go_enter Try.func20, Try.ntmps20
    go_wp2
    go_ret
    exact ⟨by simp [setErr, hbig], Below.refl _ _⟩
  · go_enter Try.func20, Try.ntmps20
    go_wp2_with fail
    go_loopw [10] (fun i wr => ∃ k : Nat, k ≤ l.length ∧ i = .int .i64 k ∧ Aside (setGo (-2) (l.take k) = 0) ∧ Below w.heap.size w wr) (fun i _ => l.length - (intOf i).toNat)
    case atStart => exact ⟨0, by omega, rfl, ⟨by simp [setGo]⟩, Below.refl _ _⟩
    case round =>
      obtain ⟨k, hk, rfl, hgo, hb⟩ := hrel
      by_cases hlt : k < l.length
      · obtain ⟨b, off, cs, rfl, hrd, hcell⟩ := hrow k hlt
        have hst := setGo_take l (-2) k hk hgo.out
        generalize hsk : l[k] = s at hrd
        have hdr : l.drop k = s :: l.drop (k + 1) := by rw [← hsk]; exact List.drop_eq_getElem_cons hlt
        rw [hdr] at hst
        have Hst := Aside.mk hst
        have Hsk := Aside.mk hsk
        clear hst hdr hsk
        cases s with
        | mk lo hi =>
        obtain rfl : cs = [.int .i64 lo, .int .i64 hi] := hrd
        have hsr := hs.below hb
        obtain ⟨g0, g1⟩ := at2 hsr hcell
        clear hcell
        simp only [kSpan] at g0 g1
        cases hg : goodSpan ⟨lo, hi⟩ with
        | false =>
          go_wp2_with fail
          refine (span_any _ _ _).mono ?_
          rintro e w1 ⟨rfl, hb1⟩
          rw [hg]
          go_wp2_with fail
          go_ret
          exact ⟨by rw [show setErr l = setGo (-2) l by simp [setErr, hbig], Hst.out]; simp [setGo, hg], (hb.alloc hb.size _).trans (hb1.mono (by have := hb.size; simp; omega))⟩
        | true =>
          go_wp2_with fail
          refine (span_any _ _ _).mono ?_
          rintro e w1 ⟨rfl, hb1⟩
          rw [hg]
          go_wp2_with fail
          have hsr1 : Sat w1 H := (hsr.alloc _).below hb1
          have hb2 : Below w.heap.size w w1 := (hb.alloc hb.size _).trans (hb1.mono (by have := hb.size; simp; omega))
          have f0 : w1.cell? ⟨wr.heap.size, 0, none⟩ = some (.int .i64 lo) := by rw [hb1.cell (by simp)]; simp
          cases k with
          | zero =>
            have hd : decide ((0 : Int) > 0) = false := by decide
            go_quiet (fail)
            go_wp2_with fail
            go_roundw
            case rel => exact ⟨1, by omega, by go_num, ⟨setGo_succ l (-2) 0 hlt hgo.out (by rw [Hsk.out]; exact hg) (by rw [Hsk.out]; simp [goodSpan] at hg; simp; omega)⟩, hb2.drewN _⟩
            case measure => simp [intOf]; omega
          | succ m =>
            obtain ⟨b', off', cs', e', hrd', hcell'⟩ := hrow m (by omega)
            cases e'
            generalize hsk' : l[m] = s' at hrd'
            have hgs := setGo_good hgo.out s' (by rw [← hsk']; exact List.mem_take_iff_getElem.2 ⟨m, by omega, rfl⟩)
            have hgd : l[m]?.getD default = s' := by rw [← hsk']; simp [show m < l.length by omega]
            cases s' with
            | mk lo' hi' =>
            obtain rfl : cs' = [.int .i64 lo', .int .i64 hi'] := hrd'
            obtain ⟨g0', g1'⟩ := at2 hsr1 hcell'
            simp only [kSpan] at g0' g1'
            obtain ⟨q1, q2, q3⟩ := hgs
            have Hsk' := Aside.mk (And.intro hsk' hgd)
            clear hcell' hsk' hgd
            simp only at q1 q2 q3
            have hd : decide ((m : Int) + 1 > 0) = true := by simp
            by_cases hc : lo ≤ hi' + 1
            · go_quiet (fail)
              go_wp2_with fail
              go_ret
              exact ⟨by rw [show setErr l = setGo (-2) l by simp [setErr, hbig], Hst.out]; simp [setGo, hg, Hsk'.out.2]; omega, hb2.drewN _⟩
            · go_quiet (fail)
              go_wp2_with fail
              go_roundw
              case rel => exact ⟨m + 2, by omega, by go_num, ⟨setGo_succ l (-2) (m+1) hlt hgo.out (by rw [Hsk.out]; exact hg) (by rw [Hsk.out]; simp [Hsk'.out.2]; omega)⟩, hb2.drewN _⟩
              case measure => simp [intOf]; omega
      · go_wp2
        go_ret
        exact ⟨by simp [setErr, hbig, show ¬ (16 < l.length) by omega, ← hgo.out, List.take_of_length_le (show l.length ≤ k by omega)], hb⟩
end Go.Proofs.Ytbpophdfnlagdaa.B
