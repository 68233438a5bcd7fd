/- Contracts: slices.Equal over spans; parlkeep1.good, span. -/
import Derived.Test.YtbpophdfnlagdaaZi
namespace Go.Proofs.Ytbpophdfnlagdaa.B
set_option linter.unusedVariables false
set_option linter.unusedSimpArgs false
open Go Go.RowKit Classical

set_option maxRecDepth 100000 in
set_option maxHeartbeats 4000000 in
/-- slices.Equal, over spans -/
theorem eqSpans_any (H : PH) (xs ys : List Span) (A B : Option Addr) (n c m d : Nat) (w : World) (hx : SlR kSpan H A n c xs) (hy : SlR kSpan H B m d ys) (hs : Sat w H) :
    Calls Try.prog 12 #[.slice A n c, .slice B m d] w fun e w' => e = .returned (.bool (decide (xs = ys))) ∧ Below w.heap.size w w' := by
  have hx1 := hx.1
  have hy1 := hy.1
  have hc := hx.2.1
  have hd := hy.2.1
  have hlen := hx.2.2.2.1
  have hleny := hy.2.2.2.1
  by_cases hl : n = m
  · subst hl
    have HN := Aside.mk (And.intro hx1 hy1)
    clear hx1 hy1
    go_enter Try.func12, Try.ntmps12
    go_wp2_with fail
    go_loopw [13] (fun i wr => ∃ k : Nat, k ≤ n ∧ i = .int .i64 k ∧ Aside (xs.take k = ys.take k) ∧ Aside (Below w.heap.size w wr)) (fun i _ => n - (intOf i).toNat)
    case atStart => exact ⟨0, by omega, rfl, ⟨by simp⟩, ⟨Below.refl _ _⟩⟩
    case round =>
      obtain ⟨k, hk, rfl, he, hbr⟩ := hrel
      by_cases hlt : k < n
      · have hli : (k : Int) < (n : Int) := by omega
        have hkx : k < xs.length := by rw [← HN.out.1]; exact hlt
        have hky : k < ys.length := by rw [← HN.out.2]; exact hlt
        obtain ⟨b1, o1, lo1, hi1, rfl, e1, g0, g1⟩ := cell_span hx (hs.below hbr.out) k hkx
        obtain ⟨b2, o2, lo2, hi2, rfl, e2, g2, g3⟩ := cell_span hy (hs.below hbr.out) k hky
        have ht1 : xs.take (k + 1) = xs.take k ++ [⟨lo1, hi1⟩] := by rw [List.take_succ_eq_append_getElem hkx, e1]
        have ht2 : ys.take (k + 1) = ys.take k ++ [⟨lo2, hi2⟩] := by rw [List.take_succ_eq_append_getElem hky, e2]
        have HT := Aside.mk (And.intro ht1 (And.intro ht2 (And.intro hlt (And.intro (show xs[k] = ⟨lo1, hi1⟩ from e1) (And.intro (show ys[k] = ⟨lo2, hi2⟩ from e2) trivial)))))
        clear ht1 ht2
        by_cases hq : lo1 = lo2
        · by_cases hq2 : hi1 = hi2
          · subst hq
            subst hq2
            go_wp2_with fail
            go_quiet (fail)
            go_wp2_with fail
            go_roundw
            case rel => exact ⟨k + 1, HT.out.2.2.1, by go_num, ⟨by rw [HT.out.1, HT.out.2.1, he.out]⟩, ⟨hbr.out.drewN _⟩⟩
            case measure => (have := HT.out.2.2.1; simp [intOf]; omega)
          · subst hq
            have hn : (hi1 == hi2) = false := by simpa using hq2
            have hn2 : (hi1 != hi2) = true := by simpa using hq2
            have HQ := Aside.mk hq2
            clear hq2
            go_wp2_with fail
            go_quiet (fail)
            go_wp2_with fail
            go_ret
            exact ⟨by rw [decide_eq_false (fun e => HQ.out (by subst e; have := HT.out.2.2.2.1.symm.trans HT.out.2.2.2.2.1; simpa using this))]; rfl, hbr.out.drewN _⟩
        · have hn : (lo1 == lo2) = false := by simpa using hq
          have hn2 : (lo1 != lo2) = true := by simpa using hq
          have HQ := Aside.mk hq
          clear hq
          go_wp2_with fail
          go_quiet (fail)
          go_wp2_with fail
          go_ret
          exact ⟨by rw [decide_eq_false (fun e => HQ.out (by subst e; have := HT.out.2.2.2.1.symm.trans HT.out.2.2.2.2.1; simp at this; exact this.1))]; rfl, hbr.out.drewN _⟩
      · obtain rfl : k = n := by omega
        go_wp2_with fail
        go_ret
        have h9 := he.out
        rw [List.take_of_length_le (by rw [← HN.out.1]; exact Nat.le_refl _), List.take_of_length_le (by rw [← HN.out.2]; exact Nat.le_refl _)] at h9
        exact ⟨by rw [decide_eq_true h9]; rfl, hbr.out⟩
  · have hl2 : ¬ (n : Int) = (m : Int) := by omega
    have HL := Aside.mk (And.intro hl (And.intro hx1 hy1))
    clear hl hx1 hy1
    go_enter Try.func12, Try.ntmps12
    go_wp2_with fail
    go_ret
    exact ⟨by rw [decide_eq_false (fun e => HL.out.1 (by rw [HL.out.2.1, HL.out.2.2, e]))]; rfl, Below.refl _ _⟩

theorem goodf_any (w : World) : Calls Try.prog 61 #[.int .i64 0] w fun e w' => e = .returned (.bool false) ∧ w = w' := by
  go_enter Try.func61, Try.ntmps61
  go_wp2_with fail
  go_ret
  exact ⟨rfl, rfl⟩

set_option maxHeartbeats 2000000 in
theorem indexGood_any (H : PH) (es : List Int) (A : Option Addr) (n c : Nat) (w : World) (hx : SlR (kI .i64) H A n c es) (hs : Sat w H) (he : ∀ e ∈ es, e = 0) :
    Calls Try.prog 97 #[.slice A n c, .func (.func 61) #[] #[]] w fun e w' => e = .returned (.int .i64 (-1)) ∧ w = w' := by
  obtain rfl := hx.1
  have hc := hx.2.1
  have hlen := hx.2.2.2.1
  have HE := Aside.mk he
  clear he
  go_enter Try.func97, Try.ntmps97
  go_wp2_with fail
  go_loop [8] (fun i => ∃ k : Nat, k ≤ es.length ∧ i = .int .i64 k) (fun i => es.length - (intOf i).toNat)
  case atStart => exact ⟨0, by omega, rfl⟩
  case round =>
    obtain ⟨k, hk, rfl⟩ := hrel
    by_cases hlt : k < es.length
    · have hli : (k : Int) < (es.length : Int) := by omega
      obtain ⟨b1, o1, cs1, rfl, hrd1, hcell1⟩ := hx.row k hlt
      have h0 : es[k] = 0 := HE.out _ (List.getElem_mem hlt)
      rw [h0] at hrd1
      obtain rfl : cs1 = [.int .i64 0] := hrd1
      have g0 := at1 hs hcell1
      simp only [kI, Nat.mul_one] at g0
      clear hcell1 h0
      go_wp2_with fail
      refine (goodf_any w).mono ?_
      rintro e w1 ⟨rfl, rfl⟩
      go_wp2_with fail
      go_round
      case rel => exact ⟨k + 1, by omega, by go_num⟩
      case measure => simp [intOf]; omega
    · obtain rfl : k = es.length := by omega
      go_wp2_with fail
      go_ret
      exact ⟨rfl, rfl⟩

theorem containsGood_any (H : PH) (es : List Int) (A : Option Addr) (n c : Nat) (w : World) (hx : SlR (kI .i64) H A n c es) (hs : Sat w H) (he : ∀ e ∈ es, e = 0) :
    Calls Try.prog 60 #[.slice A n c, .func (.func 61) #[] #[]] w fun e w' => e = .returned (.bool false) ∧ w = w' := by
  have HI := Aside.mk (indexGood_any H es A n c w hx hs he)
  clear hx he
  go_enter Try.func60, Try.ntmps60
  go_wp2_with fail
  refine HI.out.mono ?_
  rintro e w1 ⟨rfl, rfl⟩
  go_wp2_with fail
  go_ret
  exact ⟨rfl, rfl⟩
theorem good_any (H : PH) (es : List Int) (A : Option Addr) (n c : Nat) (w : World) (hx : SlR (kI .i64) H A n c es) (hs : Sat w H) (he : ∀ e ∈ es, e = 0) :
    Calls Try.prog 17 #[.slice A n c] w fun e w' => e = .returned (.bool true) ∧ w = w' := by
  have HI := Aside.mk (containsGood_any H es A n c w hx hs he)
  clear hx he
  go_enter Try.func17, Try.ntmps17
  go_wp2_with fail
  refine HI.out.mono ?_
  rintro e w1 ⟨rfl, rfl⟩
  go_wp2_with fail
  go_ret
  exact ⟨rfl, rfl⟩


theorem kspan_any (H : PH) (lo hi : Int) (w : World) (hs : Sat w H) : Calls Try.prog 11 #[.int .i64 lo, .int .i64 hi] w (RetO H w [⟨lo, hi⟩]) := by
  have ho := Own.lit (k := kSpan) (e := 30) (xs := [⟨lo, hi⟩]) (base := w.heap.size) hs #[.int .i64 lo, .int .i64 hi] (Nat.le_refl _) (EncL.single rfl) (by rw [maxLen]; simp)
  replace ho := Aside.mk ho
  go_enter Try.func11, Try.ntmps11
  go_wp2
  go_ret
  exact ⟨_, rfl, ho.out, bA (Below.refl _ _) _⟩
theorem errs_lit {T : TypeId} {H : PH} {w : World} (hs : Sat w H) (cs : Array Value) (n : Nat) (hn : n ≤ 100) (h : cs.toList = List.replicate n (.int .i64 0)) : ∃ H', Ext H H' w (w.alloc (.cells cs T)) ∧ SlR (kI .i64) H' (some ⟨w.heap.size, 0, none⟩) n n (List.replicate n 0) := by
  have ho := Own.lit (k := kI .i64) (e := T) (xs := List.replicate n 0) (base := w.heap.size) hs cs (Nat.le_refl _) (by rw [h]; exact EncL.replicate rfl n) (by rw [List.length_replicate, maxLen]; omega)
  rw [List.length_replicate] at ho
  obtain ⟨H1, hx1, hle, ⟨A1, c1, e1, h1⟩, -⟩ := ho.freezeE (Ext.of_below hs (bA (Below.refl _ _) _)) (Nat.le_refl _) (by rw [List.length_replicate]; omega)
  rw [List.length_replicate] at e1 h1
  cases e1
  exact ⟨H1, hx1, h1⟩
end Go.Proofs.Ytbpophdfnlagdaa.B
