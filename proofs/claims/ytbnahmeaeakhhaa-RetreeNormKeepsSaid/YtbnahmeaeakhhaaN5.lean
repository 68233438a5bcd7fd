/- Contracts: retree.Same; slices.Equal over spans, slices.EqualFunc over expressions. Contract: retree.Same. Contracts: slices.ContainsFunc over expressions. Contracts: retree.once. -/
import Derived.Test.YtbnahmeaeakhhaaBc
import Derived.Test.YtbnahmeaeakhhaaK2
namespace Go.Proofs.Ytbnahmeaeakhhaa.B
set_option linter.unusedVariables false
set_option linter.unusedSimpArgs false
open Go Go.RowKit Classical

theorem cell_span {H : PH} {w : World} {A : Option Addr} {n c : Nat} {xs : List Span} (h : SlR kSpan H A n c xs) (hs : Sat w H) (i : Nat) (hi : i < xs.length) :
    ∃ b off lo hi, A = some ⟨b, off, none⟩ ∧ xs[i] = ⟨lo, hi⟩ ∧ w.cell? ⟨b, off + i * 2, none⟩ = some (.int .i64 lo) ∧ w.cell? ⟨b, off + i * 2 + 1, none⟩ = some (.int .i64 hi) := by
  obtain ⟨b, off, cs, e, hrd, hcell⟩ := h.row i hi
  cases hx : xs[i] with
  | mk lo hi =>
    rw [hx] at hrd
    obtain rfl : cs = [.int .i64 lo, .int .i64 hi] := hrd
    exact ⟨b, off, lo, hi, e, rfl, at2 hs hcell⟩

set_option maxRecDepth 100000 in
set_option maxHeartbeats 4000000 in
/-- slices.Equal, over spans -/
theorem eqSpans_any (H : PH) (xs ys : List Span) (A B : Option Addr) (n c m d : Nat) (w : World) (hx : SlR kSpan H A n c xs) (hy : SlR kSpan H B m d ys) (hs : Sat w H) :
    Calls Try.prog 122 #[.slice A n c, .slice B m d] w fun e w' => e = .returned (.bool (decide (xs = ys))) ∧ Below w.heap.size w w' := by
  have hx1 := hx.1
  have hy1 := hy.1
  have hc := hx.2.1
  have hd := hy.2.1
  have hlen := hx.2.2.2.1
  have hleny := hy.2.2.2.1
  by_cases hl : n = m
  · subst hl
    have HN := Aside.mk (And.intro hx1 hy1)
    clear hx1 hy1
    go_enter Try.func122, Try.ntmps122
    go_wp2_with fail
    go_loopw [13] (fun i wr => ∃ k : Nat, k ≤ n ∧ i = .int .i64 k ∧ Aside (xs.take k = ys.take k) ∧ Aside (Below w.heap.size w wr)) (fun i _ => n - (intOf i).toNat)
    case atStart => exact ⟨0, by omega, rfl, ⟨by simp⟩, ⟨Below.refl _ _⟩⟩
    case round =>
      obtain ⟨k, hk, rfl, he, hbr⟩ := hrel
      by_cases hlt : k < n
      · have hli : (k : Int) < (n : Int) := by omega
        have hkx : k < xs.length := by rw [← HN.out.1]; exact hlt
        have hky : k < ys.length := by rw [← HN.out.2]; exact hlt
        obtain ⟨b1, o1, lo1, hi1, rfl, e1, g0, g1⟩ := cell_span hx (hs.below hbr.out) k hkx
        obtain ⟨b2, o2, lo2, hi2, rfl, e2, g2, g3⟩ := cell_span hy (hs.below hbr.out) k hky
        have ht1 : xs.take (k + 1) = xs.take k ++ [⟨lo1, hi1⟩] := by rw [List.take_succ_eq_append_getElem hkx, e1]
        have ht2 : ys.take (k + 1) = ys.take k ++ [⟨lo2, hi2⟩] := by rw [List.take_succ_eq_append_getElem hky, e2]
        have HT := Aside.mk (And.intro ht1 (And.intro ht2 (And.intro hlt (And.intro (show xs[k] = ⟨lo1, hi1⟩ from e1) (And.intro (show ys[k] = ⟨lo2, hi2⟩ from e2) trivial)))))
        clear ht1 ht2
        by_cases hq : lo1 = lo2
        · by_cases hq2 : hi1 = hi2
          · subst hq
            subst hq2
            go_wp2_with fail
            go_quiet (fail)
            go_wp2_with fail
            go_roundw
            case rel => exact ⟨k + 1, HT.out.2.2.1, by go_num, ⟨by rw [HT.out.1, HT.out.2.1, he.out]⟩, ⟨hbr.out.drewN _⟩⟩
            case measure => (have := HT.out.2.2.1; simp [intOf]; omega)
          · subst hq
            have hn : (hi1 == hi2) = false := by simpa using hq2
            have hn2 : (hi1 != hi2) = true := by simpa using hq2
            have HQ := Aside.mk hq2
            clear hq2
            go_wp2_with fail
            go_quiet (fail)
            go_wp2_with fail
            go_ret
            exact ⟨by rw [decide_eq_false (fun e => HQ.out (by subst e; have := HT.out.2.2.2.1.symm.trans HT.out.2.2.2.2.1; simpa using this))]; rfl, hbr.out.drewN _⟩
        · have hn : (lo1 == lo2) = false := by simpa using hq
          have hn2 : (lo1 != lo2) = true := by simpa using hq
          have HQ := Aside.mk hq
          clear hq
          go_wp2_with fail
          go_quiet (fail)
          go_wp2_with fail
          go_ret
          exact ⟨by rw [decide_eq_false (fun e => HQ.out (by subst e; have := HT.out.2.2.2.1.symm.trans HT.out.2.2.2.2.1; simp at this; exact this.1))]; rfl, hbr.out.drewN _⟩
      · obtain rfl : k = n := by omega
        go_wp2_with fail
        go_ret
        have h9 := he.out
        rw [List.take_of_length_le (by rw [← HN.out.1]; exact Nat.le_refl _), List.take_of_length_le (by rw [← HN.out.2]; exact Nat.le_refl _)] at h9
        exact ⟨by rw [decide_eq_true h9]; rfl, hbr.out⟩
  · have hl2 : ¬ (n : Int) = (m : Int) := by omega
    have HL := Aside.mk (And.intro hl (And.intro hx1 hy1))
    clear hl hx1 hy1
    go_enter Try.func122, Try.ntmps122
    go_wp2_with fail
    go_ret
    exact ⟨by rw [decide_eq_false (fun e => HL.out.1 (by rw [HL.out.2.1, HL.out.2.2, e]))]; rfl, Below.refl _ _⟩
end Go.Proofs.Ytbnahmeaeakhhaa.B

namespace Go.Proofs.Ytbnahmeaeakhhaa.B
set_option linter.unusedVariables false
set_option linter.unusedSimpArgs false
open Go Go.RowKit Classical

def SameS (a : Re) : Prop := ∀ (H : PH) (b : Re) (ca cb : List Value) (w : World), RdRe H a ca → RdRe H b cb → Sat w H →
  Calls Try.prog 66 #[.agg ca.toArray, .agg cb.toArray] w fun e w' => e = .returned (.bool (decide (a = b))) ∧ Below w.heap.size w w'

set_option maxRecDepth 100000 in
set_option maxHeartbeats 4000000 in
/-- slices.EqualFunc with Same -/
theorem eqFunc_same (H : PH) (xs ys : List Re) (A B : Option Addr) (n c m d : Nat) (w : World) (ih : ∀ a ∈ xs, SameS a) (hx : SlR kRe H A n c xs) (hy : SlR kRe H B m d ys) (hs : Sat w H) :
    Calls Try.prog 123 #[.slice A n c, .slice B m d, .func (.func 66) #[] #[]] w fun e w' => e = .returned (.bool (decide (xs = ys))) ∧ Below w.heap.size w w' := by
  have hx1 := hx.1
  have hy1 := hy.1
  have hc := hx.2.1
  have hd := hy.2.1
  have hlen := hx.2.2.2.1
  have hleny := hy.2.2.2.1
  replace ih := Aside.mk ih
  by_cases hl : n = m
  · subst hl
    have HN := Aside.mk (And.intro hx1 hy1)
    clear hx1 hy1
    go_enter Try.func123, Try.ntmps123
    go_wp2_with fail
    go_loopw [17] (fun i wr => ∃ k : Nat, k ≤ n ∧ i = .int .i64 k ∧ Aside (xs.take k = ys.take k) ∧ Aside (Below w.heap.size w wr)) (fun i _ => n - (intOf i).toNat)
    case atStart => exact ⟨0, by omega, rfl, ⟨by simp⟩, ⟨Below.refl _ _⟩⟩
    case round =>
      obtain ⟨k, hk, rfl, he, hbr⟩ := hrel
      by_cases hlt : k < n
      · have hli : (k : Int) < (n : Int) := by omega
        have hkx : k < xs.length := by rw [← HN.out.1]; exact hlt
        have hky : k < ys.length := by rw [← HN.out.2]; exact hlt
        obtain ⟨b, off, k1, s1, a1, u1, v1, g1, P1, d1, P2, d2, rfl, e1, hrd1, q0, q1, q2, q3, q4, q5⟩ := cell_elem hx (hs.below hbr.out) k hkx
        obtain ⟨b', off', k2, s2, a2, u2, v2, g2, R1, f1, R2, f2, rfl, e2, hrd2, r0, r1, r2, r3, r4, r5⟩ := cell_elem hy (hs.below hbr.out) k hky
        have hmem : xs[k] ∈ xs := List.getElem_mem hkx
        have ht1 : xs.take (k + 1) = xs.take k ++ [xs[k]] := List.take_succ_eq_append_getElem hkx
        have ht2 : ys.take (k + 1) = ys.take k ++ [ys[k]] := List.take_succ_eq_append_getElem hky
        have hcall := fun w' hs' => ih.out _ hmem H _ _ _ w' (e1 ▸ hrd1) hrd2 hs'
        have HT := Aside.mk (And.intro ht1 (And.intro ht2 (And.intro hlt (And.intro e1 e2))))
        have HC := Aside.mk hcall
        have hbz : b < wr.heap.size := World.block_lt_of_cell? wr _ q0
        have hbz' : b' < wr.heap.size := World.block_lt_of_cell? wr _ r0
        clear ht1 ht2 hcall hmem e1 e2 hrd1 hrd2
        by_cases hq : xs[k] = Re.mk k2 s2 a2 u2 v2 g2
        · have HQ := Aside.mk hq
          clear hq
          go_wp2_with fail
          refine (HC.out _ ((((hs.below hbr.out).alloc _).alloc _))).mono ?_
          rintro e w1 ⟨rfl, hb1⟩
          rw [decide_eq_true HQ.out]
          go_wp2_with fail
          go_roundw
          case rel => exact ⟨k + 1, HT.out.2.2.1, by go_num, ⟨by rw [HT.out.1, HT.out.2.1, he.out, HQ.out, HT.out.2.2.2.2]⟩, ⟨bT (bA (bA hbr.out _) _) hb1⟩⟩
          case measure => (have := HT.out.2.2.1; simp [intOf]; omega)
        · have HQ := Aside.mk hq
          clear hq
          go_wp2_with fail
          refine (HC.out _ ((((hs.below hbr.out).alloc _).alloc _))).mono ?_
          rintro e w1 ⟨rfl, hb1⟩
          rw [decide_eq_false HQ.out]
          go_wp2_with fail
          go_ret
          exact ⟨by rw [decide_eq_false (fun e => HQ.out (by rw [← HT.out.2.2.2.2]; subst e; rfl))]; rfl, bT (bA (bA hbr.out _) _) hb1⟩
      · obtain rfl : k = n := by omega
        go_wp2_with fail
        go_ret
        have h9 := he.out
        rw [List.take_of_length_le (by rw [← HN.out.1]; exact Nat.le_refl _), List.take_of_length_le (by rw [← HN.out.2]; exact Nat.le_refl _)] at h9
        exact ⟨by rw [decide_eq_true h9]; rfl, hbr.out⟩
  · have hl2 : ¬ (n : Int) = (m : Int) := by omega
    have HL := Aside.mk (And.intro hl (And.intro hx1 hy1))
    clear hl hx1 hy1
    go_enter Try.func123, Try.ntmps123
    go_wp2_with fail
    go_ret
    exact ⟨by rw [decide_eq_false (fun e => HL.out.1 (by rw [HL.out.2.1, HL.out.2.2, e]))]; rfl, Below.refl _ _⟩

theorem decF {p : Prop} [Decidable p] (h : ¬ p) : Ending.returned (.bool false) = .returned (.bool (decide p)) := by rw [decide_eq_false h]
theorem decT {p : Prop} [Decidable p] (h : p) : Ending.returned (.bool true) = .returned (.bool (decide p)) := by rw [decide_eq_true h]

set_option maxRecDepth 100000 in
set_option maxHeartbeats 8000000 in
theorem same_re (a : Re) : SameS a := by
  induction a using Re.ind with
  | h k1 s1 l1 m1 x1 n1 ih =>
  intro H b ca cb w ha hb hs
  cases b with
  | mk k2 s2 l2 m2 x2 n2 =>
  obtain ⟨A1, c1, A2, c2, rfl, h1, h2⟩ := ha.open
  obtain ⟨B1, d1, B2, d2, rfl, h3, h4⟩ := hb.open
  clear ha hb
  replace ih := Aside.mk ih
  by_cases e1 : k1 = k2
  case neg =>
    have HB := Aside.mk e1
    go_enter Try.func66, Try.ntmps66
    go_wp2_with fail
    go_ret
    exact ⟨decF (fun e => HB.out (by injection e)), bA (bA (Below.refl _ _) _) _⟩
  subst e1
  by_cases e2 : m1 = m2
  case neg =>
    have HB := Aside.mk e2
    go_enter Try.func66, Try.ntmps66
    go_wp2_with fail
    go_ret
    exact ⟨decF (fun e => HB.out (by injection e)), bA (bA (Below.refl _ _) _) _⟩
  subst e2
  by_cases e3 : x1 = x2
  case neg =>
    have HB := Aside.mk e3
    go_enter Try.func66, Try.ntmps66
    go_wp2_with fail
    go_ret
    exact ⟨decF (fun e => HB.out (by injection e)), bA (bA (Below.refl _ _) _) _⟩
  subst e3
  by_cases e4 : n1 = n2
  case neg =>
    have hn4 : (n1 == n2) = false := by cases n1 <;> cases n2 <;> simp_all
    have HB := Aside.mk e4
    clear e4
    go_enter Try.func66, Try.ntmps66
    go_wp2_with fail
    go_ret
    exact ⟨decF (fun e => HB.out (by injection e)), bA (bA (Below.refl _ _) _) _⟩
  subst e4
  have hn4 : (n1 == n1) = true := by cases n1 <;> rfl
  have hx := Aside.mk (Ext.refl hs)
  replace h1 := Aside.mk h1
  replace h2 := Aside.mk h2
  replace h3 := Aside.mk h3
  replace h4 := Aside.mk h4
  go_enter Try.func66, Try.ntmps66
  go_wp2_with fail
  have hszw := hx.out.size
  have ka_ : ((w.alloc (.cells #[.int .i64 k1, .slice A1 s1.length c1, .slice A2 l1.length c2, .int .i64 m1, .int .i64 x1, .bool n1] 25)).alloc (.cells #[.int .i64 k1, .slice B1 s2.length d1, .slice B2 l2.length d2, .int .i64 m1, .int .i64 x1, .bool n1] 25)).heap[w.heap.size]? = some (.cells #[.int .i64 k1, .slice A1 s1.length c1, .slice A2 l1.length c2, .int .i64 m1, .int .i64 x1, .bool n1] 25) := (boxA (heap_alloc_new _ _) (.cells #[.int .i64 k1, .slice B1 s2.length d1, .slice B2 l2.length d2, .int .i64 m1, .int .i64 x1, .bool n1] 25))
  have kb_ : ((w.alloc (.cells #[.int .i64 k1, .slice A1 s1.length c1, .slice A2 l1.length c2, .int .i64 m1, .int .i64 x1, .bool n1] 25)).alloc (.cells #[.int .i64 k1, .slice B1 s2.length d1, .slice B2 l2.length d2, .int .i64 m1, .int .i64 x1, .bool n1] 25)).heap[w.heap.size + 1]? = some (.cells #[.int .i64 k1, .slice B1 s2.length d1, .slice B2 l2.length d2, .int .i64 m1, .int .i64 x1, .bool n1] 25) := (by rw [show w.heap.size + 1 = ((w.alloc (.cells #[.int .i64 k1, .slice A1 s1.length c1, .slice A2 l1.length c2, .int .i64 m1, .int .i64 x1, .bool n1] 25))).heap.size by simp]; exact heap_alloc_new _ _)
  have na := Aside.mk (fun o => hx.out.sat.new (b := w.heap.size) (show w.heap.size ≤ _ by omega) o)
  have nb := Aside.mk (fun o => hx.out.sat.new (b := w.heap.size + 1) (show w.heap.size ≤ _ by omega) o)
  replace hx := Aside.mk (((hx.out.alloc (.cells #[.int .i64 k1, .slice A1 s1.length c1, .slice A2 l1.length c2, .int .i64 m1, .int .i64 x1, .bool n1] 25)).alloc (.cells #[.int .i64 k1, .slice B1 s2.length d1, .slice B2 l2.length d2, .int .i64 m1, .int .i64 x1, .bool n1] 25)))
  generalize ((w.alloc (.cells #[.int .i64 k1, .slice A1 s1.length c1, .slice A2 l1.length c2, .int .i64 m1, .int .i64 x1, .bool n1] 25)).alloc (.cells #[.int .i64 k1, .slice B1 s2.length d1, .slice B2 l2.length d2, .int .i64 m1, .int .i64 x1, .bool n1] 25)) = W1 at *
  have ka := Aside.mk ka_
  clear ka_
  have kb := Aside.mk kb_
  clear kb_
  obtain ⟨H1, hx2, hle, Ba, hold⟩ := box_freeze hx.out (by omega) ka.out na.out
  replace h1 := Aside.mk (h1.out.mono hle)
  replace h2 := Aside.mk (h2.out.mono hle)
  replace h3 := Aside.mk (h3.out.mono hle)
  replace h4 := Aside.mk (h4.out.mono hle)
  replace nb := Aside.mk (fun o => (hold _ o (by omega)).trans (nb.out o))
  replace hx := Aside.mk hx2
  replace Ba := Aside.mk Ba
  clear hle hold hx2 ka na
  obtain ⟨H1, hx2, hle, Bb, hold⟩ := box_freeze hx.out (by omega) kb.out nb.out
  replace h1 := Aside.mk (h1.out.mono hle)
  replace h2 := Aside.mk (h2.out.mono hle)
  replace h3 := Aside.mk (h3.out.mono hle)
  replace h4 := Aside.mk (h4.out.mono hle)
  replace Ba := Aside.mk (Ba.out.mono hle)
  replace hx := Aside.mk hx2
  replace Bb := Aside.mk Bb
  clear hle hold hx2 kb nb
  have hz0 := hx.out.size
  refine (eqSpans_any _ s1 s2 A1 B1 _ c1 _ d1 _ h1.out h3.out hx.out.sat).mono ?_
  rintro e w2 ⟨rfl, hb2⟩
  replace hx := Aside.mk (hx.out.then_below hb2)
  clear hb2
  by_cases e5 : s1 = s2
  case neg =>
    have HB := Aside.mk e5
    rw [decide_eq_false e5]
    clear e5
    have ca0 : w2.cell? ⟨w.heap.size, 0, none⟩ = some (.int .i64 k1) := hx.out.sat _ _ _ (Ba.out 0 _ rfl)
    have ca1 : w2.cell? ⟨w.heap.size, 1, none⟩ = some (.slice A1 s1.length c1) := hx.out.sat _ _ _ (Ba.out 1 _ rfl)
    have ca2 : w2.cell? ⟨w.heap.size, 2, none⟩ = some (.slice A2 l1.length c2) := hx.out.sat _ _ _ (Ba.out 2 _ rfl)
    have ca3 : w2.cell? ⟨w.heap.size, 3, none⟩ = some (.int .i64 m1) := hx.out.sat _ _ _ (Ba.out 3 _ rfl)
    have ca4 : w2.cell? ⟨w.heap.size, 4, none⟩ = some (.int .i64 x1) := hx.out.sat _ _ _ (Ba.out 4 _ rfl)
    have ca5 : w2.cell? ⟨w.heap.size, 5, none⟩ = some (.bool n1) := hx.out.sat _ _ _ (Ba.out 5 _ rfl)
    have cb0 : w2.cell? ⟨w.heap.size + 1, 0, none⟩ = some (.int .i64 k1) := hx.out.sat _ _ _ (Bb.out 0 _ rfl)
    have cb1 : w2.cell? ⟨w.heap.size + 1, 1, none⟩ = some (.slice B1 s2.length d1) := hx.out.sat _ _ _ (Bb.out 1 _ rfl)
    have cb2 : w2.cell? ⟨w.heap.size + 1, 2, none⟩ = some (.slice B2 l2.length d2) := hx.out.sat _ _ _ (Bb.out 2 _ rfl)
    have cb3 : w2.cell? ⟨w.heap.size + 1, 3, none⟩ = some (.int .i64 m1) := hx.out.sat _ _ _ (Bb.out 3 _ rfl)
    have cb4 : w2.cell? ⟨w.heap.size + 1, 4, none⟩ = some (.int .i64 x1) := hx.out.sat _ _ _ (Bb.out 4 _ rfl)
    have cb5 : w2.cell? ⟨w.heap.size + 1, 5, none⟩ = some (.bool n1) := hx.out.sat _ _ _ (Bb.out 5 _ rfl)
    go_wp2_with fail
    go_ret
    exact ⟨decF (fun e => HB.out (by injection e)), hx.out.below⟩
  rw [decide_eq_true e5]
  have HS := Aside.mk e5
  clear e5
  have ca0 : w2.cell? ⟨w.heap.size, 0, none⟩ = some (.int .i64 k1) := hx.out.sat _ _ _ (Ba.out 0 _ rfl)
  have ca1 : w2.cell? ⟨w.heap.size, 1, none⟩ = some (.slice A1 s1.length c1) := hx.out.sat _ _ _ (Ba.out 1 _ rfl)
  have ca2 : w2.cell? ⟨w.heap.size, 2, none⟩ = some (.slice A2 l1.length c2) := hx.out.sat _ _ _ (Ba.out 2 _ rfl)
  have ca3 : w2.cell? ⟨w.heap.size, 3, none⟩ = some (.int .i64 m1) := hx.out.sat _ _ _ (Ba.out 3 _ rfl)
  have ca4 : w2.cell? ⟨w.heap.size, 4, none⟩ = some (.int .i64 x1) := hx.out.sat _ _ _ (Ba.out 4 _ rfl)
  have ca5 : w2.cell? ⟨w.heap.size, 5, none⟩ = some (.bool n1) := hx.out.sat _ _ _ (Ba.out 5 _ rfl)
  have cb0 : w2.cell? ⟨w.heap.size + 1, 0, none⟩ = some (.int .i64 k1) := hx.out.sat _ _ _ (Bb.out 0 _ rfl)
  have cb1 : w2.cell? ⟨w.heap.size + 1, 1, none⟩ = some (.slice B1 s2.length d1) := hx.out.sat _ _ _ (Bb.out 1 _ rfl)
  have cb2 : w2.cell? ⟨w.heap.size + 1, 2, none⟩ = some (.slice B2 l2.length d2) := hx.out.sat _ _ _ (Bb.out 2 _ rfl)
  have cb3 : w2.cell? ⟨w.heap.size + 1, 3, none⟩ = some (.int .i64 m1) := hx.out.sat _ _ _ (Bb.out 3 _ rfl)
  have cb4 : w2.cell? ⟨w.heap.size + 1, 4, none⟩ = some (.int .i64 x1) := hx.out.sat _ _ _ (Bb.out 4 _ rfl)
  have cb5 : w2.cell? ⟨w.heap.size + 1, 5, none⟩ = some (.bool n1) := hx.out.sat _ _ _ (Bb.out 5 _ rfl)
  go_wp2_with fail
  clear ca0 ca1 ca2 ca3 ca4 ca5 cb0 cb1 cb2 cb3 cb4 cb5
  refine (eqFunc_same _ l1 l2 A2 B2 _ c2 _ d2 _ ih.out h2.out h4.out hx.out.sat).mono ?_
  rintro e w3 ⟨rfl, hb3⟩
  replace hx := Aside.mk (hx.out.then_below hb3)
  clear hb3
  by_cases e6 : l1 = l2
  case neg =>
    have HB := Aside.mk e6
    rw [decide_eq_false e6]
    clear e6
    go_wp2_with fail
    go_ret
    exact ⟨decF (fun e => HB.out (by injection e)), hx.out.below⟩
  have HB := Aside.mk e6
  rw [decide_eq_true e6]
  clear e6
  go_wp2_with fail
  go_ret
  exact ⟨decT (by rw [HS.out, HB.out]), hx.out.below⟩
end Go.Proofs.Ytbnahmeaeakhhaa.B

namespace Go.Proofs.Ytbnahmeaeakhhaa.B
set_option linter.unusedVariables false
set_option linter.unusedSimpArgs false
open Go Go.RowKit Classical

set_option maxRecDepth 100000 in
theorem several1_any (cs : List Value) (a : Re) (H : PH) (w : World) (hr : RdRe H a cs) : Calls Try.prog 167 #[.agg cs.toArray] w fun e w' => e = .returned (.bool (decide (a.kind = 0))) ∧ Below w.heap.size w w' := by
  obtain ⟨k, s, l, u, v, g, rfl⟩ : ∃ a1 b c d e f, a = Re.mk a1 b c d e f := by cases a; exact ⟨_, _, _, _, _, _, rfl⟩
  obtain ⟨A1, c1, A2, c2, rfl, -, -⟩ := hr.open
  show Calls Try.prog 167 _ w fun e w' => e = .returned (.bool (decide (k = 0))) ∧ _
  clear hr
  by_cases hk : k = 0
  · subst hk
    go_enter Try.func167, Try.ntmps167
    go_wp2_with fail
    go_ret
    exact ⟨rfl, bA (Below.refl _ _) _⟩
  · go_enter Try.func167, Try.ntmps167
    go_wp2_with fail
    go_ret
    exact ⟨by simp [hk], bA (Below.refl _ _) _⟩

/-- slices.IndexFunc, ContainsFunc with retree.several$1 -/
def Idx_sev (l : List Re) (p : Re → Prop) (w : World) (e : Ending) (w' : World) : Prop := ∃ k : Int, e = .returned (.int .i64 k) ∧ ((0 ≤ k ∧ ∃ a ∈ l, p a) ∨ (k = -1 ∧ ¬ ∃ a ∈ l, p a)) ∧ k ≤ 1048576 ∧ Below w.heap.size w w'
set_option maxRecDepth 100000 in
set_option maxHeartbeats 4000000 in
theorem idx_sev (p : Re → Prop) (H : PH) (l : List Re) (A : Option Addr) (n c : Nat) (w : World) (hl : SlR kRe H A n c l) (hs : Sat w H) (hb : n ≤ 1048576)
    (hf : ∀ a ∈ l, ∀ (cs' : List Value) (w' : World), RdRe H a cs' → Sat w' H → Calls Try.prog 167 #[.agg cs'.toArray] w' fun e w'' => e = .returned (.bool (decide (p a))) ∧ Below w'.heap.size w' w'') :
    Calls Try.prog 171 #[.slice A n c, .func (.func 167) #[] #[]] w (Idx_sev l p w) := by
  obtain rfl := hl.1
  have hc := hl.2.1
  have hf := Aside.mk hf
  go_enter Try.func171, Try.ntmps171
  go_wp2_with fail
  go_loopw [8] (fun i wr => ∃ k : Nat, k ≤ l.length ∧ i = .int .i64 k ∧ Aside (∀ a ∈ l.take k, ¬ p a) ∧ Aside (Below w.heap.size w wr)) (fun i _ => l.length - (intOf i).toNat)
  case atStart => exact ⟨0, by omega, rfl, ⟨by simp⟩, ⟨Below.refl _ _⟩⟩
  case round =>
    obtain ⟨k, hk, rfl, hno, hbr⟩ := hrel
    by_cases hlt : k < l.length
    · have hsr := hs.below hbr.out
      obtain ⟨b, off, k1, s1, a1, u1, v1, g1, P1, d1, P2, d2, rfl, hq, hrd, g0, g1_, g2, g3, g4, g5⟩ := cell_elem hl hsr k hlt
      have hmem : l[k] ∈ l := List.getElem_mem hlt
      have htk : l.take (k + 1) = l.take k ++ [l[k]] := List.take_succ_eq_append_getElem hlt
      rw [hq] at hmem htk
      have hcall := hf.out _ hmem _ wr hrd hsr
      have HM := Aside.mk (And.intro hmem htk)
      have HC := Aside.mk hcall
      have hlt2 := Aside.mk hlt
      clear hmem htk hq hrd hcall
      by_cases hp : p (Re.mk k1 s1 a1 u1 v1 g1)
      · have HP := Aside.mk hp
        clear hp
        go_wp2_with fail
        refine HC.out.mono ?_
        rintro e w1 ⟨rfl, hb1⟩
        rw [decide_eq_true HP.out]
        go_wp2_with fail
        go_ret
        exact ⟨_, rfl, Or.inl ⟨by omega, _, HM.out.1, HP.out⟩, by omega, bT hbr.out hb1⟩
      · have HP := Aside.mk hp
        clear hp
        go_wp2_with fail
        refine HC.out.mono ?_
        rintro e w1 ⟨rfl, hb1⟩
        rw [decide_eq_false HP.out]
        go_wp2_with fail
        go_roundw
        case rel =>
          refine ⟨k + 1, hlt2.out, by go_num, ⟨fun a ha => ?_⟩, ⟨bT hbr.out hb1⟩⟩
          rw [HM.out.2] at ha
          rcases List.mem_append.1 ha with h | h
          · exact hno.out a h
          · rw [List.mem_singleton.1 h]; exact HP.out
        case measure => (have := hlt2.out; simp [intOf]; omega)
    · obtain rfl : k = l.length := by omega
      go_wp2_with fail
      go_ret
      refine ⟨_, rfl, Or.inr ⟨rfl, ?_⟩, by omega, hbr.out⟩
      rintro ⟨a, ha, hpa⟩
      have := hno.out a
      rw [List.take_of_length_le (Nat.le_refl _)] at this
      exact this ha hpa
set_option maxRecDepth 100000 in
theorem has_sev (p : Re → Prop) (H : PH) (l : List Re) (A : Option Addr) (n c : Nat) (w : World) (hl : SlR kRe H A n c l) (hs : Sat w H) (hb : n ≤ 1048576)
    (hf : ∀ a ∈ l, ∀ (cs' : List Value) (w' : World), RdRe H a cs' → Sat w' H → Calls Try.prog 167 #[.agg cs'.toArray] w' fun e w'' => e = .returned (.bool (decide (p a))) ∧ Below w'.heap.size w' w'') :
    Calls Try.prog 143 #[.slice A n c, .func (.func 167) #[] #[]] w fun e w' => e = .returned (.bool (decide (∃ a ∈ l, p a))) ∧ Below w.heap.size w w' := by
  have HI := Aside.mk (idx_sev p H l A n c w hl hs hb hf)
  clear hl hs hf
  go_enter Try.func143, Try.ntmps143
  go_wp2_with fail
  refine HI.out.mono ?_
  rintro e w1 ⟨k, rfl, hk, hk2, hb1⟩
  rcases hk with ⟨h0, hx⟩ | ⟨rfl, hx⟩
  · have HX := Aside.mk hx
    clear hx
    go_wp2_with fail
    go_ret
    exact ⟨by rw [decide_eq_true HX.out]; rfl, hb1⟩
  · have HX := Aside.mk hx
    clear hx
    go_wp2_with fail
    go_ret
    exact ⟨by rw [decide_eq_false HX.out]; rfl, hb1⟩

/-- slices.IndexFunc, ContainsFunc with retree.once$1 -/
def Idx_once (l : List Re) (p : Re → Prop) (w : World) (e : Ending) (w' : World) : Prop := ∃ k : Int, e = .returned (.int .i64 k) ∧ ((0 ≤ k ∧ ∃ a ∈ l, p a) ∨ (k = -1 ∧ ¬ ∃ a ∈ l, p a)) ∧ k ≤ 1048576 ∧ Below w.heap.size w w'
set_option maxRecDepth 100000 in
set_option maxHeartbeats 4000000 in
theorem idx_once (p : Re → Prop) (H : PH) (l : List Re) (A : Option Addr) (n c : Nat) (w : World) (pb : Nat) (hl : SlR kRe H A n c l) (hs : Sat w H) (hb : n ≤ 1048576)
    (hf : ∀ a ∈ l, ∀ (cs' : List Value) (w' : World), RdRe H a cs' → Sat w' H → Calls Try.prog 182 #[.agg cs'.toArray, .pointer (some ⟨pb, 0, none⟩)] w' fun e w'' => e = .returned (.bool (decide (p a))) ∧ Below w'.heap.size w' w'') :
    Calls Try.prog 171 #[.slice A n c, .func (.func 182) #[] #[.pointer (some ⟨pb, 0, none⟩)]] w (Idx_once l p w) := by
  obtain rfl := hl.1
  have hc := hl.2.1
  have hf := Aside.mk hf
  go_enter Try.func171, Try.ntmps171
  go_wp2_with fail
  go_loopw [8] (fun i wr => ∃ k : Nat, k ≤ l.length ∧ i = .int .i64 k ∧ Aside (∀ a ∈ l.take k, ¬ p a) ∧ Aside (Below w.heap.size w wr)) (fun i _ => l.length - (intOf i).toNat)
  case atStart => exact ⟨0, by omega, rfl, ⟨by simp⟩, ⟨Below.refl _ _⟩⟩
  case round =>
    obtain ⟨k, hk, rfl, hno, hbr⟩ := hrel
    by_cases hlt : k < l.length
    · have hsr := hs.below hbr.out
      obtain ⟨b, off, k1, s1, a1, u1, v1, g1, P1, d1, P2, d2, rfl, hq, hrd, g0, g1_, g2, g3, g4, g5⟩ := cell_elem hl hsr k hlt
      have hmem : l[k] ∈ l := List.getElem_mem hlt
      have htk : l.take (k + 1) = l.take k ++ [l[k]] := List.take_succ_eq_append_getElem hlt
      rw [hq] at hmem htk
      have hcall := hf.out _ hmem _ wr hrd hsr
      have HM := Aside.mk (And.intro hmem htk)
      have HC := Aside.mk hcall
      have hlt2 := Aside.mk hlt
      clear hmem htk hq hrd hcall
      by_cases hp : p (Re.mk k1 s1 a1 u1 v1 g1)
      · have HP := Aside.mk hp
        clear hp
        go_wp2_with fail
        refine HC.out.mono ?_
        rintro e w1 ⟨rfl, hb1⟩
        rw [decide_eq_true HP.out]
        go_wp2_with fail
        go_ret
        exact ⟨_, rfl, Or.inl ⟨by omega, _, HM.out.1, HP.out⟩, by omega, bT hbr.out hb1⟩
      · have HP := Aside.mk hp
        clear hp
        go_wp2_with fail
        refine HC.out.mono ?_
        rintro e w1 ⟨rfl, hb1⟩
        rw [decide_eq_false HP.out]
        go_wp2_with fail
        go_roundw
        case rel =>
          refine ⟨k + 1, hlt2.out, by go_num, ⟨fun a ha => ?_⟩, ⟨bT hbr.out hb1⟩⟩
          rw [HM.out.2] at ha
          rcases List.mem_append.1 ha with h | h
          · exact hno.out a h
          · rw [List.mem_singleton.1 h]; exact HP.out
        case measure => (have := hlt2.out; simp [intOf]; omega)
    · obtain rfl : k = l.length := by omega
      go_wp2_with fail
      go_ret
      refine ⟨_, rfl, Or.inr ⟨rfl, ?_⟩, by omega, hbr.out⟩
      rintro ⟨a, ha, hpa⟩
      have := hno.out a
      rw [List.take_of_length_le (Nat.le_refl _)] at this
      exact this ha hpa
set_option maxRecDepth 100000 in
theorem has_once (p : Re → Prop) (H : PH) (l : List Re) (A : Option Addr) (n c : Nat) (w : World) (pb : Nat) (hl : SlR kRe H A n c l) (hs : Sat w H) (hb : n ≤ 1048576)
    (hf : ∀ a ∈ l, ∀ (cs' : List Value) (w' : World), RdRe H a cs' → Sat w' H → Calls Try.prog 182 #[.agg cs'.toArray, .pointer (some ⟨pb, 0, none⟩)] w' fun e w'' => e = .returned (.bool (decide (p a))) ∧ Below w'.heap.size w' w'') :
    Calls Try.prog 143 #[.slice A n c, .func (.func 182) #[] #[.pointer (some ⟨pb, 0, none⟩)]] w fun e w' => e = .returned (.bool (decide (∃ a ∈ l, p a))) ∧ Below w.heap.size w w' := by
  have HI := Aside.mk (idx_once p H l A n c w pb hl hs hb hf)
  clear hl hs hf
  go_enter Try.func143, Try.ntmps143
  go_wp2_with fail
  refine HI.out.mono ?_
  rintro e w1 ⟨k, rfl, hk, hk2, hb1⟩
  rcases hk with ⟨h0, hx⟩ | ⟨rfl, hx⟩
  · have HX := Aside.mk hx
    clear hx
    go_wp2_with fail
    go_ret
    exact ⟨by rw [decide_eq_true HX.out]; rfl, hb1⟩
  · have HX := Aside.mk hx
    clear hx
    go_wp2_with fail
    go_ret
    exact ⟨by rw [decide_eq_false HX.out]; rfl, hb1⟩
end Go.Proofs.Ytbnahmeaeakhhaa.B

namespace Go.Proofs.Ytbnahmeaeakhhaa.B
set_option linter.unusedVariables false
set_option linter.unusedSimpArgs false
open Go Go.RowKit Classical

/-- each expression once -/
noncomputable def onceL (l : List Re) : List Re := l.foldl (fun o a => if a ∈ o then o else o ++ [a]) []
theorem onceL_snoc (l : List Re) (a : Re) : onceL (l ++ [a]) = if a ∈ onceL l then onceL l else onceL l ++ [a] := by
  unfold onceL
  rw [List.foldl_append]; rfl
theorem foldOnce_len (l o : List Re) : (l.foldl (fun o a => if a ∈ o then o else o ++ [a]) o).length ≤ o.length + l.length := by
  induction l generalizing o with
  | nil => simp
  | cons x l ih =>
    simp only [List.foldl_cons, List.length_cons]
    refine Nat.le_trans (ih _) ?_
    split <;> simp <;> omega
theorem onceL_len (l : List Re) : (onceL l).length ≤ l.length := by simpa [onceL] using foldOnce_len l []

set_option maxRecDepth 100000 in
set_option maxHeartbeats 4000000 in
theorem once1_any (H : PH) (a b : Re) (ca cb : List Value) (pb : Nat) (w : World) (hbx : BoxH H pb ca) (ha : RdRe H a ca) (hb : RdRe H b cb) (hs : Sat w H) :
    Calls Try.prog 182 #[.agg cb.toArray, .pointer (some ⟨pb, 0, none⟩)] w fun e w' => e = .returned (.bool (decide (a = b))) ∧ Below w.heap.size w w' := by
  have hsame := fun w hs => same_re a H b ca cb w ha hb hs
  obtain ⟨k1, s1, l1, m1, x1, n1, rfl⟩ : ∃ p q r s u v, a = Re.mk p q r s u v := by cases a; exact ⟨_, _, _, _, _, _, rfl⟩
  obtain ⟨k2, s2, l2, m2, x2, n2, rfl⟩ : ∃ p q r s u v, b = Re.mk p q r s u v := by cases b; exact ⟨_, _, _, _, _, _, rfl⟩
  obtain ⟨A1, c1, A2, c2, rfl, h1, h2⟩ := ha.open
  obtain ⟨B1, d1, B2, d2, rfl, h3, h4⟩ := hb.open
  have HS := Aside.mk hsame
  obtain ⟨c0, c1_, c2_, c3, c4, c5⟩ := at6 hs hbx
  have hlt := hs.lt (hbx 0 _ rfl)
  clear hsame ha hb h1 h2 h3 h4 hbx
  go_enter Try.func182, Try.ntmps182
  go_wp2_with fail
  refine (HS.out _ (hs.alloc _)).mono ?_
  rintro e w1 ⟨rfl, hb1⟩
  by_cases e6 : Re.mk k1 s1 l1 m1 x1 n1 = Re.mk k2 s2 l2 m2 x2 n2
  · have HB := Aside.mk e6
    rw [decide_eq_true e6]
    clear e6
    go_wp2_with fail
    go_ret
    exact ⟨decT HB.out, bT (bA (Below.refl _ _) _) hb1⟩
  · have HB := Aside.mk e6
    rw [decide_eq_false e6]
    clear e6
    go_wp2_with fail
    go_ret
    exact ⟨decF HB.out, bT (bA (Below.refl _ _) _) hb1⟩

set_option maxRecDepth 100000 in
set_option maxHeartbeats 8000000 in
theorem once_any (H : PH) (l : List Re) (A : Option Addr) (n c : Nat) (w : World) (hl : SlR kRe H A n c l) (hs : Sat w H) (hb : n ≤ 1048576) :
    Calls Try.prog 168 #[.slice A n c] w fun e w' => ∃ v, e = .returned v ∧ Own kRe 25 w' w.heap.size H v (onceL l) ∧ Below w.heap.size w w' := by
  obtain rfl := hl.1
  have hc := hl.2.1
  go_enter Try.func168, Try.ntmps168
  go_wp2_with fail
  go_loopw [3, 8] (fun o i wr => ∃ (k : Nat) (A5 : Option Addr) (l5 c5 : Nat), k ≤ l.length ∧ i = .int .i64 k ∧ o = .slice A5 l5 c5 ∧ Aside (Own kRe 25 wr w.heap.size H o (onceL (l.take k))) ∧ Aside (Below w.heap.size w wr)) (fun _ i _ => l.length - (intOf i).toNat)
  case atStart => exact ⟨0, _, _, _, by omega, rfl, rfl, ⟨by simpa [onceL] using Own.nil _ _ _ _ _⟩, ⟨Below.refl _ _⟩⟩
  case round =>
    obtain ⟨k, A5, l5, c5, hk, rfl, rfl, ho, hbr⟩ := hrel
    by_cases hlt : k < l.length
    · have hsr := hs.below hbr.out
      obtain ⟨b, off, k1, s1, a1, u1, v1, g1, P1, d1, P2, d2, rfl, hq, hrd, g0, g1_, g2, g3, g4, g5⟩ := cell_elem hl hsr k hlt
      have htk : onceL (l.take (k + 1)) = if l[k] ∈ onceL (l.take k) then onceL (l.take k) else onceL (l.take k) ++ [l[k]] := by rw [List.take_succ_eq_append_getElem hlt, onceL_snoc]
      rw [hq] at htk
      have hln : (onceL (l.take k)).length ≤ 1048576 := by have := onceL_len (l.take k); simp at this; omega
      have hlt2 := Aside.mk hlt
      have hbz : b < wr.heap.size := World.block_lt_of_cell? wr _ g0
      obtain ⟨A6, c6, e6, hl6, -, hA6, -⟩ := ho.out.form
      cases e6
      -- what is borrowed for the search
      obtain ⟨H1, hx1, hle1, BB, hold1⟩ := box_freeze (w := wr.alloc (.cells #[.int .i64 k1, .slice P1 s1.length d1, .slice P2 a1.length d2, .int .i64 u1, .int .i64 v1, .bool g1] 25)) ((Ext.of_below hs hbr.out).alloc _) hbr.out.size (heap_alloc_new _ _) (fun o => hsr.new (Nat.le_refl _) o)
      have ho1 := (ho.out.alloc hsr (.cells #[.int .i64 k1, .slice P1 s1.length d1, .slice P2 a1.length d2, .int .i64 u1, .int .i64 v1, .bool g1] 25)).keep (w' := wr.alloc (.cells #[.int .i64 k1, .slice P1 s1.length d1, .slice P2 a1.length d2, .int .i64 u1, .int .i64 v1, .bool g1] 25)) hle1 fun bb hbb => ⟨rfl, fun o => (hold1 bb o (by have := (ho.out.blk hbb).2.1; omega)).trans ((ho.out.blk hbb).2.2 o)⟩
      obtain ⟨H2, hle2, hs2, ⟨A7, c7, e7, hsl⟩, -⟩ := ho1.freeze hx1.sat (by omega)
      cases e7
      have hhas := has_once (fun x => Re.mk k1 s1 a1 u1 v1 g1 = x) H2 (onceL (l.take k)) _ _ _ _ wr.heap.size hsl hs2 hln (fun a ha cs' w' hr' hs' => once1_any H2 (Re.mk k1 s1 a1 u1 v1 g1) a _ cs' wr.heap.size w' (BB.mono hle2) (hrd.mono (PH.le_trans hle1 hle2)) hr' hs')
      have hmm : (∃ a ∈ onceL (l.take k), Re.mk k1 s1 a1 u1 v1 g1 = a) ↔ Re.mk k1 s1 a1 u1 v1 g1 ∈ onceL (l.take k) := by simp
      have hby : Aside (((onceL (l.take k)).length + 1) * 80 ≤ 140737488355328 ∧ (onceL (l.take k)).length + 1 ≤ maxLen) := ⟨by omega, by unfold maxLen; omega⟩
      have kb := heap_alloc_new wr (.cells #[.int .i64 k1, .slice P1 s1.length d1, .slice P2 a1.length d2, .int .i64 u1, .int .i64 v1, .bool g1] 25)
      have HH := Aside.mk (And.intro hhas (And.intro htk (And.intro hrd (And.intro kb (ho.out.alloc hsr (.cells #[.int .i64 k1, .slice P1 s1.length d1, .slice P2 a1.length d2, .int .i64 u1, .int .i64 v1, .bool g1] 25))))))
      have HX := Aside.mk (bA hbr.out (.cells #[.int .i64 k1, .slice P1 s1.length d1, .slice P2 a1.length d2, .int .i64 u1, .int .i64 v1, .bool g1] 25))
      clear hx1 hle1 BB hold1 ho1 hle2 hs2 hsl hhas htk hrd kb hq
      generalize hoo : onceL (l.take k) = oo at *
      clear hoo
      go_wp2_with fail
      generalize (wr.alloc (.cells #[.int .i64 k1, .slice P1 s1.length d1, .slice P2 a1.length d2, .int .i64 u1, .int .i64 v1, .bool g1] 25)) = W1 at *
      refine HH.out.1.mono ?_
      rintro e w2 ⟨rfl, hb2⟩
      have ho2 := HH.out.2.2.2.2.below (hs.below HX.out) hb2
      have hx2 := bT HX.out hb2
      have k2 := box_below HH.out.2.2.2.1 hb2
      obtain ⟨⟨c0, c1, c2, c3, c4, c5⟩, -⟩ := kbox6 k2
      by_cases hp : Re.mk k1 s1 a1 u1 v1 g1 ∈ oo
      · rw [decide_eq_true (hmm.2 hp)]
        have HP := Aside.mk hp
        have HO := Aside.mk (And.intro ho2 (And.intro hx2 hmm))
        clear hp ho2 hx2 hb2 hmm k2
        go_wp2_with fail
        go_roundw
        case rel => exact ⟨k + 1, _, _, _, hlt2.out, by go_num, rfl, ⟨by rw [HH.out.2.1, if_pos HP.out]; exact HO.out.1⟩, ⟨HO.out.2.1⟩⟩
        case measure => (have := hlt2.out; simp [intOf]; omega)
      · rw [decide_eq_false (fun h => hp (hmm.1 h))]
        have HP := Aside.mk hp
        have hs3 := hs.below hx2
        have HO := Aside.mk (And.intro hx2 hmm)
        have hsz2 := hx2.size
        clear hp hb2 hmm k2 hx2
        have hrd2 := HH.out.2.2.1
        go_upto_region 7 with (at_builtin; go_must (refine wpList_app1 kRe rfl (.tmp 16) (.tmp 18) 23 rfl 25 Try.underlying23 info25 rfl ho2 hs3 rfl rfl rfl hrd2 hby.out.1 hby.out.2 hsz2 ?_); intro v9 w9 ho9 hg9 hs9 hn9)
        have hx9 := ho2.belowG HO.out.1 (Nat.le_refl _) hg9
        obtain ⟨A9, c9, rfl, -, -, -, -⟩ := ho9.form
        have HO9 := Aside.mk (And.intro ho9 hx9)
        clear ho9 hx9 hg9 hs9 hn9 ho2 hrd2
        go_wp2_with fail
        go_roundw
        case rel => exact ⟨k + 1, _, _, _, hlt2.out, by go_num, rfl, ⟨by rw [HH.out.2.1, if_neg HP.out]; exact HO9.out.1⟩, ⟨HO9.out.2⟩⟩
        case measure => (have := hlt2.out; simp [intOf]; omega)
    · obtain rfl : k = l.length := by omega
      go_wp2_with fail
      go_ret
      have h9 := ho.out
      rw [List.take_of_length_le (Nat.le_refl _)] at h9
      exact ⟨_, rfl, h9, hbr.out⟩
end Go.Proofs.Ytbnahmeaeakhhaa.B
