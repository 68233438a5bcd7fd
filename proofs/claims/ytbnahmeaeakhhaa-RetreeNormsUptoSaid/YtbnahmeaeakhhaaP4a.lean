/- Contracts: the reference's SpansEqual, ReEqual. Contracts: the reference's ruleMany. -/
import Derived.Test.YtbnahmeaeakhhaaN5
import Derived.Test.YtbnahmeaeakhhaaBd
import Derived.Deep.RegionHeld3
import Derived.Test.YtbnahmeaeakhhaaP3
namespace Go.Proofs.Ytbnahmeaeakhhaa.B
set_option linter.unusedVariables false
set_option linter.unusedSimpArgs false
open Go Go.RowKit Classical

set_option maxRecDepth 100000 in
set_option maxHeartbeats 4000000 in
/-- the reference: equal lists of spans -/
theorem spEq_any (H : PH) (xs ys : List Span) (A B : Option Addr) (n c m d : Nat) (w : World) (hx : SlR kSpan H A n c xs) (hy : SlR kSpan H B m d ys) (hs : Sat w H) :
    Calls Try.prog 93 #[.slice A n c, .slice B m d] w fun e w' => e = .returned (.bool (decide (xs = ys))) ∧ Below w.heap.size w w' := by
  have hx1 := hx.1
  have hy1 := hy.1
  have hc := hx.2.1
  have hd := hy.2.1
  have hlen := hx.2.2.2.1
  have hleny := hy.2.2.2.1
  by_cases hl : n = m
  · subst hl
    have HN := Aside.mk (And.intro hx1 hy1)
    clear hx1 hy1
    go_enter Try.func93, Try.ntmps93
    go_wp2_with fail
    go_loopw [13] (fun i wr => ∃ k : Nat, k ≤ n ∧ i = .int .i64 k ∧ Aside (xs.take k = ys.take k) ∧ Aside (Below w.heap.size w wr)) (fun i _ => n - (intOf i).toNat)
    case atStart => exact ⟨0, by omega, rfl, ⟨by simp⟩, ⟨Below.refl _ _⟩⟩
    case round =>
      obtain ⟨k, hk, rfl, he, hbr⟩ := hrel
      by_cases hlt : k < n
      · have hli : (k : Int) < (n : Int) := by omega
        have hkx : k < xs.length := by rw [← HN.out.1]; exact hlt
        have hky : k < ys.length := by rw [← HN.out.2]; exact hlt
        obtain ⟨b1, o1, lo1, hi1, rfl, e1, g0, g1⟩ := cell_span hx (hs.below hbr.out) k hkx
        obtain ⟨b2, o2, lo2, hi2, rfl, e2, g2, g3⟩ := cell_span hy (hs.below hbr.out) k hky
        have ht1 : xs.take (k + 1) = xs.take k ++ [⟨lo1, hi1⟩] := by rw [List.take_succ_eq_append_getElem hkx, e1]
        have ht2 : ys.take (k + 1) = ys.take k ++ [⟨lo2, hi2⟩] := by rw [List.take_succ_eq_append_getElem hky, e2]
        have HT := Aside.mk (And.intro ht1 (And.intro ht2 (And.intro hlt (And.intro (show xs[k] = ⟨lo1, hi1⟩ from e1) (And.intro (show ys[k] = ⟨lo2, hi2⟩ from e2) trivial)))))
        clear ht1 ht2
        by_cases hq : lo1 = lo2
        · by_cases hq2 : hi1 = hi2
          · subst hq
            subst hq2
            go_wp2_with fail
            go_quiet (fail)
            go_wp2_with fail
            go_roundw
            case rel => exact ⟨k + 1, HT.out.2.2.1, by go_num, ⟨by rw [HT.out.1, HT.out.2.1, he.out]⟩, ⟨hbr.out.drewN _⟩⟩
            case measure => (have := HT.out.2.2.1; simp [intOf]; omega)
          · subst hq
            have hn : (hi1 == hi2) = false := by simpa using hq2
            have hn2 : (hi1 != hi2) = true := by simpa using hq2
            have HQ := Aside.mk hq2
            clear hq2
            go_wp2_with fail
            go_quiet (fail)
            go_wp2_with fail
            go_ret
            exact ⟨by rw [decide_eq_false (fun e => HQ.out (by subst e; have := HT.out.2.2.2.1.symm.trans HT.out.2.2.2.2.1; simpa using this))]; rfl, hbr.out.drewN _⟩
        · have hn : (lo1 == lo2) = false := by simpa using hq
          have hn2 : (lo1 != lo2) = true := by simpa using hq
          have HQ := Aside.mk hq
          clear hq
          go_wp2_with fail
          go_quiet (fail)
          go_wp2_with fail
          go_ret
          exact ⟨by rw [decide_eq_false (fun e => HQ.out (by subst e; have := HT.out.2.2.2.1.symm.trans HT.out.2.2.2.2.1; simp at this; exact this.1))]; rfl, hbr.out.drewN _⟩
      · obtain rfl : k = n := by omega
        go_wp2_with fail
        go_ret
        have h9 := he.out
        rw [List.take_of_length_le (by rw [← HN.out.1]; exact Nat.le_refl _), List.take_of_length_le (by rw [← HN.out.2]; exact Nat.le_refl _)] at h9
        exact ⟨by rw [decide_eq_true h9]; rfl, hbr.out⟩
  · have hl2 : ¬ (n : Int) = (m : Int) := by omega
    have HL := Aside.mk (And.intro hl (And.intro hx1 hy1))
    clear hl hx1 hy1
    go_enter Try.func93, Try.ntmps93
    go_wp2_with fail
    go_ret
    exact ⟨by rw [decide_eq_false (fun e => HL.out.1 (by rw [HL.out.2.1, HL.out.2.2, e]))]; rfl, Below.refl _ _⟩
end Go.Proofs.Ytbnahmeaeakhhaa.B

namespace Go.Proofs.Ytbnahmeaeakhhaa.B
set_option linter.unusedVariables false
set_option linter.unusedSimpArgs false
open Go Go.RowKit Classical


def ReEqS (a : Re) : Prop := ∀ (H : PH) (b : Re) (ca cb : List Value) (w : World), RdRe H a ca → RdRe H b cb → Sat w H →
  Calls Try.prog 34 #[.agg ca.toArray, .agg cb.toArray] w fun e w' => e = .returned (.bool (decide (a = b))) ∧ Below w.heap.size w w'

set_option maxRecDepth 100000 in
set_option maxHeartbeats 16000000 in
theorem reEq_any (a : Re) : ReEqS a := by
  induction a using Re.ind with
  | h k1 s1 l1 m1 x1 n1 ih =>
  intro H b ca cb w ha hb hs
  cases b with
  | mk k2 s2 l2 m2 x2 n2 =>
  obtain ⟨A1, c1, A2, c2, rfl, h1, h2⟩ := ha.open
  obtain ⟨B1, d1, B2, d2, rfl, h3, h4⟩ := hb.open
  clear ha hb
  replace ih := Aside.mk ih
  by_cases e1 : k1 = k2
  case neg =>
    have HB := Aside.mk e1
    go_enter Try.func34, Try.ntmps34
    go_wp2_with fail
    go_ret
    exact ⟨decF (fun e => HB.out (by injection e)), bA (bA (Below.refl _ _) _) _⟩
  subst e1
  by_cases e0 : l1.length = l2.length
  case neg =>
    have HB := Aside.mk e0
    have e0i : ¬ (l1.length : Int) = (l2.length : Int) := by omega
    have e0b : ((l1.length : Int) == (l2.length : Int)) = false := by simp; omega
    have e0c : ((l1.length : Int) != (l2.length : Int)) = true := by simp; omega
    have hx := Aside.mk (Ext.refl hs)
    replace h1 := Aside.mk h1
    replace h2 := Aside.mk h2
    replace h3 := Aside.mk h3
    replace h4 := Aside.mk h4
    go_enter Try.func34, Try.ntmps34
    go_wp2_with fail
    have hszw := hx.out.size
    have ka_ : ((w.alloc (.cells #[.int .i64 k1, .slice A1 s1.length c1, .slice A2 l1.length c2, .int .i64 m1, .int .i64 x1, .bool n1] 25)).alloc (.cells #[.int .i64 k1, .slice B1 s2.length d1, .slice B2 l2.length d2, .int .i64 m2, .int .i64 x2, .bool n2] 25)).heap[w.heap.size]? = some (.cells #[.int .i64 k1, .slice A1 s1.length c1, .slice A2 l1.length c2, .int .i64 m1, .int .i64 x1, .bool n1] 25) := (boxA (heap_alloc_new _ _) (.cells #[.int .i64 k1, .slice B1 s2.length d1, .slice B2 l2.length d2, .int .i64 m2, .int .i64 x2, .bool n2] 25))
    have kb_ : ((w.alloc (.cells #[.int .i64 k1, .slice A1 s1.length c1, .slice A2 l1.length c2, .int .i64 m1, .int .i64 x1, .bool n1] 25)).alloc (.cells #[.int .i64 k1, .slice B1 s2.length d1, .slice B2 l2.length d2, .int .i64 m2, .int .i64 x2, .bool n2] 25)).heap[w.heap.size + 1]? = some (.cells #[.int .i64 k1, .slice B1 s2.length d1, .slice B2 l2.length d2, .int .i64 m2, .int .i64 x2, .bool n2] 25) := (by rw [show w.heap.size + 1 = ((w.alloc (.cells #[.int .i64 k1, .slice A1 s1.length c1, .slice A2 l1.length c2, .int .i64 m1, .int .i64 x1, .bool n1] 25))).heap.size by simp]; exact heap_alloc_new _ _)
    have na := Aside.mk (fun o => hx.out.sat.new (b := w.heap.size) (show w.heap.size ≤ _ by omega) o)
    have nb := Aside.mk (fun o => hx.out.sat.new (b := w.heap.size + 1) (show w.heap.size ≤ _ by omega) o)
    replace hx := Aside.mk (((hx.out.alloc (.cells #[.int .i64 k1, .slice A1 s1.length c1, .slice A2 l1.length c2, .int .i64 m1, .int .i64 x1, .bool n1] 25)).alloc (.cells #[.int .i64 k1, .slice B1 s2.length d1, .slice B2 l2.length d2, .int .i64 m2, .int .i64 x2, .bool n2] 25)))
    generalize ((w.alloc (.cells #[.int .i64 k1, .slice A1 s1.length c1, .slice A2 l1.length c2, .int .i64 m1, .int .i64 x1, .bool n1] 25)).alloc (.cells #[.int .i64 k1, .slice B1 s2.length d1, .slice B2 l2.length d2, .int .i64 m2, .int .i64 x2, .bool n2] 25)) = W1 at *
    have ka := Aside.mk ka_
    clear ka_
    have kb := Aside.mk kb_
    clear kb_
    obtain ⟨H1, hx2, hle, Ba, hold⟩ := box_freeze hx.out (by omega) ka.out na.out
    replace h1 := Aside.mk (h1.out.mono hle)
    replace h2 := Aside.mk (h2.out.mono hle)
    replace h3 := Aside.mk (h3.out.mono hle)
    replace h4 := Aside.mk (h4.out.mono hle)
    replace nb := Aside.mk (fun o => (hold _ o (by omega)).trans (nb.out o))
    replace hx := Aside.mk hx2
    replace Ba := Aside.mk Ba
    clear hle hold hx2 ka na
    obtain ⟨H1, hx2, hle, Bb, hold⟩ := box_freeze hx.out (by omega) kb.out nb.out
    replace h1 := Aside.mk (h1.out.mono hle)
    replace h2 := Aside.mk (h2.out.mono hle)
    replace h3 := Aside.mk (h3.out.mono hle)
    replace h4 := Aside.mk (h4.out.mono hle)
    replace Ba := Aside.mk (Ba.out.mono hle)
    replace hx := Aside.mk hx2
    replace Bb := Aside.mk Bb
    clear hle hold hx2 kb nb
    refine (spEq_any _ s1 s2 A1 B1 _ c1 _ d1 _ h1.out h3.out hx.out.sat).mono ?_
    rintro e w2 ⟨rfl, hb2⟩
    replace hx := Aside.mk (hx.out.then_below hb2)
    clear hb2
    by_cases e5 : s1 = s2
    case neg =>
      have HB2 := Aside.mk e5
      rw [decide_eq_false e5]
      clear e5
      have lqa : w.heap.size < w2.heap.size := hx.out.sat.lt (Ba.out 0 _ rfl)
      obtain ⟨ca0, ca1, ca2, ca3, ca4, ca5⟩ := hb6 hx.out.sat Ba.out
      have lqb : w.heap.size + 1 < w2.heap.size := hx.out.sat.lt (Bb.out 0 _ rfl)
      obtain ⟨cb0, cb1, cb2, cb3, cb4, cb5⟩ := hb6 hx.out.sat Bb.out
      go_wp2_with fail
      go_ret
      exact ⟨decF (fun e => HB2.out (by injection e)), hx.out.below⟩
    rw [decide_eq_true e5]
    have HS := Aside.mk e5
    clear e5
    have lqa : w.heap.size < w2.heap.size := hx.out.sat.lt (Ba.out 0 _ rfl)
    obtain ⟨ca0, ca1, ca2, ca3, ca4, ca5⟩ := hb6 hx.out.sat Ba.out
    have lqb : w.heap.size + 1 < w2.heap.size := hx.out.sat.lt (Bb.out 0 _ rfl)
    obtain ⟨cb0, cb1, cb2, cb3, cb4, cb5⟩ := hb6 hx.out.sat Bb.out
    go_wp2_with fail
    go_ret
    exact ⟨decF (fun e => HB.out (by injection e with _ _ e; rw [e])), hx.out.below⟩
  rw [← e0] at h4 ⊢
  replace e0 := Aside.mk e0
  by_cases e2 : m1 = m2
  case neg =>
    have HB := Aside.mk e2
    have hx := Aside.mk (Ext.refl hs)
    replace h1 := Aside.mk h1
    replace h2 := Aside.mk h2
    replace h3 := Aside.mk h3
    replace h4 := Aside.mk h4
    go_enter Try.func34, Try.ntmps34
    go_wp2_with fail
    have hszw := hx.out.size
    have ka_ : ((w.alloc (.cells #[.int .i64 k1, .slice A1 s1.length c1, .slice A2 l1.length c2, .int .i64 m1, .int .i64 x1, .bool n1] 25)).alloc (.cells #[.int .i64 k1, .slice B1 s2.length d1, .slice B2 l1.length d2, .int .i64 m2, .int .i64 x2, .bool n2] 25)).heap[w.heap.size]? = some (.cells #[.int .i64 k1, .slice A1 s1.length c1, .slice A2 l1.length c2, .int .i64 m1, .int .i64 x1, .bool n1] 25) := (boxA (heap_alloc_new _ _) (.cells #[.int .i64 k1, .slice B1 s2.length d1, .slice B2 l1.length d2, .int .i64 m2, .int .i64 x2, .bool n2] 25))
    have kb_ : ((w.alloc (.cells #[.int .i64 k1, .slice A1 s1.length c1, .slice A2 l1.length c2, .int .i64 m1, .int .i64 x1, .bool n1] 25)).alloc (.cells #[.int .i64 k1, .slice B1 s2.length d1, .slice B2 l1.length d2, .int .i64 m2, .int .i64 x2, .bool n2] 25)).heap[w.heap.size + 1]? = some (.cells #[.int .i64 k1, .slice B1 s2.length d1, .slice B2 l1.length d2, .int .i64 m2, .int .i64 x2, .bool n2] 25) := (by rw [show w.heap.size + 1 = ((w.alloc (.cells #[.int .i64 k1, .slice A1 s1.length c1, .slice A2 l1.length c2, .int .i64 m1, .int .i64 x1, .bool n1] 25))).heap.size by simp]; exact heap_alloc_new _ _)
    have na := Aside.mk (fun o => hx.out.sat.new (b := w.heap.size) (show w.heap.size ≤ _ by omega) o)
    have nb := Aside.mk (fun o => hx.out.sat.new (b := w.heap.size + 1) (show w.heap.size ≤ _ by omega) o)
    replace hx := Aside.mk (((hx.out.alloc (.cells #[.int .i64 k1, .slice A1 s1.length c1, .slice A2 l1.length c2, .int .i64 m1, .int .i64 x1, .bool n1] 25)).alloc (.cells #[.int .i64 k1, .slice B1 s2.length d1, .slice B2 l1.length d2, .int .i64 m2, .int .i64 x2, .bool n2] 25)))
    generalize ((w.alloc (.cells #[.int .i64 k1, .slice A1 s1.length c1, .slice A2 l1.length c2, .int .i64 m1, .int .i64 x1, .bool n1] 25)).alloc (.cells #[.int .i64 k1, .slice B1 s2.length d1, .slice B2 l1.length d2, .int .i64 m2, .int .i64 x2, .bool n2] 25)) = W2 at *
    have ka := Aside.mk ka_
    clear ka_
    have kb := Aside.mk kb_
    clear kb_
    obtain ⟨H1, hx2, hle, Ba, hold⟩ := box_freeze hx.out (by omega) ka.out na.out
    replace h1 := Aside.mk (h1.out.mono hle)
    replace h2 := Aside.mk (h2.out.mono hle)
    replace h3 := Aside.mk (h3.out.mono hle)
    replace h4 := Aside.mk (h4.out.mono hle)
    replace nb := Aside.mk (fun o => (hold _ o (by omega)).trans (nb.out o))
    replace hx := Aside.mk hx2
    replace Ba := Aside.mk Ba
    clear hle hold hx2 ka na
    obtain ⟨H1, hx2, hle, Bb, hold⟩ := box_freeze hx.out (by omega) kb.out nb.out
    replace h1 := Aside.mk (h1.out.mono hle)
    replace h2 := Aside.mk (h2.out.mono hle)
    replace h3 := Aside.mk (h3.out.mono hle)
    replace h4 := Aside.mk (h4.out.mono hle)
    replace Ba := Aside.mk (Ba.out.mono hle)
    replace hx := Aside.mk hx2
    replace Bb := Aside.mk Bb
    clear hle hold hx2 kb nb
    refine (spEq_any _ s1 s2 A1 B1 _ c1 _ d1 _ h1.out h3.out hx.out.sat).mono ?_
    rintro e w2 ⟨rfl, hb2⟩
    replace hx := Aside.mk (hx.out.then_below hb2)
    clear hb2
    by_cases e5 : s1 = s2
    case neg =>
      have HB2 := Aside.mk e5
      rw [decide_eq_false e5]
      clear e5
      have lqa : w.heap.size < w2.heap.size := hx.out.sat.lt (Ba.out 0 _ rfl)
      obtain ⟨ca0, ca1, ca2, ca3, ca4, ca5⟩ := hb6 hx.out.sat Ba.out
      have lqb : w.heap.size + 1 < w2.heap.size := hx.out.sat.lt (Bb.out 0 _ rfl)
      obtain ⟨cb0, cb1, cb2, cb3, cb4, cb5⟩ := hb6 hx.out.sat Bb.out
      go_wp2_with fail
      go_ret
      exact ⟨decF (fun e => HB2.out (by injection e)), hx.out.below⟩
    rw [decide_eq_true e5]
    have HS := Aside.mk e5
    clear e5
    have lqa : w.heap.size < w2.heap.size := hx.out.sat.lt (Ba.out 0 _ rfl)
    obtain ⟨ca0, ca1, ca2, ca3, ca4, ca5⟩ := hb6 hx.out.sat Ba.out
    have lqb : w.heap.size + 1 < w2.heap.size := hx.out.sat.lt (Bb.out 0 _ rfl)
    obtain ⟨cb0, cb1, cb2, cb3, cb4, cb5⟩ := hb6 hx.out.sat Bb.out
    go_wp2_with fail
    go_ret
    exact ⟨decF (fun e => HB.out (by injection e)), hx.out.below⟩
  subst e2
  by_cases e3 : x1 = x2
  case neg =>
    have HB := Aside.mk e3
    have hx := Aside.mk (Ext.refl hs)
    replace h1 := Aside.mk h1
    replace h2 := Aside.mk h2
    replace h3 := Aside.mk h3
    replace h4 := Aside.mk h4
    go_enter Try.func34, Try.ntmps34
    go_wp2_with fail
    have hszw := hx.out.size
    have ka_ : ((w.alloc (.cells #[.int .i64 k1, .slice A1 s1.length c1, .slice A2 l1.length c2, .int .i64 m1, .int .i64 x1, .bool n1] 25)).alloc (.cells #[.int .i64 k1, .slice B1 s2.length d1, .slice B2 l1.length d2, .int .i64 m1, .int .i64 x2, .bool n2] 25)).heap[w.heap.size]? = some (.cells #[.int .i64 k1, .slice A1 s1.length c1, .slice A2 l1.length c2, .int .i64 m1, .int .i64 x1, .bool n1] 25) := (boxA (heap_alloc_new _ _) (.cells #[.int .i64 k1, .slice B1 s2.length d1, .slice B2 l1.length d2, .int .i64 m1, .int .i64 x2, .bool n2] 25))
    have kb_ : ((w.alloc (.cells #[.int .i64 k1, .slice A1 s1.length c1, .slice A2 l1.length c2, .int .i64 m1, .int .i64 x1, .bool n1] 25)).alloc (.cells #[.int .i64 k1, .slice B1 s2.length d1, .slice B2 l1.length d2, .int .i64 m1, .int .i64 x2, .bool n2] 25)).heap[w.heap.size + 1]? = some (.cells #[.int .i64 k1, .slice B1 s2.length d1, .slice B2 l1.length d2, .int .i64 m1, .int .i64 x2, .bool n2] 25) := (by rw [show w.heap.size + 1 = ((w.alloc (.cells #[.int .i64 k1, .slice A1 s1.length c1, .slice A2 l1.length c2, .int .i64 m1, .int .i64 x1, .bool n1] 25))).heap.size by simp]; exact heap_alloc_new _ _)
    have na := Aside.mk (fun o => hx.out.sat.new (b := w.heap.size) (show w.heap.size ≤ _ by omega) o)
    have nb := Aside.mk (fun o => hx.out.sat.new (b := w.heap.size + 1) (show w.heap.size ≤ _ by omega) o)
    replace hx := Aside.mk (((hx.out.alloc (.cells #[.int .i64 k1, .slice A1 s1.length c1, .slice A2 l1.length c2, .int .i64 m1, .int .i64 x1, .bool n1] 25)).alloc (.cells #[.int .i64 k1, .slice B1 s2.length d1, .slice B2 l1.length d2, .int .i64 m1, .int .i64 x2, .bool n2] 25)))
    generalize ((w.alloc (.cells #[.int .i64 k1, .slice A1 s1.length c1, .slice A2 l1.length c2, .int .i64 m1, .int .i64 x1, .bool n1] 25)).alloc (.cells #[.int .i64 k1, .slice B1 s2.length d1, .slice B2 l1.length d2, .int .i64 m1, .int .i64 x2, .bool n2] 25)) = W3 at *
    have ka := Aside.mk ka_
    clear ka_
    have kb := Aside.mk kb_
    clear kb_
    obtain ⟨H1, hx2, hle, Ba, hold⟩ := box_freeze hx.out (by omega) ka.out na.out
    replace h1 := Aside.mk (h1.out.mono hle)
    replace h2 := Aside.mk (h2.out.mono hle)
    replace h3 := Aside.mk (h3.out.mono hle)
    replace h4 := Aside.mk (h4.out.mono hle)
    replace nb := Aside.mk (fun o => (hold _ o (by omega)).trans (nb.out o))
    replace hx := Aside.mk hx2
    replace Ba := Aside.mk Ba
    clear hle hold hx2 ka na
    obtain ⟨H1, hx2, hle, Bb, hold⟩ := box_freeze hx.out (by omega) kb.out nb.out
    replace h1 := Aside.mk (h1.out.mono hle)
    replace h2 := Aside.mk (h2.out.mono hle)
    replace h3 := Aside.mk (h3.out.mono hle)
    replace h4 := Aside.mk (h4.out.mono hle)
    replace Ba := Aside.mk (Ba.out.mono hle)
    replace hx := Aside.mk hx2
    replace Bb := Aside.mk Bb
    clear hle hold hx2 kb nb
    refine (spEq_any _ s1 s2 A1 B1 _ c1 _ d1 _ h1.out h3.out hx.out.sat).mono ?_
    rintro e w2 ⟨rfl, hb2⟩
    replace hx := Aside.mk (hx.out.then_below hb2)
    clear hb2
    by_cases e5 : s1 = s2
    case neg =>
      have HB2 := Aside.mk e5
      rw [decide_eq_false e5]
      clear e5
      have lqa : w.heap.size < w2.heap.size := hx.out.sat.lt (Ba.out 0 _ rfl)
      obtain ⟨ca0, ca1, ca2, ca3, ca4, ca5⟩ := hb6 hx.out.sat Ba.out
      have lqb : w.heap.size + 1 < w2.heap.size := hx.out.sat.lt (Bb.out 0 _ rfl)
      obtain ⟨cb0, cb1, cb2, cb3, cb4, cb5⟩ := hb6 hx.out.sat Bb.out
      go_wp2_with fail
      go_ret
      exact ⟨decF (fun e => HB2.out (by injection e)), hx.out.below⟩
    rw [decide_eq_true e5]
    have HS := Aside.mk e5
    clear e5
    have lqa : w.heap.size < w2.heap.size := hx.out.sat.lt (Ba.out 0 _ rfl)
    obtain ⟨ca0, ca1, ca2, ca3, ca4, ca5⟩ := hb6 hx.out.sat Ba.out
    have lqb : w.heap.size + 1 < w2.heap.size := hx.out.sat.lt (Bb.out 0 _ rfl)
    obtain ⟨cb0, cb1, cb2, cb3, cb4, cb5⟩ := hb6 hx.out.sat Bb.out
    go_wp2_with fail
    go_ret
    exact ⟨decF (fun e => HB.out (by injection e)), hx.out.below⟩
  subst e3
  by_cases e4 : n1 = n2
  case neg =>
    have HB := Aside.mk e4
    have hn4 : (n1 == n2) = false := by cases n1 <;> cases n2 <;> simp_all
    have hn5 : (n1 != n2) = true := by cases n1 <;> cases n2 <;> simp_all
    clear e4
    have hx := Aside.mk (Ext.refl hs)
    replace h1 := Aside.mk h1
    replace h2 := Aside.mk h2
    replace h3 := Aside.mk h3
    replace h4 := Aside.mk h4
    go_enter Try.func34, Try.ntmps34
    go_wp2_with fail
    have hszw := hx.out.size
    have ka_ : ((w.alloc (.cells #[.int .i64 k1, .slice A1 s1.length c1, .slice A2 l1.length c2, .int .i64 m1, .int .i64 x1, .bool n1] 25)).alloc (.cells #[.int .i64 k1, .slice B1 s2.length d1, .slice B2 l1.length d2, .int .i64 m1, .int .i64 x1, .bool n2] 25)).heap[w.heap.size]? = some (.cells #[.int .i64 k1, .slice A1 s1.length c1, .slice A2 l1.length c2, .int .i64 m1, .int .i64 x1, .bool n1] 25) := (boxA (heap_alloc_new _ _) (.cells #[.int .i64 k1, .slice B1 s2.length d1, .slice B2 l1.length d2, .int .i64 m1, .int .i64 x1, .bool n2] 25))
    have kb_ : ((w.alloc (.cells #[.int .i64 k1, .slice A1 s1.length c1, .slice A2 l1.length c2, .int .i64 m1, .int .i64 x1, .bool n1] 25)).alloc (.cells #[.int .i64 k1, .slice B1 s2.length d1, .slice B2 l1.length d2, .int .i64 m1, .int .i64 x1, .bool n2] 25)).heap[w.heap.size + 1]? = some (.cells #[.int .i64 k1, .slice B1 s2.length d1, .slice B2 l1.length d2, .int .i64 m1, .int .i64 x1, .bool n2] 25) := (by rw [show w.heap.size + 1 = ((w.alloc (.cells #[.int .i64 k1, .slice A1 s1.length c1, .slice A2 l1.length c2, .int .i64 m1, .int .i64 x1, .bool n1] 25))).heap.size by simp]; exact heap_alloc_new _ _)
    have na := Aside.mk (fun o => hx.out.sat.new (b := w.heap.size) (show w.heap.size ≤ _ by omega) o)
    have nb := Aside.mk (fun o => hx.out.sat.new (b := w.heap.size + 1) (show w.heap.size ≤ _ by omega) o)
    replace hx := Aside.mk (((hx.out.alloc (.cells #[.int .i64 k1, .slice A1 s1.length c1, .slice A2 l1.length c2, .int .i64 m1, .int .i64 x1, .bool n1] 25)).alloc (.cells #[.int .i64 k1, .slice B1 s2.length d1, .slice B2 l1.length d2, .int .i64 m1, .int .i64 x1, .bool n2] 25)))
    generalize ((w.alloc (.cells #[.int .i64 k1, .slice A1 s1.length c1, .slice A2 l1.length c2, .int .i64 m1, .int .i64 x1, .bool n1] 25)).alloc (.cells #[.int .i64 k1, .slice B1 s2.length d1, .slice B2 l1.length d2, .int .i64 m1, .int .i64 x1, .bool n2] 25)) = W4 at *
    have ka := Aside.mk ka_
    clear ka_
    have kb := Aside.mk kb_
    clear kb_
    obtain ⟨H1, hx2, hle, Ba, hold⟩ := box_freeze hx.out (by omega) ka.out na.out
    replace h1 := Aside.mk (h1.out.mono hle)
    replace h2 := Aside.mk (h2.out.mono hle)
    replace h3 := Aside.mk (h3.out.mono hle)
    replace h4 := Aside.mk (h4.out.mono hle)
    replace nb := Aside.mk (fun o => (hold _ o (by omega)).trans (nb.out o))
    replace hx := Aside.mk hx2
    replace Ba := Aside.mk Ba
    clear hle hold hx2 ka na
    obtain ⟨H1, hx2, hle, Bb, hold⟩ := box_freeze hx.out (by omega) kb.out nb.out
    replace h1 := Aside.mk (h1.out.mono hle)
    replace h2 := Aside.mk (h2.out.mono hle)
    replace h3 := Aside.mk (h3.out.mono hle)
    replace h4 := Aside.mk (h4.out.mono hle)
    replace Ba := Aside.mk (Ba.out.mono hle)
    replace hx := Aside.mk hx2
    replace Bb := Aside.mk Bb
    clear hle hold hx2 kb nb
    refine (spEq_any _ s1 s2 A1 B1 _ c1 _ d1 _ h1.out h3.out hx.out.sat).mono ?_
    rintro e w2 ⟨rfl, hb2⟩
    replace hx := Aside.mk (hx.out.then_below hb2)
    clear hb2
    by_cases e5 : s1 = s2
    case neg =>
      have HB2 := Aside.mk e5
      rw [decide_eq_false e5]
      clear e5
      have lqa : w.heap.size < w2.heap.size := hx.out.sat.lt (Ba.out 0 _ rfl)
      obtain ⟨ca0, ca1, ca2, ca3, ca4, ca5⟩ := hb6 hx.out.sat Ba.out
      have lqb : w.heap.size + 1 < w2.heap.size := hx.out.sat.lt (Bb.out 0 _ rfl)
      obtain ⟨cb0, cb1, cb2, cb3, cb4, cb5⟩ := hb6 hx.out.sat Bb.out
      go_wp2_with fail
      go_ret
      exact ⟨decF (fun e => HB2.out (by injection e)), hx.out.below⟩
    rw [decide_eq_true e5]
    have HS := Aside.mk e5
    clear e5
    have lqa : w.heap.size < w2.heap.size := hx.out.sat.lt (Ba.out 0 _ rfl)
    obtain ⟨ca0, ca1, ca2, ca3, ca4, ca5⟩ := hb6 hx.out.sat Ba.out
    have lqb : w.heap.size + 1 < w2.heap.size := hx.out.sat.lt (Bb.out 0 _ rfl)
    obtain ⟨cb0, cb1, cb2, cb3, cb4, cb5⟩ := hb6 hx.out.sat Bb.out
    go_wp2_with fail
    go_ret
    exact ⟨decF (fun e => HB.out (by injection e)), hx.out.below⟩
  subst e4
  have hn4 : (n1 == n1) = true := by cases n1 <;> rfl
  have hn5 : (n1 != n1) = false := by cases n1 <;> rfl
  have hx := Aside.mk (Ext.refl hs)
  replace h1 := Aside.mk h1
  replace h2 := Aside.mk h2
  replace h3 := Aside.mk h3
  replace h4 := Aside.mk h4
  go_enter Try.func34, Try.ntmps34
  go_wp2_with fail
  have hszw := hx.out.size
  have ka_ : ((w.alloc (.cells #[.int .i64 k1, .slice A1 s1.length c1, .slice A2 l1.length c2, .int .i64 m1, .int .i64 x1, .bool n1] 25)).alloc (.cells #[.int .i64 k1, .slice B1 s2.length d1, .slice B2 l1.length d2, .int .i64 m1, .int .i64 x1, .bool n1] 25)).heap[w.heap.size]? = some (.cells #[.int .i64 k1, .slice A1 s1.length c1, .slice A2 l1.length c2, .int .i64 m1, .int .i64 x1, .bool n1] 25) := (boxA (heap_alloc_new _ _) (.cells #[.int .i64 k1, .slice B1 s2.length d1, .slice B2 l1.length d2, .int .i64 m1, .int .i64 x1, .bool n1] 25))
  have kb_ : ((w.alloc (.cells #[.int .i64 k1, .slice A1 s1.length c1, .slice A2 l1.length c2, .int .i64 m1, .int .i64 x1, .bool n1] 25)).alloc (.cells #[.int .i64 k1, .slice B1 s2.length d1, .slice B2 l1.length d2, .int .i64 m1, .int .i64 x1, .bool n1] 25)).heap[w.heap.size + 1]? = some (.cells #[.int .i64 k1, .slice B1 s2.length d1, .slice B2 l1.length d2, .int .i64 m1, .int .i64 x1, .bool n1] 25) := (by rw [show w.heap.size + 1 = ((w.alloc (.cells #[.int .i64 k1, .slice A1 s1.length c1, .slice A2 l1.length c2, .int .i64 m1, .int .i64 x1, .bool n1] 25))).heap.size by simp]; exact heap_alloc_new _ _)
  have na := Aside.mk (fun o => hx.out.sat.new (b := w.heap.size) (show w.heap.size ≤ _ by omega) o)
  have nb := Aside.mk (fun o => hx.out.sat.new (b := w.heap.size + 1) (show w.heap.size ≤ _ by omega) o)
  replace hx := Aside.mk (((hx.out.alloc (.cells #[.int .i64 k1, .slice A1 s1.length c1, .slice A2 l1.length c2, .int .i64 m1, .int .i64 x1, .bool n1] 25)).alloc (.cells #[.int .i64 k1, .slice B1 s2.length d1, .slice B2 l1.length d2, .int .i64 m1, .int .i64 x1, .bool n1] 25)))
  generalize ((w.alloc (.cells #[.int .i64 k1, .slice A1 s1.length c1, .slice A2 l1.length c2, .int .i64 m1, .int .i64 x1, .bool n1] 25)).alloc (.cells #[.int .i64 k1, .slice B1 s2.length d1, .slice B2 l1.length d2, .int .i64 m1, .int .i64 x1, .bool n1] 25)) = W5 at *
  have ka := Aside.mk ka_
  clear ka_
  have kb := Aside.mk kb_
  clear kb_
  obtain ⟨H1, hx2, hle, Ba, hold⟩ := box_freeze hx.out (by omega) ka.out na.out
  replace h1 := Aside.mk (h1.out.mono hle)
  replace h2 := Aside.mk (h2.out.mono hle)
  replace h3 := Aside.mk (h3.out.mono hle)
  replace h4 := Aside.mk (h4.out.mono hle)
  replace nb := Aside.mk (fun o => (hold _ o (by omega)).trans (nb.out o))
  replace hx := Aside.mk hx2
  replace Ba := Aside.mk Ba
  clear hle hold hx2 ka na
  obtain ⟨H1, hx2, hle, Bb, hold⟩ := box_freeze hx.out (by omega) kb.out nb.out
  replace h1 := Aside.mk (h1.out.mono hle)
  replace h2 := Aside.mk (h2.out.mono hle)
  replace h3 := Aside.mk (h3.out.mono hle)
  replace h4 := Aside.mk (h4.out.mono hle)
  replace Ba := Aside.mk (Ba.out.mono hle)
  replace hx := Aside.mk hx2
  replace Bb := Aside.mk Bb
  clear hle hold hx2 kb nb
  refine (spEq_any _ s1 s2 A1 B1 _ c1 _ d1 _ h1.out h3.out hx.out.sat).mono ?_
  rintro e w2 ⟨rfl, hb2⟩
  replace hx := Aside.mk (hx.out.then_below hb2)
  clear hb2
  by_cases e5 : s1 = s2
  case neg =>
    have HB2 := Aside.mk e5
    rw [decide_eq_false e5]
    clear e5
    have lqa : w.heap.size < w2.heap.size := hx.out.sat.lt (Ba.out 0 _ rfl)
    obtain ⟨ca0, ca1, ca2, ca3, ca4, ca5⟩ := hb6 hx.out.sat Ba.out
    have lqb : w.heap.size + 1 < w2.heap.size := hx.out.sat.lt (Bb.out 0 _ rfl)
    obtain ⟨cb0, cb1, cb2, cb3, cb4, cb5⟩ := hb6 hx.out.sat Bb.out
    go_wp2_with fail
    go_ret
    exact ⟨decF (fun e => HB2.out (by injection e)), hx.out.below⟩
  rw [decide_eq_true e5]
  have HS := Aside.mk e5
  clear e5
  have hl48 : l1.length ≤ 140737488355328 := h2.out.2.2.2.1
  have hc2 := h2.out.2.1
  have hd2 := h4.out.2.1
  clear h1 h3
  have lqa : w.heap.size < w2.heap.size := hx.out.sat.lt (Ba.out 0 _ rfl)
  obtain ⟨ca0, ca1, ca2, ca3, ca4, ca5⟩ := hb6 hx.out.sat Ba.out
  have lqb : w.heap.size + 1 < w2.heap.size := hx.out.sat.lt (Bb.out 0 _ rfl)
  obtain ⟨cb0, cb1, cb2, cb3, cb4, cb5⟩ := hb6 hx.out.sat Bb.out
  go_wp2_with fail
  clear lqa ca0 ca1 ca2 ca3 ca4 ca5 lqb cb0 cb1 cb2 cb3 cb4 cb5
  go_loopw [52] (fun i wr => ∃ (k : Nat) (Hk : PH), k ≤ l1.length ∧ i = .int .i64 k ∧ Aside (l1.take k = l2.take k) ∧ Aside (Ext H Hk w wr) ∧ Aside (SlR kRe Hk A2 l1.length c2 l1) ∧ Aside (SlR kRe Hk B2 l1.length d2 l2) ∧ Aside (BoxH Hk (w.heap.size) [.int .i64 k1, .slice A1 s1.length c1, .slice A2 l1.length c2, .int .i64 m1, .int .i64 x1, .bool n1]) ∧ Aside (BoxH Hk (w.heap.size + 1) [.int .i64 k1, .slice B1 s2.length d1, .slice B2 l1.length d2, .int .i64 m1, .int .i64 x1, .bool n1])) (fun i _ => l1.length - (intOf i).toNat)
  case atStart => exact ⟨0, _, by omega, rfl, ⟨by simp⟩, hx, h2, h4, Ba, Bb⟩
  case round =>
    clear hx h2 h4 Ba Bb
    obtain ⟨k, Hk, hk, rfl, he, hx, h2, h4, Ba, Bb⟩ := hrel
    by_cases hlt : k < l1.length
    case pos =>
      have hky : k < l2.length := by rw [← e0.out]; exact hlt
      obtain ⟨b, off, k3, s3, a3, u3, v3, g3, P1, p1, P2, p2, rfl, q1, hrd1, y0, y1, y2, y3, y4, y5⟩ := cell_elem h2.out hx.out.sat k hlt
      obtain ⟨b', off', k4, s4, a4, u4, v4, g4, R1, r1, R2, r2, rfl, q2, hrd2, z0, z1, z2, z3, z4, z5⟩ := cell_elem h4.out hx.out.sat k hky
      have ht1 : l1.take (k + 1) = l1.take k ++ [l1[k]] := List.take_succ_eq_append_getElem hlt
      have ht2 : l2.take (k + 1) = l2.take k ++ [l2[k]] := List.take_succ_eq_append_getElem hky
      have hcall := fun w' hs' => ih.out _ (List.getElem_mem hlt) _ _ _ _ w' (q1 ▸ hrd1) hrd2 hs'
      have hbz : b < wr.heap.size := World.block_lt_of_cell? wr _ y0
      have hbz' : b' < wr.heap.size := World.block_lt_of_cell? wr _ z0
      have HS2 := Aside.mk (fun w' (hb : Below wr.heap.size wr w') => hx.out.sat.below hb)
      have HK : Aside (∀ w', Below wr.heap.size wr w' → w'.cell? ⟨w.heap.size, 2, none⟩ = some (.slice (some ⟨b, off, none⟩) l1.length c2) ∧ w'.cell? ⟨w.heap.size + 1, 2, none⟩ = some (.slice (some ⟨b', off', none⟩) l1.length d2) ∧ w'.cell? ⟨b, off + k * 6, none⟩ = some (.int .i64 k3) ∧ w'.cell? ⟨b, off + k * 6 + 1, none⟩ = some (.slice P1 s3.length p1) ∧ w'.cell? ⟨b, off + k * 6 + 2, none⟩ = some (.slice P2 a3.length p2) ∧ w'.cell? ⟨b, off + k * 6 + 3, none⟩ = some (.int .i64 u3) ∧ w'.cell? ⟨b, off + k * 6 + 4, none⟩ = some (.int .i64 v3) ∧ w'.cell? ⟨b, off + k * 6 + 5, none⟩ = some (.bool g3) ∧ w'.cell? ⟨b', off' + k * 6, none⟩ = some (.int .i64 k4) ∧ w'.cell? ⟨b', off' + k * 6 + 1, none⟩ = some (.slice R1 s4.length r1) ∧ w'.cell? ⟨b', off' + k * 6 + 2, none⟩ = some (.slice R2 a4.length r2) ∧ w'.cell? ⟨b', off' + k * 6 + 3, none⟩ = some (.int .i64 u4) ∧ w'.cell? ⟨b', off' + k * 6 + 4, none⟩ = some (.int .i64 v4) ∧ w'.cell? ⟨b', off' + k * 6 + 5, none⟩ = some (.bool g4)) := ⟨fun w' hb => by
        have qa := at6 (HS2.out _ hb) Ba.out
        have qb := at6 (HS2.out _ hb) Bb.out
        simp only [Nat.add_zero, Nat.zero_add] at qa qb
        refine ⟨qa.2.2.1, qb.2.2.1, (hb.cell (p := ⟨b, off + k * 6, none⟩) hbz).trans y0, (hb.cell (p := ⟨b, off + k * 6 + 1, none⟩) hbz).trans y1, (hb.cell (p := ⟨b, off + k * 6 + 2, none⟩) hbz).trans y2, (hb.cell (p := ⟨b, off + k * 6 + 3, none⟩) hbz).trans y3, (hb.cell (p := ⟨b, off + k * 6 + 4, none⟩) hbz).trans y4, (hb.cell (p := ⟨b, off + k * 6 + 5, none⟩) hbz).trans y5, (hb.cell (p := ⟨b', off' + k * 6, none⟩) hbz').trans z0, (hb.cell (p := ⟨b', off' + k * 6 + 1, none⟩) hbz').trans z1, (hb.cell (p := ⟨b', off' + k * 6 + 2, none⟩) hbz').trans z2, (hb.cell (p := ⟨b', off' + k * 6 + 3, none⟩) hbz').trans z3, (hb.cell (p := ⟨b', off' + k * 6 + 4, none⟩) hbz').trans z4, (hb.cell (p := ⟨b', off' + k * 6 + 5, none⟩) hbz').trans z5⟩⟩
      have HT := Aside.mk (And.intro ht1 (And.intro ht2 (And.intro hlt (And.intro q1 q2))))
      have hB := Aside.mk (Below.refl wr.heap.size wr)
      have HC := Aside.mk hcall
      have hik : (0 : Int) ≤ (k : Int) := by omega
      have hik2 : (k : Int) < (l1.length : Int) := by omega
      clear ht1 ht2 hcall q1 q2 hrd1 hrd2 y0 y1 y2 y3 y4 y5 z0 z1 z2 z3 z4 z5
      by_cases hq : l1[k] = Re.mk k4 s4 a4 u4 v4 g4
      case pos =>
        have HQ := Aside.mk hq
        clear hq
        go_wp2_with fail
        go_region_held3 (fun w' => w'.cell? ⟨w.heap.size, 2, none⟩ = some (.slice (some ⟨b, off, none⟩) l1.length c2) ∧ w'.cell? ⟨w.heap.size + 1, 2, none⟩ = some (.slice (some ⟨b', off', none⟩) l1.length d2) ∧ w'.cell? ⟨b, off + k * 6, none⟩ = some (.int .i64 k3) ∧ w'.cell? ⟨b, off + k * 6 + 1, none⟩ = some (.slice P1 s3.length p1) ∧ w'.cell? ⟨b, off + k * 6 + 2, none⟩ = some (.slice P2 a3.length p2) ∧ w'.cell? ⟨b, off + k * 6 + 3, none⟩ = some (.int .i64 u3) ∧ w'.cell? ⟨b, off + k * 6 + 4, none⟩ = some (.int .i64 v3) ∧ w'.cell? ⟨b, off + k * 6 + 5, none⟩ = some (.bool g3) ∧ w'.cell? ⟨b', off' + k * 6, none⟩ = some (.int .i64 k4) ∧ w'.cell? ⟨b', off' + k * 6 + 1, none⟩ = some (.slice R1 s4.length r1) ∧ w'.cell? ⟨b', off' + k * 6 + 2, none⟩ = some (.slice R2 a4.length r2) ∧ w'.cell? ⟨b', off' + k * 6 + 3, none⟩ = some (.int .i64 u4) ∧ w'.cell? ⟨b', off' + k * 6 + 4, none⟩ = some (.int .i64 v4) ∧ w'.cell? ⟨b', off' + k * 6 + 5, none⟩ = some (.bool g4))
          (first | exact HK.out _ hB.out | exact HK.out _ hB.out.drew | exact HK.out _ (bA hB.out.drew _) | exact HK.out _ (bD (bA hB.out _)) | exact HK.out _ (bA hB.out _))
          ((first | (go_at_call 34; refine (HC.out _ (HS2.out _ hB.out).drew).mono ?_; rintro e w1 ⟨he1, hb1⟩; obtain rfl : e = .returned (.bool true) := he1.trans (retT HQ.out); replace hB := Aside.mk (bT hB.out.drew hb1))))
        go_wp2_with fail
        replace hx := Aside.mk (hx.out.then_below hB.out)
        go_roundw
        case rel => exact ⟨k + 1, _, HT.out.2.2.1, by go_num, ⟨by rw [HT.out.1, HT.out.2.1, he.out, HQ.out, HT.out.2.2.2.2]⟩, hx, h2, h4, Ba, Bb⟩
        case measure => (have := HT.out.2.2.1; simp [intOf]; omega)
      case neg =>
        have HQ := Aside.mk hq
        clear hq
        go_wp2_with fail
        go_region_held3 (fun w' => w'.cell? ⟨w.heap.size, 2, none⟩ = some (.slice (some ⟨b, off, none⟩) l1.length c2) ∧ w'.cell? ⟨w.heap.size + 1, 2, none⟩ = some (.slice (some ⟨b', off', none⟩) l1.length d2) ∧ w'.cell? ⟨b, off + k * 6, none⟩ = some (.int .i64 k3) ∧ w'.cell? ⟨b, off + k * 6 + 1, none⟩ = some (.slice P1 s3.length p1) ∧ w'.cell? ⟨b, off + k * 6 + 2, none⟩ = some (.slice P2 a3.length p2) ∧ w'.cell? ⟨b, off + k * 6 + 3, none⟩ = some (.int .i64 u3) ∧ w'.cell? ⟨b, off + k * 6 + 4, none⟩ = some (.int .i64 v3) ∧ w'.cell? ⟨b, off + k * 6 + 5, none⟩ = some (.bool g3) ∧ w'.cell? ⟨b', off' + k * 6, none⟩ = some (.int .i64 k4) ∧ w'.cell? ⟨b', off' + k * 6 + 1, none⟩ = some (.slice R1 s4.length r1) ∧ w'.cell? ⟨b', off' + k * 6 + 2, none⟩ = some (.slice R2 a4.length r2) ∧ w'.cell? ⟨b', off' + k * 6 + 3, none⟩ = some (.int .i64 u4) ∧ w'.cell? ⟨b', off' + k * 6 + 4, none⟩ = some (.int .i64 v4) ∧ w'.cell? ⟨b', off' + k * 6 + 5, none⟩ = some (.bool g4))
          (first | exact HK.out _ hB.out | exact HK.out _ hB.out.drew | exact HK.out _ (bA hB.out.drew _) | exact HK.out _ (bD (bA hB.out _)) | exact HK.out _ (bA hB.out _))
          ((first | (go_at_call 34; refine (HC.out _ (HS2.out _ hB.out).drew).mono ?_; rintro e w1 ⟨he1, hb1⟩; obtain rfl : e = .returned (.bool false) := he1.trans (retF HQ.out); replace hB := Aside.mk (bT hB.out.drew hb1))))
        go_wp2_with fail
        go_ret
        exact ⟨decF (fun e => HQ.out (by rw [← HT.out.2.2.2.2]; injection e with _ _ e; subst e; rfl)), (hx.out.then_below hB.out).below⟩
    case neg =>
      obtain rfl : k = l1.length := by omega
      have lqa : w.heap.size < wr.heap.size := hx.out.sat.lt (Ba.out 0 _ rfl)
      obtain ⟨ca0, ca1, ca2, ca3, ca4, ca5⟩ := hb6 hx.out.sat Ba.out
      have lqb : w.heap.size + 1 < wr.heap.size := hx.out.sat.lt (Bb.out 0 _ rfl)
      obtain ⟨cb0, cb1, cb2, cb3, cb4, cb5⟩ := hb6 hx.out.sat Bb.out
      go_wp2_with fail
      go_ret
      have h9 := he.out
      rw [List.take_of_length_le (Nat.le_refl _), List.take_of_length_le (by rw [← e0.out]; exact Nat.le_refl _)] at h9
      exact ⟨decT (by rw [HS.out, h9]), hx.out.below⟩
end Go.Proofs.Ytbnahmeaeakhhaa.B

namespace Go.Proofs.Ytbnahmeaeakhhaa.B
set_option linter.unusedVariables false
set_option linter.unusedSimpArgs false
open Go Go.RowKit Classical

theorem sizeRe (w : World) : (Go.sizeOf 25).run Try.prog w = .ok 6 w := by kernel_rfl
theorem manyGo_at {K : Int} {args : List Re} {k : Nat} (h : k < args.length) {x : Re} (hx : args[k] = x) : manyGo K (args.take k) (args.drop k) =
    if x.kind = K then some (.mk K [] (args.take k ++ x.args ++ args.drop (k + 1)) 0 0 false)
    else if x.kind = 0 ∧ K ≠ 4 then some noneRe
    else if (x.kind = 0 ∨ (x.kind = 1 ∧ K = 3)) ∨ (K ≠ 3 ∧ x ∈ args.take k) then some (leftF K (args.take k ++ args.drop (k + 1)))
    else manyGo K (args.take (k + 1)) (args.drop (k + 1)) := by
  rw [List.drop_eq_getElem_cons h, hx, List.take_succ_eq_append_getElem h, hx]
  simp only [manyGo]
theorem args_le {args : List Re} {k : Nat} (h : k < args.length) {x : Re} (hx : args[k] = x) : x.args.length ≤ szL args := by
  have h1 : x ∈ args := hx ▸ List.getElem_mem h
  have h2 : sz x ≤ szL args := by
    clear hx h
    induction args with
    | nil => simp at h1
    | cons b l ih =>
      rw [szL_cons]
      rcases List.mem_cons.1 h1 with rfl | h
      · omega
      · have := ih h; omega
  have h3 := sz_args x
  have h4 := len_szL x.args
  omega

set_option maxRecDepth 100000 in
set_option maxHeartbeats 32000000 in
theorem ruleMany3 (H : PH) (s : List Span) (args : List Re) (mn mx : Int) (ng : Bool) (cs : List Value) (w : World) (hr : RdRe H (.mk 3 s args mn mx ng) cs) (hs : Sat w H) (hz : args.length + szL args ≤ 1048576) :
    Calls Try.prog 147 #[.agg cs.toArray] w (RuleR H w (.mk 3 s args mn mx ng) (manyF 3 args)) := by
  have hr_ := hr
  obtain ⟨A1, c1, A2, c2, rfl, -, h2⟩ := hr_.open
  clear hr_
  replace hz := Aside.mk hz
  have hc2 := h2.2.1
  have hc3 := h2.2.2.1
  have hl48 : args.length ≤ 1048576 := by have := hz.out; omega
  have hzz := sizeRe
  have hx := Aside.mk (Ext.refl hs)
  replace hr := Aside.mk hr
  replace h2 := Aside.mk h2
  go_enter Try.func147, Try.ntmps147
  go_wp2_with fail
  have hszw := hx.out.size
  have kr_ : ((w.alloc (.cells #[.int .i64 3, .slice A1 s.length c1, .slice A2 args.length c2, .int .i64 mn, .int .i64 mx, .bool ng] 25)).alloc (.cells #[.int .i64 0, .slice none 0 0, .slice none 0 0, .int .i64 0, .int .i64 0, .bool false] 25)).heap[w.heap.size]? = some (.cells #[.int .i64 3, .slice A1 s.length c1, .slice A2 args.length c2, .int .i64 mn, .int .i64 mx, .bool ng] 25) := (boxA (heap_alloc_new _ _) (.cells #[.int .i64 0, .slice none 0 0, .slice none 0 0, .int .i64 0, .int .i64 0, .bool false] 25))
  have kz_ : ((w.alloc (.cells #[.int .i64 3, .slice A1 s.length c1, .slice A2 args.length c2, .int .i64 mn, .int .i64 mx, .bool ng] 25)).alloc (.cells #[.int .i64 0, .slice none 0 0, .slice none 0 0, .int .i64 0, .int .i64 0, .bool false] 25)).heap[w.heap.size + 1]? = some (.cells #[.int .i64 0, .slice none 0 0, .slice none 0 0, .int .i64 0, .int .i64 0, .bool false] 25) := (by rw [show w.heap.size + 1 = ((w.alloc (.cells #[.int .i64 3, .slice A1 s.length c1, .slice A2 args.length c2, .int .i64 mn, .int .i64 mx, .bool ng] 25))).heap.size by simp]; exact heap_alloc_new _ _)
  have nr := Aside.mk (fun o => hx.out.sat.new (b := w.heap.size) (show w.heap.size ≤ _ by omega) o)
  have nz := Aside.mk (fun o => hx.out.sat.new (b := w.heap.size + 1) (show w.heap.size ≤ _ by omega) o)
  replace hx := Aside.mk (((hx.out.alloc (.cells #[.int .i64 3, .slice A1 s.length c1, .slice A2 args.length c2, .int .i64 mn, .int .i64 mx, .bool ng] 25)).alloc (.cells #[.int .i64 0, .slice none 0 0, .slice none 0 0, .int .i64 0, .int .i64 0, .bool false] 25)))
  generalize ((w.alloc (.cells #[.int .i64 3, .slice A1 s.length c1, .slice A2 args.length c2, .int .i64 mn, .int .i64 mx, .bool ng] 25)).alloc (.cells #[.int .i64 0, .slice none 0 0, .slice none 0 0, .int .i64 0, .int .i64 0, .bool false] 25)) = W1 at *
  have kr := Aside.mk kr_
  clear kr_
  have kz := Aside.mk kz_
  clear kz_
  obtain ⟨H1, hx2, hle, Br, hold⟩ := box_freeze hx.out (by omega) kr.out nr.out
  replace hr := Aside.mk (hr.out.mono hle)
  replace h2 := Aside.mk (h2.out.mono hle)
  replace nz := Aside.mk (fun o => (hold _ o (by omega)).trans (nz.out o))
  replace hx := Aside.mk hx2
  replace Br := Aside.mk Br
  clear hle hold hx2 kr nr
  go_loopw [14] (fun i wr => ∃ (k : Nat) (Hk : PH), k ≤ args.length ∧ i = .int .i64 k ∧ Aside (manyGo 3 [] args = manyGo 3 (args.take k) (args.drop k)) ∧ Aside (Ext H Hk w wr) ∧ Aside (RdRe Hk (Re.mk 3 s args mn mx ng) [.int .i64 3, .slice A1 s.length c1, .slice A2 args.length c2, .int .i64 mn, .int .i64 mx, .bool ng]) ∧ Aside (SlR kRe Hk A2 args.length c2 args) ∧ Aside (BoxH Hk (w.heap.size) [.int .i64 3, .slice A1 s.length c1, .slice A2 args.length c2, .int .i64 mn, .int .i64 mx, .bool ng]) ∧ Aside (wr.heap[w.heap.size + 1]? = some (.cells #[.int .i64 0, .slice none 0 0, .slice none 0 0, .int .i64 0, .int .i64 0, .bool false] 25)) ∧ Aside (∀ o, Hk (w.heap.size + 1) o = none)) (fun i _ => args.length - (intOf i).toNat)
  case atStart => exact ⟨0, _, by omega, rfl, ⟨by simp⟩, hx, hr, h2, Br, kz, nz⟩
  case round =>
    clear hx hr h2 Br kz nz
    obtain ⟨k, Hk, hk, rfl, hM, hx, hr, h2, Br, kz, nz⟩ := hrel
    obtain ⟨wo, rfl⟩ : ∃ wo : World, wo = wr := ⟨_, rfl⟩
    by_cases hlt : k < args.length
    case pos =>
      have hto := fun W => run_to (P := Try.prog) 23 25 6 Try.underlying23 sizeRe A2 args.length c2 k (by omega) (k : Int) rfl W
      have hfr := fun W => run_from (P := Try.prog) 23 25 6 Try.underlying23 sizeRe A2 args.length c2 (k + 1) (by omega) ((k : Int) + 1) (by omega) W
      have hT := Aside.mk (h2.out.to k (by omega))
      have hF := Aside.mk (h2.out.from (k + 1) (by omega))
      obtain ⟨b, off, k1, s1, a1, u1, v1, g1, P1, d1, P2, d2, e0, hq, hrd, g0, g1_, g2, g3, g4, g5⟩ := cell_elem h2.out hx.out.sat k hlt
      have hhM := manyGo_at (K := 3) hlt hq
      have hal : a1.length ≤ szL args := args_le hlt hq
      generalize hQA : fromA A2 c2 (k + 1) 6 = QA at *
      have hF2 : SlR kRe Hk QA (args.length - (k + 1)) (c2 - (k + 1)) (args.drop (k + 1)) := by rw [← hQA]; exact hF.out
      replace hF := Aside.mk hF2
      clear hF2
      replace hQA := Aside.mk hQA
      subst e0
      have hlen1 : (args.take k).length = k := by simp; omega
      have hlen2 : (args.drop (k + 1)).length = args.length - (k + 1) := by simp
      have hrd0 := Aside.mk hrd
      obtain ⟨_, _, _, _, e9, -, hra⟩ := hrd.open
      simp only [List.cons.injEq, Value.slice.injEq, true_and, and_true] at e9
      obtain ⟨⟨rfl, rfl⟩, rfl, rfl⟩ := e9
      clear hrd
      replace hra := Aside.mk hra
      have hzo := hz.out
      have hbz : b < wo.heap.size := World.block_lt_of_cell? wo _ g0
      have hik : (0 : Int) ≤ (k : Int) := by omega
      have hik2 : (k : Int) < (args.length : Int) := by omega
      have hwk : IntKind.i64.wrap ((k : Int) + 1) = (k : Int) + 1 := IntWalk.i64_in _ (by omega)
      have HA := Aside.mk (And.intro hhM (And.intro hal (And.intro hlen1 (And.intro hlen2 (And.intro hq hlt)))))
      have hlt2 := hlt
      clear hhM hal hlen1 hlen2 hq hzo
      by_cases q1 : k1 = 3
      case pos =>
        subst q1
        have HR := Aside.mk (show manyF 3 args = some (Re.mk 3 [] (args.take k ++ a1 ++ args.drop (k + 1)) 0 0 false) from by unfold manyF; rw [hM.out, HA.out.1]; simp [Re.kind, Re.args])
        have lqz : w.heap.size + 1 < wo.heap.size := boxL kz.out
        obtain ⟨⟨cz0, cz1, cz2, cz3, cz4, cz5⟩, fz0, fz1, fz2, fz3, fz4, fz5⟩ := kb6 kz.out
        have lqr : w.heap.size < wo.heap.size := hx.out.sat.lt (Br.out 0 _ rfl)
        obtain ⟨cr0, cr1, cr2, cr3, cr4, cr5⟩ := hb6 hx.out.sat Br.out
        go_wp2_with fail
        clear lqz cz0 cz1 cz2 cz3 cz4 cz5 fz0 fz1 fz2 fz3 fz4 fz5 lqr cr0 cr1 cr2 cr3 cr4 cr5 g0 g1_ g2 g3 g4 g5
        have hszwo := hx.out.size
        have habzwo := boxL kz.out
        have kz_ : (wo.alloc (.cells #[.int .i64 3, .slice P1 s1.length d1, .slice P2 a1.length d2, .int .i64 u1, .int .i64 v1, .bool g1] 25)).heap[w.heap.size + 1]? = some (.cells #[.int .i64 0, .slice none 0 0, .slice none 0 0, .int .i64 0, .int .i64 0, .bool false] 25) := (boxA kz.out (.cells #[.int .i64 3, .slice P1 s1.length d1, .slice P2 a1.length d2, .int .i64 u1, .int .i64 v1, .bool g1] 25))
        have ke_ : (wo.alloc (.cells #[.int .i64 3, .slice P1 s1.length d1, .slice P2 a1.length d2, .int .i64 u1, .int .i64 v1, .bool g1] 25)).heap[wo.heap.size]? = some (.cells #[.int .i64 3, .slice P1 s1.length d1, .slice P2 a1.length d2, .int .i64 u1, .int .i64 v1, .bool g1] 25) := (heap_alloc_new _ _)
        have ne := Aside.mk (fun o => hx.out.sat.new (b := wo.heap.size) (show wo.heap.size ≤ _ by omega) o)
        replace hx := Aside.mk ((hx.out.alloc (.cells #[.int .i64 3, .slice P1 s1.length d1, .slice P2 a1.length d2, .int .i64 u1, .int .i64 v1, .bool g1] 25)))
        generalize (wo.alloc (.cells #[.int .i64 3, .slice P1 s1.length d1, .slice P2 a1.length d2, .int .i64 u1, .int .i64 v1, .bool g1] 25)) = W2 at *
        replace kz := Aside.mk kz_
        clear kz_
        have ke := Aside.mk ke_
        clear ke_
        obtain ⟨H1, hx2, hle, Be, hold⟩ := box_freeze hx.out (by omega) ke.out ne.out
        replace hr := Aside.mk (hr.out.mono hle)
        replace h2 := Aside.mk (h2.out.mono hle)
        replace hT := Aside.mk (hT.out.mono hle)
        replace hF := Aside.mk (hF.out.mono hle)
        replace hrd0 := Aside.mk (hrd0.out.mono hle)
        replace hra := Aside.mk (hra.out.mono hle)
        replace Br := Aside.mk (Br.out.mono hle)
        replace nz := Aside.mk (fun o => (hold _ o (by omega)).trans (nz.out o))
        replace hx := Aside.mk hx2
        replace Be := Aside.mk Be
        clear hle hold hx2 ke ne
        have hwx := hx.out.size
        have HS2 := Aside.mk (fun w' (hb : Sat w' H1) => show w'.cell? ⟨w.heap.size, 2, none⟩ = some (.slice (some ⟨b, off, none⟩) args.length c2) from (by have q := at6 hb Br.out; simp only [Nat.add_zero, Nat.zero_add] at q; exact q.2.2.1))
        have hbase0 : w.heap.size + 1 + 1 ≤ W2.heap.size := boxL kz.out
        have hlt48 : ((args.take k).length + 0) * 80 ≤ 140737488355328 := by rw [HA.out.2.2.1]; omega
        have hby1 : Aside ((([] : List Re).length + (args.take k).length) * 80 ≤ 140737488355328 ∧ ([] : List Re).length + (args.take k).length ≤ maxLen) := ⟨by rw [HA.out.2.2.1]; simp; omega, by rw [HA.out.2.2.1]; unfold maxLen; simp; omega⟩
        have hby2 : Aside ((([] ++ args.take k : List Re).length + (args.drop (k + 1)).length) * 80 ≤ 140737488355328 ∧ ([] ++ args.take k : List Re).length + (args.drop (k + 1)).length ≤ maxLen) := ⟨by rw [List.nil_append, HA.out.2.2.1, HA.out.2.2.2.1]; omega, by rw [List.nil_append, HA.out.2.2.1, HA.out.2.2.2.1]; unfold maxLen; omega⟩
        clear hlt48
        have hlit := Aside.mk (Own.lit (k := kRe) (e := 25) (xs := []) (base := W2.heap.size) hx.out.sat.drew #[] (Nat.le_refl _) rfl (by unfold maxLen; simp))
        go_region_held3 (fun w' => w'.cell? ⟨w.heap.size, 2, none⟩ = some (.slice (some ⟨b, off, none⟩) args.length c2))
          (first | exact HS2.out _ hx.out.sat | exact HS2.out _ hx.out.sat.drew | exact HS2.out _ (hx.out.sat.drew.alloc _) | exact HS2.out _ (hx.out.sat.alloc _).drew | exact HS2.out _ hs8 | exact HS2.out _ hs9)
          ((first
          | (have _t := ho8; go_must (refine step_appS kRe (by rfl) (.tmp 24) (.tmp 29) 23 (by rfl) 25 Try.underlying23 info25 rfl ho8 hs8 hF.out (by rfl) (by rfl) hby2.out.1 hby2.out.2 (by have := hg8.size; simp at this; omega) ?_); intro v9 w9 ho9 hg9 hs9 hn9)
          | (go_must (refine step_appS kRe (by rfl) (.tmp 19) (.tmp 23) 23 (by rfl) 25 Try.underlying23 info25 rfl hlit.out (hx.out.sat.drew.alloc _) hT.out (by rfl) (by rfl) hby1.out.1 hby1.out.2 (by simp) ?_); intro v8 w8 ho8 hg8 hs8 hn8)))
        have hb8 : Below W2.heap.size W2 w8 := (bD (bA (Below.refl _ _) _)).grown hg8 (bD (bA (Below.refl _ _) _)).size (fun b hb => by simp [Value.ownBlock] at hb; omega)
        have hb9 : Below W2.heap.size W2 w9 := hb8.grown hg9 hb8.size (fun b hb => (ho8.blk hb).1)
        simp only [List.nil_append] at ho9
        obtain ⟨A9, c9, e9, -, -, -, -⟩ := ho9.form
        generalize (args.take k ++ args.drop (k + 1)).length = l9 at e9
        subst e9
        clear hlit ho8 hg8 hs8 hn8 hg9 hs9 hn9 hb8 hby2 HS2
        replace kz := Aside.mk (box_below kz.out hb9)
        replace hx := Aside.mk (hx.out.then_below hb9)
        clear hb9
        replace ho9 := Aside.mk ho9
        clear ho9
        have hlit := Aside.mk (Own.lit (k := kRe) (e := 25) (xs := []) (base := w9.heap.size) hx.out.sat #[] (Nat.le_refl _) rfl (by unfold maxLen; simp))
        have hwx0 := hx.out.size
        have hwx1 := boxL kz.out
        have lqz : w.heap.size + 1 < w9.heap.size := boxL kz.out
        obtain ⟨⟨cz0, cz1, cz2, cz3, cz4, cz5⟩, fz0, fz1, fz2, fz3, fz4, fz5⟩ := kb6 kz.out
        have lqr : w.heap.size < w9.heap.size := hx.out.sat.lt (Br.out 0 _ rfl)
        obtain ⟨cr0, cr1, cr2, cr3, cr4, cr5⟩ := hb6 hx.out.sat Br.out
        have lqe : wo.heap.size < w9.heap.size := hx.out.sat.lt (Be.out 0 _ rfl)
        obtain ⟨ce0, ce1, ce2, ce3, ce4, ce5⟩ := hb6 hx.out.sat Be.out
        go_upto_region 7 with (at_builtin; go_must (refine wpList_appS kRe rfl (.tmp 36) (.tmp 40) 23 rfl 25 Try.underlying23 info25 rfl hlit.out (hx.out.sat.alloc _) hT.out rfl rfl hby1.out.1 hby1.out.2 (by simp) ?_); intro v10 w10 ho10 hg10 hs10 hn10 hni10)
        clear lqz cz0 cz1 cz2 cz3 cz4 cz5 fz0 fz1 fz2 fz3 fz4 fz5 lqr cr0 cr1 cr2 cr3 cr4 cr5 lqe ce0 ce1 ce2 ce3 ce4 ce5
        have hb10 : Below w9.heap.size w9 w10 := (bA (Below.refl _ _) _).grown hg10 (bA (Below.refl _ _) _).size (fun b hb => by simp [Value.ownBlock] at hb; omega)
        simp only [List.nil_append] at ho10
        obtain ⟨A10, c10, e10, -, -, -, -⟩ := ho10.form
        generalize (args.take k).length = l10 at e10
        subst e10
        clear hlit hg10 hs10 hn10 hni10
        have hsz10 : w9.heap.size ≤ w10.heap.size := hb10.size
        replace kz := Aside.mk (box_below kz.out hb10)
        replace hx := Aside.mk (hx.out.then_below hb10)
        clear hb10
        replace ho10 := Aside.mk ho10
        have hby3 : Aside (((args.take k).length + a1.length) * 80 ≤ 140737488355328 ∧ (args.take k).length + a1.length ≤ maxLen) := ⟨by rw [HA.out.2.2.1]; have := HA.out.2.1; have := hz.out; omega, by rw [HA.out.2.2.1]; have := HA.out.2.1; have := hz.out; unfold maxLen; omega⟩
        have hwx := hx.out.size
        have lqz : w.heap.size + 1 < w10.heap.size := boxL kz.out
        obtain ⟨⟨cz0, cz1, cz2, cz3, cz4, cz5⟩, fz0, fz1, fz2, fz3, fz4, fz5⟩ := kb6 kz.out
        have lqr : w.heap.size < w10.heap.size := hx.out.sat.lt (Br.out 0 _ rfl)
        obtain ⟨cr0, cr1, cr2, cr3, cr4, cr5⟩ := hb6 hx.out.sat Br.out
        have lqe : wo.heap.size < w10.heap.size := hx.out.sat.lt (Be.out 0 _ rfl)
        obtain ⟨ce0, ce1, ce2, ce3, ce4, ce5⟩ := hb6 hx.out.sat Be.out
        go_upto_region 8 with (at_builtin; go_must (refine wpList_appS kRe rfl (.tmp 42) (.tmp 44) 23 rfl 25 Try.underlying23 info25 rfl ho10.out hx.out.sat hra.out rfl rfl hby3.out.1 hby3.out.2 hsz10 ?_); intro v11 w11 ho11 hg11 hs11 hn11 hni11)
        clear lqz cz0 cz1 cz2 cz3 cz4 cz5 fz0 fz1 fz2 fz3 fz4 fz5 lqr cr0 cr1 cr2 cr3 cr4 cr5 lqe ce0 ce1 ce2 ce3 ce4 ce5
        obtain ⟨A11, c11, e11, -, -, -, -⟩ := ho11.form
        generalize (args.take k ++ a1).length = l11 at e11
        subst e11
        have hsz11 : w9.heap.size ≤ w11.heap.size := Nat.le_trans hsz10 hg11.size
        have hwbase : w.heap.size ≤ w9.heap.size := hwx0
        replace kz := Aside.mk (boxG kz.out hg11 (fun e => by have h1 := (ho10.out.blk e).1; omega))
        replace hx := Aside.mk (ho10.out.extG hx.out (by omega) hg11)
        replace ho10 := Aside.mk ho11
        clear ho11 hg11 hs11 hn11 hni11 hby1 hby3
        have hby4 : Aside (((args.take k ++ a1).length + (args.drop (k + 1)).length) * 80 ≤ 140737488355328 ∧ (args.take k ++ a1).length + (args.drop (k + 1)).length ≤ maxLen) := ⟨by rw [List.length_append, HA.out.2.2.1, HA.out.2.2.2.1]; have := HA.out.2.1; have := hz.out; omega, by rw [List.length_append, HA.out.2.2.1, HA.out.2.2.2.1]; have := HA.out.2.1; have := hz.out; unfold maxLen; omega⟩
        go_wp2_with fail
        have HS2 := Aside.mk (fun w' (hb : Sat w' H1) => show w'.cell? ⟨w.heap.size, 0, none⟩ = some (.int .i64 3) ∧ w'.cell? ⟨w.heap.size, 2, none⟩ = some (.slice (some ⟨b, off, none⟩) args.length c2) from (by have q := at6 hb Br.out; simp only [Nat.add_zero, Nat.zero_add] at q; exact ⟨q.1, q.2.2.1⟩))
        go_region_held3 (fun w' => w'.cell? ⟨w.heap.size, 0, none⟩ = some (.int .i64 3) ∧ w'.cell? ⟨w.heap.size, 2, none⟩ = some (.slice (some ⟨b, off, none⟩) args.length c2))
          (first | with_reducible exact HS2.out _ hx.out.sat | with_reducible exact HS2.out _ hx.out.sat.drew | with_reducible exact HS2.out _ hs12 | exact HS2.out _ ((((((hs12.setCell nz.out _ _).setCell nz.out _ _).setCell nz.out _ _).setCell nz.out _ _).setCell nz.out _ _).setCell nz.out _ _))
          ((first
          | (go_must (refine step_appS kRe (by rfl) (.tmp 48) (.tmp 53) 23 (by rfl) 25 Try.underlying23 info25 rfl ho10.out.drew hx.out.sat.drew hF.out (by rfl) (by rfl) hby4.out.1 hby4.out.2 hsz11 ?_); intro v12 w12 ho12 hg12 hs12 hn12; obtain ⟨A12, c12, e12, -, -, -, -⟩ := ho12.form; generalize (args.take k ++ a1 ++ args.drop (k + 1)).length = l12 at e12; subst e12; have kz12 := boxG (w := w11.drew) kz.out hg12 (fun e => by have h1 := (ho10.out.blk e).1; omega); have hzl := boxL kz12; obtain ⟨⟨x0, x1, x2, x3, x4, x5⟩, y0, y1, y2, y3, y4, y5⟩ := kb6 kz12)))
        clear x0 x1 x2 x3 x4 x5 y0 y1 y2 y3 y4 y5 hzl kz12
        have kz_ : w11.drew.heap[w.heap.size + 1]? = some (.cells #[.int .i64 0, .slice none 0 0, .slice none 0 0, .int .i64 0, .int .i64 0, .bool false] 25) := kz.out
        replace ho10 := Aside.mk (ho10.out.drew)
        replace hx := Aside.mk ((hx.out.drew))
        generalize w11.drew = W3 at *
        replace kz := Aside.mk kz_
        clear kz_
        replace kz := Aside.mk (boxG kz.out hg12 (fun e => by have h1 := (ho10.out.blk e).1; omega))
        replace hx := Aside.mk (ho10.out.extG hx.out (by omega) hg12)
        replace ho10 := Aside.mk ho12
        clear ho12 hg12 hs12 hn12 hby4
        have kz_ : ((((((w12.setCell ⟨w.heap.size + 1, 0, none⟩ (.int .i64 3)).setCell ⟨w.heap.size + 1, 1, none⟩ (.slice none 0 0)).setCell ⟨w.heap.size + 1, 2, none⟩ (.slice A12 l12 c12)).setCell ⟨w.heap.size + 1, 3, none⟩ (.int .i64 0)).setCell ⟨w.heap.size + 1, 4, none⟩ (.int .i64 0)).setCell ⟨w.heap.size + 1, 5, none⟩ (.bool false)).heap[w.heap.size + 1]? = some (.cells #[.int .i64 3, .slice none 0 0, .slice A12 l12 c12, .int .i64 0, .int .i64 0, .bool false] 25) := (boxS (boxS (boxS (boxS (boxS (boxS kz.out 0 (.int .i64 3)) 1 (.slice none 0 0)) 2 (.slice A12 l12 c12)) 3 (.int .i64 0)) 4 (.int .i64 0)) 5 (.bool false))
        replace ho10 := Aside.mk ((((((ho10.out.grown (grownBy_setCell _ (w.heap.size + 1) 0 (.int .i64 3)) (Or.inr (fun e => by have h1 := (ho10.out.blk e).1; omega))).grown (grownBy_setCell _ (w.heap.size + 1) 1 (.slice none 0 0)) (Or.inr (fun e => by have h1 := (ho10.out.blk e).1; omega))).grown (grownBy_setCell _ (w.heap.size + 1) 2 (.slice A12 l12 c12)) (Or.inr (fun e => by have h1 := (ho10.out.blk e).1; omega))).grown (grownBy_setCell _ (w.heap.size + 1) 3 (.int .i64 0)) (Or.inr (fun e => by have h1 := (ho10.out.blk e).1; omega))).grown (grownBy_setCell _ (w.heap.size + 1) 4 (.int .i64 0)) (Or.inr (fun e => by have h1 := (ho10.out.blk e).1; omega))).grown (grownBy_setCell _ (w.heap.size + 1) 5 (.bool false)) (Or.inr (fun e => by have h1 := (ho10.out.blk e).1; omega)))
        replace hx := Aside.mk (((((((hx.out.setCell (b := w.heap.size + 1) (o := 0) (by first | omega | (simp; omega)) nz.out (.int .i64 3)).setCell (b := w.heap.size + 1) (o := 1) (by first | omega | (simp; omega)) nz.out (.slice none 0 0)).setCell (b := w.heap.size + 1) (o := 2) (by first | omega | (simp; omega)) nz.out (.slice A12 l12 c12)).setCell (b := w.heap.size + 1) (o := 3) (by first | omega | (simp; omega)) nz.out (.int .i64 0)).setCell (b := w.heap.size + 1) (o := 4) (by first | omega | (simp; omega)) nz.out (.int .i64 0)).setCell (b := w.heap.size + 1) (o := 5) (by first | omega | (simp; omega)) nz.out (.bool false)))
        generalize ((((((w12.setCell ⟨w.heap.size + 1, 0, none⟩ (.int .i64 3)).setCell ⟨w.heap.size + 1, 1, none⟩ (.slice none 0 0)).setCell ⟨w.heap.size + 1, 2, none⟩ (.slice A12 l12 c12)).setCell ⟨w.heap.size + 1, 3, none⟩ (.int .i64 0)).setCell ⟨w.heap.size + 1, 4, none⟩ (.int .i64 0)).setCell ⟨w.heap.size + 1, 5, none⟩ (.bool false)) = W4 at *
        replace kz := Aside.mk kz_
        clear kz_
        go_wp2_with fail
        obtain ⟨H9, hx9, hle9, ⟨A13, c13, e13, hsl⟩, hold9⟩ := ho10.out.freezeE hx.out (by omega) (by rw [List.length_append, List.length_append, HA.out.2.2.1, HA.out.2.2.2.1]; have := HA.out.2.1; have := hz.out; omega)
        simp only [List.cons.injEq, Value.slice.injEq, and_true] at e13
        obtain ⟨rfl, e14, rfl⟩ := e13
        rw [← e14] at hsl
        refine bodyPost_ret (resC2 rfl _ _ _ rfl (run_loadVar_row _ _ _ _ _ (0, 0) _ kz.out Try.underlying25 rfl (by kernel_rfl))) rfl ?_
        rw [HR.out]
        exact ⟨_, _, rfl, RdRe.shut (SlR.nil _ _) hsl, hx9⟩
      case neg =>
        have q1b : (k1 == 3) = false := by simpa using q1
        by_cases q2 : k1 = 0
        case pos =>
          subst q2
          have HR := Aside.mk (show manyF 3 args = some (noneRe) from by unfold manyF; rw [hM.out, HA.out.1]; simp [Re.kind, Re.args])
          clear q1 q1b
          have lqz : w.heap.size + 1 < wo.heap.size := boxL kz.out
          obtain ⟨⟨cz0, cz1, cz2, cz3, cz4, cz5⟩, fz0, fz1, fz2, fz3, fz4, fz5⟩ := kb6 kz.out
          have lqr : w.heap.size < wo.heap.size := hx.out.sat.lt (Br.out 0 _ rfl)
          obtain ⟨cr0, cr1, cr2, cr3, cr4, cr5⟩ := hb6 hx.out.sat Br.out
          go_wp2_with fail
          clear lqz cz0 cz1 cz2 cz3 cz4 cz5 fz0 fz1 fz2 fz3 fz4 fz5 lqr cr0 cr1 cr2 cr3 cr4 cr5 g0 g1_ g2 g3 g4 g5
          have hszwo := hx.out.size
          have habzwo := boxL kz.out
          have kz_ : (wo.alloc (.cells #[.int .i64 0, .slice P1 s1.length d1, .slice P2 a1.length d2, .int .i64 u1, .int .i64 v1, .bool g1] 25)).heap[w.heap.size + 1]? = some (.cells #[.int .i64 0, .slice none 0 0, .slice none 0 0, .int .i64 0, .int .i64 0, .bool false] 25) := (boxA kz.out (.cells #[.int .i64 0, .slice P1 s1.length d1, .slice P2 a1.length d2, .int .i64 u1, .int .i64 v1, .bool g1] 25))
          have ke_ : (wo.alloc (.cells #[.int .i64 0, .slice P1 s1.length d1, .slice P2 a1.length d2, .int .i64 u1, .int .i64 v1, .bool g1] 25)).heap[wo.heap.size]? = some (.cells #[.int .i64 0, .slice P1 s1.length d1, .slice P2 a1.length d2, .int .i64 u1, .int .i64 v1, .bool g1] 25) := (heap_alloc_new _ _)
          have ne := Aside.mk (fun o => hx.out.sat.new (b := wo.heap.size) (show wo.heap.size ≤ _ by omega) o)
          replace hx := Aside.mk ((hx.out.alloc (.cells #[.int .i64 0, .slice P1 s1.length d1, .slice P2 a1.length d2, .int .i64 u1, .int .i64 v1, .bool g1] 25)))
          generalize (wo.alloc (.cells #[.int .i64 0, .slice P1 s1.length d1, .slice P2 a1.length d2, .int .i64 u1, .int .i64 v1, .bool g1] 25)) = W5 at *
          replace kz := Aside.mk kz_
          clear kz_
          have ke := Aside.mk ke_
          clear ke_
          obtain ⟨H1, hx2, hle, Be, hold⟩ := box_freeze hx.out (by omega) ke.out ne.out
          replace hr := Aside.mk (hr.out.mono hle)
          replace h2 := Aside.mk (h2.out.mono hle)
          replace hT := Aside.mk (hT.out.mono hle)
          replace hF := Aside.mk (hF.out.mono hle)
          replace hrd0 := Aside.mk (hrd0.out.mono hle)
          replace hra := Aside.mk (hra.out.mono hle)
          replace Br := Aside.mk (Br.out.mono hle)
          replace nz := Aside.mk (fun o => (hold _ o (by omega)).trans (nz.out o))
          replace hx := Aside.mk hx2
          replace Be := Aside.mk Be
          clear hle hold hx2 ke ne
          have hwx := hx.out.size
          have HS2 := Aside.mk (fun w' (hb : Sat w' H1) => show w'.cell? ⟨w.heap.size, 2, none⟩ = some (.slice (some ⟨b, off, none⟩) args.length c2) from (by have q := at6 hb Br.out; simp only [Nat.add_zero, Nat.zero_add] at q; exact q.2.2.1))
          have hbase0 : w.heap.size + 1 + 1 ≤ W5.heap.size := boxL kz.out
          have hlt48 : ((args.take k).length + 0) * 80 ≤ 140737488355328 := by rw [HA.out.2.2.1]; omega
          have hby1 : Aside ((([] : List Re).length + (args.take k).length) * 80 ≤ 140737488355328 ∧ ([] : List Re).length + (args.take k).length ≤ maxLen) := ⟨by rw [HA.out.2.2.1]; simp; omega, by rw [HA.out.2.2.1]; unfold maxLen; simp; omega⟩
          have hby2 : Aside ((([] ++ args.take k : List Re).length + (args.drop (k + 1)).length) * 80 ≤ 140737488355328 ∧ ([] ++ args.take k : List Re).length + (args.drop (k + 1)).length ≤ maxLen) := ⟨by rw [List.nil_append, HA.out.2.2.1, HA.out.2.2.2.1]; omega, by rw [List.nil_append, HA.out.2.2.1, HA.out.2.2.2.1]; unfold maxLen; omega⟩
          clear hlt48
          have hlit := Aside.mk (Own.lit (k := kRe) (e := 25) (xs := []) (base := W5.heap.size) hx.out.sat.drew #[] (Nat.le_refl _) rfl (by unfold maxLen; simp))
          go_region_held3 (fun w' => w'.cell? ⟨w.heap.size, 2, none⟩ = some (.slice (some ⟨b, off, none⟩) args.length c2))
            (first | exact HS2.out _ hx.out.sat | exact HS2.out _ hx.out.sat.drew | exact HS2.out _ (hx.out.sat.drew.alloc _) | exact HS2.out _ (hx.out.sat.alloc _).drew | exact HS2.out _ hs8 | exact HS2.out _ hs9)
            ((first
            | (have _t := ho8; go_must (refine step_appS kRe (by rfl) (.tmp 24) (.tmp 29) 23 (by rfl) 25 Try.underlying23 info25 rfl ho8 hs8 hF.out (by rfl) (by rfl) hby2.out.1 hby2.out.2 (by have := hg8.size; simp at this; omega) ?_); intro v9 w9 ho9 hg9 hs9 hn9)
            | (go_must (refine step_appS kRe (by rfl) (.tmp 19) (.tmp 23) 23 (by rfl) 25 Try.underlying23 info25 rfl hlit.out (hx.out.sat.drew.alloc _) hT.out (by rfl) (by rfl) hby1.out.1 hby1.out.2 (by simp) ?_); intro v8 w8 ho8 hg8 hs8 hn8)))
          have hb8 : Below W5.heap.size W5 w8 := (bD (bA (Below.refl _ _) _)).grown hg8 (bD (bA (Below.refl _ _) _)).size (fun b hb => by simp [Value.ownBlock] at hb; omega)
          have hb9 : Below W5.heap.size W5 w9 := hb8.grown hg9 hb8.size (fun b hb => (ho8.blk hb).1)
          simp only [List.nil_append] at ho9
          obtain ⟨A9, c9, e9, -, -, -, -⟩ := ho9.form
          generalize (args.take k ++ args.drop (k + 1)).length = l9 at e9
          subst e9
          clear hlit ho8 hg8 hs8 hn8 hg9 hs9 hn9 hb8 hby2 HS2
          replace kz := Aside.mk (box_below kz.out hb9)
          replace hx := Aside.mk (hx.out.then_below hb9)
          clear hb9
          replace ho9 := Aside.mk ho9
          clear ho9
          have lqz : w.heap.size + 1 < w9.heap.size := boxL kz.out
          obtain ⟨⟨cz0, cz1, cz2, cz3, cz4, cz5⟩, fz0, fz1, fz2, fz3, fz4, fz5⟩ := kb6 kz.out
          have lqr : w.heap.size < w9.heap.size := hx.out.sat.lt (Br.out 0 _ rfl)
          obtain ⟨cr0, cr1, cr2, cr3, cr4, cr5⟩ := hb6 hx.out.sat Br.out
          have lqe : wo.heap.size < w9.heap.size := hx.out.sat.lt (Be.out 0 _ rfl)
          obtain ⟨ce0, ce1, ce2, ce3, ce4, ce5⟩ := hb6 hx.out.sat Be.out
          go_wp2_with fail
          clear lqz cz0 cz1 cz2 cz3 cz4 cz5 fz0 fz1 fz2 fz3 fz4 fz5 lqr cr0 cr1 cr2 cr3 cr4 cr5 lqe ce0 ce1 ce2 ce3 ce4 ce5
          refine (refNone_any _).mono ?_
          rintro e w20 ⟨rfl, hb20⟩
          replace kz := Aside.mk (box_below kz.out hb20)
          replace hx := Aside.mk (hx.out.then_below hb20)
          clear hb20
          have lqz : w.heap.size + 1 < w20.heap.size := boxL kz.out
          obtain ⟨⟨cz0, cz1, cz2, cz3, cz4, cz5⟩, fz0, fz1, fz2, fz3, fz4, fz5⟩ := kb6 kz.out
          have lqr : w.heap.size < w20.heap.size := hx.out.sat.lt (Br.out 0 _ rfl)
          obtain ⟨cr0, cr1, cr2, cr3, cr4, cr5⟩ := hb6 hx.out.sat Br.out
          have lqe : wo.heap.size < w20.heap.size := hx.out.sat.lt (Be.out 0 _ rfl)
          obtain ⟨ce0, ce1, ce2, ce3, ce4, ce5⟩ := hb6 hx.out.sat Be.out
          go_wp2_with fail
          clear lqz cz0 cz1 cz2 cz3 cz4 cz5 fz0 fz1 fz2 fz3 fz4 fz5 lqr cr0 cr1 cr2 cr3 cr4 cr5 lqe ce0 ce1 ce2 ce3 ce4 ce5
          have kz_ : ((((((w20.setCell ⟨w.heap.size + 1, 0, none⟩ (.int .i64 0)).setCell ⟨w.heap.size + 1, 1, none⟩ (.slice none 0 0)).setCell ⟨w.heap.size + 1, 2, none⟩ (.slice none 0 0)).setCell ⟨w.heap.size + 1, 3, none⟩ (.int .i64 0)).setCell ⟨w.heap.size + 1, 4, none⟩ (.int .i64 0)).setCell ⟨w.heap.size + 1, 5, none⟩ (.bool false)).heap[w.heap.size + 1]? = some (.cells #[.int .i64 0, .slice none 0 0, .slice none 0 0, .int .i64 0, .int .i64 0, .bool false] 25) := (boxS (boxS (boxS (boxS (boxS (boxS kz.out 0 (.int .i64 0)) 1 (.slice none 0 0)) 2 (.slice none 0 0)) 3 (.int .i64 0)) 4 (.int .i64 0)) 5 (.bool false))
          replace hx := Aside.mk (((((((hx.out.setCell (b := w.heap.size + 1) (o := 0) (by first | omega | (simp; omega)) nz.out (.int .i64 0)).setCell (b := w.heap.size + 1) (o := 1) (by first | omega | (simp; omega)) nz.out (.slice none 0 0)).setCell (b := w.heap.size + 1) (o := 2) (by first | omega | (simp; omega)) nz.out (.slice none 0 0)).setCell (b := w.heap.size + 1) (o := 3) (by first | omega | (simp; omega)) nz.out (.int .i64 0)).setCell (b := w.heap.size + 1) (o := 4) (by first | omega | (simp; omega)) nz.out (.int .i64 0)).setCell (b := w.heap.size + 1) (o := 5) (by first | omega | (simp; omega)) nz.out (.bool false)))
          generalize ((((((w20.setCell ⟨w.heap.size + 1, 0, none⟩ (.int .i64 0)).setCell ⟨w.heap.size + 1, 1, none⟩ (.slice none 0 0)).setCell ⟨w.heap.size + 1, 2, none⟩ (.slice none 0 0)).setCell ⟨w.heap.size + 1, 3, none⟩ (.int .i64 0)).setCell ⟨w.heap.size + 1, 4, none⟩ (.int .i64 0)).setCell ⟨w.heap.size + 1, 5, none⟩ (.bool false)) = W6 at *
          replace kz := Aside.mk kz_
          clear kz_
          refine bodyPost_ret (resC2 rfl _ _ _ rfl (run_loadVar_row _ _ _ _ _ (0, 0) _ kz.out Try.underlying25 rfl (by kernel_rfl))) rfl ?_
          rw [HR.out]
          exact ⟨_, _, rfl, rd_none _, hx.out⟩
        case neg =>
          have q2b : (k1 == 0) = false := by simpa using q2
          have q3 := q1
          by_cases q4 : k1 = 1
          case pos =>
            subst q4
            clear q1 q1b q2 q2b q3
            have lqz : w.heap.size + 1 < wo.heap.size := boxL kz.out
            obtain ⟨⟨cz0, cz1, cz2, cz3, cz4, cz5⟩, fz0, fz1, fz2, fz3, fz4, fz5⟩ := kb6 kz.out
            have lqr : w.heap.size < wo.heap.size := hx.out.sat.lt (Br.out 0 _ rfl)
            obtain ⟨cr0, cr1, cr2, cr3, cr4, cr5⟩ := hb6 hx.out.sat Br.out
            go_wp2_with fail
            clear lqz cz0 cz1 cz2 cz3 cz4 cz5 fz0 fz1 fz2 fz3 fz4 fz5 lqr cr0 cr1 cr2 cr3 cr4 cr5 g0 g1_ g2 g3 g4 g5
            have hszwo := hx.out.size
            have habzwo := boxL kz.out
            have kz_ : (wo.alloc (.cells #[.int .i64 1, .slice P1 s1.length d1, .slice P2 a1.length d2, .int .i64 u1, .int .i64 v1, .bool g1] 25)).heap[w.heap.size + 1]? = some (.cells #[.int .i64 0, .slice none 0 0, .slice none 0 0, .int .i64 0, .int .i64 0, .bool false] 25) := (boxA kz.out (.cells #[.int .i64 1, .slice P1 s1.length d1, .slice P2 a1.length d2, .int .i64 u1, .int .i64 v1, .bool g1] 25))
            have ke_ : (wo.alloc (.cells #[.int .i64 1, .slice P1 s1.length d1, .slice P2 a1.length d2, .int .i64 u1, .int .i64 v1, .bool g1] 25)).heap[wo.heap.size]? = some (.cells #[.int .i64 1, .slice P1 s1.length d1, .slice P2 a1.length d2, .int .i64 u1, .int .i64 v1, .bool g1] 25) := (heap_alloc_new _ _)
            have ne := Aside.mk (fun o => hx.out.sat.new (b := wo.heap.size) (show wo.heap.size ≤ _ by omega) o)
            replace hx := Aside.mk ((hx.out.alloc (.cells #[.int .i64 1, .slice P1 s1.length d1, .slice P2 a1.length d2, .int .i64 u1, .int .i64 v1, .bool g1] 25)))
            generalize (wo.alloc (.cells #[.int .i64 1, .slice P1 s1.length d1, .slice P2 a1.length d2, .int .i64 u1, .int .i64 v1, .bool g1] 25)) = W7 at *
            replace kz := Aside.mk kz_
            clear kz_
            have ke := Aside.mk ke_
            clear ke_
            obtain ⟨H1, hx2, hle, Be, hold⟩ := box_freeze hx.out (by omega) ke.out ne.out
            replace hr := Aside.mk (hr.out.mono hle)
            replace h2 := Aside.mk (h2.out.mono hle)
            replace hT := Aside.mk (hT.out.mono hle)
            replace hF := Aside.mk (hF.out.mono hle)
            replace hrd0 := Aside.mk (hrd0.out.mono hle)
            replace hra := Aside.mk (hra.out.mono hle)
            replace Br := Aside.mk (Br.out.mono hle)
            replace nz := Aside.mk (fun o => (hold _ o (by omega)).trans (nz.out o))
            replace hx := Aside.mk hx2
            replace Be := Aside.mk Be
            clear hle hold hx2 ke ne
            have hwx := hx.out.size
            have HS2 := Aside.mk (fun w' (hb : Sat w' H1) => show w'.cell? ⟨w.heap.size, 2, none⟩ = some (.slice (some ⟨b, off, none⟩) args.length c2) from (by have q := at6 hb Br.out; simp only [Nat.add_zero, Nat.zero_add] at q; exact q.2.2.1))
            have hbase0 : w.heap.size + 1 + 1 ≤ W7.heap.size := boxL kz.out
            have hlt48 : ((args.take k).length + 0) * 80 ≤ 140737488355328 := by rw [HA.out.2.2.1]; omega
            have hby1 : Aside ((([] : List Re).length + (args.take k).length) * 80 ≤ 140737488355328 ∧ ([] : List Re).length + (args.take k).length ≤ maxLen) := ⟨by rw [HA.out.2.2.1]; simp; omega, by rw [HA.out.2.2.1]; unfold maxLen; simp; omega⟩
            have hby2 : Aside ((([] ++ args.take k : List Re).length + (args.drop (k + 1)).length) * 80 ≤ 140737488355328 ∧ ([] ++ args.take k : List Re).length + (args.drop (k + 1)).length ≤ maxLen) := ⟨by rw [List.nil_append, HA.out.2.2.1, HA.out.2.2.2.1]; omega, by rw [List.nil_append, HA.out.2.2.1, HA.out.2.2.2.1]; unfold maxLen; omega⟩
            clear hlt48
            have hlit := Aside.mk (Own.lit (k := kRe) (e := 25) (xs := []) (base := W7.heap.size) hx.out.sat.drew #[] (Nat.le_refl _) rfl (by unfold maxLen; simp))
            go_region_held3 (fun w' => w'.cell? ⟨w.heap.size, 2, none⟩ = some (.slice (some ⟨b, off, none⟩) args.length c2))
              (first | exact HS2.out _ hx.out.sat | exact HS2.out _ hx.out.sat.drew | exact HS2.out _ (hx.out.sat.drew.alloc _) | exact HS2.out _ (hx.out.sat.alloc _).drew | exact HS2.out _ hs8 | exact HS2.out _ hs9)
              ((first
              | (have _t := ho8; go_must (refine step_appS kRe (by rfl) (.tmp 24) (.tmp 29) 23 (by rfl) 25 Try.underlying23 info25 rfl ho8 hs8 hF.out (by rfl) (by rfl) hby2.out.1 hby2.out.2 (by have := hg8.size; simp at this; omega) ?_); intro v9 w9 ho9 hg9 hs9 hn9)
              | (go_must (refine step_appS kRe (by rfl) (.tmp 19) (.tmp 23) 23 (by rfl) 25 Try.underlying23 info25 rfl hlit.out (hx.out.sat.drew.alloc _) hT.out (by rfl) (by rfl) hby1.out.1 hby1.out.2 (by simp) ?_); intro v8 w8 ho8 hg8 hs8 hn8)))
            have hb8 : Below W7.heap.size W7 w8 := (bD (bA (Below.refl _ _) _)).grown hg8 (bD (bA (Below.refl _ _) _)).size (fun b hb => by simp [Value.ownBlock] at hb; omega)
            have hb9 : Below W7.heap.size W7 w9 := hb8.grown hg9 hb8.size (fun b hb => (ho8.blk hb).1)
            simp only [List.nil_append] at ho9
            obtain ⟨A9, c9, e9, -, -, -, -⟩ := ho9.form
            generalize (args.take k ++ args.drop (k + 1)).length = l9 at e9
            subst e9
            clear hlit ho8 hg8 hs8 hn8 hg9 hs9 hn9 hb8 hby2 HS2
            replace kz := Aside.mk (box_below kz.out hb9)
            replace hx := Aside.mk (hx.out.then_below hb9)
            clear hb9
            replace ho9 := Aside.mk ho9
            have lqz : w.heap.size + 1 < w9.heap.size := boxL kz.out
            obtain ⟨⟨cz0, cz1, cz2, cz3, cz4, cz5⟩, fz0, fz1, fz2, fz3, fz4, fz5⟩ := kb6 kz.out
            have lqr : w.heap.size < w9.heap.size := hx.out.sat.lt (Br.out 0 _ rfl)
            obtain ⟨cr0, cr1, cr2, cr3, cr4, cr5⟩ := hb6 hx.out.sat Br.out
            have lqe : wo.heap.size < w9.heap.size := hx.out.sat.lt (Be.out 0 _ rfl)
            obtain ⟨ce0, ce1, ce2, ce3, ce4, ce5⟩ := hb6 hx.out.sat Be.out
            go_wp2_with fail
            clear lqz cz0 cz1 cz2 cz3 cz4 cz5 fz0 fz1 fz2 fz3 fz4 fz5 lqr cr0 cr1 cr2 cr3 cr4 cr5 lqe ce0 ce1 ce2 ce3 ce4 ce5
            go_loopw [8, 83] (fun s8 i wr => ∃ (j : Nat) (Hq : PH), j ≤ k ∧ i = .int .i64 j ∧ s8 = .bool true ∧ Aside (Ext H Hq w wr) ∧ Aside (RdRe Hq (Re.mk 3 s args mn mx ng) [.int .i64 3, .slice A1 s.length c1, .slice (some ⟨b, off, none⟩) args.length c2, .int .i64 mn, .int .i64 mx, .bool ng]) ∧ Aside (SlR kRe Hq (some ⟨b, off, none⟩) args.length c2 args) ∧ Aside (SlR kRe Hq (some ⟨b, off, none⟩) k c2 (args.take k)) ∧ Aside (SlR kRe Hq QA (args.length - (k + 1)) (c2 - (k + 1)) (args.drop (k + 1))) ∧ Aside (RdRe Hq (Re.mk 1 s1 a1 u1 v1 g1) [.int .i64 1, .slice P1 s1.length d1, .slice P2 a1.length d2, .int .i64 u1, .int .i64 v1, .bool g1]) ∧ Aside (SlR kRe Hq P2 a1.length d2 a1) ∧ Aside (BoxH Hq (w.heap.size) [.int .i64 3, .slice A1 s.length c1, .slice (some ⟨b, off, none⟩) args.length c2, .int .i64 mn, .int .i64 mx, .bool ng]) ∧ Aside (BoxH Hq (wo.heap.size) [.int .i64 1, .slice P1 s1.length d1, .slice P2 a1.length d2, .int .i64 u1, .int .i64 v1, .bool g1]) ∧ Aside (wr.heap[w.heap.size + 1]? = some (.cells #[.int .i64 0, .slice none 0 0, .slice none 0 0, .int .i64 0, .int .i64 0, .bool false] 25)) ∧ Aside (∀ o, Hq (w.heap.size + 1) o = none) ∧ Aside (Own kRe 25 wr (W7.heap.size) Hq (.slice A9 l9 c9) (args.take k ++ args.drop (k + 1)))) (fun _ i _ => k - (intOf i).toNat)
            case atStart => exact ⟨0, _, by omega, rfl, rfl, hx, hr, h2, hT, hF, hrd0, hra, Br, Be, kz, nz, ⟨by simpa using ho9.out⟩⟩
            case round =>
              clear hx hr h2 hT hF hrd0 hra Br Be kz nz ho9
              obtain ⟨j, Hq, hj, rfl, rfl, hx, hr, h2, hT, hF, hrd0, hra, Br, Be, kz, nz, ho9⟩ := hrel
              by_cases hjk : j < k
              case pos =>
                have hjl : j < (args.take k).length := by rw [HA.out.2.2.1]; exact hjk
                obtain ⟨b', off', k4, s4, a4, u4, v4, g4, R1, r1, R2, r2, e0, q9, hrd2, z0, z1, z2, z3, z4, z5⟩ := cell_elem hT.out hx.out.sat j hjl
                simp only [Option.some.injEq, Addr.mk.injEq, and_true] at e0
                obtain ⟨rfl, rfl⟩ := e0
                have htj : (args.take k).take (j + 1) = (args.take k).take j ++ [(args.take k)[j]] := List.take_succ_eq_append_getElem hjl
                rw [q9] at htj
                replace htj := Aside.mk htj
                replace hrd2 := Aside.mk hrd2
                clear q9 hjl
                have hjk2 := Aside.mk hjk
                have hbzq : b < wr.heap.size := World.block_lt_of_cell? wr _ z0
                have lqz : w.heap.size + 1 < wr.heap.size := boxL kz.out
                obtain ⟨⟨cz0, cz1, cz2, cz3, cz4, cz5⟩, fz0, fz1, fz2, fz3, fz4, fz5⟩ := kb6 kz.out
                have lqr : w.heap.size < wr.heap.size := hx.out.sat.lt (Br.out 0 _ rfl)
                obtain ⟨cr0, cr1, cr2, cr3, cr4, cr5⟩ := hb6 hx.out.sat Br.out
                have lqe : wo.heap.size < wr.heap.size := hx.out.sat.lt (Be.out 0 _ rfl)
                obtain ⟨ce0, ce1, ce2, ce3, ce4, ce5⟩ := hb6 hx.out.sat Be.out
                go_wp2_with fail
                clear lqz cz0 cz1 cz2 cz3 cz4 cz5 fz0 fz1 fz2 fz3 fz4 fz5 lqr cr0 cr1 cr2 cr3 cr4 cr5 lqe ce0 ce1 ce2 ce3 ce4 ce5 z0 z1 z2 z3 z4 z5
                have kz_ : (wr.alloc (.cells #[.int .i64 k4, .slice R1 s4.length r1, .slice R2 a4.length r2, .int .i64 u4, .int .i64 v4, .bool g4] 25)).heap[w.heap.size + 1]? = some (.cells #[.int .i64 0, .slice none 0 0, .slice none 0 0, .int .i64 0, .int .i64 0, .bool false] 25) := (boxA kz.out (.cells #[.int .i64 k4, .slice R1 s4.length r1, .slice R2 a4.length r2, .int .i64 u4, .int .i64 v4, .bool g4] 25))
                replace ho9 := Aside.mk (ho9.out.alloc (hx.out).sat (.cells #[.int .i64 k4, .slice R1 s4.length r1, .slice R2 a4.length r2, .int .i64 u4, .int .i64 v4, .bool g4] 25))
                replace hx := Aside.mk ((hx.out.alloc (.cells #[.int .i64 k4, .slice R1 s4.length r1, .slice R2 a4.length r2, .int .i64 u4, .int .i64 v4, .bool g4] 25)))
                generalize (wr.alloc (.cells #[.int .i64 k4, .slice R1 s4.length r1, .slice R2 a4.length r2, .int .i64 u4, .int .i64 v4, .bool g4] 25)) = W8 at *
                replace kz := Aside.mk kz_
                clear kz_
                clear hrd2 htj
                go_roundw
                case rel => exact ⟨j + 1, _, hjk2.out, by go_num, rfl, hx, hr, h2, hT, hF, hrd0, hra, Br, Be, kz, nz, ho9⟩
                case measure => (have := hjk2.out; simp [intOf]; omega)
              case neg =>
                obtain rfl : j = k := by omega
                have HR := Aside.mk (show manyF 3 args = some (leftF 3 (args.take j ++ args.drop (j + 1))) from by unfold manyF; rw [hM.out, HA.out.1]; simp [Re.kind, Re.args])
                obtain ⟨H31, hx31, hle31, ⟨A30, c30, e30, hs30⟩, hold31⟩ := ho9.out.freezeE hx.out (by omega) (by rw [List.length_append, HA.out.2.2.1, HA.out.2.2.2.1]; omega)
                simp only [List.cons.injEq, Value.slice.injEq, and_true] at e30
                obtain ⟨rfl, e31, rfl⟩ := e30
                rw [← e31] at hs30
                replace Br := Aside.mk (Br.out.mono hle31)
                replace nz := Aside.mk (fun o => (hold31 _ o (fun e => by have h1 := (ho9.out.blk e).1; omega)).trans (nz.out o))
                replace hx := Aside.mk hx31
                replace hs30 := Aside.mk hs30
                clear e31 ho9 hold31 hle31 hx31 hr h2 hT hF hrd0 hra Be
                have lqz : w.heap.size + 1 < wr.heap.size := boxL kz.out
                obtain ⟨⟨cz0, cz1, cz2, cz3, cz4, cz5⟩, fz0, fz1, fz2, fz3, fz4, fz5⟩ := kb6 kz.out
                have lqr : w.heap.size < wr.heap.size := hx.out.sat.lt (Br.out 0 _ rfl)
                obtain ⟨cr0, cr1, cr2, cr3, cr4, cr5⟩ := hb6 hx.out.sat Br.out
                go_wp2_with fail
                clear lqz cz0 cz1 cz2 cz3 cz4 cz5 fz0 fz1 fz2 fz3 fz4 fz5 lqr cr0 cr1 cr2 cr3 cr4 cr5
                refine (left_any _ 3 _ _ _ _ _ hs30.out hx.out.sat).mono ?_
                rintro e w32 ⟨H32, cs32, rfl, hr32, hz32⟩
                have hle := hz32.le
                replace hs30 := Aside.mk (hs30.out.mono hle)
                replace Br := Aside.mk (Br.out.mono hle)
                replace nz := Aside.mk (fun o => (hz32.old _ o (boxL kz.out)).trans (nz.out o))
                replace kz := Aside.mk (box_below kz.out hz32.below)
                replace hx := Aside.mk (hx.out.trans hz32)
                clear hle hz32
                generalize leftF 3 (args.take j ++ args.drop (j + 1)) = lf at *
                have hr33 := Aside.mk hr32
                obtain ⟨k7, s7, a7, u7, v7, g7, rfl⟩ : ∃ a b c d e f, lf = Re.mk a b c d e f := (by cases lf; exact ⟨_, _, _, _, _, _, rfl⟩)
                obtain ⟨Q1, q1_, Q2, q2_, rfl, -, -⟩ := hr32.open
                clear hr32
                have lqz : w.heap.size + 1 < w32.heap.size := boxL kz.out
                obtain ⟨⟨cz0, cz1, cz2, cz3, cz4, cz5⟩, fz0, fz1, fz2, fz3, fz4, fz5⟩ := kb6 kz.out
                have lqr : w.heap.size < w32.heap.size := hx.out.sat.lt (Br.out 0 _ rfl)
                obtain ⟨cr0, cr1, cr2, cr3, cr4, cr5⟩ := hb6 hx.out.sat Br.out
                go_wp2_with fail
                clear lqz cz0 cz1 cz2 cz3 cz4 cz5 fz0 fz1 fz2 fz3 fz4 fz5 lqr cr0 cr1 cr2 cr3 cr4 cr5
                have kz_ : ((((((w32.setCell ⟨w.heap.size + 1, 0, none⟩ (.int .i64 k7)).setCell ⟨w.heap.size + 1, 1, none⟩ (.slice Q1 s7.length q1_)).setCell ⟨w.heap.size + 1, 2, none⟩ (.slice Q2 a7.length q2_)).setCell ⟨w.heap.size + 1, 3, none⟩ (.int .i64 u7)).setCell ⟨w.heap.size + 1, 4, none⟩ (.int .i64 v7)).setCell ⟨w.heap.size + 1, 5, none⟩ (.bool g7)).heap[w.heap.size + 1]? = some (.cells #[.int .i64 k7, .slice Q1 s7.length q1_, .slice Q2 a7.length q2_, .int .i64 u7, .int .i64 v7, .bool g7] 25) := (boxS (boxS (boxS (boxS (boxS (boxS kz.out 0 (.int .i64 k7)) 1 (.slice Q1 s7.length q1_)) 2 (.slice Q2 a7.length q2_)) 3 (.int .i64 u7)) 4 (.int .i64 v7)) 5 (.bool g7))
                replace hx := Aside.mk (((((((hx.out.setCell (b := w.heap.size + 1) (o := 0) (by first | omega | (simp; omega)) nz.out (.int .i64 k7)).setCell (b := w.heap.size + 1) (o := 1) (by first | omega | (simp; omega)) nz.out (.slice Q1 s7.length q1_)).setCell (b := w.heap.size + 1) (o := 2) (by first | omega | (simp; omega)) nz.out (.slice Q2 a7.length q2_)).setCell (b := w.heap.size + 1) (o := 3) (by first | omega | (simp; omega)) nz.out (.int .i64 u7)).setCell (b := w.heap.size + 1) (o := 4) (by first | omega | (simp; omega)) nz.out (.int .i64 v7)).setCell (b := w.heap.size + 1) (o := 5) (by first | omega | (simp; omega)) nz.out (.bool g7)))
                generalize ((((((w32.setCell ⟨w.heap.size + 1, 0, none⟩ (.int .i64 k7)).setCell ⟨w.heap.size + 1, 1, none⟩ (.slice Q1 s7.length q1_)).setCell ⟨w.heap.size + 1, 2, none⟩ (.slice Q2 a7.length q2_)).setCell ⟨w.heap.size + 1, 3, none⟩ (.int .i64 u7)).setCell ⟨w.heap.size + 1, 4, none⟩ (.int .i64 v7)).setCell ⟨w.heap.size + 1, 5, none⟩ (.bool g7)) = W9 at *
                replace kz := Aside.mk kz_
                clear kz_
                refine bodyPost_ret (resC2 rfl _ _ _ rfl (run_loadVar_row _ _ _ _ _ (0, 0) _ kz.out Try.underlying25 rfl (by kernel_rfl))) rfl ?_
                rw [HR.out]
                exact ⟨_, _, rfl, hr33.out, hx.out⟩
          case neg =>
            have q4b : (k1 == 1) = false := by simpa using q4
            have QA_ := Aside.mk (And.intro q1 (And.intro q2 q4))
            clear q1 q2 q3 q4
            have lqz : w.heap.size + 1 < wo.heap.size := boxL kz.out
            obtain ⟨⟨cz0, cz1, cz2, cz3, cz4, cz5⟩, fz0, fz1, fz2, fz3, fz4, fz5⟩ := kb6 kz.out
            have lqr : w.heap.size < wo.heap.size := hx.out.sat.lt (Br.out 0 _ rfl)
            obtain ⟨cr0, cr1, cr2, cr3, cr4, cr5⟩ := hb6 hx.out.sat Br.out
            go_wp2_with fail
            clear lqz cz0 cz1 cz2 cz3 cz4 cz5 fz0 fz1 fz2 fz3 fz4 fz5 lqr cr0 cr1 cr2 cr3 cr4 cr5 g0 g1_ g2 g3 g4 g5
            have hszwo := hx.out.size
            have habzwo := boxL kz.out
            have kz_ : (wo.alloc (.cells #[.int .i64 k1, .slice P1 s1.length d1, .slice P2 a1.length d2, .int .i64 u1, .int .i64 v1, .bool g1] 25)).heap[w.heap.size + 1]? = some (.cells #[.int .i64 0, .slice none 0 0, .slice none 0 0, .int .i64 0, .int .i64 0, .bool false] 25) := (boxA kz.out (.cells #[.int .i64 k1, .slice P1 s1.length d1, .slice P2 a1.length d2, .int .i64 u1, .int .i64 v1, .bool g1] 25))
            have ke_ : (wo.alloc (.cells #[.int .i64 k1, .slice P1 s1.length d1, .slice P2 a1.length d2, .int .i64 u1, .int .i64 v1, .bool g1] 25)).heap[wo.heap.size]? = some (.cells #[.int .i64 k1, .slice P1 s1.length d1, .slice P2 a1.length d2, .int .i64 u1, .int .i64 v1, .bool g1] 25) := (heap_alloc_new _ _)
            have ne := Aside.mk (fun o => hx.out.sat.new (b := wo.heap.size) (show wo.heap.size ≤ _ by omega) o)
            replace hx := Aside.mk ((hx.out.alloc (.cells #[.int .i64 k1, .slice P1 s1.length d1, .slice P2 a1.length d2, .int .i64 u1, .int .i64 v1, .bool g1] 25)))
            generalize (wo.alloc (.cells #[.int .i64 k1, .slice P1 s1.length d1, .slice P2 a1.length d2, .int .i64 u1, .int .i64 v1, .bool g1] 25)) = W10 at *
            replace kz := Aside.mk kz_
            clear kz_
            have ke := Aside.mk ke_
            clear ke_
            obtain ⟨H1, hx2, hle, Be, hold⟩ := box_freeze hx.out (by omega) ke.out ne.out
            replace hr := Aside.mk (hr.out.mono hle)
            replace h2 := Aside.mk (h2.out.mono hle)
            replace hT := Aside.mk (hT.out.mono hle)
            replace hF := Aside.mk (hF.out.mono hle)
            replace hrd0 := Aside.mk (hrd0.out.mono hle)
            replace hra := Aside.mk (hra.out.mono hle)
            replace Br := Aside.mk (Br.out.mono hle)
            replace nz := Aside.mk (fun o => (hold _ o (by omega)).trans (nz.out o))
            replace hx := Aside.mk hx2
            replace Be := Aside.mk Be
            clear hle hold hx2 ke ne
            have hwx := hx.out.size
            have HS2 := Aside.mk (fun w' (hb : Sat w' H1) => show w'.cell? ⟨w.heap.size, 2, none⟩ = some (.slice (some ⟨b, off, none⟩) args.length c2) from (by have q := at6 hb Br.out; simp only [Nat.add_zero, Nat.zero_add] at q; exact q.2.2.1))
            have hbase0 : w.heap.size + 1 + 1 ≤ W10.heap.size := boxL kz.out
            have hlt48 : ((args.take k).length + 0) * 80 ≤ 140737488355328 := by rw [HA.out.2.2.1]; omega
            have hby1 : Aside ((([] : List Re).length + (args.take k).length) * 80 ≤ 140737488355328 ∧ ([] : List Re).length + (args.take k).length ≤ maxLen) := ⟨by rw [HA.out.2.2.1]; simp; omega, by rw [HA.out.2.2.1]; unfold maxLen; simp; omega⟩
            have hby2 : Aside ((([] ++ args.take k : List Re).length + (args.drop (k + 1)).length) * 80 ≤ 140737488355328 ∧ ([] ++ args.take k : List Re).length + (args.drop (k + 1)).length ≤ maxLen) := ⟨by rw [List.nil_append, HA.out.2.2.1, HA.out.2.2.2.1]; omega, by rw [List.nil_append, HA.out.2.2.1, HA.out.2.2.2.1]; unfold maxLen; omega⟩
            clear hlt48
            have hlit := Aside.mk (Own.lit (k := kRe) (e := 25) (xs := []) (base := W10.heap.size) hx.out.sat.drew #[] (Nat.le_refl _) rfl (by unfold maxLen; simp))
            go_region_held3 (fun w' => w'.cell? ⟨w.heap.size, 2, none⟩ = some (.slice (some ⟨b, off, none⟩) args.length c2))
              (first | exact HS2.out _ hx.out.sat | exact HS2.out _ hx.out.sat.drew | exact HS2.out _ (hx.out.sat.drew.alloc _) | exact HS2.out _ (hx.out.sat.alloc _).drew | exact HS2.out _ hs8 | exact HS2.out _ hs9)
              ((first
              | (have _t := ho8; go_must (refine step_appS kRe (by rfl) (.tmp 24) (.tmp 29) 23 (by rfl) 25 Try.underlying23 info25 rfl ho8 hs8 hF.out (by rfl) (by rfl) hby2.out.1 hby2.out.2 (by have := hg8.size; simp at this; omega) ?_); intro v9 w9 ho9 hg9 hs9 hn9)
              | (go_must (refine step_appS kRe (by rfl) (.tmp 19) (.tmp 23) 23 (by rfl) 25 Try.underlying23 info25 rfl hlit.out (hx.out.sat.drew.alloc _) hT.out (by rfl) (by rfl) hby1.out.1 hby1.out.2 (by simp) ?_); intro v8 w8 ho8 hg8 hs8 hn8)))
            have hb8 : Below W10.heap.size W10 w8 := (bD (bA (Below.refl _ _) _)).grown hg8 (bD (bA (Below.refl _ _) _)).size (fun b hb => by simp [Value.ownBlock] at hb; omega)
            have hb9 : Below W10.heap.size W10 w9 := hb8.grown hg9 hb8.size (fun b hb => (ho8.blk hb).1)
            simp only [List.nil_append] at ho9
            obtain ⟨A9, c9, e9, -, -, -, -⟩ := ho9.form
            generalize (args.take k ++ args.drop (k + 1)).length = l9 at e9
            subst e9
            clear hlit ho8 hg8 hs8 hn8 hg9 hs9 hn9 hb8 hby2 HS2
            replace kz := Aside.mk (box_below kz.out hb9)
            replace hx := Aside.mk (hx.out.then_below hb9)
            clear hb9
            replace ho9 := Aside.mk ho9
            have lqz : w.heap.size + 1 < w9.heap.size := boxL kz.out
            obtain ⟨⟨cz0, cz1, cz2, cz3, cz4, cz5⟩, fz0, fz1, fz2, fz3, fz4, fz5⟩ := kb6 kz.out
            have lqr : w.heap.size < w9.heap.size := hx.out.sat.lt (Br.out 0 _ rfl)
            obtain ⟨cr0, cr1, cr2, cr3, cr4, cr5⟩ := hb6 hx.out.sat Br.out
            have lqe : wo.heap.size < w9.heap.size := hx.out.sat.lt (Be.out 0 _ rfl)
            obtain ⟨ce0, ce1, ce2, ce3, ce4, ce5⟩ := hb6 hx.out.sat Be.out
            go_wp2_with fail
            clear lqz cz0 cz1 cz2 cz3 cz4 cz5 fz0 fz1 fz2 fz3 fz4 fz5 lqr cr0 cr1 cr2 cr3 cr4 cr5 lqe ce0 ce1 ce2 ce3 ce4 ce5
            go_loopw [8, 83] (fun s8 i wr => ∃ (j : Nat) (Hq : PH), j ≤ k ∧ i = .int .i64 j ∧ s8 = .bool false ∧ Aside (Ext H Hq w wr) ∧ Aside (RdRe Hq (Re.mk 3 s args mn mx ng) [.int .i64 3, .slice A1 s.length c1, .slice (some ⟨b, off, none⟩) args.length c2, .int .i64 mn, .int .i64 mx, .bool ng]) ∧ Aside (SlR kRe Hq (some ⟨b, off, none⟩) args.length c2 args) ∧ Aside (SlR kRe Hq (some ⟨b, off, none⟩) k c2 (args.take k)) ∧ Aside (SlR kRe Hq QA (args.length - (k + 1)) (c2 - (k + 1)) (args.drop (k + 1))) ∧ Aside (RdRe Hq (Re.mk k1 s1 a1 u1 v1 g1) [.int .i64 k1, .slice P1 s1.length d1, .slice P2 a1.length d2, .int .i64 u1, .int .i64 v1, .bool g1]) ∧ Aside (SlR kRe Hq P2 a1.length d2 a1) ∧ Aside (BoxH Hq (w.heap.size) [.int .i64 3, .slice A1 s.length c1, .slice (some ⟨b, off, none⟩) args.length c2, .int .i64 mn, .int .i64 mx, .bool ng]) ∧ Aside (BoxH Hq (wo.heap.size) [.int .i64 k1, .slice P1 s1.length d1, .slice P2 a1.length d2, .int .i64 u1, .int .i64 v1, .bool g1]) ∧ Aside (wr.heap[w.heap.size + 1]? = some (.cells #[.int .i64 0, .slice none 0 0, .slice none 0 0, .int .i64 0, .int .i64 0, .bool false] 25)) ∧ Aside (∀ o, Hq (w.heap.size + 1) o = none) ∧ Aside (Own kRe 25 wr (W10.heap.size) Hq (.slice A9 l9 c9) (args.take k ++ args.drop (k + 1)))) (fun _ i _ => k - (intOf i).toNat)
            case atStart => exact ⟨0, _, by omega, rfl, rfl, hx, hr, h2, hT, hF, hrd0, hra, Br, Be, kz, nz, ⟨by simpa using ho9.out⟩⟩
            case round =>
              clear hx hr h2 hT hF hrd0 hra Br Be kz nz ho9
              obtain ⟨j, Hq, hj, rfl, rfl, hx, hr, h2, hT, hF, hrd0, hra, Br, Be, kz, nz, ho9⟩ := hrel
              by_cases hjk : j < k
              case pos =>
                have hjl : j < (args.take k).length := by rw [HA.out.2.2.1]; exact hjk
                obtain ⟨b', off', k4, s4, a4, u4, v4, g4, R1, r1, R2, r2, e0, q9, hrd2, z0, z1, z2, z3, z4, z5⟩ := cell_elem hT.out hx.out.sat j hjl
                simp only [Option.some.injEq, Addr.mk.injEq, and_true] at e0
                obtain ⟨rfl, rfl⟩ := e0
                have htj : (args.take k).take (j + 1) = (args.take k).take j ++ [(args.take k)[j]] := List.take_succ_eq_append_getElem hjl
                rw [q9] at htj
                replace htj := Aside.mk htj
                replace hrd2 := Aside.mk hrd2
                clear q9 hjl
                have hjk2 := Aside.mk hjk
                have hbzq : b < wr.heap.size := World.block_lt_of_cell? wr _ z0
                have lqz : w.heap.size + 1 < wr.heap.size := boxL kz.out
                obtain ⟨⟨cz0, cz1, cz2, cz3, cz4, cz5⟩, fz0, fz1, fz2, fz3, fz4, fz5⟩ := kb6 kz.out
                have lqr : w.heap.size < wr.heap.size := hx.out.sat.lt (Br.out 0 _ rfl)
                obtain ⟨cr0, cr1, cr2, cr3, cr4, cr5⟩ := hb6 hx.out.sat Br.out
                have lqe : wo.heap.size < wr.heap.size := hx.out.sat.lt (Be.out 0 _ rfl)
                obtain ⟨ce0, ce1, ce2, ce3, ce4, ce5⟩ := hb6 hx.out.sat Be.out
                go_wp2_with fail
                clear lqz cz0 cz1 cz2 cz3 cz4 cz5 fz0 fz1 fz2 fz3 fz4 fz5 lqr cr0 cr1 cr2 cr3 cr4 cr5 lqe ce0 ce1 ce2 ce3 ce4 ce5 z0 z1 z2 z3 z4 z5
                have kz_ : (wr.alloc (.cells #[.int .i64 k4, .slice R1 s4.length r1, .slice R2 a4.length r2, .int .i64 u4, .int .i64 v4, .bool g4] 25)).heap[w.heap.size + 1]? = some (.cells #[.int .i64 0, .slice none 0 0, .slice none 0 0, .int .i64 0, .int .i64 0, .bool false] 25) := (boxA kz.out (.cells #[.int .i64 k4, .slice R1 s4.length r1, .slice R2 a4.length r2, .int .i64 u4, .int .i64 v4, .bool g4] 25))
                replace ho9 := Aside.mk (ho9.out.alloc (hx.out).sat (.cells #[.int .i64 k4, .slice R1 s4.length r1, .slice R2 a4.length r2, .int .i64 u4, .int .i64 v4, .bool g4] 25))
                replace hx := Aside.mk ((hx.out.alloc (.cells #[.int .i64 k4, .slice R1 s4.length r1, .slice R2 a4.length r2, .int .i64 u4, .int .i64 v4, .bool g4] 25)))
                generalize (wr.alloc (.cells #[.int .i64 k4, .slice R1 s4.length r1, .slice R2 a4.length r2, .int .i64 u4, .int .i64 v4, .bool g4] 25)) = W11 at *
                replace kz := Aside.mk kz_
                clear kz_
                clear hrd2 htj
                go_roundw
                case rel => exact ⟨j + 1, _, hjk2.out, by go_num, rfl, hx, hr, h2, hT, hF, hrd0, hra, Br, Be, kz, nz, ho9⟩
                case measure => (have := hjk2.out; simp [intOf]; omega)
              case neg =>
                obtain rfl : j = k := by omega
                have hN : manyGo 3 [] args = manyGo 3 (args.take (j + 1)) (args.drop (j + 1)) := by rw [hM.out, HA.out.1]; simp [Re.kind, QA_.out.1, QA_.out.2.1, QA_.out.2.2]
                replace hM := Aside.mk hN
                clear hN ho9
                clear Be
                clear hT hF hrd0 hra
                have lqz : w.heap.size + 1 < wr.heap.size := boxL kz.out
                obtain ⟨⟨cz0, cz1, cz2, cz3, cz4, cz5⟩, fz0, fz1, fz2, fz3, fz4, fz5⟩ := kb6 kz.out
                have lqr : w.heap.size < wr.heap.size := hx.out.sat.lt (Br.out 0 _ rfl)
                obtain ⟨cr0, cr1, cr2, cr3, cr4, cr5⟩ := hb6 hx.out.sat Br.out
                go_wp2_with fail
                clear lqz cz0 cz1 cz2 cz3 cz4 cz5 fz0 fz1 fz2 fz3 fz4 fz5 lqr cr0 cr1 cr2 cr3 cr4 cr5
                go_roundw
                case rel => exact ⟨j + 1, _, HA.out.2.2.2.2.2, by go_num, hM, hx, hr, h2, Br, kz, nz⟩
                case measure => (have := HA.out.2.2.2.2.2; simp [intOf]; omega)
    case neg =>
      obtain rfl : k = args.length := by omega
      have hN : manyGo 3 [] args = none := by rw [hM.out]; simp [manyGo]
      have hN2 : manyF 3 args = oneOf args := by unfold manyF; rw [hN]
      clear hN
      by_cases h1 : args.length = 1
      case pos =>
        obtain ⟨x, hx1⟩ := List.length_eq_one_iff.1 h1
        obtain ⟨b, off, k1, s1, a1, u1, v1, g1, P1, d1, P2, d2, e0, hq, hrd, g0, g1_, g2, g3, g4, g5⟩ := cell_elem h2.out hx.out.sat 0 (by omega)
        simp only [Nat.zero_mul, Nat.add_zero] at g0 g1_ g2 g3 g4 g5
        subst e0
        have HR := Aside.mk (show manyF 3 args = some (Re.mk k1 s1 a1 u1 v1 g1) from by rw [hN2, ← hq]; subst hx1; rfl)
        replace hrd := Aside.mk hrd
        have hbz : b < wo.heap.size := World.block_lt_of_cell? wo _ g0
        replace hx1 := Aside.mk hx1
        clear hq hN2
        have h1i : (args.length : Int) = 1 := by omega
        have h1l : (0 : Int) < (args.length : Int) := by omega
        have lqz : w.heap.size + 1 < wo.heap.size := boxL kz.out
        obtain ⟨⟨cz0, cz1, cz2, cz3, cz4, cz5⟩, fz0, fz1, fz2, fz3, fz4, fz5⟩ := kb6 kz.out
        have lqr : w.heap.size < wo.heap.size := hx.out.sat.lt (Br.out 0 _ rfl)
        obtain ⟨cr0, cr1, cr2, cr3, cr4, cr5⟩ := hb6 hx.out.sat Br.out
        go_wp2_with fail
        clear lqz cz0 cz1 cz2 cz3 cz4 cz5 fz0 fz1 fz2 fz3 fz4 fz5 lqr cr0 cr1 cr2 cr3 cr4 cr5 g0 g1_ g2 g3 g4 g5
        have kz_ : ((((((wo.setCell ⟨w.heap.size + 1, 0, none⟩ (.int .i64 k1)).setCell ⟨w.heap.size + 1, 1, none⟩ (.slice P1 s1.length d1)).setCell ⟨w.heap.size + 1, 2, none⟩ (.slice P2 a1.length d2)).setCell ⟨w.heap.size + 1, 3, none⟩ (.int .i64 u1)).setCell ⟨w.heap.size + 1, 4, none⟩ (.int .i64 v1)).setCell ⟨w.heap.size + 1, 5, none⟩ (.bool g1)).heap[w.heap.size + 1]? = some (.cells #[.int .i64 k1, .slice P1 s1.length d1, .slice P2 a1.length d2, .int .i64 u1, .int .i64 v1, .bool g1] 25) := (boxS (boxS (boxS (boxS (boxS (boxS kz.out 0 (.int .i64 k1)) 1 (.slice P1 s1.length d1)) 2 (.slice P2 a1.length d2)) 3 (.int .i64 u1)) 4 (.int .i64 v1)) 5 (.bool g1))
        replace hx := Aside.mk (((((((hx.out.setCell (b := w.heap.size + 1) (o := 0) (by first | omega | (simp; omega)) nz.out (.int .i64 k1)).setCell (b := w.heap.size + 1) (o := 1) (by first | omega | (simp; omega)) nz.out (.slice P1 s1.length d1)).setCell (b := w.heap.size + 1) (o := 2) (by first | omega | (simp; omega)) nz.out (.slice P2 a1.length d2)).setCell (b := w.heap.size + 1) (o := 3) (by first | omega | (simp; omega)) nz.out (.int .i64 u1)).setCell (b := w.heap.size + 1) (o := 4) (by first | omega | (simp; omega)) nz.out (.int .i64 v1)).setCell (b := w.heap.size + 1) (o := 5) (by first | omega | (simp; omega)) nz.out (.bool g1)))
        generalize ((((((wo.setCell ⟨w.heap.size + 1, 0, none⟩ (.int .i64 k1)).setCell ⟨w.heap.size + 1, 1, none⟩ (.slice P1 s1.length d1)).setCell ⟨w.heap.size + 1, 2, none⟩ (.slice P2 a1.length d2)).setCell ⟨w.heap.size + 1, 3, none⟩ (.int .i64 u1)).setCell ⟨w.heap.size + 1, 4, none⟩ (.int .i64 v1)).setCell ⟨w.heap.size + 1, 5, none⟩ (.bool g1)) = W12 at *
        replace kz := Aside.mk kz_
        clear kz_
        refine bodyPost_ret (resC2 rfl _ _ _ rfl (run_loadVar_row _ _ _ _ _ (0, 0) _ kz.out Try.underlying25 rfl (by kernel_rfl))) rfl ?_
        rw [HR.out]
        exact ⟨_, _, rfl, hrd.out, hx.out⟩
      case neg =>
        have HR := Aside.mk (show manyF 3 args = none from by rw [hN2]; cases args with | nil => rfl | cons a l => cases l with | nil => exact absurd rfl h1 | cons b l => rfl)
        have h1i : ¬ (args.length : Int) = 1 := by omega
        have h1j : ((args.length : Int) == 1) = false := by simp; omega
        clear hN2 h1
        have lqz : w.heap.size + 1 < wo.heap.size := boxL kz.out
        obtain ⟨⟨cz0, cz1, cz2, cz3, cz4, cz5⟩, fz0, fz1, fz2, fz3, fz4, fz5⟩ := kb6 kz.out
        have lqr : w.heap.size < wo.heap.size := hx.out.sat.lt (Br.out 0 _ rfl)
        obtain ⟨cr0, cr1, cr2, cr3, cr4, cr5⟩ := hb6 hx.out.sat Br.out
        go_wp2_with fail
        clear lqz cz0 cz1 cz2 cz3 cz4 cz5 fz0 fz1 fz2 fz3 fz4 fz5 lqr cr0 cr1 cr2 cr3 cr4 cr5
        have kz_ : ((((((wo.setCell ⟨w.heap.size + 1, 0, none⟩ (.int .i64 3)).setCell ⟨w.heap.size + 1, 1, none⟩ (.slice A1 s.length c1)).setCell ⟨w.heap.size + 1, 2, none⟩ (.slice A2 args.length c2)).setCell ⟨w.heap.size + 1, 3, none⟩ (.int .i64 mn)).setCell ⟨w.heap.size + 1, 4, none⟩ (.int .i64 mx)).setCell ⟨w.heap.size + 1, 5, none⟩ (.bool ng)).heap[w.heap.size + 1]? = some (.cells #[.int .i64 3, .slice A1 s.length c1, .slice A2 args.length c2, .int .i64 mn, .int .i64 mx, .bool ng] 25) := (boxS (boxS (boxS (boxS (boxS (boxS kz.out 0 (.int .i64 3)) 1 (.slice A1 s.length c1)) 2 (.slice A2 args.length c2)) 3 (.int .i64 mn)) 4 (.int .i64 mx)) 5 (.bool ng))
        replace hx := Aside.mk (((((((hx.out.setCell (b := w.heap.size + 1) (o := 0) (by first | omega | (simp; omega)) nz.out (.int .i64 3)).setCell (b := w.heap.size + 1) (o := 1) (by first | omega | (simp; omega)) nz.out (.slice A1 s.length c1)).setCell (b := w.heap.size + 1) (o := 2) (by first | omega | (simp; omega)) nz.out (.slice A2 args.length c2)).setCell (b := w.heap.size + 1) (o := 3) (by first | omega | (simp; omega)) nz.out (.int .i64 mn)).setCell (b := w.heap.size + 1) (o := 4) (by first | omega | (simp; omega)) nz.out (.int .i64 mx)).setCell (b := w.heap.size + 1) (o := 5) (by first | omega | (simp; omega)) nz.out (.bool ng)))
        generalize ((((((wo.setCell ⟨w.heap.size + 1, 0, none⟩ (.int .i64 3)).setCell ⟨w.heap.size + 1, 1, none⟩ (.slice A1 s.length c1)).setCell ⟨w.heap.size + 1, 2, none⟩ (.slice A2 args.length c2)).setCell ⟨w.heap.size + 1, 3, none⟩ (.int .i64 mn)).setCell ⟨w.heap.size + 1, 4, none⟩ (.int .i64 mx)).setCell ⟨w.heap.size + 1, 5, none⟩ (.bool ng)) = W13 at *
        replace kz := Aside.mk kz_
        clear kz_
        refine bodyPost_ret (resC2 rfl _ _ _ rfl (run_loadVar_row _ _ _ _ _ (0, 0) _ kz.out Try.underlying25 rfl (by kernel_rfl))) rfl ?_
        rw [HR.out]
        exact ⟨_, _, rfl, hr.out, hx.out⟩

end Go.Proofs.Ytbnahmeaeakhhaa.B
