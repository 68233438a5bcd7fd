/- Contracts: runeset.common, runeset.others. -/
import Derived.Test.YtbpophdfnlagdaaZd
namespace Go.Proofs.Ytbpophdfnlagdaa.B
set_option linter.unusedVariables false
set_option linter.unusedSimpArgs false
open Go Go.RowKit Classical

theorem cell_span {H : PH} {w : World} {A : Option Addr} {n c : Nat} {xs : List Span} (h : SlR kSpan H A n c xs) (hs : Sat w H) (i : Nat) (hi : i < xs.length) :
    ∃ b off lo hi, A = some ⟨b, off, none⟩ ∧ xs[i] = ⟨lo, hi⟩ ∧ w.cell? ⟨b, off + i * 2, none⟩ = some (.int .i64 lo) ∧ w.cell? ⟨b, off + i * 2 + 1, none⟩ = some (.int .i64 hi) := by
  obtain ⟨b, off, cs, e, hrd, hcell⟩ := h.row i hi
  cases hx : xs[i] with
  | mk lo hi =>
    rw [hx] at hrd
    obtain rfl : cs = [.int .i64 lo, .int .i64 hi] := hrd
    exact ⟨b, off, lo, hi, e, rfl, at2 hs hcell⟩

set_option maxRecDepth 100000 in
set_option maxHeartbeats 4000000 in
theorem common_any (H : PH) (x y : List Span) (A B : Option Addr) (c d : Nat) (w : World) (hx : SlR kSpan H A x.length c x) (hy : SlR kSpan H B y.length d y) (hs : Sat w H) (hlx : x.length ≤ 1000) (hly : y.length ≤ 1000) (hbx : ∀ s ∈ x, -2000000 ≤ s.lo ∧ s.hi ≤ 2000000) (hby : ∀ s ∈ y, -2000000 ≤ s.lo ∧ s.hi ≤ 2000000) :
    Calls Try.prog 59 #[.slice A x.length c, .slice B y.length d] w (RetO H w (comS x y)) := by
  have hc := hx.2.1
  have hd := hy.2.1
  have HB := Aside.mk (And.intro hbx hby)
  clear hbx hby
  obtain ⟨C, hC⟩ : ∃ C, C = comS x y := ⟨_, rfl⟩
  rw [← hC]
  have HC := Aside.mk hC
  clear hC
  go_enter Try.func59, Try.ntmps59
  go_wp2_with fail
  go_loopw [5, 6, 7] (fun o i k wr => ∃ (a b : Nat) (A5 : Option Addr) (l5 c5 : Nat) (done : List Span), a ≤ x.length ∧ b ≤ y.length ∧ i = .int .i64 a ∧ k = .int .i64 b ∧ o = .slice A5 l5 c5 ∧ Aside (Own kSpan 30 wr w.heap.size H o done) ∧ Aside (Below w.heap.size w wr) ∧ Aside (done ++ comS (x.drop a) (y.drop b) = C ∧ done.length ≤ a + b)) (fun _ i k _ => x.length + y.length - ((intOf i).toNat + (intOf k).toNat))
  case atStart => exact ⟨0, 0, _, _, _, [], by omega, by omega, rfl, rfl, rfl, ⟨Own.nil _ _ _ _ _⟩, ⟨Below.refl _ _⟩, ⟨by simp [HC.out]⟩⟩
  case round =>
    obtain ⟨a, b, A5, l5, c5, done, ha, hb, rfl, rfl, rfl, ho, hbl, hdone⟩ := hrel
    by_cases hax : a < x.length
    · by_cases hby : b < y.length
      · obtain ⟨b1, o1, lo1, hi1, rfl, e1, g0, g1⟩ := cell_span hx (hs.below hbl.out) a hax
        obtain ⟨b2, o2, lo2, hi2, rfl, e2, g2, g3⟩ := cell_span hy (hs.below hbl.out) b hby
        have hlt1 : (a : Int) < (x.length : Int) := by omega
        have hlt2 : (b : Int) < (y.length : Int) := by omega
        have HE := Aside.mk (And.intro (And.intro e1 e2) (And.intro (show x.drop a = ⟨lo1, hi1⟩ :: x.drop (a + 1) by rw [List.drop_eq_getElem_cons hax, e1]) (show y.drop b = ⟨lo2, hi2⟩ :: y.drop (b + 1) by rw [List.drop_eq_getElem_cons hby, e2])))
        clear e1 e2
        go_upto_region 4 with fail
        go_quiet (fail)
        have hbe := Aside.mk (hbl.out.drewN nq)
        have hoe := ho.out.drewN nq
        have hse := hs.below hbe.out
        have hbs := Aside.mk (hbe.out.size)
        generalize wr.drewN nq = we at *
        clear g0 g1 g2 g3
        by_cases hm : max lo1 lo2 ≤ min hi1 hi2
        · have HM := Aside.mk hm
          have hrd : Aside (kSpan.rd H ⟨max lo1 lo2, min hi1 hi2⟩ (#[Value.int .i64 (max lo1 lo2), .int .i64 (min hi1 hi2)] : Array Value).toList) := ⟨rfl⟩
          have hbyt : Aside ((done.length + 1) * 16 ≤ 140737488355328 ∧ done.length + 1 ≤ maxLen) := ⟨by have := hdone.out.2; omega, by have := hdone.out.2; unfold maxLen; omega⟩
          go_upto_region 7 with (at_builtin; go_must (refine wpList_app1 kSpan rfl (.tmp 45) (.tmp 49) 23 rfl 30 Try.underlying23 info30 rfl hoe hse rfl rfl rfl hrd.out hbyt.out.1 hbyt.out.2 hbs.out ?_); intro v8 w8 ho8 hg8 hs8 hn8)
          have hb8 : Below w.heap.size w w8 := hoe.belowG hbe.out (Nat.le_refl _) hg8
          obtain ⟨A8, c8, rfl, -, -, -, -⟩ := ho8.form
          replace ho8 := Aside.mk ho8
          replace hb8 := Aside.mk hb8
          obtain ⟨b1', o1', lo1', hi1', q1, e1', g0, g1⟩ := cell_span hx (hs.below hb8.out) a hax
          cases q1
          rw [HE.out.1.1] at e1'
          cases e1'
          obtain ⟨b2', o2', lo2', hi2', q2, e2', g2, g3⟩ := cell_span hy (hs.below hb8.out) b hby
          cases q2
          rw [HE.out.1.2] at e2'
          cases e2'
          clear hoe hse hg8 hs8 hn8 hm
          by_cases hq : hi1 < hi2
          · have HQ := Aside.mk hq
            go_upto_region 7 with fail
            go_quiet (fail)
            go_wp2_with fail
            go_roundw
            case rel => exact ⟨a + 1, b, _, _, _, done ++ [⟨max lo1 lo2, min hi1 hi2⟩], by omega, by omega, by go_num, rfl, rfl, ⟨ho8.out.drewN _⟩, ⟨hb8.out.drewN _⟩, ⟨by rw [← hdone.out.1, HE.out.2.1, HE.out.2.2, comS_cons, if_pos HM.out, if_pos HQ.out]; simp, by have := hdone.out.2; simp; omega⟩⟩
            case measure => simp [intOf]; omega
          · have HQ := Aside.mk hq
            go_upto_region 7 with fail
            go_quiet (fail)
            go_wp2_with fail
            go_roundw
            case rel => exact ⟨a, b + 1, _, _, _, done ++ [⟨max lo1 lo2, min hi1 hi2⟩], by omega, by omega, rfl, by go_num, rfl, ⟨ho8.out.drewN _⟩, ⟨hb8.out.drewN _⟩, ⟨by rw [← hdone.out.1, HE.out.2.1, HE.out.2.2, comS_cons, if_pos HM.out, if_neg HQ.out]; simp, by have := hdone.out.2; simp; omega⟩⟩
            case measure => simp [intOf]; omega
        · have HM := Aside.mk hm
          obtain ⟨b1', o1', lo1', hi1', q1, e1', g0, g1⟩ := cell_span hx (hs.below hbe.out) a hax
          cases q1
          rw [HE.out.1.1] at e1'
          cases e1'
          obtain ⟨b2', o2', lo2', hi2', q2, e2', g2, g3⟩ := cell_span hy (hs.below hbe.out) b hby
          cases q2
          rw [HE.out.1.2] at e2'
          cases e2'
          by_cases hq : hi1 < hi2
          · have HQ := Aside.mk hq
            go_upto_region 7 with fail
            go_quiet (fail)
            go_wp2_with fail
            go_roundw
            case rel => exact ⟨a + 1, b, _, _, _, done, by omega, by omega, by go_num, rfl, rfl, ⟨hoe.drewN _⟩, ⟨hbe.out.drewN _⟩, ⟨by rw [← hdone.out.1, HE.out.2.1, HE.out.2.2, comS_cons, if_neg HM.out, if_pos HQ.out]; simp, by have := hdone.out.2; simp; omega⟩⟩
            case measure => simp [intOf]; omega
          · have HQ := Aside.mk hq
            go_upto_region 7 with fail
            go_quiet (fail)
            go_wp2_with fail
            go_roundw
            case rel => exact ⟨a, b + 1, _, _, _, done, by omega, by omega, rfl, by go_num, rfl, ⟨hoe.drewN _⟩, ⟨hbe.out.drewN _⟩, ⟨by rw [← hdone.out.1, HE.out.2.1, HE.out.2.2, comS_cons, if_neg HM.out, if_neg HQ.out]; simp, by have := hdone.out.2; simp; omega⟩⟩
            case measure => simp [intOf]; omega
      · obtain rfl : b = y.length := by omega
        have hq := hdone.out.1
        rw [List.drop_length, comS_nil2, List.append_nil] at hq
        subst hq
        go_wp2_with fail
        go_ret
        exact ⟨_, rfl, ho.out, hbl.out⟩
    · obtain rfl : a = x.length := by omega
      have hq := hdone.out.1
      rw [List.drop_length, comS_nil, List.append_nil] at hq
      subst hq
      go_wp2_with fail
      go_ret
      exact ⟨_, rfl, ho.out, hbl.out⟩
theorem othS_cons (x : Int) (s : Span) (l : List Span) : othS x (s :: l) = (if x < s.lo then [⟨x, s.lo - 1⟩] else []) ++ othS (s.hi + 1) l := rfl
theorem othS_nil (x : Int) : othS x [] = if x ≤ 1114111 then [⟨x, 1114111⟩] else [] := rfl

set_option maxRecDepth 100000 in
set_option maxHeartbeats 4000000 in
theorem others_any (H : PH) (x : List Span) (A : Option Addr) (c : Nat) (w : World) (hx : SlR kSpan H A x.length c x) (hs : Sat w H) (hlx : x.length ≤ 1000) (hbx : ∀ s ∈ x, 0 ≤ s.lo ∧ s.lo ≤ s.hi ∧ s.hi ≤ 1114111) :
    Calls Try.prog 53 #[.slice A x.length c] w (RetO H w (othS 0 x)) := by
  have hc := hx.2.1
  replace hbx := Aside.mk hbx
  obtain ⟨C, hC⟩ : ∃ C, C = othS 0 x := ⟨_, rfl⟩
  rw [← hC]
  have HC := Aside.mk hC
  clear hC
  go_enter Try.func53, Try.ntmps53
  go_wp2_with fail
  go_loopw [3, 4, 9] (fun o f i wr => ∃ (k : Nat) (fr : Int) (A5 : Option Addr) (l5 c5 : Nat) (done : List Span), k ≤ x.length ∧ i = .int .i64 k ∧ f = .int .i64 fr ∧ 0 ≤ fr ∧ fr ≤ 1114112 ∧ o = .slice A5 l5 c5 ∧ Aside (Own kSpan 30 wr w.heap.size H o done) ∧ Aside (Below w.heap.size w wr) ∧ Aside (done ++ othS fr (x.drop k) = C ∧ done.length ≤ k)) (fun _ _ i _ => x.length - (intOf i).toNat)
  case atStart => exact ⟨0, 0, _, _, _, [], by omega, rfl, rfl, by omega, by omega, rfl, ⟨Own.nil _ _ _ _ _⟩, ⟨Below.refl _ _⟩, ⟨by simp [HC.out]⟩⟩
  case round =>
    obtain ⟨k, fr, A5, l5, c5, done, hk, rfl, rfl, hf0, hf1, rfl, ho, hbl, hdone⟩ := hrel
    by_cases hkx : k < x.length
    · obtain ⟨b1, o1, lo, hi, rfl, e1, g0, g1⟩ := cell_span hx (hs.below hbl.out) k hkx
      have hlt1 : (k : Int) < (x.length : Int) := by omega
      obtain ⟨q0, q1, q2⟩ := hbx.out x[k] (List.getElem_mem hkx)
      rw [e1] at q0 q1 q2
      simp only at q0 q1 q2
      have HE := Aside.mk (And.intro e1 (show x.drop k = ⟨lo, hi⟩ :: x.drop (k + 1) by rw [List.drop_eq_getElem_cons hkx, e1]))
      clear e1
      have HO := Aside.mk (And.intro (ho.out.alloc (hs.below hbl.out) (.cells #[.int .i64 lo, .int .i64 hi] 30)) (And.intro (bA hbl.out (.cells #[.int .i64 lo, .int .i64 hi] 30)) ((hs.below hbl.out).alloc (.cells #[.int .i64 lo, .int .i64 hi] 30))))
      have HK := Aside.mk (heap_alloc_new wr (.cells #[.int .i64 lo, .int .i64 hi] 30))
      go_upto_region 6 with fail
      generalize (wr.alloc (.cells #[.int .i64 lo, .int .i64 hi] 30)) = we at *
      have c0 : we.cell? ⟨wr.heap.size, 0, none⟩ = some (.int .i64 lo) := (boxC HK.out 0).1
      have c1 : we.cell? ⟨wr.heap.size, 1, none⟩ = some (.int .i64 hi) := (boxC HK.out 1).1
      clear g0 g1
      by_cases hm : fr < lo
      · have HM := Aside.mk hm
        have hrd : Aside (kSpan.rd H ⟨fr, lo - 1⟩ (#[Value.int .i64 fr, .int .i64 (lo - 1)] : Array Value).toList) := ⟨rfl⟩
        have hbyt : Aside ((done.length + 1) * 16 ≤ 140737488355328 ∧ done.length + 1 ≤ maxLen) := ⟨by have := hdone.out.2; omega, by have := hdone.out.2; unfold maxLen; omega⟩
        have hbs := Aside.mk HO.out.2.1.size
        go_upto_region 8 with (at_builtin; go_must (refine wpList_app1 kSpan rfl (.tmp 17) (.tmp 23) 23 rfl 30 Try.underlying23 info30 rfl HO.out.1 HO.out.2.2 rfl rfl rfl hrd.out hbyt.out.1 hbyt.out.2 hbs.out ?_); intro v8 w8 ho8 hg8 hs8 hn8)
        have hb8 : Below w.heap.size w w8 := HO.out.1.belowG HO.out.2.1 (Nat.le_refl _) hg8
        have hk8 : w8.heap[wr.heap.size]? = some (.cells #[.int .i64 lo, .int .i64 hi] 30) := by
          rw [hg8.block _ (boxL HK.out) (fun e => absurd (ho.out.blk e.symm).2.1 (by omega)), HK.out]
        have c8 : w8.cell? ⟨wr.heap.size, 1, none⟩ = some (.int .i64 hi) := by simp [World.cell?, hk8]
        obtain ⟨A8, c9, rfl, -, -, -, -⟩ := ho8.form
        go_wp2_with fail
        go_roundw
        case rel => exact ⟨k + 1, hi + 1, _, _, _, done ++ [⟨fr, lo - 1⟩], by omega, by go_num, rfl, by omega, by omega, rfl, ⟨ho8⟩, ⟨hb8⟩, ⟨by rw [← hdone.out.1, HE.out.2, othS_cons, if_pos HM.out]; simp, by have := hdone.out.2; simp; omega⟩⟩
        case measure => simp [intOf]; omega
      · have HM := Aside.mk hm
        go_wp2_with fail
        go_roundw
        case rel => exact ⟨k + 1, hi + 1, _, _, _, done, by omega, by go_num, rfl, by omega, by omega, rfl, ⟨HO.out.1⟩, ⟨HO.out.2.1⟩, ⟨by rw [← hdone.out.1, HE.out.2, othS_cons, if_neg HM.out]; simp, by have := hdone.out.2; omega⟩⟩
        case measure => simp [intOf]; omega
    · obtain rfl : k = x.length := by omega
      have hq := hdone.out.1
      rw [List.drop_length, othS_nil] at hq
      by_cases hm : fr ≤ 1114111
      · rw [if_pos hm] at hq
        subst hq
        have hrd : Aside (kSpan.rd H ⟨fr, 1114111⟩ (#[Value.int .i64 fr, .int .i64 1114111] : Array Value).toList) := ⟨rfl⟩
        have hbyt : Aside ((done.length + 1) * 16 ≤ 140737488355328 ∧ done.length + 1 ≤ maxLen) := ⟨by have := hdone.out.2; omega, by have := hdone.out.2; unfold maxLen; omega⟩
        have hbs := Aside.mk hbl.out.size
        have HS := Aside.mk (hs.below hbl.out)
        go_upto_region 12 with (at_builtin; go_must (refine wpList_app1 kSpan rfl (.tmp 31) (.tmp 34) 23 rfl 30 Try.underlying23 info30 rfl ho.out HS.out rfl rfl rfl hrd.out hbyt.out.1 hbyt.out.2 hbs.out ?_); intro v8 w8 ho8 hg8 hs8 hn8)
        have hb8 : Below w.heap.size w w8 := ho.out.belowG hbl.out (Nat.le_refl _) hg8
        go_wp2_with fail
        go_ret
        exact ⟨_, rfl, ho8, hb8⟩
      · rw [if_neg hm, List.append_nil] at hq
        subst hq
        go_wp2_with fail
        go_ret
        exact ⟨_, rfl, ho.out, hbl.out⟩
end Go.Proofs.Ytbpophdfnlagdaa.B
