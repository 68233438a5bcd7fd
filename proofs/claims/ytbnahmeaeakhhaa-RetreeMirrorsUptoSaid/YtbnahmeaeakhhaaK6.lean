/- Contracts: parlkeep1.good, one, relationBegun, same. Contracts: parlkeep1.relationBegun, same. -/
import Derived.Test.YtbnahmeaeakhhaaK4
namespace Go.Proofs.Ytbnahmeaeakhhaa.B
set_option linter.unusedVariables false
set_option linter.unusedSimpArgs false
open Go Go.RowKit Classical

theorem goodf_any (w : World) : Calls Try.prog 110 #[.int .i64 0] w fun e w' => e = .returned (.bool false) ∧ w = w' := by
  go_enter Try.func110, Try.ntmps110
  go_wp2_with fail
  go_ret
  exact ⟨rfl, rfl⟩

set_option maxHeartbeats 2000000 in
theorem indexGood_any (H : PH) (es : List Int) (A : Option Addr) (n c : Nat) (w : World) (hx : SlR (kI .i64) H A n c es) (hs : Sat w H) (he : ∀ e ∈ es, e = 0) :
    Calls Try.prog 162 #[.slice A n c, .func (.func 110) #[] #[]] w fun e w' => e = .returned (.int .i64 (-1)) ∧ w = w' := by
  obtain rfl := hx.1
  have hc := hx.2.1
  have hlen := hx.2.2.2.1
  have HE := Aside.mk he
  clear he
  go_enter Try.func162, Try.ntmps162
  go_wp2_with fail
  go_loop [8] (fun i => ∃ k : Nat, k ≤ es.length ∧ i = .int .i64 k) (fun i => es.length - (intOf i).toNat)
  case atStart => exact ⟨0, by omega, rfl⟩
  case round =>
    obtain ⟨k, hk, rfl⟩ := hrel
    by_cases hlt : k < es.length
    · have hli : (k : Int) < (es.length : Int) := by omega
      obtain ⟨b1, o1, cs1, rfl, hrd1, hcell1⟩ := hx.row k hlt
      have h0 : es[k] = 0 := HE.out _ (List.getElem_mem hlt)
      rw [h0] at hrd1
      obtain rfl : cs1 = [.int .i64 0] := hrd1
      have g0 := at1 hs hcell1
      simp only [kI, Nat.mul_one] at g0
      clear hcell1 h0
      go_wp2_with fail
      refine (goodf_any w).mono ?_
      rintro e w1 ⟨rfl, rfl⟩
      go_wp2_with fail
      go_round
      case rel => exact ⟨k + 1, by omega, by go_num⟩
      case measure => simp [intOf]; omega
    · obtain rfl : k = es.length := by omega
      go_wp2_with fail
      go_ret
      exact ⟨rfl, rfl⟩

theorem containsGood_any (H : PH) (es : List Int) (A : Option Addr) (n c : Nat) (w : World) (hx : SlR (kI .i64) H A n c es) (hs : Sat w H) (he : ∀ e ∈ es, e = 0) :
    Calls Try.prog 109 #[.slice A n c, .func (.func 110) #[] #[]] w fun e w' => e = .returned (.bool false) ∧ w = w' := by
  have HI := Aside.mk (indexGood_any H es A n c w hx hs he)
  clear hx he
  go_enter Try.func109, Try.ntmps109
  go_wp2_with fail
  refine HI.out.mono ?_
  rintro e w1 ⟨rfl, rfl⟩
  go_wp2_with fail
  go_ret
  exact ⟨rfl, rfl⟩
theorem good_any (H : PH) (es : List Int) (A : Option Addr) (n c : Nat) (w : World) (hx : SlR (kI .i64) H A n c es) (hs : Sat w H) (he : ∀ e ∈ es, e = 0) :
    Calls Try.prog 51 #[.slice A n c] w fun e w' => e = .returned (.bool true) ∧ w = w' := by
  have HI := Aside.mk (containsGood_any H es A n c w hx hs he)
  clear hx he
  go_enter Try.func51, Try.ntmps51
  go_wp2_with fail
  refine HI.out.mono ?_
  rintro e w1 ⟨rfl, rfl⟩
  go_wp2_with fail
  go_ret
  exact ⟨rfl, rfl⟩

theorem kspan_any (a b : Int) (w : World) : Calls Try.prog 101 #[.int .i64 a, .int .i64 b] w fun e w' => e = .returned (.slice (some ⟨w.heap.size, 0, none⟩) 1 1) ∧ w' = w.alloc (.cells #[.int .i64 a, .int .i64 b] 121) := by
  go_enter Try.func101, Try.ntmps101
  go_wp2_with fail
  go_ret
  exact ⟨rfl, rfl⟩

set_option maxRecDepth 100000 in
set_option maxHeartbeats 2000000 in
theorem kone_any (H : PH) (c : Int) (w : World) (hs : Sat w H) : Calls Try.prog 46 #[.int .i64 c] w fun e w' => ∃ H' cs, e = .returned (.agg cs.toArray) ∧ RdRe H' (oneRe c) cs ∧ Ext H H' w w' := by
  have k0 := heap_alloc_new w (.cells #[.int .i64 0, .slice none 0 0, .slice none 0 0, .int .i64 0, .int .i64 0, .bool false] 25)
  have hx0 := (Ext.refl hs).alloc (.cells #[.int .i64 0, .slice none 0 0, .slice none 0 0, .int .i64 0, .int .i64 0, .bool false] 25)
  have hz0 : (w.alloc (.cells #[.int .i64 0, .slice none 0 0, .slice none 0 0, .int .i64 0, .int .i64 0, .bool false] 25)).heap.size = w.heap.size + 1 := by simp
  have K0 := Aside.mk (And.intro k0 (And.intro hx0 hz0))
  clear k0 hx0 hz0
  go_enter Try.func46, Try.ntmps46
  go_wp2_with fail
  generalize (w.alloc (.cells #[.int .i64 0, .slice none 0 0, .slice none 0 0, .int .i64 0, .int .i64 0, .bool false] 25)) = W0 at *
  refine (kspan_any c c W0).mono ?_
  rintro e w1 ⟨rfl, rfl⟩
  have k2 := (heap_alloc_old W0 (.cells #[.int .i64 c, .int .i64 c] 121) (show w.heap.size < W0.heap.size by rw [K0.out.2.2]; omega)).trans K0.out.1
  have hx1 := K0.out.2.1.alloc (.cells #[.int .i64 c, .int .i64 c] 121)
  have ho := Own.lit (k := kSpan) (e := 121) (xs := [⟨c, c⟩]) (base := W0.heap.size) K0.out.2.1.sat #[.int .i64 c, .int .i64 c] (Nat.le_refl _) (EncL.single rfl) (by unfold maxLen; simp)
  obtain ⟨H', hx3, hle, ⟨A, c', e1, hsl⟩, hold⟩ := ho.freezeE hx1 (by rw [K0.out.2.2]; omega) (by simp)
  have hn : ∀ o, H' w.heap.size o = none := fun o => by rw [hold _ _ (by simp [Value.ownBlock]; rw [K0.out.2.2]; omega)]; exact hs.new (Nat.le_refl _) o
  cases e1
  obtain ⟨⟨a0, a1, a2, a3, a4, a5⟩, b0, b1, b2, b3, b4, b5⟩ := kbox6 k2
  have K2 := Aside.mk (And.intro k2 (And.intro hx3 (And.intro hn hsl)))
  clear k2 hx1 hx3 hn hsl ho hle hold
  generalize (W0.alloc (.cells #[.int .i64 c, .int .i64 c] 121)) = W1 at *
  go_wp2_with fail
  refine bodyPost_ret (kresults_c1 rfl _ _ _ rfl (run_loadVar_row _ _ _ _ _ (0, 0) _ (kbox6_set K2.out.1 _ _ _ _ _ _) Try.underlying25 rfl (by kernel_rfl))) rfl ?_
  exact ⟨H', _, rfl, RdRe.shut K2.out.2.2.2 (SlR.nil _ _), kExt6 K2.out.2.1 (Nat.le_refl _) K2.out.2.2.1 _ _ _ _ _ _⟩
end Go.Proofs.Ytbnahmeaeakhhaa.B

namespace Go.Proofs.Ytbnahmeaeakhhaa.B
set_option linter.unusedVariables false
set_option linter.unusedSimpArgs false
open Go Go.RowKit Classical

theorem kbeg_err : textErr (oneRe 97) [98, 97] 24 = 0 := by
  rw [textErr, err_one _ (by decide) (by decide)]; simp [runesErr]
theorem kbeg_prs : prs 2 (M [98, 97] (oneRe 97)) 3 = [(1, 2)] := by
  have h : M [98, 97] (oneRe 97) = fun i j => i = 1 ∧ j = 2 := by
    funext i j
    refine propext ((M_one _ _ _ _).trans ⟨?_, ?_⟩)
    · rintro ⟨h1, h2⟩
      match i, h2 with
      | 0, h2 => simp at h2
      | 1, _ => exact ⟨rfl, h1⟩
      | i + 2, h2 => simp at h2
    · rintro ⟨rfl, rfl⟩; exact ⟨rfl, rfl⟩
  rw [h]
  simp [prs, prow, List.range_succ]

set_option maxRecDepth 100000 in
set_option maxHeartbeats 2000000 in
theorem krelationBegun_any (w : World) : Calls Try.prog 23 #[] w fun e w' => e = .returned (.bool true) ∧ Below w.heap.size w w' := by
  go_enter Try.func23, Try.ntmps23
  go_wp2_with fail
  refine (kone_any emp 97 w (sat_emp w)).mono ?_
  rintro e w2 ⟨H2, cs2, rfl, hr2, hx2⟩
  have hb2 := hx2.below
  have hs2 := hx2.sat
  have HR := Aside.mk hr2
  clear hx2 hr2
  go_wp2_with fail
  obtain ⟨H3, hle3, hs3, ht3⟩ := lit_sl (k := kI .i64) (e := 3) (xs := [98, 97]) hs2 #[.int .i64 98, .int .i64 97] ⟨[.int .i64 98], [.int .i64 97], rfl, rfl, EncL.single rfl⟩ (by simp)
  have hpr := pairs_any H3 _ _ [98, 97] _ _ _ (HR.out.mono hle3) ht3 hs3
  rw [kbeg_err, if_pos rfl, List.length_cons, List.length_cons, List.length_nil, kbeg_prs] at hpr
  have hb3 := bA hb2 (.cells #[.int .i64 98, .int .i64 97] 3)
  clear ht3 hb2
  refine hpr.mono ?_
  rintro e w4 ⟨v, rfl, ho, hb4⟩
  have hb5 := bT hb3 hb4
  obtain ⟨H4, -, hs4, ⟨A3, c3, e1, hl⟩, -⟩ := ho.freeze (sat_emp w4) (by simp)
  cases e1
  obtain ⟨b, off, cs, rfl, hrd, hcell⟩ := hl.row 0 (by simp)
  obtain rfl : cs = [.int .i64 1, .int .i64 2] := hrd
  obtain ⟨g0, g1⟩ := at2 hs4 hcell
  simp only [kP, Nat.zero_mul, Nat.add_zero] at g0 g1
  have hc3 := hl.2.1
  clear hb4 hb3 hpr ho hs3 hle3 hl hcell hs4 hs2 HR
  go_wp2_with fail
  go_ret
  exact ⟨rfl, hb5⟩

set_option maxRecDepth 100000 in
set_option maxHeartbeats 4000000 in
theorem same_any (H : PH) (a b : Re) (ca cb : List Value) (t : List Int) (A : Option Addr) (n c : Nat) (w : World) (ha : RdRe H a ca) (hb : RdRe H b cb) (ht : SlR (kI .i64) H A n c t) (hs : Sat w H)
    (ea : textErr a t 24 = 0) (eb : textErr b t 24 = 0) (he : prs t.length (M t a) (t.length + 1) = prs t.length (M t b) (t.length + 1)) :
    Calls Try.prog 28 #[.agg ca.toArray, .agg cb.toArray, .slice A n c] w fun e w' => e = .returned (.bool true) ∧ Below w.heap.size w w' := by
  obtain rfl := ht.1
  have h1 := fun w hs => pairs_any H a ca t A c w ha ht hs
  have h2 := fun w hs => pairs_any H b cb t A c w hb ht hs
  have hln : (prs t.length (M t b) (t.length + 1)).length ≤ 625 := prs_le _ _ (by have := (textErr_ok eb).2.2; omega)
  rw [ea, if_pos rfl] at h1
  rw [eb, if_pos rfl] at h2
  rw [he] at h1
  generalize prs t.length (M t b) (t.length + 1) = L at *
  obtain ⟨kind, set, args, mn, mx, neg, hq⟩ : ∃ p q r s u v, a = Re.mk p q r s u v := by cases a; exact ⟨_, _, _, _, _, _, rfl⟩
  obtain ⟨kind2, set2, args2, mn2, mx2, neg2, hq2⟩ : ∃ p q r s u v, b = Re.mk p q r s u v := by cases b; exact ⟨_, _, _, _, _, _, rfl⟩
  subst hq
  subst hq2
  obtain ⟨A1, c1, A2, c2, rfl, -, -⟩ := ha.open
  obtain ⟨B1, d1, B2, d2, rfl, -, -⟩ := hb.open
  have HH := Aside.mk (And.intro h1 h2)
  clear h1 h2 ea eb he ha hb
  have k0 := heap_alloc_old (w.alloc (.cells #[.int .i64 kind, .slice A1 set.length c1, .slice A2 args.length c2, .int .i64 mn, .int .i64 mx, .bool neg] 25)) (.cells #[.int .i64 kind2, .slice B1 set2.length d1, .slice B2 args2.length d2, .int .i64 mn2, .int .i64 mx2, .bool neg2] 25) (show w.heap.size < _ by simp)
  rw [heap_alloc_new w] at k0
  have k1 := heap_alloc_new (w.alloc (.cells #[.int .i64 kind, .slice A1 set.length c1, .slice A2 args.length c2, .int .i64 mn, .int .i64 mx, .bool neg] 25)) (.cells #[.int .i64 kind2, .slice B1 set2.length d1, .slice B2 args2.length d2, .int .i64 mn2, .int .i64 mx2, .bool neg2] 25)
  have hx0 : Below w.heap.size w ((w.alloc (.cells #[.int .i64 kind, .slice A1 set.length c1, .slice A2 args.length c2, .int .i64 mn, .int .i64 mx, .bool neg] 25)).alloc (.cells #[.int .i64 kind2, .slice B1 set2.length d1, .slice B2 args2.length d2, .int .i64 mn2, .int .i64 mx2, .bool neg2] 25)) := bA (bA (Below.refl _ _) _) _
  rw [show (w.alloc (.cells #[.int .i64 kind, .slice A1 set.length c1, .slice A2 args.length c2, .int .i64 mn, .int .i64 mx, .bool neg] 25)).heap.size = w.heap.size + 1 by simp] at k1
  have K0 := Aside.mk (And.intro k1 hx0)
  clear k0 k1 hx0
  go_enter Try.func28, Try.ntmps28
  go_wp2_with fail
  generalize ((w.alloc (.cells #[.int .i64 kind, .slice A1 set.length c1, .slice A2 args.length c2, .int .i64 mn, .int .i64 mx, .bool neg] 25)).alloc (.cells #[.int .i64 kind2, .slice B1 set2.length d1, .slice B2 args2.length d2, .int .i64 mn2, .int .i64 mx2, .bool neg2] 25)) = W0 at *
  refine (HH.out.1 W0 (hs.below K0.out.2)).mono ?_
  rintro e w1 ⟨v1, rfl, ho1, hb1⟩
  have k1 := box_below K0.out.1 hb1
  have K1 := Aside.mk (And.intro k1 (bT K0.out.2 hb1))
  obtain ⟨⟨q0, q1, q2, q3, q4, q5⟩, -⟩ := box6 k1
  have HO1 := Aside.mk ho1
  clear k1 hb1 K0 ho1
  go_wp2_with fail
  refine (HH.out.2 _ (hs.below K1.out.2)).mono ?_
  rintro e w2 ⟨v2, rfl, ho2, hb2⟩
  have hbb := bT K1.out.2 hb2
  obtain ⟨L1, -, hs1, ⟨A3, c3, e1, hl1⟩, -⟩ := HO1.out.freeze (sat_emp w1) (by omega)
  cases e1
  obtain ⟨L2, -, hs2, ⟨A4, c4, e1, hl2⟩, -⟩ := ho2.freeze (sat_emp w2) (by omega)
  cases e1
  have hs12 := hs1.below hb2
  have HL := Aside.mk (And.intro hl1 (And.intro hl2 (And.intro hs12 (And.intro hs2 hbb))))
  clear hl1 hl2 hs12 hs1 hs2 hbb ho2 hb2 q0 q1 q2 q3 q4 q5
  go_wp2_with fail
  obtain ⟨H3, hle3, hs3, ht3⟩ := lit_sl (k := kI .i64) (e := 28) (xs := [0, 0]) HL.out.2.2.1 #[.int .i64 0, .int .i64 0] ⟨[.int .i64 0], [.int .i64 0], rfl, rfl, EncL.single rfl⟩ (by simp)
  refine (good_any H3 [0, 0] _ _ _ _ ht3 hs3 (by simp)).mono ?_
  rintro e w3 ⟨rfl, rfl⟩
  have hb3 := bA HL.out.2.2.2.2 (.cells #[.int .i64 0, .int .i64 0] 28)
  have hs4 := (HL.out.2.2.1.alloc (.cells #[.int .i64 0, .int .i64 0] 28))
  have hs5 := (HL.out.2.2.2.1.alloc (.cells #[.int .i64 0, .int .i64 0] 28))
  have HM := Aside.mk (And.intro hb3 (And.intro hs4 hs5))
  clear hs3 ht3 hle3 hb3 hs4 hs5
  go_wp2_with fail
  refine (eqPairs2_any L1 L2 _ _ _ _ _ _ _ _ _ HL.out.1 HL.out.2.1 HM.out.2.1 HM.out.2.2 rfl).mono ?_
  rintro e w4 ⟨rfl, hb4⟩
  go_wp2_with fail
  go_ret
  exact ⟨rfl, bT HM.out.1 hb4⟩
end Go.Proofs.Ytbnahmeaeakhhaa.B
