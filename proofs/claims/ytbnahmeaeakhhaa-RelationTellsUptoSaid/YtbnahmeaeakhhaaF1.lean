/- The walk: parllaw1.RelationTells answers true. -/
import Derived.Test.YtbnahmeaeakhhaaE7
namespace Go.Proofs.Ytbnahmeaeakhhaa.B
set_option linter.unusedVariables false
set_option linter.unusedSimpArgs false
open Go Go.RowKit Classical

set_option maxRecDepth 100000 in
set_option maxHeartbeats 8000000 in
theorem relationTells_any (H : PH) (r : Re) (cs : List Value) (t : List Int) (A : Option Addr) (c : Nat) (w : World) (hr : RdRe H r cs) (ht : SlR (kI .i64) H A t.length c t) (hs : Sat w H) (hbig : (pre r).length ≤ 1048576) :
    Calls Try.prog 3 #[.agg cs.toArray, .slice A t.length c] w fun e w' => e = .returned (.bool true) ∧ Below w.heap.size w w' := by
  have h1 := fun w hs => pairs_any H r cs t A c w hr ht hs
  have h2 := fun w hs => match_any H r cs t A c w hr ht hs
  have h3 := fun w hs => first_any H r cs t A c w hr ht hs
  have h4 := fun w hs => checkText_any H r cs t A t.length c 24 w hr ht hs hbig
  have h5 := fun w hs => light_any H r cs t A t.length c 7 w hr ht hs hbig
  have hok := @textErr_ok r t 24
  have h6 := fun hg hn w hs => pairsOf_any H r cs t A c w hr ht hs hg hn
  have h7 := fun (hg : Good r) (w : World) (hs : Sat w H) => ms_any t r hg H cs A c w 0 t.length hr ht hs (Nat.zero_le _) (Nat.le_refl _)
  obtain ⟨kind, set, args, mn, mx, neg, hq⟩ : ∃ a b c d e f, r = Re.mk a b c d e f := by cases r; exact ⟨_, _, _, _, _, _, rfl⟩
  subst hq
  obtain ⟨A1, c1, A2, c2, rfl, -, -⟩ := hr.open
  generalize hll : prs t.length (M t (.mk kind set args mn mx neg)) (t.length + 1) = ll at *
  have hln : textErr (.mk kind set args mn mx neg) t 24 = 0 → ll.length ≤ 625 := fun h => by rw [← hll]; exact prs_le _ _ (by have := (hok h).2.2; omega)
  have hmm : t.length ≤ 140737488355328 := ht.2.2.2.1
  have HA := Aside.mk (And.intro h1 (And.intro h2 (And.intro h3 (And.intro h4 h5))))
  have HZ := Aside.mk (And.intro hok (And.intro h6 (And.intro h7 hln)))
  clear h1 h2 h3 h4 h5 hok h6 h7 hln hll
  generalize hee : textErr (.mk kind set args mn mx neg) t 24 = ee at *
  generalize M t (.mk kind set args mn mx neg) 0 t.length = PM at *
  have k0 := heap_alloc_new w (.cells #[.int .i64 kind, .slice A1 set.length c1, .slice A2 args.length c2, .int .i64 mn, .int .i64 mx, .bool neg] 25)
  have hx0 : Below w.heap.size w (w.alloc (.cells #[.int .i64 kind, .slice A1 set.length c1, .slice A2 args.length c2, .int .i64 mn, .int .i64 mx, .bool neg] 25)) := bA (Below.refl _ _) _
  have K0 := Aside.mk (And.intro k0 hx0)
  clear k0 hx0
  go_enter Try.func3, Try.ntmps3
  go_wp2_with fail
  generalize (w.alloc (.cells #[.int .i64 kind, .slice A1 set.length c1, .slice A2 args.length c2, .int .i64 mn, .int .i64 mx, .bool neg] 25)) = W0 at *
  refine (HA.out.1 _ (hs.below K0.out.2)).mono ?_
  rintro e w1 ⟨v1, rfl, ho1, hb1⟩
  have k1 := box_below K0.out.1 hb1
  have K1 := Aside.mk (And.intro k1 (bT K0.out.2 hb1))
  obtain ⟨⟨q0, q1, q2, q3, q4, q5⟩, -⟩ := box6 k1
  have HO := Aside.mk ho1
  clear k1 ho1 hb1 K0
  go_wp2_with fail
  refine (HA.out.2.1 _ (hs.below K1.out.2)).mono ?_
  rintro e w2 ⟨rfl, hb2⟩
  have HB12 := Aside.mk hb2
  obtain ⟨om, hom⟩ : ∃ p : Bool, p = decide (ee = 0 ∧ PM) := ⟨_, rfl⟩
  rw [← hom]
  have HOM := Aside.mk hom
  clear hom
  have k2 := box_below K1.out.1 hb2
  have K2 := Aside.mk (And.intro k2 (bT K1.out.2 hb2))
  clear q0 q1 q2 q3 q4 q5
  obtain ⟨⟨q0, q1, q2, q3, q4, q5⟩, -⟩ := box6 k2
  clear k2 hb2 K1
  go_wp2_with fail
  refine (HA.out.2.2.1 _ (hs.below K2.out.2)).mono ?_
  rintro e w3 ⟨rfl, hb3⟩
  have HB13 := Aside.mk (bT HB12.out hb3)
  have k3 := box_below K2.out.1 hb3
  have K3 := Aside.mk (And.intro k3 (bT K2.out.2 hb3))
  clear q0 q1 q2 q3 q4 q5
  clear k3 hb3 K2 HB12
  obtain ⟨ot, hot⟩ : ∃ p : Int × Int, p = (if ee = 0 then lastOf ll else (0, 0)) := ⟨_, rfl⟩
  obtain ⟨os, hos⟩ : ∃ p : Bool, p = decide (ee = 0 ∧ ll ≠ []) := ⟨_, rfl⟩
  rw [← hot, ← hos]
  have HR := Aside.mk (And.intro hot hos)
  clear hot hos
  go_wp2_with fail
  have k4 := heap_alloc_new w3 (.cells #[.int .i64 ot.1, .int .i64 ot.2] 33)
  have k5 := (heap_alloc_old w3 (.cells #[.int .i64 ot.1, .int .i64 ot.2] 33) (Array.getElem?_eq_some_iff.1 K3.out.1).1).trans K3.out.1
  have hb4 := bA (Below.refl _ w3) (.cells #[.int .i64 ot.1, .int .i64 ot.2] 33)
  have hb5 := bT K3.out.2 hb4
  have hb6 := bT HB13.out hb4
  have hz3 : w3.heap.size < (w3.alloc (.cells #[.int .i64 ot.1, .int .i64 ot.2] 33)).heap.size := by simp
  generalize (w3.alloc (.cells #[.int .i64 ot.1, .int .i64 ot.2] 33)) = w4 at *
  have K4 := Aside.mk (And.intro k5 (And.intro k4 (And.intro hb5 hb6)))
  clear k4 k5 hb4 hb5 hb6 K3 HB13
  refine (relationBegun_any w4).mono ?_
  rintro e w5 ⟨rfl, hb7⟩
  have k5 := box_below K4.out.1 hb7
  have K5 := Aside.mk (And.intro k5 (And.intro (box_below K4.out.2.1 hb7) (And.intro (bT K4.out.2.2.1 hb7) (bT K4.out.2.2.2 hb7))))
  have hz5 : w3.heap.size < w5.heap.size := Nat.lt_of_lt_of_le hz3 hb7.size
  obtain ⟨⟨q0, q1, q2, q3, q4, q5⟩, -⟩ := box6 k5
  clear k5 hb7 K4 hz3
  go_wp2_with fail
  refine (HA.out.2.2.2.1 _ (hs.below K5.out.2.2.1)).mono ?_
  rintro e w6 ⟨rfl, hb8⟩
  have k6 := box_below K5.out.1 hb8
  have k7 := box_below K5.out.2.1 hb8
  have K6 := Aside.mk (And.intro k6 (And.intro k7 (And.intro (bT K5.out.2.2.1 hb8) (bT K5.out.2.2.2 hb8))))
  clear q0 q1 q2 q3 q4 q5
  obtain ⟨⟨q0, q1, q2, q3, q4, q5⟩, -⟩ := box6 k6
  have hz6 : w3.heap.size < w6.heap.size := Nat.lt_of_lt_of_le hz5 hb8.size
  obtain ⟨p0, p1, -, -⟩ := box2 k7
  clear k6 k7 hb8 K5 hz5
  by_cases h0 : ee = 0
  · subst h0
    obtain ⟨z1, z2, z3⟩ := HZ.out.1 rfl
    have hn : t.length ≤ 24 := by omega
    have hlen := HZ.out.2.2.2 rfl
    have Z2 := Aside.mk (And.intro z1 z2)
    clear z1 z2 z3
    go_wp2_with fail
    refine (HA.out.2.2.2.2 _ (hs.below K6.out.2.2.1)).mono ?_
    rintro e w7 ⟨⟨lb, rfl⟩, hb9⟩
    cases lb
    · go_wp2_with fail
      go_ret
      exact ⟨rfl, bT K6.out.2.2.1 hb9⟩
    · have ho1 := HO.out
      simp only [if_true] at ho1
      obtain ⟨L1, -, hsL1, ⟨A3, c3, e1, hl1⟩, -⟩ := ho1.freeze (sat_emp w1) (by omega)
      cases e1
      have k7 := box_below K6.out.1 hb9
      have K7 := Aside.mk (And.intro k7 (And.intro (box_below K6.out.2.1 hb9) (And.intro (bT K6.out.2.2.1 hb9) (hsL1.below (bT K6.out.2.2.2 hb9)))))
      have hz7 : w3.heap.size < w7.heap.size := Nat.lt_of_lt_of_le hz6 hb9.size
      have HL1 := Aside.mk hl1
      have hc3 := hl1.2.1
      clear q0 q1 q2 q3 q4 q5 p0 p1
      obtain ⟨⟨q0, q1, q2, q3, q4, q5⟩, -⟩ := box6 k7
      clear k7 hb9 K6 hz6 ho1 hsL1 hl1
      go_wp2_with fail
      refine (HZ.out.2.1 Z2.out.2 hn _ (hs.below K7.out.2.2.1)).mono ?_
      rintro e w8 ⟨v2, rfl, ho2, hb10⟩
      obtain ⟨L2, -, hsL2, ⟨A4, c4, e1, hl2⟩, -⟩ := ho2.freeze (sat_emp w8) (by omega)
      cases e1
      have k8 := box_below K7.out.1 hb10
      have K8 := Aside.mk (And.intro k8 (And.intro (box_below K7.out.2.1 hb10) (And.intro (bT K7.out.2.2.1 hb10) (And.intro (K7.out.2.2.2.below hb10) hsL2))))
      have hz8 : w3.heap.size < w8.heap.size := Nat.lt_of_lt_of_le hz7 hb10.size
      have HL2 := Aside.mk hl2
      have hc4 := hl2.2.1
      clear q0 q1 q2 q3 q4 q5
      obtain ⟨⟨q0, q1, q2, q3, q4, q5⟩, -⟩ := box6 k8
      clear k8 hb10 K7 hz7 ho2 hsL2 hl2
      go_wp2_with fail
      refine (HZ.out.2.2.1 Z2.out.2 _ (hs.below K8.out.2.2.1)).mono ?_
      rintro e w9 ⟨rfl, hb11⟩
      have K9 := Aside.mk (And.intro (box_below K8.out.2.1 hb11) (And.intro (bT K8.out.2.2.1 hb11) (And.intro (K8.out.2.2.2.1.below hb11) (K8.out.2.2.2.2.below hb11))))
      have hz9 : w3.heap.size < w9.heap.size := Nat.lt_of_lt_of_le hz8 hb11.size
      have hr3 : om = decide PM := by rw [HOM.out]; simp
      subst hr3
      clear q0 q1 q2 q3 q4 q5 hb11 K8 hz8
      have hbq : ∀ q : Bool, (q != q) = false := fun q => by cases q <;> rfl
      go_wp2_with fail
      go_loopw [106] (fun o wr => ∃ k : Nat, k ≤ ll.length ∧ o = .int .i64 k ∧ Below w9.heap.size w9 wr) (fun o _ => ll.length - (intOf o).toNat)
      case atStart => exact ⟨0, by omega, rfl, Below.refl _ _⟩
      case round =>
        obtain ⟨k, hk, rfl, hbr⟩ := hrel
        by_cases hlt : k < ll.length
        · have hli : (k : Int) < (ll.length : Int) := by omega
          obtain ⟨b1, o1, cs1, rfl, hrd1, hcell1⟩ := HL1.out.row k hlt
          obtain ⟨b2, o2, cs2, rfl, hrd2, hcell2⟩ := HL2.out.row k hlt
          generalize ll[k] = q at *
          obtain rfl : cs1 = [.int .i64 q.1, .int .i64 q.2] := hrd1
          obtain rfl : cs2 = [.int .i64 q.1, .int .i64 q.2] := hrd2
          obtain ⟨g0, g1⟩ := at2 (K9.out.2.2.1.below hbr) hcell1
          obtain ⟨g2, g3⟩ := at2 (K9.out.2.2.2.below hbr) hcell2
          simp only [kP] at g0 g1 g2 g3
          have HB := Aside.mk hbr
          clear hcell1 hcell2 hbr
          go_wp2_with fail
          go_quiet (fail)
          go_wp2_with fail
          go_roundw
          case rel => exact ⟨k + 1, by omega, by go_num, HB.out.drewN _⟩
          case measure => simp [intOf]; omega
        · obtain rfl : k = ll.length := by omega
          have hsr2 := K9.out.2.2.2.below hbr
          have j4 := box_below K9.out.1 hbr
          have hbb := bT K9.out.2.1 hbr
          have hzr : w3.heap.size < wr.heap.size := Nat.lt_of_lt_of_le hz9 hbr.size
          have KR := Aside.mk (And.intro hsr2 (And.intro j4 hbb))
          obtain ⟨e0, e1, -, -⟩ := box2 j4
          clear hsr2 j4 hbb hbr
          by_cases hnil : ll = []
          · subst hnil
            have hr1 : ot = (0, 0) := by rw [HR.out.1]; simp [lastOf]
            have hr2 : os = false := by rw [HR.out.2]; simp
            subst hr1
            subst hr2
            go_wp2_with fail
            go_ret
            exact ⟨rfl, KR.out.2.2⟩
          · obtain ⟨p0, l, rfl⟩ : ∃ p0 l, ll = p0 :: l := List.exists_cons_of_ne_nil hnil
            have hr1 : ot = lastOf (p0 :: l) := by rw [HR.out.1]; simp
            have hr2 : os = true := by rw [HR.out.2]; simp
            subst hr2
            have HOT := Aside.mk hr1
            clear hr1 hnil
            obtain ⟨b, off, cs, rfl, hrd, hcell⟩ := HL2.out.row 0 (by simp)
            obtain rfl : cs = [.int .i64 p0.1, .int .i64 p0.2] := hrd
            obtain ⟨g0, g1⟩ := at2 KR.out.1 hcell
            simp only [kP, Nat.zero_mul, Nat.add_zero] at g0 g1
            have hbz : b < wr.heap.size := World.block_lt_of_cell? wr _ g0
            obtain ⟨wo, rfl⟩ : ∃ wo : World, wo = wr := ⟨_, rfl⟩
            simp only [List.length_cons] at hlen hc3 hc4 ⊢
            clear hcell
            go_wp2_with fail
            go_loopw [138] (fun i wr => ∃ (k : Nat) (p : Int × Int), k ≤ l.length + 1 ∧ i = .int .i64 k ∧ wr.heap[wo.heap.size]? = some (.cells #[.int .i64 p.1, .int .i64 p.2] 33) ∧ wr.heap[w3.heap.size]? = some (.cells #[.int .i64 ot.1, .int .i64 ot.2] 33) ∧
              Aside (p = ((p0 :: l).take k).foldl (fun o q => if q.1 = o.1 then q else o) p0) ∧ Sat wr L2 ∧ Below w.heap.size w wr) (fun i _ => l.length + 1 - (intOf i).toNat)
            case atStart => exact ⟨0, p0, by omega, rfl, heap_alloc_new _ _, by rw [heap_alloc_old _ _ hzr]; exact KR.out.2.1, ⟨rfl⟩, KR.out.1.alloc _, bA KR.out.2.2 _⟩
            case round =>
              obtain ⟨k, p, hk, rfl, hh9, hh4, hp, hsr, hbr⟩ := hrel
              obtain ⟨m0, m1, m2, m3⟩ := box2 hh9
              have H9 := Aside.mk hh9
              have H4 := Aside.mk hh4
              have HB := Aside.mk hbr
              have hz4 : wo.heap.size < wr.heap.size := (Array.getElem?_eq_some_iff.1 hh9).1
              have hz44 : w3.heap.size < wr.heap.size := (Array.getElem?_eq_some_iff.1 hh4).1
              clear hh9 hh4 hbr
              by_cases hlt : k < l.length + 1
              · obtain ⟨b', off', cs, e1, hrd, hcell⟩ := HL2.out.row k (by simp; omega)
                cases e1
                have hsn := List.take_succ_eq_append_getElem (l := p0 :: l) (i := k) (by simp; omega)
                generalize hq : (p0 :: l)[k]'(by simp; omega) = q at *
                have HS := Aside.mk hsn
                clear hsn hq
                obtain rfl : cs = [.int .i64 q.1, .int .i64 q.2] := hrd
                obtain ⟨g2, g3⟩ := at2 hsr hcell
                simp only [kP] at g2 g3
                clear hcell
                have hbz' : b < wr.heap.size := World.block_lt_of_cell? wr _ g2
                by_cases hqp : q.1 = p.1
                · go_wp2_with fail
                  go_roundw
                  case rel =>
                    have hs9 : ∀ o, L2 wo.heap.size o = none := fun o => KR.out.1.new (Nat.le_refl _) o
                    refine ⟨k + 1, q, by omega, by go_num, ?_, ?_, ⟨by rw [HS.out, List.foldl_append, ← hp.out]; simp [hqp]⟩, ?_, ?_⟩
                    · rw [heap_alloc_old _ _ (by simpa using hz4), box2_set H9.out, hqp]
                    · rw [heap_alloc_old _ _ (by simp; omega), Below.heap_setCell _ _ _ _ (by simp; omega), Below.heap_setCell _ _ _ _ (by simp; omega)]
                      exact H4.out
                    · exact ((hsr.grown (grownBy_setCell _ _ _ _) (fun b hb => by cases hb; exact hs9)).grown (grownBy_setCell _ _ _ _) (fun b hb => by cases hb; exact hs9)).alloc _
                    · exact ((HB.out.setCell (KR.out.2.2.size) _).setCell (KR.out.2.2.size) _).alloc (by simp; exact HB.out.size) _
                  case measure => simp [intOf]; omega
                · go_wp2_with fail
                  go_roundw
                  case rel =>
                    refine ⟨k + 1, p, by omega, by go_num, ?_, ?_, ⟨by rw [HS.out, List.foldl_append, ← hp.out]; simp [hqp]⟩, hsr.alloc _, HB.out.alloc HB.out.size _⟩
                    · rw [heap_alloc_old _ _ hz4]; exact H9.out
                    · rw [heap_alloc_old _ _ hz44]; exact H4.out
                  case measure => simp [intOf]; omega
              · obtain rfl : k = l.length + 1 := by omega
                obtain ⟨n0, n1, n2, n3⟩ := box2 H4.out
                have hpo : ot = p := by
                  have hp' := hp.out
                  rw [List.take_of_length_le (by simp)] at hp'
                  rw [HOT.out]; exact hp'.symm
                subst hpo
                go_wp2_with fail
                go_ret
                exact ⟨rfl, HB.out⟩
  · obtain ⟨A3, c3, rfl, -, -, -, -⟩ := HO.out.form
    have hr1 : ot = (0, 0) := by rw [HR.out.1, if_neg h0]
    have hr2 : os = false := by rw [HR.out.2]; simp [h0]
    have hr3 : om = false := by rw [HOM.out]; simp [h0]
    subst hr1
    subst hr2
    subst hr3
    rw [if_neg h0]
    go_wp2_with fail
    go_ret
    exact ⟨rfl, K6.out.2.2.1⟩
end Go.Proofs.Ytbnahmeaeakhhaa.B
