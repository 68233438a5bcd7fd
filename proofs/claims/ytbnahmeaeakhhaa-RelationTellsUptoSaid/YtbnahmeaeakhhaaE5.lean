/- Contracts: parlref1.Matches at a concatenation. -/
import Derived.Test.YtbnahmeaeakhhaaE4
namespace Go.Proofs.Ytbnahmeaeakhhaa.B
set_option linter.unusedVariables false
set_option linter.unusedSimpArgs false
open Go Go.RowKit Classical

theorem SlR.tail {α} {k : Kd α} {H : PH} {b off n c : Nat} {x : α} {xs : List α} (h : SlR k H (some ⟨b, off, none⟩) n c (x :: xs)) : SlR k H (some ⟨b, off + k.sz, none⟩) (n - 1) (c - 1) xs := by
  obtain ⟨h1, h2, h3, h4, h5, h6⟩ := h
  simp only [List.length_cons] at h1
  refine ⟨by omega, by omega, by omega, by omega, fun h => by simp at h, fun i hi => ?_⟩
  obtain ⟨b', off', cs, e, hr, hc⟩ := h6 (i + 1) (by simp; omega)
  cases e
  refine ⟨b, off + k.sz, cs, rfl, by simpa using hr, fun j v hj => ?_⟩
  have := hc j v hj
  rw [Nat.add_mul, Nat.one_mul] at this
  rw [show off + k.sz + i * k.sz + j = off + (i * k.sz + k.sz) + j by omega]
  exact this

set_option maxRecDepth 100000 in
set_option maxHeartbeats 4000000 in
theorem ms3 (t : List Int) : ∀ (args : List Re), args ≠ [] → (∀ a ∈ args, MS t a) → ∀ (set : List Span) (mn mx : Int) (neg : Bool), MS t (.mk 3 set args mn mx neg) := by
  intro args
  induction args with
  | nil => intro h; exact absurd rfl h
  | cons a l ihl =>
  intro _ ih set mn mx neg H cs A c w i j hr ht hs hij hjn
  obtain ⟨A1, c1, A2, c2, rfl, h1, h2⟩ := hr.open
  have hM := M3 t set (a :: l) mn mx neg
  have hc := h2.2.1
  have hlen := h2.2.2.2.1
  have htl := ht.2.2.2.1
  obtain ⟨b, off, cs, rfl, hrd, hcell⟩ := h2.row 0 (by simp)
  obtain ⟨kind', set', args', mn', mx', neg', hq⟩ : ∃ p q r s u v, a = Re.mk p q r s u v := by cases a; exact ⟨_, _, _, _, _, _, rfl⟩
  simp only [List.getElem_cons_zero] at hrd
  subst hq
  have HI := Aside.mk (fun (w : World) (j : Nat) (hs : Sat w H) (hij : i ≤ j) (hjn : j ≤ t.length) => ih _ (List.mem_cons_self ..) H cs A c w i j hrd ht hs hij hjn)
  obtain ⟨A1', c1', A2', c2', rfl, -, -⟩ := hrd.open
  have HC := Aside.mk hcell
  clear hcell hrd
  cases l with
  | nil =>
    have HM := Aside.mk hM
    clear hM ihl
    obtain ⟨g0, g1, g2, g3, g4, g5⟩ := at6 hs HC.out
    simp only [kRe, Nat.zero_mul, Nat.add_zero] at g0 g1 g2 g3 g4 g5
    have hbz : b < w.heap.size := World.block_lt_of_cell? w _ g0
    simp only [List.length_cons, List.length_nil, Nat.zero_add] at hc ⊢
    go_enter Try.func22, Try.ntmps22
    go_wp2_with fail
    refine (HI.out _ j (hs.alloc _) hij hjn).mono ?_
    rintro e w2 ⟨rfl, hb2⟩
    go_wp2_with fail
    go_ret
    have hh : M t (.mk kind' set' args' mn' mx' neg') i j ↔ M t (.mk 3 set [.mk kind' set' args' mn' mx' neg'] mn mx neg) i j := by
      rw [HM.out, List.map_cons, List.map_nil, cat_cons _ _ _ _ (by omega)]; rfl
    exact ⟨by rw [← decide_eq_decide.2 hh]; rfl, bT (bA (Below.refl _ _) _) hb2⟩
  | cons a2 l =>
    have hrest := RdRe.shut (kind := 3) (mn := 0) (mx := 0) (neg := false) (SlR.nil kSpan H) h2.tail
    have hR := ihl (by simp) (fun x hx => ih x (List.mem_cons_of_mem _ hx)) [] 0 0 false
    simp only [List.length_cons, kRe, Nat.add_sub_cancel] at hrest hc hlen ⊢
    have HD := Aside.mk (fun (w : World) (k : Nat) (hs : Sat w H) (hkj : k ≤ j) => hR H _ A c w k j hrest ht hs hkj hjn)
    have hM2 := M3 t [] (a2 :: l) 0 0 false
    have HM := Aside.mk (And.intro hM hM2)
    clear hM hM2 ihl hrest hR h2 ih
    generalize l.length = n at *
    have hd : ((n : Int) + 1 + 1 == 1) = false := by simp; omega
    have k0 := heap_alloc_new w (.cells #[.int .i64 3, .slice A1 set.length c1, .slice (some ⟨b, off, none⟩) (n + 1 + 1) c2, .int .i64 mn, .int .i64 mx, .bool neg] 25)
    have hx0 : Below w.heap.size w (w.alloc (.cells #[.int .i64 3, .slice A1 set.length c1, .slice (some ⟨b, off, none⟩) (n + 1 + 1) c2, .int .i64 mn, .int .i64 mx, .bool neg] 25)) := bA (Below.refl _ _) _
    have hz0 : (w.alloc (.cells #[.int .i64 3, .slice A1 set.length c1, .slice (some ⟨b, off, none⟩) (n + 1 + 1) c2, .int .i64 mn, .int .i64 mx, .bool neg] 25)).heap.size = w.heap.size + 1 := by simp
    have K0 := Aside.mk (And.intro k0 (And.intro hx0 hz0))
    clear k0 hx0 hz0
    go_enter Try.func22, Try.ntmps22
    go_wp2_with fail
    generalize (w.alloc (.cells #[.int .i64 3, .slice A1 set.length c1, .slice (some ⟨b, off, none⟩) (n + 1 + 1) c2, .int .i64 mn, .int .i64 mx, .bool neg] 25)) = W0 at *
    have k1 := heap_alloc_new W0 (.cells #[.int .i64 3, .slice none 0 0, .slice (some ⟨b, off + 6, none⟩) (n + 1) (c2 - 1), .int .i64 0, .int .i64 0, .bool false] 25)
    have k2 := (heap_alloc_old W0 (.cells #[.int .i64 3, .slice none 0 0, .slice (some ⟨b, off + 6, none⟩) (n + 1) (c2 - 1), .int .i64 0, .int .i64 0, .bool false] 25) (show w.heap.size < W0.heap.size by rw [K0.out.2.2]; omega)).trans K0.out.1
    rw [K0.out.2.2] at k1
    have hx1 := bA K0.out.2.1 (.cells #[.int .i64 3, .slice none 0 0, .slice (some ⟨b, off + 6, none⟩) (n + 1) (c2 - 1), .int .i64 0, .int .i64 0, .bool false] 25)
    generalize (W0.alloc (.cells #[.int .i64 3, .slice none 0 0, .slice (some ⟨b, off + 6, none⟩) (n + 1) (c2 - 1), .int .i64 0, .int .i64 0, .bool false] 25)) = W1 at *
    have K1 := Aside.mk (And.intro k1 (And.intro k2 hx1))
    clear k1 k2 hx1 hd
    go_loopw [10] (fun o wr => ∃ k : Nat, i ≤ k ∧ k ≤ j + 1 ∧ o = .int .i64 k ∧ Aside (∀ m, i ≤ m → m < k → ¬ (M t (.mk kind' set' args' mn' mx' neg') i m ∧ M t (.mk 3 [] (a2 :: l) 0 0 false) m j)) ∧ Below W1.heap.size W1 wr) (fun o _ => j + 1 - (intOf o).toNat)
    case atStart => exact ⟨i, by omega, by omega, rfl, ⟨fun m h1 h2 => by omega⟩, Below.refl _ _⟩
    case round =>
      obtain ⟨k, hk0, hk, rfl, hno, hbr⟩ := hrel
      have j0 := box_below K1.out.2.1 hbr
      have j1 := box_below K1.out.1 hbr
      obtain ⟨⟨q0, q1, q2, q3, q4, q5⟩, -⟩ := box6 j0
      obtain ⟨⟨r0, r1, r2, r3, r4, r5⟩, -⟩ := box6 j1
      have hsr := hs.below (bT K1.out.2.2 hbr)
      have hwz : w.heap.size + 1 < wr.heap.size := World.block_lt_of_cell? wr _ r0
      have HB := Aside.mk hbr
      clear hbr j0 j1 q0 q1 q3 q4 q5
      by_cases hlt : (k : Int) ≤ (j : Int)
      · obtain ⟨g0, g1, g2, g3, g4, g5⟩ := at6 hsr HC.out
        simp only [kRe, Nat.zero_mul, Nat.add_zero] at g0 g1 g2 g3 g4 g5
        have hbz : b < wr.heap.size := World.block_lt_of_cell? wr _ g0
        go_wp2_with fail
        refine (HI.out _ k hsr hk0 (by omega)).mono ?_
        rintro e' w2 ⟨rfl, hb2⟩
        have p0 := (hb2.cell (p := ⟨w.heap.size + 1, 0, none⟩) hwz).trans r0
        have p1 := (hb2.cell (p := ⟨w.heap.size + 1, 1, none⟩) hwz).trans r1
        have p2 := (hb2.cell (p := ⟨w.heap.size + 1, 2, none⟩) hwz).trans r2
        have p3 := (hb2.cell (p := ⟨w.heap.size + 1, 3, none⟩) hwz).trans r3
        have p4 := (hb2.cell (p := ⟨w.heap.size + 1, 4, none⟩) hwz).trans r4
        have p5 := (hb2.cell (p := ⟨w.heap.size + 1, 5, none⟩) hwz).trans r5
        have hs2 := hsr.below hb2
        have HB2 := Aside.mk (HB.out.trans (hb2.mono HB.out.size))
        clear q2 r0 r1 r2 r3 r4 r5 g0 g1 g2 g3 g4 g5
        by_cases hu : M t (.mk kind' set' args' mn' mx' neg') i k
        · have HU := Aside.mk hu
          rw [decide_eq_true hu]
          clear hu hb2
          go_wp2_with fail
          refine (HD.out _ k hs2 (by omega)).mono ?_
          rintro e' w3 ⟨rfl, hb3⟩
          clear p0 p1 p2 p3 p4 p5
          have HB3 := Aside.mk (HB2.out.trans (hb3.mono HB2.out.size))
          clear hb3
          by_cases hv : M t (.mk 3 [] (a2 :: l) 0 0 false) k j
          · have HV := Aside.mk hv
            rw [decide_eq_true hv]
            clear hv
            go_wp2_with fail
            go_ret
            refine ⟨?_, bT K1.out.2.2 HB3.out⟩
            have hf : M t (.mk 3 set (.mk kind' set' args' mn' mx' neg' :: a2 :: l) mn mx neg) i j := by
              rw [HM.out.1, List.map_cons, List.map_cons, cat_two _ _ _ _ _ (by omega)]
              exact ⟨k, by omega, HU.out, by have := (HM.out.2 k j).1 HV.out; rwa [List.map_cons] at this⟩
            rw [decide_eq_true hf]; rfl
          · have HV := Aside.mk hv
            rw [decide_eq_false hv]
            clear hv
            go_wp2_with fail
            go_roundw
            case rel => exact ⟨k + 1, by omega, by omega, by go_num, ⟨fun m h1 h2 h3 => by
              by_cases hm : m = k
              · subst hm; exact HV.out h3.2
              · exact hno.out m h1 (by omega) h3⟩, HB3.out⟩
            case measure => simp [intOf]; omega
        · have HU := Aside.mk hu
          rw [decide_eq_false hu]
          clear hu hb2
          go_wp2_with fail
          go_roundw
          case rel => exact ⟨k + 1, by omega, by omega, by go_num, ⟨fun m h1 h2 h3 => by
            by_cases hm : m = k
            · subst hm; exact HU.out h3.1
            · exact hno.out m h1 (by omega) h3⟩, HB2.out⟩
          case measure => simp [intOf]; omega
      · obtain rfl : k = j + 1 := by omega
        have hfin : ¬ M t (.mk 3 set (.mk kind' set' args' mn' mx' neg' :: a2 :: l) mn mx neg) i j := fun h => by
          rw [HM.out.1, List.map_cons, List.map_cons, cat_two _ _ _ _ _ (by omega)] at h
          obtain ⟨m, h1, h2, h3⟩ := h
          rw [← List.map_cons] at h3
          have h4 := (HM.out.2 m j).2 h3
          exact hno.out m (M_le t _ _ _ h2) (by have := M_le t _ _ _ h4; omega) ⟨h2, h4⟩
        have HF := Aside.mk hfin
        clear hfin
        go_wp2_with fail
        go_ret
        exact ⟨by rw [decide_eq_false HF.out]; rfl, bT K1.out.2.2 HB.out⟩
end Go.Proofs.Ytbnahmeaeakhhaa.B
