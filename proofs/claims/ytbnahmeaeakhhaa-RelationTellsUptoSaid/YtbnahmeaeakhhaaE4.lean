/- Contracts: parlref1.Matches at a look and at a star. -/
import Derived.Test.YtbnahmeaeakhhaaE3
namespace Go.Proofs.Ytbnahmeaeakhhaa.B
set_option linter.unusedVariables false
set_option linter.unusedSimpArgs false
open Go Go.RowKit Classical

/-- some part from i matches that ends before k -/
def UpTo (R : Rel) (i k : Nat) : Prop := ∃ m, i ≤ m ∧ m < k ∧ R i m
theorem UpTo_zero (R : Rel) (i : Nat) : ¬ UpTo R i i := fun ⟨m, h1, h2, _⟩ => by omega
theorem UpTo_succ (R : Rel) (i k : Nat) (h : i ≤ k) : UpTo R i (k + 1) ↔ UpTo R i k ∨ R i k := by
  constructor
  · rintro ⟨m, h1, h2, h3⟩
    by_cases e : m = k
    · subst e; exact Or.inr h3
    · exact Or.inl ⟨m, h1, by omega, h3⟩
  · rintro (⟨m, h1, h2, h3⟩ | h3)
    · exact ⟨m, h1, by omega, h3⟩
    · exact ⟨k, h, by omega, h3⟩

set_option maxRecDepth 100000 in
set_option maxHeartbeats 4000000 in
theorem ms10 (t : List Int) (set a mn mx neg) (ih : MS t a) : MS t (.mk 10 set [a] mn mx neg) := by
  intro H cs A c w i j hr ht hs hij hjn
  obtain ⟨A1, c1, A2, c2, rfl, h1, h2⟩ := hr.open
  have hM := M10 t set mn mx neg i j a []
  have hMl := M_le t a
  have hc := h2.2.1
  have htl := ht.2.2.2.1
  have HM := Aside.mk (And.intro hM hMl)
  clear hM hMl
  obtain ⟨b, off, cs, rfl, hrd, hcell⟩ := h2.row 0 (by simp)
  obtain ⟨kind', set', args', mn', mx', neg', hq⟩ : ∃ p q r s u v, a = Re.mk p q r s u v := by cases a; exact ⟨_, _, _, _, _, _, rfl⟩
  simp only [List.getElem_cons_zero] at hrd
  subst hq
  have HI := Aside.mk (fun w j hs hij hjn => ih H cs A c w i j hrd ht hs hij hjn)
  obtain ⟨A1', c1', A2', c2', rfl, -, -⟩ := hrd.open
  have HC := Aside.mk hcell
  simp only [List.length_cons, List.length_nil] at hc ⊢
  clear hcell hrd
  generalize hR : M t (.mk kind' set' args' mn' mx' neg') = R at *
  go_enter Try.func22, Try.ntmps22
  go_wp2_with fail
  go_loopw [16, 17] (fun s n wr => ∃ k : Nat, i ≤ k ∧ k ≤ t.length + 1 ∧ n = .int .i64 k ∧ s = .bool (decide (UpTo R i k)) ∧ Aside (i ≠ j → k = i) ∧ Below (w.alloc (.cells #[.int .i64 10, .slice A1 set.length c1, .slice (some ⟨b, off, none⟩) 1 c2, .int .i64 mn, .int .i64 mx, .bool neg] 25)).heap.size (w.alloc (.cells #[.int .i64 10, .slice A1 set.length c1, .slice (some ⟨b, off, none⟩) 1 c2, .int .i64 mn, .int .i64 mx, .bool neg] 25)) wr) (fun _ n _ => t.length + 1 - (intOf n).toNat)
  case atStart => exact ⟨i, by omega, by omega, rfl, by rw [decide_eq_false (UpTo_zero R i)], ⟨fun _ => rfl⟩, Below.refl _ _⟩
  case round =>
    obtain ⟨k, hk0, hk, rfl, rfl, hst, hbr⟩ := hrel
    have q2 : wr.cell? ⟨w.heap.size, 2, none⟩ = some (.slice (some ⟨b, off, none⟩) 1 c2) := cell_box hbr 2
    have q5 : wr.cell? ⟨w.heap.size, 5, none⟩ = some (.bool neg) := cell_box hbr 5
    have hbb := bT (bA (Below.refl _ w) _) hbr
    have hsr := hs.below hbb
    have HB := Aside.mk (And.intro hbr hbb)
    clear hbr hbb
    by_cases e0 : i = j
    · subst e0
      by_cases hlt : (k : Int) ≤ (t.length : Int)
      · obtain ⟨g0, g1, g2, g3, g4, g5⟩ := at6 hsr HC.out
        simp only [kRe, Nat.zero_mul, Nat.add_zero] at g0 g1 g2 g3 g4 g5
        have hbz : b < wr.heap.size := World.block_lt_of_cell? wr _ g0
        by_cases hu : UpTo R i k
        · have HU := Aside.mk hu
          rw [decide_eq_true hu]
          clear hu
          go_wp2_with fail
          go_roundw
          case rel => exact ⟨k + 1, by omega, by omega, by go_num, by rw [decide_eq_true ((UpTo_succ R i k hk0).2 (Or.inl HU.out))], ⟨fun h => absurd rfl h⟩, HB.out.1⟩
          case measure => simp [intOf]; omega
        · have HU := Aside.mk hu
          rw [decide_eq_false hu]
          clear hu
          go_wp2_with fail
          refine (HI.out _ k hsr hk0 (by omega)).mono ?_
          rintro e' w2 ⟨rfl, hb2⟩
          go_wp2_with fail
          go_roundw
          case rel =>
            refine ⟨k + 1, by omega, by omega, by go_num, ?_, ⟨fun h => absurd rfl h⟩, HB.out.1.trans (hb2.mono HB.out.1.size)⟩
            rw [decide_eq_decide.2 (show UpTo R i (k + 1) ↔ R i k from (UpTo_succ R i k hk0).trans ⟨fun h => h.resolve_left HU.out, Or.inr⟩)]
          case measure => simp [intOf]; omega
      · obtain rfl : k = t.length + 1 := by omega
        have hh : UpTo R i (t.length + 1) ↔ ∃ k, k ≤ t.length ∧ R i k := ⟨fun ⟨m, h1, h2, h3⟩ => ⟨m, by omega, h3⟩, fun ⟨m, h2, h3⟩ => ⟨m, HM.out.2 _ _ h3, by omega, h3⟩⟩
        have hT : UpTo R i (t.length + 1) → decide (M t (.mk 10 set [.mk kind' set' args' mn' mx' neg'] mn mx neg) i i) = !neg := fun h => by
          have h' := hh.1 h
          rw [Bool.eq_iff_iff, decide_eq_true_iff, HM.out.1]
          cases neg <;> simp [h']
        have hF : ¬ UpTo R i (t.length + 1) → decide (M t (.mk 10 set [.mk kind' set' args' mn' mx' neg'] mn mx neg) i i) = neg := fun h => by
          have h' : (∃ k, k ≤ t.length ∧ R i k) = False := eq_false fun h2 => h (hh.2 h2)
          rw [Bool.eq_iff_iff, decide_eq_true_iff, HM.out.1, h']
          cases neg <;> simp
        have HH := Aside.mk (And.intro hT hF)
        clear hh hT hF
        generalize UpTo R i (t.length + 1) = U at *
        cases neg
        · by_cases hu : U
          · have HU := Aside.mk hu
            rw [decide_eq_true hu]
            clear hu
            go_wp2_with fail
            go_ret
            exact ⟨by have hq := HH.out.1 HU.out; simp at hq; simp [hq], HB.out.2⟩
          · have HU := Aside.mk hu
            rw [decide_eq_false hu]
            clear hu
            go_wp2_with fail
            go_ret
            exact ⟨by have hq := HH.out.2 HU.out; simp at hq; simp [hq], HB.out.2⟩
        · by_cases hu : U
          · have HU := Aside.mk hu
            rw [decide_eq_true hu]
            clear hu
            go_wp2_with fail
            go_ret
            exact ⟨by have hq := HH.out.1 HU.out; simp at hq; simp [hq], HB.out.2⟩
          · have HU := Aside.mk hu
            rw [decide_eq_false hu]
            clear hu
            go_wp2_with fail
            go_ret
            exact ⟨by have hq := HH.out.2 HU.out; simp at hq; simp [hq], HB.out.2⟩
    · have e : ¬ (i : Int) = (j : Int) := by omega
      have hk' := hst.out e0
      subst hk'
      by_cases hu : UpTo R k k
      · exact absurd hu (UpTo_zero R k)
      · rw [decide_eq_false hu]
        clear hu
        go_wp2_with fail
        go_ret
        exact ⟨by rw [decide_eq_false (fun h => by have := (HM.out.1.1 h).1; omega)]; rfl, HB.out.2⟩

set_option maxRecDepth 100000 in
set_option maxHeartbeats 4000000 in
theorem ms5 (t : List Int) (set a mn mx neg) (ih : MS t a) : MS t (.mk 5 set [a] mn mx neg) := by
  intro H cs A c w i j hr ht hs hij hjn
  obtain ⟨d, hd⟩ : ∃ d, j - i = d := ⟨_, rfl⟩
  induction d using Nat.strongRecOn generalizing w i with
  | ind d ihd =>
  obtain ⟨A1, c1, A2, c2, rfl, h1, h2⟩ := hr.open
  have hM := fun i => M5 t set mn mx neg i j a []
  have hL := Star_left (M_le t a) (n := t.length) i j (by omega) hjn
  have hc := h2.2.1
  have htl := ht.2.2.2.1
  have HM := Aside.mk (And.intro hM hL)
  clear hM hL
  obtain ⟨b, off, cs, rfl, hrd, hcell⟩ := h2.row 0 (by simp)
  obtain ⟨kind', set', args', mn', mx', neg', hq⟩ : ∃ p q r s u v, a = Re.mk p q r s u v := by cases a; exact ⟨_, _, _, _, _, _, rfl⟩
  simp only [List.getElem_cons_zero] at hrd
  subst hq
  have HI := Aside.mk (fun (w : World) (j : Nat) (hs : Sat w H) (hij : i ≤ j) (hjn : j ≤ t.length) => ih H cs A c w i j hrd ht hs hij hjn)
  have HD := Aside.mk (fun (w : World) (k : Nat) (hs : Sat w H) (hik : i < k) (hkj : k ≤ j) => ihd (j - k) (by omega) w k hs hkj rfl)
  clear ihd
  obtain ⟨A1', c1', A2', c2', rfl, -, -⟩ := hrd.open
  have HC := Aside.mk hcell
  simp only [List.length_cons, List.length_nil, Nat.zero_add] at hc HD ⊢
  clear hcell hrd hd
  generalize hR : M t (.mk kind' set' args' mn' mx' neg') = R at *
  by_cases e : i = j
  · subst e
    go_enter Try.func22, Try.ntmps22
    go_wp2_with fail
    go_ret
    exact ⟨by rw [decide_eq_true ((HM.out.1 i).2 ⟨0, rfl⟩)]; rfl, bA (Below.refl _ _) _⟩
  · have e0 : ((i : Int) == (j : Int)) = false := by simp; omega
    have E0 := Aside.mk e
    clear e
    go_enter Try.func22, Try.ntmps22
    go_wp2_with fail
    go_loopw [13] (fun n wr => ∃ k : Nat, i < k ∧ k ≤ j + 1 ∧ n = .int .i64 k ∧ Aside (∀ m, i < m → m < k → ¬ (R i m ∧ M t (.mk 5 set [.mk kind' set' args' mn' mx' neg'] mn mx neg) m j)) ∧ Below (w.alloc (.cells #[.int .i64 5, .slice A1 set.length c1, .slice (some ⟨b, off, none⟩) 1 c2, .int .i64 mn, .int .i64 mx, .bool neg] 25)).heap.size (w.alloc (.cells #[.int .i64 5, .slice A1 set.length c1, .slice (some ⟨b, off, none⟩) 1 c2, .int .i64 mn, .int .i64 mx, .bool neg] 25)) wr) (fun n _ => j + 1 - (intOf n).toNat)
    case atStart => exact ⟨i + 1, by omega, by omega, by go_num, ⟨fun m h1 h2 => by omega⟩, Below.refl _ _⟩
    case round =>
      obtain ⟨k, hk0, hk, rfl, hno, hbr⟩ := hrel
      have q0 : wr.cell? ⟨w.heap.size, 0, none⟩ = some (.int .i64 5) := cell_box hbr 0
      have q1 : wr.cell? ⟨w.heap.size, 1, none⟩ = some (.slice A1 set.length c1) := cell_box hbr 1
      have q2 : wr.cell? ⟨w.heap.size, 2, none⟩ = some (.slice (some ⟨b, off, none⟩) 1 c2) := cell_box hbr 2
      have q3 : wr.cell? ⟨w.heap.size, 3, none⟩ = some (.int .i64 mn) := cell_box hbr 3
      have q4 : wr.cell? ⟨w.heap.size, 4, none⟩ = some (.int .i64 mx) := cell_box hbr 4
      have q5 : wr.cell? ⟨w.heap.size, 5, none⟩ = some (.bool neg) := cell_box hbr 5
      have hbb := bT (bA (Below.refl _ w) _) hbr
      have hsr := hs.below hbb
      have hwz : w.heap.size < wr.heap.size := World.block_lt_of_cell? wr _ q0
      have HB := Aside.mk (And.intro hbr hbb)
      clear hbr hbb
      by_cases hlt : (k : Int) ≤ (j : Int)
      · obtain ⟨g0, g1, g2, g3, g4, g5⟩ := at6 hsr HC.out
        simp only [kRe, Nat.zero_mul, Nat.add_zero] at g0 g1 g2 g3 g4 g5
        have hbz : b < wr.heap.size := World.block_lt_of_cell? wr _ g0
        go_wp2_with fail
        refine (HI.out _ k hsr (by omega) (by omega)).mono ?_
        rintro e' w2 ⟨rfl, hb2⟩
        have p0 := (hb2.cell (p := ⟨w.heap.size, 0, none⟩) hwz).trans q0
        have p1 := (hb2.cell (p := ⟨w.heap.size, 1, none⟩) hwz).trans q1
        have p2 := (hb2.cell (p := ⟨w.heap.size, 2, none⟩) hwz).trans q2
        have p3 := (hb2.cell (p := ⟨w.heap.size, 3, none⟩) hwz).trans q3
        have p4 := (hb2.cell (p := ⟨w.heap.size, 4, none⟩) hwz).trans q4
        have p5 := (hb2.cell (p := ⟨w.heap.size, 5, none⟩) hwz).trans q5
        have hs2 := hsr.below hb2
        have HB2 := Aside.mk (HB.out.1.trans (hb2.mono HB.out.1.size))
        clear q0 q1 q2 q3 q4 q5 g0 g1 g2 g3 g4 g5
        by_cases hu : R i k
        · have HU := Aside.mk hu
          rw [decide_eq_true hu]
          clear hu hb2
          go_wp2_with fail
          refine (HD.out _ k hs2 hk0 (by omega)).mono ?_
          rintro e' w3 ⟨rfl, hb3⟩
          clear p0 p1 p2 p3 p4 p5
          have HB3 := Aside.mk (HB2.out.trans (hb3.mono HB2.out.size))
          clear hb3
          by_cases hv : M t (.mk 5 set [.mk kind' set' args' mn' mx' neg'] mn mx neg) k j
          · have HV := Aside.mk hv
            rw [decide_eq_true hv]
            clear hv
            go_wp2_with fail
            go_ret
            exact ⟨by rw [decide_eq_true ((HM.out.1 i).2 (HM.out.2.2 (Or.inr ⟨k, hk0, by omega, HU.out, (HM.out.1 k).1 HV.out⟩)))]; rfl, bT (bA (Below.refl _ w) _) HB3.out⟩
          · have HV := Aside.mk hv
            rw [decide_eq_false hv]
            clear hv
            go_wp2_with fail
            go_roundw
            case rel => exact ⟨k + 1, by omega, by omega, by go_num, ⟨fun m h1 h2 h3 => by
              by_cases hm : m = k
              · subst hm; exact HV.out h3.2
              · exact hno.out m h1 (by omega) h3⟩, HB3.out⟩
            case measure => simp [intOf]; omega
        · have HU := Aside.mk hu
          rw [decide_eq_false hu]
          clear hu hb2
          go_wp2_with fail
          go_roundw
          case rel => exact ⟨k + 1, by omega, by omega, by go_num, ⟨fun m h1 h2 h3 => by
            by_cases hm : m = k
            · subst hm; exact HU.out h3.1
            · exact hno.out m h1 (by omega) h3⟩, HB2.out⟩
          case measure => simp [intOf]; omega
      · obtain rfl : k = j + 1 := by omega
        have hfin : ¬ M t (.mk 5 set [.mk kind' set' args' mn' mx' neg'] mn mx neg) i j := fun h => by
          rcases HM.out.2.1 ((HM.out.1 i).1 h) with h | ⟨m, h1, -, h3, h4⟩
          · exact E0.out h
          · have h5 := (HM.out.1 m).2 h4
            exact hno.out m h1 (by have := M_le t _ _ _ h5; omega) ⟨h3, h5⟩
        have HF := Aside.mk hfin
        clear hfin
        go_wp2_with fail
        go_ret
        exact ⟨by rw [decide_eq_false HF.out]; rfl, HB.out.2⟩
end Go.Proofs.Ytbnahmeaeakhhaa.B
