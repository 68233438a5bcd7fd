/- Contracts: parlref1.Matches at a union, an intersection, a complement, a look. -/
import Derived.Test.YtbnahmeaeakhhaaE2
namespace Go.Proofs.Ytbnahmeaeakhhaa.B
set_option linter.unusedVariables false
set_option linter.unusedSimpArgs false
open Go Go.RowKit Classical

set_option maxRecDepth 100000 in
set_option maxHeartbeats 4000000 in
theorem ms0 (t : List Int) (set args mn mx neg) : MS t (.mk 0 set args mn mx neg) := by
  intro H cs A c w i j hr ht hs hij hjn
  obtain ⟨A1, c1, A2, c2, rfl, h1, h2⟩ := hr.open
  go_enter Try.func22, Try.ntmps22
  go_wp2_with fail
  go_ret
  exact ⟨by rw [decide_eq_false (M0 t set args mn mx neg i j 0 (by omega))]; rfl, bA (Below.refl _ _) _⟩

set_option maxRecDepth 100000 in
set_option maxHeartbeats 4000000 in
theorem ms4 (t : List Int) (set args mn mx neg) (ih : ∀ a ∈ args, MS t a) : MS t (.mk 4 set args mn mx neg) := by
  intro H cs A c w i j hr ht hs hij hjn
  obtain ⟨A1, c1, A2, c2, rfl, h1, h2⟩ := hr.open
  have hM := M4 t set args mn mx neg i j
  have hlen := h2.2.2.2.1
  have hc := h2.2.1
  have HM := Aside.mk hM
  clear hM
  go_enter Try.func22, Try.ntmps22
  go_wp2_with fail
  go_loopw [84] (fun n wr => ∃ k : Nat, k ≤ args.length ∧ n = .int .i64 k ∧ Aside (∀ a ∈ args.take k, ¬ M t a i j) ∧ Below w.heap.size w wr) (fun n _ => args.length - (intOf n).toNat)
  case atStart => exact ⟨0, by omega, rfl, ⟨by simp⟩, bA (Below.refl _ _) _⟩
  case round =>
    obtain ⟨k, hk, rfl, hno, hbr⟩ := hrel
    by_cases hlt : k < args.length
    · obtain ⟨b, off, cs, rfl, hrd, hcell⟩ := h2.row k hlt
      have hsn := List.take_succ_eq_append_getElem hlt
      have hmem := List.getElem_mem hlt
      have HI := Aside.mk (fun w hs => ih _ hmem H cs A c w i j hrd ht hs hij hjn)
      have hsr := hs.below hbr
      obtain ⟨kind', set', args', mn', mx', neg', hq⟩ : ∃ a b c d e f, args[k] = Re.mk a b c d e f := by cases args[k]; exact ⟨_, _, _, _, _, _, rfl⟩
      have HS := Aside.mk (And.intro hsn hmem)
      rw [hq] at hrd
      obtain ⟨A1', c1', A2', c2', rfl, -, -⟩ := hrd.open
      obtain ⟨g0, g1, g2, g3, g4, g5⟩ := at6 hsr hcell
      simp only [kRe] at g0 g1 g2 g3 g4 g5
      have hbz : b < wr.heap.size := World.block_lt_of_cell? wr _ g0
      clear hcell hrd hsn hmem
      go_wp2_with fail
      refine (HI.out _ (hsr.alloc _)).mono ?_
      rintro e w2 ⟨rfl, hb2⟩
      by_cases hm : M t args[k] i j
      · have Hm := Aside.mk hm
        rw [decide_eq_true hm]
        clear hm
        go_wp2_with fail
        go_ret
        exact ⟨by rw [decide_eq_true (HM.out.2 ⟨_, HS.out.2, Hm.out⟩)]; rfl, bT (bA hbr _) hb2⟩
      · have Hm := Aside.mk hm
        rw [decide_eq_false hm]
        clear hm
        go_wp2_with fail
        go_roundw
        case rel => exact ⟨k + 1, by omega, by go_num, ⟨by rw [HS.out.1]; intro a ha; rcases List.mem_append.1 ha with h | h; { exact hno.out a h }; { simp at h; subst h; exact Hm.out }⟩, bT (bA hbr _) hb2⟩
        case measure => simp [intOf]; omega
    · obtain rfl : k = args.length := by omega
      go_wp2_with fail
      go_ret
      have hno' := hno.out
      rw [List.take_of_length_le (Nat.le_refl _)] at hno'
      exact ⟨by rw [decide_eq_false (fun h => by obtain ⟨a, ha, h⟩ := HM.out.1 h; exact hno' a ha h)]; rfl, hbr⟩

set_option maxRecDepth 100000 in
set_option maxHeartbeats 4000000 in
theorem ms7 (t : List Int) (set args mn mx neg) (ih : ∀ a ∈ args, MS t a) : MS t (.mk 7 set args mn mx neg) := by
  intro H cs A c w i j hr ht hs hij hjn
  obtain ⟨A1, c1, A2, c2, rfl, h1, h2⟩ := hr.open
  have hM := M7 t set args mn mx neg i j
  have hlen := h2.2.2.2.1
  have hc := h2.2.1
  have HM := Aside.mk hM
  clear hM
  go_enter Try.func22, Try.ntmps22
  go_wp2_with fail
  go_loopw [133] (fun n wr => ∃ k : Nat, k ≤ args.length ∧ n = .int .i64 k ∧ Aside (∀ a ∈ args.take k, M t a i j) ∧ Below w.heap.size w wr) (fun n _ => args.length - (intOf n).toNat)
  case atStart => exact ⟨0, by omega, rfl, ⟨by simp⟩, bA (Below.refl _ _) _⟩
  case round =>
    obtain ⟨k, hk, rfl, hno, hbr⟩ := hrel
    by_cases hlt : k < args.length
    · obtain ⟨b, off, cs, rfl, hrd, hcell⟩ := h2.row k hlt
      have hsn := List.take_succ_eq_append_getElem hlt
      have hmem := List.getElem_mem hlt
      have HI := Aside.mk (fun w hs => ih _ hmem H cs A c w i j hrd ht hs hij hjn)
      have hsr := hs.below hbr
      obtain ⟨kind', set', args', mn', mx', neg', hq⟩ : ∃ a b c d e f, args[k] = Re.mk a b c d e f := by cases args[k]; exact ⟨_, _, _, _, _, _, rfl⟩
      have HS := Aside.mk (And.intro hsn hmem)
      rw [hq] at hrd
      obtain ⟨A1', c1', A2', c2', rfl, -, -⟩ := hrd.open
      obtain ⟨g0, g1, g2, g3, g4, g5⟩ := at6 hsr hcell
      simp only [kRe] at g0 g1 g2 g3 g4 g5
      have hbz : b < wr.heap.size := World.block_lt_of_cell? wr _ g0
      clear hcell hrd hsn hmem
      go_wp2_with fail
      refine (HI.out _ (hsr.alloc _)).mono ?_
      rintro e w2 ⟨rfl, hb2⟩
      by_cases hm : M t args[k] i j
      · have Hm := Aside.mk hm
        rw [decide_eq_true hm]
        clear hm
        go_wp2_with fail
        go_roundw
        case rel => exact ⟨k + 1, by omega, by go_num, ⟨by rw [HS.out.1]; intro a ha; rcases List.mem_append.1 ha with h | h; { exact hno.out a h }; { simp at h; subst h; exact Hm.out }⟩, bT (bA hbr _) hb2⟩
        case measure => simp [intOf]; omega
      · have Hm := Aside.mk hm
        rw [decide_eq_false hm]
        clear hm
        go_wp2_with fail
        go_ret
        exact ⟨by rw [decide_eq_false (fun h => Hm.out ((HM.out.1 h).2 _ HS.out.2))]; rfl, bT (bA hbr _) hb2⟩
    · obtain rfl : k = args.length := by omega
      go_wp2_with fail
      go_ret
      have hno' := hno.out
      rw [List.take_of_length_le (Nat.le_refl _)] at hno'
      exact ⟨by rw [decide_eq_true (HM.out.2 ⟨hij, hno'⟩)]; rfl, hbr⟩

set_option maxRecDepth 100000 in
set_option maxHeartbeats 4000000 in
theorem ms8 (t : List Int) (set a mn mx neg) (ih : MS t a) : MS t (.mk 8 set [a] mn mx neg) := by
  intro H cs A c w i j hr ht hs hij hjn
  obtain ⟨A1, c1, A2, c2, rfl, h1, h2⟩ := hr.open
  have hM := M8 t set mn mx neg i j a
  have hc := h2.2.1
  have HM := Aside.mk hM
  clear hM
  obtain ⟨b, off, cs, rfl, hrd, hcell⟩ := h2.row 0 (by simp)
  have HI := Aside.mk (fun w hs => ih H cs A c w i j hrd ht hs hij hjn)
  obtain ⟨kind', set', args', mn', mx', neg', hq⟩ : ∃ p q r s u v, a = Re.mk p q r s u v := by cases a; exact ⟨_, _, _, _, _, _, rfl⟩
  simp only [List.getElem_cons_zero] at hrd
  subst hq
  obtain ⟨A1', c1', A2', c2', rfl, -, -⟩ := hrd.open
  obtain ⟨g0, g1, g2, g3, g4, g5⟩ := at6 hs hcell
  simp only [kRe, Nat.zero_mul, Nat.add_zero] at g0 g1 g2 g3 g4 g5
  have hbz : b < w.heap.size := World.block_lt_of_cell? w _ g0
  simp only [List.length_cons, List.length_nil] at hc ⊢
  clear hcell hrd
  go_enter Try.func22, Try.ntmps22
  go_wp2_with fail
  refine (HI.out _ (hs.alloc _)).mono ?_
  rintro e w2 ⟨rfl, hb2⟩
  go_wp2_with fail
  go_ret
  refine ⟨?_, bT (bA (Below.refl _ _) _) hb2⟩
  by_cases hm : M t (.mk kind' set' args' mn' mx' neg') i j
  · rw [decide_eq_false (fun h => (HM.out.1 h).2 hm)]; simp [hm]
  · rw [decide_eq_true (HM.out.2 ⟨hij, hm⟩)]; simp [hm]

set_option maxRecDepth 100000 in
set_option maxHeartbeats 4000000 in
theorem ms9 (t : List Int) (set a mn mx neg) (ih : MS t a) : MS t (.mk 9 set [a] mn mx neg) := by
  intro H cs A c w i j hr ht hs hij hjn
  obtain ⟨A1, c1, A2, c2, rfl, h1, h2⟩ := hr.open
  have hM := M9 t set mn mx neg i j a []
  have hc := h2.2.1
  have HM := Aside.mk hM
  clear hM
  obtain ⟨b, off, cs, rfl, hrd, hcell⟩ := h2.row 0 (by simp)
  have HI := Aside.mk (fun w hs => ih H cs A c w i j hrd ht hs hij hjn)
  obtain ⟨kind', set', args', mn', mx', neg', hq⟩ : ∃ p q r s u v, a = Re.mk p q r s u v := by cases a; exact ⟨_, _, _, _, _, _, rfl⟩
  simp only [List.getElem_cons_zero] at hrd
  subst hq
  obtain ⟨A1', c1', A2', c2', rfl, -, -⟩ := hrd.open
  obtain ⟨g0, g1, g2, g3, g4, g5⟩ := at6 hs hcell
  simp only [kRe, Nat.zero_mul, Nat.add_zero] at g0 g1 g2 g3 g4 g5
  have hbz : b < w.heap.size := World.block_lt_of_cell? w _ g0
  simp only [List.length_cons, List.length_nil] at hc ⊢
  clear hcell hrd
  go_enter Try.func22, Try.ntmps22
  go_wp2_with fail
  refine (HI.out _ (hs.alloc _)).mono ?_
  rintro e w2 ⟨rfl, hb2⟩
  go_wp2_with fail
  go_ret
  refine ⟨?_, bT (bA (Below.refl _ _) _) hb2⟩
  rw [decide_eq_decide.2 HM.out]; rfl
end Go.Proofs.Ytbnahmeaeakhhaa.B
