/- Contracts: parlref1.deep, Weight, Light. -/
import Derived.Test.YtbnahmeaeakhhaaD2
namespace Go.Proofs.Ytbnahmeaeakhhaa.B
set_option linter.unusedVariables false
set_option linter.unusedSimpArgs false
open Go Go.RowKit Classical

set_option maxHeartbeats 1000000 in
theorem deep_any (H : PH) : ∀ (r : Re) (cs : List Value) (w : World), RdRe H r cs → Sat w H →
    Calls Try.prog 82 #[.agg cs.toArray] w fun e w' => (∃ n : Int, e = .returned (.int .i64 n)) ∧ Below w.heap.size w w' := by
  intro r
  induction r using Re.ind with
  | h kind set args mn mx neg ih =>
  intro cs w hr hs
  obtain ⟨A1, c1, A, c, rfl, h1, h2⟩ := hr.open
  have hlen := h2.2.2.2.1
  have hc := h2.2.1
  go_enter Try.func82, Try.ntmps82
  go_wp2_with fail
  go_loopw [3, 9] (fun m i wr => ∃ (k : Nat) (n : Int), k ≤ args.length ∧ i = .int .i64 k ∧ m = .int .i64 n ∧ Below w.heap.size w wr) (fun _ i _ => args.length - (intOf i).toNat)
  case atStart => exact ⟨0, 0, by omega, rfl, rfl, by repeat (first | exact Below.refl _ _ | apply bA)⟩
  case round =>
    obtain ⟨k, n, hk, rfl, rfl, hbr⟩ := hrel
    by_cases hlt : k < args.length
    · obtain ⟨b, off, cs, rfl, hrd, hcell⟩ := h2.row k hlt
      have HI := Aside.mk (fun w => ih _ (List.getElem_mem hlt) cs w hrd)
      have hsr := hs.below hbr
      obtain ⟨kind', set', args', mn', mx', neg', hq⟩ : ∃ a b c d e f, args[k] = Re.mk a b c d e f := by cases args[k]; exact ⟨_, _, _, _, _, _, rfl⟩
      rw [hq] at hrd
      obtain ⟨A1', c1', A2', c2', rfl, -, -⟩ := hrd.open
      obtain ⟨g0, g1, g2, g3, g4, g5⟩ := at6 hsr hcell
      simp only [kRe] at g0 g1 g2 g3 g4 g5
      have hbz : b < wr.heap.size := World.block_lt_of_cell? wr _ g0
      clear hcell hrd
      go_wp2_with fail
      refine (HI.out _ (hsr.alloc _)).mono ?_
      rintro e w2 ⟨⟨n2, rfl⟩, hb2⟩
      go_wp2_with fail
      go_roundw
      case rel => exact ⟨k + 1, _, by omega, by go_num, rfl, bT (bA hbr _) hb2⟩
      case measure => simp [intOf]; omega
    · obtain rfl : k = args.length := by omega
      go_wp2_with fail
      go_ret
      exact ⟨⟨_, rfl⟩, hbr⟩

set_option maxHeartbeats 1000000 in
theorem weight_any (H : PH) : ∀ (r : Re) (cs : List Value) (w : World), RdRe H r cs → Sat w H →
    Calls Try.prog 83 #[.agg cs.toArray] w fun e w' => (∃ n : Int, e = .returned (.int .i64 n)) ∧ Below w.heap.size w w' := by
  intro r
  induction r using Re.ind with
  | h kind set args mn mx neg ih =>
  intro cs w hr hs
  obtain ⟨A1, c1, A, c, rfl, h1, h2⟩ := hr.open
  have hlen := h2.2.2.2.1
  have hc := h2.2.1
  go_enter Try.func83, Try.ntmps83
  go_wp2_with fail
  go_loopw [3, 9] (fun m i wr => ∃ (k : Nat) (n : Int), k ≤ args.length ∧ i = .int .i64 k ∧ m = .int .i64 n ∧ Below (w.alloc (.cells #[.int .i64 kind, .slice A1 set.length c1, .slice A args.length c, .int .i64 mn, .int .i64 mx, .bool neg] 25)).heap.size (w.alloc (.cells #[.int .i64 kind, .slice A1 set.length c1, .slice A args.length c, .int .i64 mn, .int .i64 mx, .bool neg] 25)) wr) (fun _ i _ => args.length - (intOf i).toNat)
  case atStart => exact ⟨0, 1, by omega, rfl, rfl, by repeat (first | exact Below.refl _ _ | apply bA)⟩
  case round =>
    obtain ⟨k, n, hk, rfl, rfl, hbr⟩ := hrel
    by_cases hlt : k < args.length
    · obtain ⟨b, off, cs, rfl, hrd, hcell⟩ := h2.row k hlt
      have HI := Aside.mk (fun w => ih _ (List.getElem_mem hlt) cs w hrd)
      have hsr := (hs.alloc _).below hbr
      obtain ⟨kind', set', args', mn', mx', neg', hq⟩ : ∃ a b c d e f, args[k] = Re.mk a b c d e f := by cases args[k]; exact ⟨_, _, _, _, _, _, rfl⟩
      rw [hq] at hrd
      obtain ⟨A1', c1', A2', c2', rfl, -, -⟩ := hrd.open
      obtain ⟨g0, g1, g2, g3, g4, g5⟩ := at6 hsr hcell
      simp only [kRe] at g0 g1 g2 g3 g4 g5
      have hbz : b < wr.heap.size := World.block_lt_of_cell? wr _ g0
      have HB := Aside.mk hbr
      clear hcell hrd hbr
      go_wp2_with fail
      refine (HI.out _ (hsr.alloc _)).mono ?_
      rintro e w2 ⟨⟨n2, rfl⟩, hb2⟩
      go_wp2_with fail
      go_roundw
      case rel => exact ⟨k + 1, _, by omega, by go_num, rfl, bT (bA HB.out _) hb2⟩
      case measure => simp [intOf]; omega
    · obtain rfl : k = args.length := by omega
      have q0 : wr.cell? ⟨w.heap.size, 0, none⟩ = some (.int .i64 kind) := cell_box hbr 0
      have q4 : wr.cell? ⟨w.heap.size, 4, none⟩ = some (.int .i64 mx) := cell_box hbr 4
      have HB := Aside.mk (bT (bA (Below.refl _ w) _) hbr)
      clear hbr
      by_cases h6 : kind = 6
      · subst h6
        go_wp2_with fail
        all_goals (go_ret; exact ⟨⟨_, rfl⟩, HB.out⟩)
      · go_wp2_with fail
        go_ret
        exact ⟨⟨_, rfl⟩, HB.out⟩

/-- a truth value comes back -/
def RetBool (e : Ending) : Prop := ∃ b : Bool, e = .returned (.bool b)

set_option maxHeartbeats 1000000 in
theorem light_any (H : PH) (r : Re) (cs : List Value) (t : List Int) (A : Option Addr) (n c : Nat) (most : Int) (w : World) (hr : RdRe H r cs) (ht : SlR (kI .i64) H A n c t) (hs : Sat w H) (hbig : (pre r).length ≤ 1048576) :
    Calls Try.prog 20 #[.agg cs.toArray, .slice A n c, .int .i64 most] w fun e w' => RetBool e ∧ Below w.heap.size w w' := by
  have hpr := fun w hs => preorder_any H r cs 41 w hr hs hbig (by decide)
  have hde := fun w => deep_any H r cs w hr
  have hwe := fun w => weight_any H r cs w hr
  obtain ⟨kind, set, args, mn, mx, neg, hq⟩ : ∃ a b c d e f, r = Re.mk a b c d e f := by cases r; exact ⟨_, _, _, _, _, _, rfl⟩
  subst hq
  obtain ⟨A1, c1, A2, c2, rfl, -, -⟩ := hr.open
  have HP := Aside.mk (And.intro hpr (And.intro hde hwe))
  clear hpr hde hwe
  go_enter Try.func20, Try.ntmps20
  go_wp2_with fail
  refine (HP.out.1 _ (hs.alloc _)).mono ?_
  rintro e w1 ⟨v, rfl, ho, hb1⟩
  obtain ⟨A3, c3, rfl, -, -, -, -⟩ := ho.form
  have f0 : ∀ i, w1.cell? ⟨w.heap.size, i, none⟩ = (#[.int .i64 kind, .slice A1 set.length c1, .slice A2 args.length c2, .int .i64 mn, .int .i64 mx, .bool neg] : Array Value)[i]? := fun i => cell_box hb1 i
  have hs1 := (hs.alloc _).below hb1
  have hb2 : Below w.heap.size w w1 := bT (by repeat (first | exact Below.refl _ _ | apply bA)) hb1
  have hz1 : w.heap.size < w1.heap.size := Nat.lt_of_lt_of_le (by simp) hb1.size
  have q0 := f0 0
  have q1 := f0 1
  have q2 := f0 2
  have q3 := f0 3
  have q4 := f0 4
  have q5 := f0 5
  simp only [List.getElem?_toArray, List.getElem?_cons_succ, List.getElem?_cons_zero] at q0 q1 q2 q3 q4 q5
  generalize ((pre (Re.mk kind set args mn mx neg)).take 41).length = m at *
  have HB := Aside.mk hb2
  clear f0 hb1 ho hb2
  by_cases hm : (m : Int) ≤ 40
  · go_wp2_with fail
    refine (HP.out.2.1 _ hs1).mono ?_
    rintro e w2 ⟨⟨d, rfl⟩, hb3⟩
    have p0 := hb3.cell (p := ⟨w.heap.size, 0, none⟩) hz1
    have p1 := hb3.cell (p := ⟨w.heap.size, 1, none⟩) hz1
    have p2 := hb3.cell (p := ⟨w.heap.size, 2, none⟩) hz1
    have p3 := hb3.cell (p := ⟨w.heap.size, 3, none⟩) hz1
    have p4 := hb3.cell (p := ⟨w.heap.size, 4, none⟩) hz1
    have p5 := hb3.cell (p := ⟨w.heap.size, 5, none⟩) hz1
    rw [q0] at p0
    rw [q1] at p1
    rw [q2] at p2
    rw [q3] at p3
    rw [q4] at p4
    rw [q5] at p5
    have hs2 := hs1.below hb3
    have HB2 := Aside.mk (bT HB.out hb3)
    clear hb3 q0 q1 q2 q3 q4 q5
    by_cases hd : d ≤ 5
    · go_wp2_with fail
      refine (HP.out.2.2 _ hs2).mono ?_
      rintro e w3 ⟨⟨x, rfl⟩, hb4⟩
      have HB3 := Aside.mk (bT HB2.out hb4)
      clear hb4 p0 p1 p2 p3 p4 p5
      by_cases hx : x ≤ 60
      · go_wp2_with fail
        go_ret
        exact ⟨⟨_, rfl⟩, HB3.out⟩
      · go_wp2_with fail
        go_ret
        exact ⟨⟨_, rfl⟩, HB3.out⟩
    · clear p0 p1 p2 p3 p4 p5
      go_wp2_with fail
      go_ret
      exact ⟨⟨_, rfl⟩, HB2.out⟩
  · go_wp2_with fail
    go_ret
    exact ⟨⟨_, rfl⟩, HB.out⟩
end Go.Proofs.Ytbnahmeaeakhhaa.B
