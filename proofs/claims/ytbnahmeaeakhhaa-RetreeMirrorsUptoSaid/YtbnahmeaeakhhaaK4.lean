/- Contracts: retree.Size; parlkeep1.re, good; slices.Equal over pairs. -/
import Derived.Test.YtbnahmeaeakhhaaD2
import Derived.Test.YtbnahmeaeakhhaaRm
import Derived.Test.YtbnahmeaeakhhaaK3
namespace Go.Proofs.Ytbnahmeaeakhhaa.B
set_option linter.unusedVariables false
set_option linter.unusedSimpArgs false
open Go Go.RowKit Classical

set_option maxHeartbeats 2000000 in
theorem size_any (H : PH) : ∀ (r : Re) (cs : List Value) (w : World), RdRe H r cs → Sat w H → (pre r).length ≤ 1048576 →
    Calls Try.prog 26 #[.agg cs.toArray] w fun e w' => e = .returned (.int .i64 (pre r).length) ∧ Below w.heap.size w w' := by
  intro r
  induction r using Re.ind with
  | h kind set args mn mx neg ih =>
  intro cs w hr hs hbig
  obtain ⟨A1, c1, A, c, rfl, h1, h2⟩ := hr.open
  have hlen := h2.2.2.2.1
  have hc := h2.2.1
  rw [pre_eq, List.length_cons] at hbig
  have hpe : (pre (.mk kind set args mn mx neg)).length = ((args.map pre).flatten).length + 1 := by rw [pre_eq, List.length_cons]
  have HP := Aside.mk hpe
  clear hpe
  go_enter Try.func26, Try.ntmps26
  go_wp2_with fail
  go_loopw [3, 9] (fun m i wr => ∃ (k n : Nat), k ≤ args.length ∧ i = .int .i64 k ∧ m = .int .i64 n ∧ Aside (n = (((args.take k).map pre).flatten).length + 1) ∧ n ≤ 1048576 ∧ Below w.heap.size w wr) (fun _ i _ => args.length - (intOf i).toNat)
  case atStart => exact ⟨0, 1, by omega, rfl, rfl, ⟨by simp⟩, by omega, by repeat (first | exact Below.refl _ _ | apply bA)⟩
  case round =>
    obtain ⟨k, n, hk, rfl, rfl, hn, hnb, hbr⟩ := hrel
    by_cases hlt : k < args.length
    · obtain ⟨b, off, cs, rfl, hrd, hcell⟩ := h2.row k hlt
      have hfs := flat_succ args k hlt
      have hft := flat_take args k hlt
      have hle : (((args.take k).map pre).flatten).length + (pre args[k]).length + 1 ≤ 1048576 := by
        rw [hft] at hbig; simp only [List.length_append] at hbig; omega
      have HI := Aside.mk (fun w hs => ih _ (List.getElem_mem hlt) cs w hrd hs (by omega))
      have hsr := hs.below hbr
      obtain ⟨kind', set', args', mn', mx', neg', hq⟩ : ∃ a b c d e f, args[k] = Re.mk a b c d e f := by cases args[k]; exact ⟨_, _, _, _, _, _, rfl⟩
      rw [hq] at hrd
      obtain ⟨A1', c1', A2', c2', rfl, -, -⟩ := hrd.open
      obtain ⟨g0, g1, g2, g3, g4, g5⟩ := at6 hsr hcell
      simp only [kRe] at g0 g1 g2 g3 g4 g5
      have hbz : b < wr.heap.size := World.block_lt_of_cell? wr _ g0
      have HF := Aside.mk (And.intro hfs hle)
      have hnn := hn.out
      have hle2 : n + (pre args[k]).length ≤ 1048576 := by omega
      clear hcell hrd hfs hft hle hnn hq
      generalize hsz : (pre args[k]).length = s at *
      have HSZ := Aside.mk hsz
      clear hsz
      go_wp2_with fail
      refine (HI.out _ (hsr.alloc _)).mono ?_
      rintro e w2 ⟨rfl, hb2⟩
      go_wp2_with fail
      go_roundw
      case rel => exact ⟨k + 1, n + s, by omega, by go_num, by go_num, ⟨by rw [HF.out.1, List.length_append]; have h1 := hn.out; have h2 := HSZ.out; omega⟩, by omega, bT (bA hbr _) hb2⟩
      case measure => simp [intOf]; omega
    · obtain rfl : k = args.length := by omega
      go_wp2_with fail
      go_ret
      have hn' := hn.out
      rw [List.take_of_length_le (Nat.le_refl _)] at hn'
      exact ⟨by rw [HP.out, ← hn']; rfl, hbr⟩

set_option maxRecDepth 100000 in
theorem kre_any (k : Int) (A : Option Addr) (n c : Nat) (w : World) : Calls Try.prog 27 #[.int .i64 k, .slice A n c] w fun e w' => e = .returned (.agg #[.int .i64 k, .slice none 0 0, .slice A n c, .int .i64 0, .int .i64 0, .bool false]) ∧ Below w.heap.size w w' := by
  go_enter Try.func27, Try.ntmps27
  go_wp2_with fail
  refine bodyPost_ret (kresults_c1 rfl _ _ _ rfl (run_loadVar_row _ _ _ _ _ (0, 0) _ (heap_alloc_new _ _) Try.underlying25 rfl (by kernel_rfl))) rfl ?_
  exact ⟨rfl, bA (Below.refl _ _) _⟩

/-- slices.Equal, over pairs -/
theorem eqPairs2_any (H H2 : PH) (xs ys : List (Int × Int)) (A B : Option Addr) (n c m d : Nat) (w : World) (hx : SlR kP H A n c xs) (hy : SlR kP H2 B m d ys) (hs : Sat w H) (hs2 : Sat w H2) (he : xs = ys) :
    Calls Try.prog 67 #[.slice A n c, .slice B m d] w fun e w' => e = .returned (.bool true) ∧ Below w.heap.size w w' := by
  subst he
  obtain rfl := hx.1
  obtain rfl := hy.1
  have hc := hx.2.1
  have hd := hy.2.1
  have hlen := hx.2.2.2.1
  go_enter Try.func67, Try.ntmps67
  go_wp2_with fail
  go_loopw [13] (fun i wr => ∃ k : Nat, k ≤ xs.length ∧ i = .int .i64 k ∧ Below w.heap.size w wr) (fun i _ => xs.length - (intOf i).toNat)
  case atStart => exact ⟨0, by omega, rfl, Below.refl _ _⟩
  case round =>
    obtain ⟨k, hk, rfl, hbr⟩ := hrel
    by_cases hlt : k < xs.length
    · have hli : (k : Int) < (xs.length : Int) := by omega
      obtain ⟨b1, o1, cs1, rfl, hrd1, hcell1⟩ := hx.row k hlt
      obtain ⟨b2, o2, cs2, rfl, hrd2, hcell2⟩ := hy.row k hlt
      generalize xs[k] = q at *
      obtain rfl : cs1 = [.int .i64 q.1, .int .i64 q.2] := hrd1
      obtain rfl : cs2 = [.int .i64 q.1, .int .i64 q.2] := hrd2
      obtain ⟨g0, g1⟩ := at2 (hs.below hbr) hcell1
      obtain ⟨g2, g3⟩ := at2 (hs2.below hbr) hcell2
      simp only [kP] at g0 g1 g2 g3
      have HB := Aside.mk hbr
      clear hcell1 hcell2 hbr
      go_wp2_with fail
      go_quiet (fail)
      go_wp2_with fail
      go_roundw
      case rel => exact ⟨k + 1, by omega, by go_num, HB.out.drewN _⟩
      case measure => simp [intOf]; omega
    · obtain rfl : k = xs.length := by omega
      go_wp2_with fail
      go_ret
      exact ⟨rfl, hbr⟩
theorem eqPairs_any (H : PH) (xs ys : List (Int × Int)) (A B : Option Addr) (n c m d : Nat) (w : World) (hx : SlR kP H A n c xs) (hy : SlR kP H B m d ys) (hs : Sat w H) (he : xs = ys) :
    Calls Try.prog 67 #[.slice A n c, .slice B m d] w fun e w' => e = .returned (.bool true) ∧ Below w.heap.size w w' := eqPairs2_any H H xs ys A B n c m d w hx hy hs hs he
end Go.Proofs.Ytbnahmeaeakhhaa.B
