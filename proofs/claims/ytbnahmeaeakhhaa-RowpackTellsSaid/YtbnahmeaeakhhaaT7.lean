/- Contracts: parllaw1.two, packBegun; the reads of a table. -/
import Derived.Test.YtbnahmeaeakhhaaT5
import Derived.Test.YtbnahmeaeakhhaaT6
import Derived.Test.YtbnahmeaeakhhaaV9
namespace Go.Proofs.Ytbnahmeaeakhhaa.B
set_option linter.unusedVariables false
set_option linter.unusedSimpArgs false
open Go Go.RowKit Go.Proofs.Ytbnahmeaeakhhaa.Q Go.Proofs.Ytbnahmeaeakhhaa.S Classical

def evA : Aut := ⟨0, [0, -1], evN⟩
/-- the literals of the automaton of even words, laid one by one -/
theorem ev_lits {H : PH} {w W : World} (hx : Ext H H w W) :
    ∃ H', Ext H H' w ((((W.alloc (.cells #[.int .i64 0, .int .i64 (-1)] 3)).alloc (.cells #[.int .i64 1] 3)).alloc (.cells #[.int .i64 0] 3)).alloc (.cells #[.slice (some ⟨W.heap.size + 1, 0, none⟩) 1 1, .slice (some ⟨W.heap.size + 2, 0, none⟩) 1 1] 26)) ∧
      SlR (kI .i64) H' (some ⟨W.heap.size, 0, none⟩) 2 2 [0, -1] ∧ SlR (kS (kI .i64)) H' (some ⟨W.heap.size + 3, 0, none⟩) 2 2 evN := by
  obtain ⟨G1, x1, l1, s1⟩ := lit_extq (k := kI .i64) (e := 3) (xs := [0, -1]) hx #[.int .i64 0, .int .i64 (-1)] ⟨[_], _, rfl, rfl, ⟨[_], _, rfl, rfl, rfl⟩⟩ (by simp)
  obtain ⟨G2, x2, l2, s2⟩ := lit_extq (k := kI .i64) (e := 3) (xs := [1]) x1 #[.int .i64 1] ⟨[_], _, rfl, rfl, rfl⟩ (by simp)
  obtain ⟨G3, x3, l3, s3⟩ := lit_extq (k := kI .i64) (e := 3) (xs := [0]) x2 #[.int .i64 0] ⟨[_], _, rfl, rfl, rfl⟩ (by simp)
  have s2' := s2.mono l3
  have e2 : (W.alloc (.cells #[.int .i64 0, .int .i64 (-1)] 3)).heap.size = W.heap.size + 1 := by simp
  have e3 : ((W.alloc (.cells #[.int .i64 0, .int .i64 (-1)] 3)).alloc (.cells #[.int .i64 1] 3)).heap.size = W.heap.size + 2 := by simp
  rw [e2] at s2'
  rw [e3] at s3
  obtain ⟨G4, x4, l4, s4⟩ := lit_extq (k := kS (kI .i64)) (e := 26) (xs := evN) x3 #[.slice (some ⟨W.heap.size + 1, 0, none⟩) 1 1, .slice (some ⟨W.heap.size + 2, 0, none⟩) 1 1] ⟨[_], _, rfl, ⟨_, _, rfl, s2'⟩, ⟨[_], _, rfl, ⟨_, _, rfl, s3⟩, rfl⟩⟩ (by simp [evN])
  have e4 : (((W.alloc (.cells #[.int .i64 0, .int .i64 (-1)] 3)).alloc (.cells #[.int .i64 1] 3)).alloc (.cells #[.int .i64 0] 3)).heap.size = W.heap.size + 3 := by simp
  rw [e4] at s4
  exact ⟨G4, x4, (s1.mono (PH.le_trans l2 (PH.le_trans l3 l4))), s4⟩
theorem two_any (H : PH) (w : World) (hs : Sat w H) : Calls Try.prog 99 #[] w fun e w' => ∃ H' A1 A2, e = .returned (.agg #[.int .i64 0, .slice A1 2 2, .slice A2 2 2]) ∧ SlR (kI .i64) H' A1 2 2 [0, -1] ∧ SlR (kS (kI .i64)) H' A2 2 2 evN ∧ Ext H H' w w' := by
  have HS := Aside.mk hs
  clear hs
  go_enter Try.func99, Try.ntmps99
  go_wp2_with fail
  obtain ⟨H', x, s1, s4⟩ := ev_lits ((Ext.refl HS.out).alloc (.cells #[.int .i64 0, .slice (some ⟨w.heap.size + 1, 0, none⟩) 2 2, .slice (some ⟨w.heap.size + 1 + 3, 0, none⟩) 2 2] 58))
  have e1 : (w.alloc (.cells #[.int .i64 0, .slice (some ⟨w.heap.size + 1, 0, none⟩) 2 2, .slice (some ⟨w.heap.size + 1 + 3, 0, none⟩) 2 2] 58)).heap.size = w.heap.size + 1 := by simp
  rw [e1] at s1 s4 x
  refine bodyPost_ret (resC rfl _ _ _ rfl (run_loadVar_row _ w.heap.size _ _ _ (0, 0) _ (boxA (boxA (boxA (boxA (boxN w (.cells #[.int .i64 0, .slice (some ⟨w.heap.size + 1, 0, none⟩) 2 2, .slice (some ⟨w.heap.size + 1 + 3, 0, none⟩) 2 2] 58)) _) _) _) _) Try.underlying58 rfl (by kernel_rfl))) rfl ?_
  exact ⟨H', _, _, rfl, s1, s4, x⟩

/-- what At tells -/
noncomputable def atV (T : Tab) (s c : Int) : Int × Int := if errT T ≠ 0 then (0, errT T) else if s < 0 ∨ (T.base.length : Int) ≤ s ∨ c < 0 ∨ T.cols ≤ c then (0, 1) else (entF T.base T.own T.nxt s c, 0)
theorem At_any {H : PH} {T : Tab} {cs : List Value} {w : World} (s c : Int) (hT : RdTab H T cs) (hs : Sat w H) :
    Calls Try.prog 56 #[.agg cs.toArray, .int .i64 s, .int .i64 c] w fun e w' => e = .returned (.tuple #[.int .i64 (atV T s c).1, .int .i64 (atV T s c).2]) ∧ Below w.heap.size w w' := by
  obtain ⟨A1, c1, A2, c2, A3, c3, A4, c4, rfl, h1, h2, h3, h4⟩ := hT
  exact At_hand H T.st T.cols T.acc T.base T.own T.nxt A1 A2 A3 A4 c1 c2 c3 c4 s c w h1 h2 h3 h4 hs
/-- the bytes of a table -/
noncomputable def bytesT (T : Tab) : List Int := if errT T = 0 then bytesF (numsF T.st T.cols T.acc T.base T.own T.nxt) else []
theorem Bytes_any {H : PH} {T : Tab} {cs : List Value} {w : World} (hT : RdTab H T cs) (hs : Sat w H) (hr : errT T = 0 → InR (numsF T.st T.cols T.acc T.base T.own T.nxt)) :
    Calls Try.prog 60 #[.agg cs.toArray] w fun e w' => ∃ v, e = .returned (.tuple #[v, .int .i64 (errT T)]) ∧ Own (kI .u8) 5 w' w.heap.size emp v (bytesT T) ∧ Below w.heap.size w w' := by
  obtain ⟨A1, c1, A2, c2, A3, c3, A4, c4, rfl, h1, h2, h3, h4⟩ := hT
  exact (bytes_hand H T.st T.cols T.acc T.base T.own T.nxt A1 A2 A3 A4 c1 c2 c3 c4 w h1 h2 h3 h4 hs hr).mono fun _ _ ⟨A, l, c, e, ho, hb⟩ => ⟨_, e, ho.emp, hb⟩
end Go.Proofs.Ytbnahmeaeakhhaa.B
