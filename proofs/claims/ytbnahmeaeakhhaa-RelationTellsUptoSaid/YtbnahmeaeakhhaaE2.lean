/- Contracts: parlref1.InSet, and what is asked of Matches. -/
import Derived.Test.YtbnahmeaeakhhaaE1
import Derived.Test.YtbnahmeaeakhhaaRm
namespace Go.Proofs.Ytbnahmeaeakhhaa.B
set_option linter.unusedVariables false
set_option linter.unusedSimpArgs false
open Go Go.RowKit Classical

theorem inSet_snoc (l : List Span) (s : Span) (r : Int) : inSet (l ++ [s]) r ↔ inSet l r ∨ s.lo ≤ r ∧ r ≤ s.hi := by
  constructor
  · rintro ⟨x, hx, h⟩
    rcases List.mem_append.1 hx with hx | hx
    · exact Or.inl ⟨x, hx, h⟩
    · simp at hx; subst hx; exact Or.inr h
  · rintro (⟨x, hx, h⟩ | h)
    · exact ⟨x, List.mem_append_left _ hx, h⟩
    · exact ⟨s, by simp, h⟩
theorem inSet_no {l : List Span} {s : Span} {r : Int} (h : ¬ inSet l r) (h2 : ¬ (s.lo ≤ r ∧ r ≤ s.hi)) : ¬ inSet (l ++ [s]) r := fun h3 => by
  rcases (inSet_snoc l s r).1 h3 with h4 | h4
  · exact h h4
  · exact h2 h4
theorem inSet_nil (r : Int) : ¬ inSet [] r := by rintro ⟨x, hx, -⟩; simp at hx

set_option maxHeartbeats 1000000 in
theorem inSet_any (H : PH) (l : List Span) (r : Int) (A : Option Addr) (n c : Nat) (w : World) (hl : SlR kSpan H A n c l) (hs : Sat w H) :
    Calls Try.prog 84 #[.slice A n c, .int .i64 r] w fun e w' => e = .returned (.bool (decide (inSet l r))) ∧ Below w.heap.size w w' := by
  obtain rfl := hl.1
  have hlen := hl.2.2.2.1
  have hc := hl.2.1
  go_enter Try.func84, Try.ntmps84
  go_wp2_with fail
  go_loopw [9] (fun i wr => ∃ k : Nat, k ≤ l.length ∧ i = .int .i64 k ∧ Aside (¬ inSet (l.take k) r) ∧ Below w.heap.size w wr) (fun i _ => l.length - (intOf i).toNat)
  case atStart => exact ⟨0, by omega, rfl, ⟨inSet_nil r⟩, Below.refl _ _⟩
  case round =>
    obtain ⟨k, hk, rfl, hno, hbr⟩ := hrel
    by_cases hlt : k < l.length
    · obtain ⟨b, off, cs, rfl, hrd, hcell⟩ := hl.row k hlt
      have hsr := hs.below hbr
      have hsn := List.take_succ_eq_append_getElem hlt
      have hmem : l[k] ∈ l := List.getElem_mem _
      generalize l[k] = s at *
      have HS := Aside.mk (And.intro hsn hmem)
      clear hsn hmem
      obtain rfl : cs = [.int .i64 s.lo, .int .i64 s.hi] := hrd
      obtain ⟨g0, g1⟩ := at2 hsr hcell
      simp only [kSpan] at g0 g1
      clear hcell
      have hbz : b < wr.heap.size := World.block_lt_of_cell? wr _ g0
      by_cases q1 : s.lo ≤ r
      · by_cases q2 : r ≤ s.hi
        · go_wp2_with fail
          go_ret
          have hin : inSet l r := ⟨s, HS.out.2, q1, q2⟩
          exact ⟨by simp [hin], bA hbr _⟩
        · go_wp2_with fail
          go_roundw
          case rel => exact ⟨k + 1, by omega, by go_num, ⟨by rw [HS.out.1]; exact inSet_no hno.out (by omega)⟩, bA hbr _⟩
          case measure => simp [intOf]; omega
      · go_wp2_with fail
        go_roundw
        case rel => exact ⟨k + 1, by omega, by go_num, ⟨by rw [HS.out.1]; exact inSet_no hno.out (by omega)⟩, bA hbr _⟩
        case measure => simp [intOf]; omega
    · obtain rfl : k = l.length := by omega
      go_wp2_with fail
      go_ret
      have hno' := hno.out
      rw [List.take_of_length_le (Nat.le_refl _)] at hno'
      exact ⟨by simp [hno'], hbr⟩

/-- what is asked of Matches at r -/
def MS (t : List Int) (r : Re) : Prop := ∀ (H : PH) (cs : List Value) (A : Option Addr) (c : Nat) (w : World) (i j : Nat), RdRe H r cs → SlR (kI .i64) H A t.length c t → Sat w H → i ≤ j → j ≤ t.length →
  Calls Try.prog 22 #[.agg cs.toArray, .slice A t.length c, .int .i64 i, .int .i64 j] w fun e w' => e = .returned (.bool (decide (M t r i j))) ∧ Below w.heap.size w w'

set_option maxRecDepth 100000 in
set_option maxHeartbeats 4000000 in
theorem ms1 (t : List Int) (set args mn mx neg) : MS t (.mk 1 set args mn mx neg) := by
  intro H cs A c w i j hr ht hs hij hjn
  obtain ⟨A1, c1, A2, c2, rfl, h1, h2⟩ := hr.open
  go_enter Try.func22, Try.ntmps22
  go_wp2_with fail
  go_ret
  refine ⟨?_, bA (Below.refl _ _) _⟩
  show Ending.returned (.bool ((i : Int) == (j : Int))) = _
  congr 2
  rw [Bool.eq_iff_iff]
  simp [M1]
  omega

set_option maxRecDepth 100000 in
set_option maxHeartbeats 4000000 in
theorem ms2 (t : List Int) (set args mn mx neg) : MS t (.mk 2 set args mn mx neg) := by
  intro H cs A c w i j hr ht hs hij hjn
  obtain ⟨A1, c1, A2, c2, rfl, h1, h2⟩ := hr.open
  have hM := M2 t set args mn mx neg i j
  have hlt := ht.2.2.2.1
  have hlc := ht.2.1
  have hIn := fun w x => inSet_any H set x A1 set.length c1 w h1
  have HM := Aside.mk (And.intro hM hIn)
  clear hM hIn
  go_enter Try.func22, Try.ntmps22
  by_cases hq : (j : Int) = i + 1
  · have hil : (i : Int) < (t.length : Int) := by omega
    obtain ⟨b, off, cs, rfl, hrd, hcell⟩ := ht.row i (by omega)
    have hget : t[i]? = some t[i] := List.getElem?_eq_getElem (by omega)
    generalize t[i] = x at *
    obtain rfl : cs = [.int .i64 x] := hrd
    have g0 := at1 hs hcell
    simp only [kI, Nat.mul_one] at g0
    have hbz : b < w.heap.size := World.block_lt_of_cell? w _ g0
    have HG := Aside.mk hget
    clear hget hcell
    go_wp2_with fail
    have hbW : Below w.heap.size w (w.alloc (.cells #[.int .i64 2, .slice A1 set.length c1, .slice A2 args.length c2, .int .i64 mn, .int .i64 mx, .bool neg] 25)) := bA (Below.refl _ _) _
    have q1 : (w.alloc (.cells #[.int .i64 2, .slice A1 set.length c1, .slice A2 args.length c2, .int .i64 mn, .int .i64 mx, .bool neg] 25)).cell? ⟨w.heap.size, 1, none⟩ = some (.slice A1 set.length c1) := by rw [World.cell?_alloc_new]; rfl
    have e0 := (hbW.cell (p := ⟨b, off + i, none⟩) hbz).trans g0
    have hsW := hs.below hbW
    have lb : w.heap.size < (w.alloc (.cells #[.int .i64 2, .slice A1 set.length c1, .slice A2 args.length c2, .int .i64 mn, .int .i64 mx, .bool neg] 25)).heap.size := by simp
    generalize (w.alloc (.cells #[.int .i64 2, .slice A1 set.length c1, .slice A2 args.length c2, .int .i64 mn, .int .i64 mx, .bool neg] 25)) = W2 at *
    have HK : Aside (∀ w', Below W2.heap.size W2 w' → w'.cell? ⟨w.heap.size, 1, none⟩ = some (.slice A1 set.length c1) ∧ w'.cell? ⟨b, off + i, none⟩ = some (.int .i64 x)) :=
      ⟨fun w' hb => ⟨(hb.cell (p := ⟨_, _, none⟩) lb).trans q1, (hb.cell (p := ⟨_, _, none⟩) (Nat.lt_trans hbz lb)).trans e0⟩⟩
    have HB := Aside.mk hbW
    clear q1 e0 g0 hbW
    have hwr : IntKind.i64.wrap ((i : Int) + 1) = (i : Int) + 1 := IntWalk.i64_in _ (by omega)
    go_region_held3 (fun w' => w'.cell? ⟨w.heap.size, 1, none⟩ = some (.slice A1 set.length c1) ∧ w'.cell? ⟨b, off + i, none⟩ = some (.int .i64 x))
      (first
        | exact HK.out _ (Below.refl _ _)
        | exact HK.out _ (Below.refl _ _).drew
        | exact HK.out _ ((Below.refl _ _).drew.trans hb1)
        | exact HK.out _ hb1)
      ((first
        | (go_at_call 84; with_reducible refine (HM.out.2 _ x hsW.drew).mono ?_; rintro e w1 ⟨rfl, hb1⟩)))
    go_wp2_with fail
    go_ret
    refine ⟨?_, by first | exact bT HB.out hb1 | exact bT HB.out ((Below.refl _ _).drew.trans hb1)⟩
    show Ending.returned (.bool (decide (inSet set x))) = _
    have hh : inSet set x ↔ M t (Re.mk 2 set args mn mx neg) i j := ⟨fun h => HM.out.1.2 ⟨by omega, x, HG.out, h⟩, fun h => by obtain ⟨-, y, hy, h⟩ := HM.out.1.1 h; rw [HG.out] at hy; cases hy; exact h⟩
    rw [decide_eq_decide.2 hh]
  · have hd : ((j : Int) == (i : Int) + 1) = false := by simpa using hq
    have hwr : IntKind.i64.wrap ((i : Int) + 1) = (i : Int) + 1 := IntWalk.i64_in _ (by omega)
    go_wp2_with fail
    go_quiet (fail)
    go_wp2_with fail
    go_ret
    exact ⟨by rw [decide_eq_false (fun h => by have := (HM.out.1.1 h).1; omega)]; rfl, bN (bA (Below.refl _ _) _) _⟩
end Go.Proofs.Ytbnahmeaeakhhaa.B
