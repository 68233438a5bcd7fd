/- Contracts: retree.walk, retree.Fits, retree.Check. -/
import Derived.Test.YtbnahmeaeakhhaaC3
namespace Go.Proofs.Ytbnahmeaeakhhaa.B
set_option linter.unusedVariables false
set_option linter.unusedSimpArgs false
open Go Go.RowKit

theorem flat_take (l : List Re) (k : Nat) (h : k < l.length) : (l.map pre).flatten = ((l.take k).map pre).flatten ++ (pre l[k] ++ ((l.drop (k+1)).map pre).flatten) := by
  have e : l = l.take k ++ l[k] :: l.drop (k+1) := by rw [← List.drop_eq_getElem_cons h, List.take_append_drop]
  conv => lhs; rw [e]
  simp only [List.map_append, List.map_cons, List.flatten_append, List.flatten_cons]
theorem flat_succ (l : List Re) (k : Nat) (h : k < l.length) : ((l.take (k+1)).map pre).flatten = ((l.take k).map pre).flatten ++ pre l[k] := by
  rw [List.take_succ_eq_append_getElem h]; simp only [List.map_append, List.map_cons, List.flatten_append, List.flatten_cons, List.map_nil, List.flatten_nil, List.append_nil]
theorem errL_zero_ge (l : List Re) (left : Int) (h : errL l left = 0) (h0 : 0 ≤ left) : (l.length : Int) ≤ left := by
  induction l generalizing left with
  | nil => simpa using h0
  | cons x l ih =>
    simp only [errL] at h
    by_cases h1 : left < 1
    · simp [h1] at h
    · by_cases h2 : x.err ≠ 0
      · simp [h1, h2] at h
      · simp only [h1, h2, if_false] at h
        have := ih _ h (by omega)
        simp; omega

def WalkPost (r : Re) (p : Nat) (left : Int) (w : World) (e : Ending) (w' : World) : Prop :=
  ∃ left' : Int, e = .returned (.int .i64 (errL (pre r) left)) ∧ (errL (pre r) left = 0 → left' = left - (pre r).length) ∧ w.grownBy w' (some p) ∧ w'.heap[p]? = some (.cells #[.int .i64 left'] 3 (0, 0))

set_option maxHeartbeats 1000000 in
theorem walk_any (H : PH) : ∀ (r : Re) (cs : List Value) (p : Nat) (left : Int) (w : World), RdRe H r cs → Sat w H → w.heap[p]? = some (.cells #[.int .i64 left] 3 (0, 0)) → (∀ o, H p o = none) → 0 ≤ left → left ≤ 4611686018427387904 →
    Calls Try.prog 166 #[.agg cs.toArray, .pointer (some ⟨p, 0, none⟩)] w (WalkPost r p left w) := by
  intro r
  induction r using Re.ind with
  | h kind set args mn mx neg ih =>
  intro cs p left w hr hs hp hpH hl0 hlm
  have hr0 := hr
  obtain ⟨A1, c1, A, c, rfl, h1, h2⟩ := hr.open
  have hcp := cell_of_one hp
  have hfp := free_of_one hp
  have hlt := lt_of_block hp
  have hlen := h2.2.2.2.1
  have HP := Aside.mk hp
  clear hp
  have HPH := Aside.mk hpH
  clear hpH
  have hg1 : ∀ (o : Obj) (v : Value), w.grownBy ((w.setCell ⟨p, 0, none⟩ v).alloc o) (some p) := fun o v => grownBy_trans (grownBy_setCell _ _ _ _) (World.grownBy_alloc _ _ _)
  have hp1 : ∀ (o : Obj) (v : Value), ((w.setCell ⟨p, 0, none⟩ v).alloc o).heap[p]? = some (.cells #[v] 3 (0, 0)) := fun o v => by rw [Below.heap_alloc _ _ _ (by simpa [World.setCell] using hlt)]; exact one_setCell HP.out
  have hs1 : ∀ (o : Obj) (v : Value), Sat ((w.setCell ⟨p, 0, none⟩ v).alloc o) H := fun o v => hs.grown (hg1 o v) (fun b hb => by cases hb; exact HPH.out)
  have Hg1 := Aside.mk hg1
  have Hp1 := Aside.mk hp1
  have Hs1 := Aside.mk hs1
  clear hg1 hp1 hs1
  by_cases hl1 : left < 1
  · go_enter Try.func166, Try.ntmps166
    go_wp2_with fail
    go_ret
    exact ⟨_, by simp [pre_eq, errL, hl1], by simp [pre_eq, errL, hl1], Hg1.out _ _, Hp1.out _ _⟩
  · go_enter Try.func166, Try.ntmps166
    go_wp2_with fail
    refine (node_any H _ _ _ hr0 (Hs1.out _ _)).mono ?_
    rintro e w1 ⟨rfl, hb1⟩
    have hg2 : w.grownBy w1 (some p) := grownBy_trans (Hg1.out _ _) (grownBy_below hb1 _)
    have hp2 : w1.heap[p]? = some (.cells #[.int .i64 (left - 1)] 3 (0, 0)) := box_below (Hp1.out _ _) hb1
    have hs2 : Sat w1 H := (Hs1.out _ _).below hb1
    have hbox : w1.cell? ⟨w.heap.size, 2, none⟩ = some (.slice A args.length c) := by rw [hb1.cell (p := ⟨w.heap.size, 2, none⟩) (by simp [World.alloc, World.setCell]), World.cell?_alloc_at _ _ _ _ (by simp [World.setCell])]; rfl
    have hb0 : w.heap.size < w1.heap.size := Nat.lt_of_lt_of_le (by simp [World.alloc, World.setCell]) hb1.size
    clear hb1 hcp hfp
    generalize hee : (Re.mk kind set args mn mx neg).err = ee
    by_cases h0 : ee = 0
    · subst h0
      have Hee := Aside.mk hee
      clear hee
      go_wp2_with fail
      go_loopw [26] (fun i wr => ∃ (k : Nat) (lk : Int), k ≤ args.length ∧ i = .int .i64 k ∧ Aside (errL ((args.take k).map pre).flatten (left - 1) = 0 ∧ lk = left - 1 - (((args.take k).map pre).flatten).length) ∧ w.grownBy wr (some p) ∧ wr.heap[p]? = some (.cells #[.int .i64 lk] 3 (0, 0)) ∧ 0 ≤ lk ∧ lk < 4611686018427387904 ∧ w.heap.size < wr.heap.size) (fun i _ => args.length - (intOf i).toNat)
      case atStart => exact ⟨0, left - 1, by omega, rfl, ⟨by simp [errL], by simp⟩, hg2, hp2, by omega, by omega, hb0⟩
      case round =>
        obtain ⟨k, lk, hk, rfl, hgo, hgr, hpr, hlk0, hlk1, hbr⟩ := hrel
        have Hpr := Aside.mk hpr
        clear hpr
        by_cases hlt2 : k < args.length
        · obtain ⟨b, off, cs, rfl, hrd, hcell⟩ := h2.row k hlt2
          have ihk := ih args[k] (List.getElem_mem _)
          have hfl := flat_take args k hlt2
          have hfs := flat_succ args k hlt2
          generalize args[k] = a at *
          have HF := Aside.mk (And.intro hfl hfs)
          clear hfl hfs
          cases a with
          | mk kind' set' args' mn' mx' neg' =>
          have hrd : RdRe H _ cs := hrd
          obtain ⟨A1', c1', A', c', rfl, -⟩ := hrd.open
          have hsr := hs.grown hgr (fun b hb => by cases hb; exact HPH.out)
          obtain ⟨g0, g1, g2, g3, g4, g5⟩ := at6 hsr hcell
          clear hcell
          simp only [kRe] at g0 g1 g2 g3 g4 g5
          go_wp2_with fail
          refine (ihk _ p lk _ hrd (hsr.alloc _) (by rw [Below.heap_alloc _ _ _ (lt_of_block Hpr.out)]; exact Hpr.out) HPH.out hlk0 (by omega)).mono ?_
          rintro e w3 ⟨l3, rfl, hl3, hg3, hp3⟩
          have hgr3 : w.grownBy w3 (some p) := grownBy_trans (grownBy_trans hgr (World.grownBy_alloc _ _ _)) hg3
          have hb3 : w.heap.size < w3.heap.size := by have := hg3.size; simp at this; omega
          generalize he3 : errL (pre (Re.mk kind' set' args' mn' mx' neg')) lk = e3 at *
          have HE3 := Aside.mk (And.intro he3 hl3)
          clear he3 hl3
          by_cases h30 : e3 = 0
          · subst h30
            have hz3 := HE3.out
            have hge := errL_zero_ge _ _ hz3.1 hlk0
            have hl3' := hz3.2 rfl
            have hb3' : 0 ≤ l3 ∧ l3 < 4611686018427387904 := by omega
            have HL3 := Aside.mk hl3'
            have HP3 := Aside.mk hp3
            clear hl3' hge hz3 hp3
            go_wp2_with fail
            go_roundw
            case rel =>
              refine ⟨k + 1, l3, by omega, by go_num, ⟨?_, ?_⟩, hgr3, HP3.out, hb3'.1, hb3'.2, hb3⟩
              · rw [HF.out.2, errL_append, if_neg (by rw [hgo.out.1]; simp), ← hgo.out.2]; exact HE3.out.1
              · rw [HF.out.2, HL3.out, hgo.out.2, List.length_append]; omega
            case measure => simp [intOf]; omega
          · go_wp2_with fail
            go_ret
            have hh := HE3.out
            have hfin : errL (pre (Re.mk kind set args mn mx neg)) left = e3 := by
              rw [pre_eq, errL, if_neg (by omega), if_neg (by rw [Hee.out]; simp), HF.out.1, errL_append, hgo.out.1, if_neg (by simp), ← hgo.out.2, errL_append, hh.1, if_pos h30]
            exact ⟨_, by rw [hfin]; rfl, fun hz => absurd (hfin.symm.trans hz) h30, hgr3, hp3⟩
        · go_wp2_with fail
          go_ret
          have hkk : args.take k = args := List.take_of_length_le (by omega)
          have hgo' := hgo.out
          rw [hkk] at hgo'
          have hfin : errL (pre (Re.mk kind set args mn mx neg)) left = 0 := by
            rw [pre_eq, errL, if_neg (by omega), if_neg (by rw [Hee.out]; simp)]; exact hgo'.1
          exact ⟨lk, by rw [hfin]; rfl, fun _ => by rw [pre_eq, List.length_cons]; omega, hgr, Hpr.out⟩
    · have Hee := Aside.mk hee
      clear hee
      go_wp2_with fail
      go_ret
      have hh := Hee.out
      have hfin : errL (pre (Re.mk kind set args mn mx neg)) left = ee := by rw [pre_eq, errL, if_neg (by omega), hh, if_pos h0]
      exact ⟨_, by rw [hfin]; rfl, fun hz => absurd (hfin.symm.trans hz) h0, hg2, hp2⟩

set_option maxHeartbeats 400000 in
theorem fits_any (H : PH) (r : Re) (cs : List Value) (most : Int) (w : World) (hr : RdRe H r cs) (hs : Sat w H) (h0 : 0 ≤ most) (h1 : most ≤ 4611686018427387904) :
    Calls Try.prog 137 #[.agg cs.toArray, .int .i64 most] w fun e w' => e = .returned (.int .i64 (checkRe r most)) ∧ Below w.heap.size w w' := by
  cases r with
  | mk kind set args mn mx neg =>
  have hr0 := hr
  obtain ⟨A1, c1, A, c, rfl, -, -⟩ := hr.open
  go_enter Try.func137, Try.ntmps137
  go_wp2_with fail
  refine (walk_any H _ _ (w.heap.size + 1) most _ hr0 ((hs.alloc _).alloc _) ?_ (fun o => hs.new (by omega) o) h0 h1).mono ?_
  · have := heap_alloc_new (w.alloc (.cells #[.int .i64 kind, .slice A1 set.length c1, .slice A args.length c, .int .i64 mn, .int .i64 mx, .bool neg] 25)) (.cells #[.int .i64 most] 3)
    simpa using this
  rintro e w1 ⟨l1, rfl, -, hg, -⟩
  have hb : Below w.heap.size w w1 := below_grownBy (((Below.refl _ _).alloc (Nat.le_refl _) _).alloc (by simp) _) (by omega) hg
  clear hg
  go_wp2_with fail
  go_ret
  exact ⟨rfl, hb⟩

set_option maxHeartbeats 400000 in
theorem check_any (H : PH) (r : Re) (cs : List Value) (w : World) (hr : RdRe H r cs) (hs : Sat w H) :
    Calls Try.prog 87 #[.agg cs.toArray] w fun e w' => e = .returned (.int .i64 (checkRe r 40)) ∧ Below w.heap.size w w' := by
  cases r with
  | mk kind set args mn mx neg =>
  have hr0 := hr
  obtain ⟨A1, c1, A, c, rfl, -, -⟩ := hr.open
  go_enter Try.func87, Try.ntmps87
  go_wp2_with fail
  refine (fits_any H _ _ 40 _ hr0 (hs.alloc _) (by omega) (by omega)).mono ?_
  rintro e w1 ⟨rfl, hb1⟩
  have hb := ((Below.refl w.heap.size w).alloc (Nat.le_refl _) _).trans (hb1.mono (by simp))
  go_wp2_with fail
  go_ret
  exact ⟨rfl, hb⟩
end Go.Proofs.Ytbnahmeaeakhhaa.B
