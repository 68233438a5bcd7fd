/- Contract: parlref1.Preorder. -/
import Derived.Test.YtbnahmeaeakhhaaProg
import Derived.Test.YtbnahmeaeakhhaaBb
namespace Go.Proofs.Ytbnahmeaeakhhaa.B
set_option linter.unusedVariables false
set_option linter.unusedSimpArgs false
open Go Go.RowKit

def lenOf : Value → Nat | .slice _ n _ => n | _ => 0

theorem info3 : (Try.prog.info? 3).map (fun i => (i.zero, i.size, i.bytes)) = some (some (.int .i64 0), 1, 8) := by kernel_rfl
theorem info25 : (Try.prog.info? 25).map (fun i => (i.zero, i.size, i.bytes)) = some (some (.agg #[(.int .i64 0), (.slice none 0 0), (.slice none 0 0), (.int .i64 0), (.int .i64 0), (.bool false)]), 6, 80) := by kernel_rfl

theorem pre_pos (r : Re) : 0 < (pre r).length := by cases r; rw [pre_eq]; simp
theorem len_flat_pre (l : List Re) : l.length ≤ ((l.map pre).flatten).length := by
  induction l with
  | nil => simp
  | cons a l ih => have := pre_pos a; simp only [List.map_cons, List.flatten_cons, List.length_append, List.length_cons]; omega

set_option maxHeartbeats 2000000 in
theorem preorder_any (H : PH) (r : Re) (cs : List Value) (most : Nat) (w : World) (hr : RdRe H r cs) (hs : Sat w H) (hbig : (pre r).length ≤ 1048576) (hm : most ≤ 1048576) :
    Calls Try.prog 81 #[.agg cs.toArray, .int .i64 most] w fun e w' => ∃ v, e = .returned v ∧ Own kRe 25 w' w.heap.size H v ((pre r).take most) ∧ Below w.heap.size w w' := by
  cases r with
  | mk kind set args mn mx neg =>
  have hr0 := hr
  obtain ⟨A1, c1, A, c, rfl, -, -⟩ := hr.open
  go_enter Try.func81, Try.ntmps81
  go_wp2_with fail
  go_loopw [5, 6] (fun o s wr => ∃ (xs ys : List Re), Own kRe 25 wr w.heap.size H o xs ∧ Own kRe 25 wr w.heap.size H s ys ∧ Apart o s ∧ Aside (xs ++ (ys.reverse.map pre).flatten = pre (.mk kind set args mn mx neg) ∧ xs.length ≤ most) ∧ Below w.heap.size w wr) (fun o _ _ => (pre (.mk kind set args mn mx neg)).length - lenOf o)
  case atStart =>
    refine ⟨[], [.mk kind set args mn mx neg], Own.nil _ _ _ _ _, ?_, Or.inl rfl, ⟨by simp, by simp⟩, by repeat (first | exact Below.refl _ _ | apply bA)⟩
    have := Own.lit (k := kRe) (e := 25) (base := w.heap.size) (hs.alloc (.cells #[.int .i64 kind, .slice A1 set.length c1, .slice A args.length c, .int .i64 mn, .int .i64 mx, .bool neg] 25)) #[.int .i64 kind, .slice A1 set.length c1, .slice A args.length c, .int .i64 mn, .int .i64 mx, .bool neg] (by simp) (EncL.single (k := kRe) hr0) (by unfold maxLen; simp)
    simpa using this
  case round =>
    obtain ⟨xs, ys, ho, hst, hap, hgo, hb⟩ := hrel
    obtain ⟨A1, c1, rfl, f1, f2, f3, f4⟩ := ho.form
    obtain ⟨A2, c2, rfl, p1, p2, p3, p4⟩ := hst.form
    have hxl : xs.length ≤ most := hgo.out.2
    have hsr := hs.below hb
    by_cases hy : ys.length = 0
    · go_wp2_with fail
      go_ret
      obtain rfl : ys = [] := List.eq_nil_of_length_eq_zero hy
      refine ⟨_, rfl, ?_, hb⟩
      have hh := hgo.out
      simp only [List.reverse_nil, List.map_nil, List.flatten_nil, List.append_nil] at hh
      rw [← hh.1, List.take_of_length_le hh.2]
      exact ho
    · by_cases hx : xs.length < most
      · obtain ⟨m, hm⟩ : ∃ m, ys.length = m + 1 := ⟨ys.length - 1, by omega⟩
        obtain ⟨g, c, cs, e, -, -, hrd, hcell, hfz⟩ := hst.cells m (by omega)
        cases e
        have hgl := (hst.blk (b := g) rfl).2.1
        have hst1 := hst.cut m (by omega) (by omega)
        have hlast : ys = ys.take m ++ [ys[m]] := by rw [← List.take_succ_eq_append_getElem (by omega), List.take_of_length_le (by omega)]
        generalize ys[m] = x at *
        generalize hzz : ys.take m = zs at *
        have hzl : zs.length = m := by rw [← hzz]; simp; omega
        have hgo2 := hgo.out.1
        rw [hlast] at hgo2
        cases x with
        | mk kind' set' args' mn' mx' neg' =>
        have hrd : RdRe H _ cs := hrd
        have hrd0 := hrd
        obtain ⟨A1', c1', A', c', rfl, -, ha⟩ := hrd.open
        simp only [List.reverse_append, List.reverse_cons, List.reverse_nil, List.nil_append, List.cons_append, List.map_cons, List.flatten_cons, pre_eq] at hgo2
        have hlen := congrArg List.length hgo2
        have hbig2 := hbig
        rw [pre_eq] at hbig2
        simp only [List.length_append, List.length_cons] at hlen hbig2
        have HG2 := Aside.mk hgo2
        have HL := Aside.mk (And.intro hlast (And.intro hzz hzl))
        have HLEN := Aside.mk hlen
        have g0 := hcell 0 _ rfl
        have g1 := hcell 1 _ rfl
        have g2 := hcell 2 _ rfl
        have g3 := hcell 3 _ rfl
        have g4 := hcell 4 _ rfl
        have g5 := hcell 5 _ rfl
        simp only [kRe, Nat.add_zero] at g0 g1 g2 g3 g4 g5
        have hm2 : m + 1 ≤ c2 := by omega
        have hm3 : m + 1 ≤ maxLen := by omega
        unfold maxLen at hm3
        rw [hm]
        have hby : Aside ((xs.length + 1) * 80 ≤ 140737488355328 ∧ xs.length + 1 ≤ maxLen) := ⟨by omega, by unfold maxLen; omega⟩
        have ho0 := ho.alloc hsr (.cells #[.int .i64 kind', .slice A1' set'.length c1', .slice A' args'.length c', .int .i64 mn', .int .i64 mx', .bool neg'] 25)
        have hsr0 := hsr.alloc (.cells #[.int .i64 kind', .slice A1' set'.length c1', .slice A' args'.length c', .int .i64 mn', .int .i64 mx', .bool neg'] 25)
        have hbk : Aside (wr.heap.size + 1 = (wr.alloc (.cells #[.int .i64 kind', .slice A1' set'.length c1', .slice A' args'.length c', .int .i64 mn', .int .i64 mx', .bool neg'] 25)).heap.size) := ⟨by simp⟩
        have hwb : Aside (w.heap.size ≤ (wr.alloc (.cells #[.int .i64 kind', .slice A1' set'.length c1', .slice A' args'.length c', .int .i64 mn', .int .i64 mx', .bool neg'] 25)).heap.size) := ⟨Nat.le_trans hb.size (by simp)⟩
        clear hcell hgo2 hlast hlen hzz hzl hm p1 p2
        go_upto_region 6 with (fail)
        go_upto_region 7 with (at_builtin; go_must (refine wpList_app1 kRe rfl (.tmp 31) (.tmp 33) 23 rfl 25 Try.underlying23 info25 rfl ho0 hsr0 rfl hbk.out rfl hrd0 hby.out.1 hby.out.2 hwb.out ?_); intro o' w2 ho2 hg2 hs2 hn2)
        have hq : w2.cell? ⟨wr.heap.size, 2, none⟩ = some (.slice A' args'.length c') := by
          rw [World.cell?_of_block (hg2.block wr.heap.size (by simp) (fun e1 => by have := (ho.blk e1.symm).2.1; omega)), World.cell?_alloc_new]; rfl
        have hap1 : Apart (.slice (some ⟨g, 0, none⟩) m c2) (.slice A1 xs.length c1) := hap.symm
        have hst2 : Own kRe 25 w2 w.heap.size H (.slice (some ⟨g, 0, none⟩) m c2) zs :=
          (hst1.alloc hsr _).grown hg2 hap1
        have hap2 : Apart (.slice (some ⟨g, 0, none⟩) m c2) o' :=
          (hst1.alloc hsr _).apartN hap1 hn2
        have hb2 : Below w.heap.size w w2 := ho0.belowG (bA hb _) (Nat.le_refl _) hg2
        have hsz2 : wr.heap.size < w2.heap.size := Nat.lt_of_lt_of_le (by simp) hg2.size
        have hal := ha.2.2.2.1
        have Hg2 := Aside.mk hg2
        clear hg2 hn2 hsr0 ho0 hby hwb hbk hst1
        obtain ⟨wo, rfl⟩ : ∃ wo : World, wo = wr := ⟨_, rfl⟩
        go_wp2_with fail
        go_loopw [6, 8] (fun s i wr => ∃ (j : Nat) (z : Int), j ≤ args'.length ∧ i = .int .i64 z ∧ z = j - 1 ∧ Own kRe 25 wr w.heap.size H s (zs ++ (args'.drop j).reverse) ∧ Own kRe 25 wr w.heap.size H o' (xs ++ [.mk kind' set' args' mn' mx' neg']) ∧ Apart s o' ∧ Aside (s.ownBlock ≠ some wo.heap.size) ∧ wr.cell? ⟨wo.heap.size, 2, none⟩ = some (.slice A' args'.length c') ∧ wo.heap.size < wr.heap.size ∧ Below w.heap.size w wr) (fun _ i _ => (intOf i + 1).toNat)
        case atStart => exact ⟨args'.length, _, Nat.le_refl _, rfl, rfl, by simpa using hst2, ho2, hap2, ⟨fun e1 => absurd (Option.some.inj (show some g = some wo.heap.size from e1)) (by omega)⟩, hq, hsz2, hb2⟩
        case round =>
          obtain ⟨j, z, hj, rfl, hz, hst3, ho3, hap3, hne3, hq3, hsz3, hb3⟩ := hrel
          have hs3 := hs.below hb3
          by_cases hz0 : 0 ≤ z
          · obtain ⟨j', rfl⟩ : ∃ j' : Nat, z = j' := ⟨z.toNat, by omega⟩
            have hj' : j = j' + 1 := by omega
            subst hj'
            clear hz
            obtain ⟨b, off, cs, rfl, hrd3, hcell3⟩ := ha.row j' (by omega)
            have hdr : args'.drop j' = args'[j'] :: args'.drop (j' + 1) := List.drop_eq_getElem_cons (by omega)
            generalize args'[j'] = y at *
            cases y with
            | mk k3 s3 a3 mn3 mx3 neg3 =>
            have hrd3 : RdRe H _ cs := hrd3
            have hrd30 := hrd3
            obtain ⟨A13, c13, A3, c3, rfl, -, -⟩ := hrd3.open
            obtain ⟨q0, q1, q2, q3, q4, q5⟩ := at6 hs3 hcell3
            simp only [kRe] at q0 q1 q2 q3 q4 q5
            obtain ⟨A5, c5, rfl, r1, r2, r3, r4⟩ := hst3.form
            have hsl : (zs ++ (args'.drop (j' + 1)).reverse).length = m + (args'.length - (j' + 1)) := by simp [HL.out.2.2]
            have hln : ((zs ++ (args'.drop (j' + 1)).reverse).length + 1) * 80 ≤ 140737488355328 ∧ (zs ++ (args'.drop (j' + 1)).reverse).length + 1 ≤ maxLen := by
              have e1 := len_flat_pre args'
              have e2 := len_flat_pre zs.reverse
              have e3 := HLEN.out
              have e4 := HL.out.2.2
              rw [List.length_reverse] at e2
              rw [hsl]; unfold maxLen; omega
            have Hln := Aside.mk hln
            have Hdr := Aside.mk hdr
            have hwb3 := Aside.mk hb3.size
            have hbk3 : Aside (wr.heap.size = wr.heap.size) := ⟨rfl⟩
            have hlt3 : (j' : Int) < args'.length := by omega
            clear hln hdr hcell3
            go_upto_region 9 with (at_builtin; go_must (refine wpList_app1 kRe rfl (.tmp 43) (.tmp 49) 23 rfl 25 Try.underlying23 info25 rfl hst3 hs3 rfl hbk3.out rfl hrd30 Hln.out.1 Hln.out.2 hwb3.out ?_); intro s4 w4 ho4 hg4 hs4 hn4)
            have e5 : zs ++ (args'.drop (j' + 1)).reverse ++ [.mk k3 s3 a3 mn3 mx3 neg3] = zs ++ (args'.drop j').reverse := by rw [Hdr.out]; simp
            rw [e5] at ho4
            have hap4 : Apart s4 o' := (ho3.apartN hap3.symm hn4).symm
            have hq4 : w4.cell? ⟨wo.heap.size, 2, none⟩ = some (.slice (some ⟨b, off, none⟩) args'.length c') := by
              rw [← hq3]
              refine World.cell?_of_block (hg4.block wo.heap.size hsz3 (fun e1 => hne3.out e1.symm))
            have hne4 : Aside (s4.ownBlock ≠ some wo.heap.size) := ⟨fun e1 => by
              rcases hn4 _ e1 with h1 | h1
              · exact hne3.out h1
              · omega⟩
            have hsz4 : wo.heap.size < w4.heap.size := Nat.lt_of_lt_of_le hsz3 hg4.size
            have hb4 : Below w.heap.size w w4 := hst3.belowG hb3 (Nat.le_refl _) hg4
            have ho34 := ho3.grown_apart hap3.symm hg4
            go_wp2_with fail
            go_roundw
            case rel => exact ⟨j', j' - 1, by omega, rfl, rfl, ho4, ho34, hap4, hne4, hq4, hsz4, hb4⟩
            case measure => simp [intOf]
          · have hj0 : j = 0 := by omega
            subst hj0
            rw [List.drop_zero] at hst3
            go_wp2_with fail
            go_roundw
            case rel =>
              refine ⟨_, _, ho3, hst3, hap3.symm, ⟨?_, ?_⟩, hb3⟩
              · rw [pre_eq, ← HG2.out, List.append_assoc]
                simp
              · simp; omega
            case measure => 
              obtain ⟨_, _, e7, -⟩ := ho3.form
              have := HLEN.out
              simp only [e7]
              simp [lenOf]
              rw [pre_eq, List.length_cons]
              omega
      · go_wp2_with fail
        go_ret
        refine ⟨_, rfl, ?_, hb⟩
        rw [← hgo.out.1, List.take_append_of_le_length (by omega), List.take_of_length_le (by omega)]
        exact ho
end Go.Proofs.Ytbnahmeaeakhhaa.B
