/- Contracts: parlref1.CheckNode at every kind, CheckRe, CheckText. -/
import Derived.Test.YtbnahmeaeakhhaaC6a
import Derived.Test.YtbnahmeaeakhhaaC6b
import Derived.Test.YtbnahmeaeakhhaaC6c
import Derived.Test.YtbnahmeaeakhhaaC6d
import Derived.Test.YtbnahmeaeakhhaaC7
namespace Go.Proofs.Ytbnahmeaeakhhaa.B
set_option linter.unusedVariables false
set_option linter.unusedSimpArgs false
open Go Go.RowKit

set_option maxHeartbeats 400000 in
theorem cnode_out (k : Int) (v1 v2 : Value) (mn mx : Int) (neg : Bool) (w : World) (h : k < 0 ∨ 10 < k) :
    Calls Try.prog 92 #[.agg #[.int .i64 k, v1, v2, .int .i64 mn, .int .i64 mx, .bool neg]] w fun e w' => e = .returned (.int .i64 1) ∧ Below w.heap.size w w' := by
  by_cases h1 : k < 0
  · go_enter Try.func92, Try.ntmps92
    go_wp2
    go_ret
    exact ⟨rfl, (Below.refl _ _).alloc (Nat.le_refl _) _⟩
  · have h2 : 10 < k := by omega
    clear h
    go_enter Try.func92, Try.ntmps92
    go_wp2
    go_ret
    exact ⟨rfl, (Below.refl _ _).alloc (Nat.le_refl _) _⟩

theorem cnode_any (H : PH) (r : Re) (cs : List Value) (w : World) (hr : RdRe H r cs) (hs : Sat w H) :
    Calls Try.prog 92 #[.agg cs.toArray] w fun e w' => e = .returned (.int .i64 r.err) ∧ Below w.heap.size w w' := by
  cases r with
  | mk k set args mn mx neg =>
  obtain ⟨A1, c1, A, c, rfl, h1, h2⟩ := hr.open
  have hn := h2.2.2.2.1
  by_cases hk : k < 0 ∨ 10 < k
  · refine (cnode_out k _ _ mn mx neg w hk).mono fun e w' ⟨he, hb⟩ => ⟨?_, hb⟩
    rw [he]; simp [Re.err, nodeErr, Re.kind, hk]
  · obtain rfl | rfl | rfl | rfl | rfl | rfl | rfl | rfl | rfl | rfl | rfl : k = 0 ∨ k = 1 ∨ k = 2 ∨ k = 3 ∨ k = 4 ∨ k = 5 ∨ k = 6 ∨ k = 7 ∨ k = 8 ∨ k = 9 ∨ k = 10 := by omega
    · exact cnode_any0 H set A1 A _ c1 _ c mn mx neg w h1 hs hn
    · exact cnode_any1 H set A1 A _ c1 _ c mn mx neg w h1 hs hn
    · exact cnode_any2 H set A1 A _ c1 _ c mn mx neg w h1 hs hn
    · exact cnode_any3 H set A1 A _ c1 _ c mn mx neg w h1 hs hn
    · exact cnode_any4 H set A1 A _ c1 _ c mn mx neg w h1 hs hn
    · exact cnode_any5 H set A1 A _ c1 _ c mn mx neg w h1 hs hn
    · exact cnode_any6 H set A1 A _ c1 _ c mn mx neg w h1 hs hn
    · exact cnode_any7 H set A1 A _ c1 _ c mn mx neg w h1 hs hn
    · exact cnode_any8 H set A1 A _ c1 _ c mn mx neg w h1 hs hn
    · exact cnode_any9 H set A1 A _ c1 _ c mn mx neg w h1 hs hn
    · exact cnode_any10 H set A1 A _ c1 _ c mn mx neg w h1 hs hn

theorem errL_take (l : List Re) (m : Nat) : errL (l.take (m + 1)) m = errL l m := by
  induction l generalizing m with
  | nil => rfl
  | cons x l ih =>
    simp only [List.take_succ_cons, errL]
    cases m with
    | zero => simp
    | succ m =>
      have e : ((m + 1 : Nat) : Int) - 1 = m := by omega
      rw [e, ih m]

theorem errL_drop (l : List Re) (k m : Nat) (hk : k < l.length) : errL (l.drop k) (m - k) = if (m : Int) - k < 1 then 2 else if l[k].err ≠ 0 then l[k].err else errL (l.drop (k + 1)) (m - (k + 1 : Nat)) := by
  rw [List.drop_eq_getElem_cons hk, errL, show (m : Int) - k - 1 = m - (k + 1 : Nat) by omega]

set_option maxHeartbeats 2000000 in
theorem checkRe_any (H : PH) (r : Re) (cs : List Value) (m : Nat) (w : World) (hr : RdRe H r cs) (hs : Sat w H) (hbig : (pre r).length ≤ 1048576) (hm : m < 1048576) :
    Calls Try.prog 33 #[.agg cs.toArray, .int .i64 m] w fun e w' => e = .returned (.int .i64 (checkRe r m)) ∧ Below w.heap.size w w' := by
  cases r with
  | mk kind set args mn mx neg =>
  have hr0 := hr
  obtain ⟨A1, c1, A, c, rfl, -, -⟩ := hr.open
  go_enter Try.func33, Try.ntmps33
  go_wp2_with fail
  have hpre := preorder_any H _ _ (m + 1) _ hr0 (hs.alloc (.cells #[.int .i64 kind, .slice A1 set.length c1, .slice A args.length c, .int .i64 mn, .int .i64 mx, .bool neg] 25)) hbig (by omega)
  rw [show ((m + 1 : Nat) : Int) = (m : Int) + 1 by omega] at hpre
  refine hpre.mono ?_
  rintro e w1 ⟨v, rfl, hv, hb1⟩
  have hb2 : Below w.heap.size w w1 := bT (by repeat (first | exact Below.refl _ _ | apply bA)) hb1
  have htk := errL_take (pre (.mk kind set args mn mx neg)) m
  have hll : ((pre (.mk kind set args mn mx neg)).take (m + 1)).length ≤ m + 1 := by simp; omega
  generalize (pre (.mk kind set args mn mx neg)).take (m + 1) = l at *
  have Htk := Aside.mk htk
  clear htk
  obtain ⟨A, c, rfl, f1, f2, f3, f4⟩ := hv.form
  go_wp2_with fail
  go_loopw [13] (fun i wr => ∃ k : Nat, k ≤ l.length ∧ k ≤ m + 1 ∧ i = .int .i64 k ∧ Aside (errL l m = errL (l.drop k) (m - k)) ∧ Own kRe 25 wr (w.heap.size + 1) H (.slice A l.length c) l ∧ Below w.heap.size w wr) (fun i _ => l.length - (intOf i).toNat)
  case atStart => exact ⟨0, by omega, by omega, rfl, ⟨by simp⟩, by simpa using hv, hb2⟩
  case round =>
    obtain ⟨k, hk, hkm, rfl, hgo, hv1, hb⟩ := hrel
    have hsr := hs.below hb
    by_cases hlt : k < l.length
    · obtain ⟨g, c, cs, e, -, -, hrd, hcell, -⟩ := hv1.cells k hlt
      cases e
      have hdr := errL_drop l k m hlt
      generalize l[k] = x at *
      have Hdr := Aside.mk hdr
      clear hdr
      cases x with
      | mk kind' set' args' mn' mx' neg' =>
      have hrd : RdRe H _ cs := hrd
      have hrd0 := hrd
      obtain ⟨A1', c1', A', c', rfl, -, -⟩ := hrd.open
      have g0 := hcell 0 _ rfl
      have g1 := hcell 1 _ rfl
      have g2 := hcell 2 _ rfl
      have g3 := hcell 3 _ rfl
      have g4 := hcell 4 _ rfl
      have g5 := hcell 5 _ rfl
      simp only [kRe, Nat.add_zero] at g0 g1 g2 g3 g4 g5
      clear hcell
      by_cases hkm2 : k = m
      · subst hkm2
        go_wp2_with fail
        go_ret
        exact ⟨by rw [checkRe, ← Htk.out, hgo.out, Hdr.out, if_pos (by omega)]; rfl, bA hb _⟩
      · have hne : ¬ (k : Int) = m := by omega
        go_wp2_with fail
        refine (cnode_any H _ _ _ hrd0 (hsr.alloc _)).mono ?_
        rintro e w2 ⟨rfl, hb3⟩
        have hb4 : Below w.heap.size w w2 := bT (bA hb _) hb3
        have hv2 := (hv1.alloc hsr _).below (hsr.alloc _) hb3
        generalize hee : (Re.mk kind' set' args' mn' mx' neg').err = ee at *
        by_cases h0 : ee = 0
        · subst h0
          have Hee := Aside.mk hee
          clear hee
          go_wp2_with fail
          go_roundw
          case rel => exact ⟨k + 1, by omega, by omega, by go_num, ⟨by rw [hgo.out, Hdr.out, if_neg (by omega), if_neg (by simp)]⟩, hv2, hb4⟩
          case measure => simp [intOf]; omega
        · go_wp2_with fail
          go_ret
          exact ⟨by rw [checkRe, ← Htk.out, hgo.out, Hdr.out, if_neg (by omega), if_pos h0]; rfl, hb4⟩
    · go_wp2_with fail
      go_ret
      exact ⟨by rw [checkRe, ← Htk.out, hgo.out, List.drop_of_length_le (by omega)]; rfl, hb⟩


set_option maxHeartbeats 1000000 in
theorem checkText_any (H : PH) (r : Re) (cs : List Value) (t : List Int) (A : Option Addr) (n c : Nat) (most : Int) (w : World) (hr : RdRe H r cs) (ht : SlR (kI .i64) H A n c t) (hs : Sat w H) (hbig : (pre r).length ≤ 1048576) :
    Calls Try.prog 19 #[.agg cs.toArray, .slice A n c, .int .i64 most] w fun e w' => e = .returned (.int .i64 (textErr r t most)) ∧ Below w.heap.size w w' := by
  cases r with
  | mk kind set args mn mx neg =>
  have hr0 := hr
  obtain ⟨A1, c1, A2, c2, rfl, -, -⟩ := hr.open
  go_enter Try.func19, Try.ntmps19
  go_wp2_with fail
  refine (checkRe_any H _ _ 40 _ hr0 (hs.alloc _) hbig (by omega)).mono ?_
  rintro e w1 ⟨rfl, hb1⟩
  have hb2 : Below w.heap.size w w1 := bT (by repeat (first | exact Below.refl _ _ | apply bA)) hb1
  have e40 : ((40 : Nat) : Int) = 40 := rfl
  rw [e40]
  generalize hee : checkRe (.mk kind set args mn mx neg) 40 = ee
  have Hee := Aside.mk hee
  clear hee
  by_cases h0 : ee = 0
  · subst h0
    go_wp2_with fail
    refine (runes_any H t A n c most _ ht (hs.below hb2)).mono ?_
    rintro e w2 ⟨rfl, rfl⟩
    go_wp2_with fail
    go_ret
    exact ⟨by rw [textErr, Hee.out, if_neg (by simp)]; rfl, hb2⟩
  · go_wp2_with fail
    go_ret
    exact ⟨by rw [textErr, Hee.out, if_pos h0]; rfl, hb2⟩
end Go.Proofs.Ytbnahmeaeakhhaa.B
