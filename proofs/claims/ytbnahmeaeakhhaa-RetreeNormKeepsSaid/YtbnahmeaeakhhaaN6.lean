/- Contracts: retree.repeated. -/
import Derived.Test.YtbnahmeaeakhhaaN2
namespace Go.Proofs.Ytbnahmeaeakhhaa.B
set_option linter.unusedVariables false
set_option linter.unusedSimpArgs false
open Go Go.RowKit Classical

def noneRe : Re := .mk 0 [] [] 0 0 false
def emptyRe : Re := .mk 1 [] [] 0 0 false
/-- the normal form of a repetition -/
noncomputable def repF (k : Int) (set : List Span) (a : Re) (rest : List Re) (mn mx : Int) (ng : Bool) : Re :=
  if a.kind = 1 ∨ (a.kind = 0 ∧ (k = 5 ∨ mn = 0)) ∨ (k = 6 ∧ mx = 0) then emptyRe
  else if a.kind = 0 ∨ a.kind = 5 ∨ (k = 6 ∧ mn = 1 ∧ mx = 1) then a
  else .mk k set (a :: rest) mn mx ng

theorem rd_empty (H : PH) : RdRe H emptyRe [.int .i64 1, .slice none 0 0, .slice none 0 0, .int .i64 0, .int .i64 0, .bool false] := RdRe.shut (SlR.nil _ _) (SlR.nil _ _)
theorem rd_none (H : PH) : RdRe H noneRe [.int .i64 0, .slice none 0 0, .slice none 0 0, .int .i64 0, .int .i64 0, .bool false] := RdRe.shut (SlR.nil _ _) (SlR.nil _ _)

set_option maxRecDepth 100000 in
set_option maxHeartbeats 16000000 in
theorem repeated_any (H : PH) (k : Int) (set : List Span) (a : Re) (rest : List Re) (mn mx : Int) (ng : Bool) (cs : List Value) (w : World) (hr : RdRe H (.mk k set (a :: rest) mn mx ng) cs) (hs : Sat w H) (hk : k = 5 ∨ k = 6) :
    Calls Try.prog 140 #[.agg cs.toArray] w (ReR H w (repF k set a rest mn mx ng)) := by
  obtain ⟨A1, c1, A2, c2, rfl, h1, h2⟩ := hr.open
  obtain ⟨b, off, k1, s1, a1, u1, v1, g1, P1, d1, P2, d2, rfl, hq, hrd, g0, g1_, g2, g3, g4, g5⟩ := cell_elem h2 hs 0 (by simp)
  simp only [List.getElem_cons_zero, Nat.zero_mul, Nat.add_zero] at hq g0 g1_ g2 g3 g4 g5
  subst hq
  have hc2 := h2.2.1
  have hbz : b < w.heap.size := World.block_lt_of_cell? w _ g0
  have HR := Aside.mk (And.intro hr hrd)
  simp only [List.length_cons] at hc2 hr ⊢
  have hll : (0 : Int) < (rest.length : Int) + 1 := by omega
  clear hr hrd h1 h2
  rcases hk with rfl | rfl
  · skip
    by_cases q0 : k1 = 1
    · skip
      subst q0
      have HF := Aside.mk (show repF 5 set (Re.mk 1 s1 a1 u1 v1 g1) rest mn mx ng = emptyRe from by unfold repF; simp [Re.kind])
      go_enter Try.func140, Try.ntmps140
      go_wp2_with fail
      refine bodyPost_ret (resC rfl _ _ _ rfl (run_loadVar_row _ _ _ _ #[.int .i64 1, .slice none 0 0, .slice none 0 0, .int .i64 0, .int .i64 0, .bool false] (0, 0) _ (k3 w (.cells #[.int .i64 5, .slice A1 set.length c1, .slice (some ⟨b, off, none⟩) (rest.length + 1) c2, .int .i64 mn, .int .i64 mx, .bool ng] 25) _ (.cells #[.int .i64 1, .slice P1 s1.length d1, .slice P2 a1.length d2, .int .i64 u1, .int .i64 v1, .bool g1] 25)).2.1 Try.underlying25 rfl (by kernel_rfl))) rfl ?_
      rw [HF.out]
      exact ⟨H, _, rfl, rd_empty H, (((Ext.refl hs).alloc _).alloc _).alloc _⟩
    · skip
      by_cases q1 : k1 = 0
      · skip
        subst q1
        have HF := Aside.mk (show repF 5 set (Re.mk 0 s1 a1 u1 v1 g1) rest mn mx ng = emptyRe from by unfold repF; simp [Re.kind, q0])
        go_enter Try.func140, Try.ntmps140
        go_wp2_with fail
        refine bodyPost_ret (resC rfl _ _ _ rfl (run_loadVar_row _ _ _ _ #[.int .i64 1, .slice none 0 0, .slice none 0 0, .int .i64 0, .int .i64 0, .bool false] (0, 0) _ (k3 w (.cells #[.int .i64 5, .slice A1 set.length c1, .slice (some ⟨b, off, none⟩) (rest.length + 1) c2, .int .i64 mn, .int .i64 mx, .bool ng] 25) _ (.cells #[.int .i64 0, .slice P1 s1.length d1, .slice P2 a1.length d2, .int .i64 u1, .int .i64 v1, .bool g1] 25)).2.1 Try.underlying25 rfl (by kernel_rfl))) rfl ?_
        rw [HF.out]
        exact ⟨H, _, rfl, rd_empty H, (((Ext.refl hs).alloc _).alloc _).alloc _⟩
      · skip
        by_cases q2 : k1 = 5
        · skip
          subst q2
          have HF := Aside.mk (show repF 5 set (Re.mk 5 s1 a1 u1 v1 g1) rest mn mx ng = Re.mk 5 s1 a1 u1 v1 g1 from by unfold repF; simp [Re.kind, q0, q1])
          go_enter Try.func140, Try.ntmps140
          go_wp2_with fail
          refine bodyPost_ret (resC rfl _ _ _ rfl (run_loadVar_row _ _ _ _ #[.int .i64 5, .slice P1 s1.length d1, .slice P2 a1.length d2, .int .i64 u1, .int .i64 v1, .bool g1] (0, 0) _ (k3 w (.cells #[.int .i64 5, .slice A1 set.length c1, .slice (some ⟨b, off, none⟩) (rest.length + 1) c2, .int .i64 mn, .int .i64 mx, .bool ng] 25) _ (.cells #[.int .i64 5, .slice P1 s1.length d1, .slice P2 a1.length d2, .int .i64 u1, .int .i64 v1, .bool g1] 25)).2.1 Try.underlying25 rfl (by kernel_rfl))) rfl ?_
          rw [HF.out]
          exact ⟨H, _, rfl, HR.out.2, (((Ext.refl hs).alloc _).alloc _).alloc _⟩
        · skip
          have HF := Aside.mk (show repF 5 set (Re.mk k1 s1 a1 u1 v1 g1) rest mn mx ng = Re.mk 5 set (Re.mk k1 s1 a1 u1 v1 g1 :: rest) mn mx ng from by unfold repF; simp [Re.kind, q0, q1, q2])
          go_enter Try.func140, Try.ntmps140
          go_wp2_with fail
          refine bodyPost_ret (resC rfl _ _ _ rfl (run_loadVar_row _ _ _ _ #[.int .i64 5, .slice A1 set.length c1, .slice (some ⟨b, off, none⟩) (rest.length + 1) c2, .int .i64 mn, .int .i64 mx, .bool ng] (0, 0) _ (k3 w (.cells #[.int .i64 5, .slice A1 set.length c1, .slice (some ⟨b, off, none⟩) (rest.length + 1) c2, .int .i64 mn, .int .i64 mx, .bool ng] 25) _ (.cells #[.int .i64 k1, .slice P1 s1.length d1, .slice P2 a1.length d2, .int .i64 u1, .int .i64 v1, .bool g1] 25)).2.1 Try.underlying25 rfl (by kernel_rfl))) rfl ?_
          rw [HF.out]
          exact ⟨H, _, rfl, HR.out.1, (((Ext.refl hs).alloc _).alloc _).alloc _⟩
  · skip
    by_cases q0 : k1 = 1
    · skip
      subst q0
      have HF := Aside.mk (show repF 6 set (Re.mk 1 s1 a1 u1 v1 g1) rest mn mx ng = emptyRe from by unfold repF; simp [Re.kind])
      go_enter Try.func140, Try.ntmps140
      go_wp2_with fail
      refine bodyPost_ret (resC rfl _ _ _ rfl (run_loadVar_row _ _ _ _ #[.int .i64 1, .slice none 0 0, .slice none 0 0, .int .i64 0, .int .i64 0, .bool false] (0, 0) _ (k3 w (.cells #[.int .i64 6, .slice A1 set.length c1, .slice (some ⟨b, off, none⟩) (rest.length + 1) c2, .int .i64 mn, .int .i64 mx, .bool ng] 25) _ (.cells #[.int .i64 1, .slice P1 s1.length d1, .slice P2 a1.length d2, .int .i64 u1, .int .i64 v1, .bool g1] 25)).2.1 Try.underlying25 rfl (by kernel_rfl))) rfl ?_
      rw [HF.out]
      exact ⟨H, _, rfl, rd_empty H, (((Ext.refl hs).alloc _).alloc _).alloc _⟩
    · skip
      by_cases q1 : k1 = 0
      · skip
        subst q1
        by_cases q2 : mn = 0
        · skip
          subst q2
          have HF := Aside.mk (show repF 6 set (Re.mk 0 s1 a1 u1 v1 g1) rest 0 mx ng = emptyRe from by unfold repF; simp [Re.kind, q0])
          go_enter Try.func140, Try.ntmps140
          go_wp2_with fail
          refine bodyPost_ret (resC rfl _ _ _ rfl (run_loadVar_row _ _ _ _ #[.int .i64 1, .slice none 0 0, .slice none 0 0, .int .i64 0, .int .i64 0, .bool false] (0, 0) _ (k3 w (.cells #[.int .i64 6, .slice A1 set.length c1, .slice (some ⟨b, off, none⟩) (rest.length + 1) c2, .int .i64 0, .int .i64 mx, .bool ng] 25) _ (.cells #[.int .i64 0, .slice P1 s1.length d1, .slice P2 a1.length d2, .int .i64 u1, .int .i64 v1, .bool g1] 25)).2.1 Try.underlying25 rfl (by kernel_rfl))) rfl ?_
          rw [HF.out]
          exact ⟨H, _, rfl, rd_empty H, (((Ext.refl hs).alloc _).alloc _).alloc _⟩
        · skip
          by_cases q3 : mx = 0
          · skip
            subst q3
            have HF := Aside.mk (show repF 6 set (Re.mk 0 s1 a1 u1 v1 g1) rest mn 0 ng = emptyRe from by unfold repF; simp [Re.kind, q0, q2])
            go_enter Try.func140, Try.ntmps140
            go_wp2_with fail
            refine bodyPost_ret (resC rfl _ _ _ rfl (run_loadVar_row _ _ _ _ #[.int .i64 1, .slice none 0 0, .slice none 0 0, .int .i64 0, .int .i64 0, .bool false] (0, 0) _ (k3 w (.cells #[.int .i64 6, .slice A1 set.length c1, .slice (some ⟨b, off, none⟩) (rest.length + 1) c2, .int .i64 mn, .int .i64 0, .bool ng] 25) _ (.cells #[.int .i64 0, .slice P1 s1.length d1, .slice P2 a1.length d2, .int .i64 u1, .int .i64 v1, .bool g1] 25)).2.1 Try.underlying25 rfl (by kernel_rfl))) rfl ?_
            rw [HF.out]
            exact ⟨H, _, rfl, rd_empty H, (((Ext.refl hs).alloc _).alloc _).alloc _⟩
          · skip
            have HF := Aside.mk (show repF 6 set (Re.mk 0 s1 a1 u1 v1 g1) rest mn mx ng = Re.mk 0 s1 a1 u1 v1 g1 from by unfold repF; simp [Re.kind, q0, q2, q3])
            go_enter Try.func140, Try.ntmps140
            go_wp2_with fail
            refine bodyPost_ret (resC rfl _ _ _ rfl (run_loadVar_row _ _ _ _ #[.int .i64 0, .slice P1 s1.length d1, .slice P2 a1.length d2, .int .i64 u1, .int .i64 v1, .bool g1] (0, 0) _ (k3 w (.cells #[.int .i64 6, .slice A1 set.length c1, .slice (some ⟨b, off, none⟩) (rest.length + 1) c2, .int .i64 mn, .int .i64 mx, .bool ng] 25) _ (.cells #[.int .i64 0, .slice P1 s1.length d1, .slice P2 a1.length d2, .int .i64 u1, .int .i64 v1, .bool g1] 25)).2.1 Try.underlying25 rfl (by kernel_rfl))) rfl ?_
            rw [HF.out]
            exact ⟨H, _, rfl, HR.out.2, (((Ext.refl hs).alloc _).alloc _).alloc _⟩
      · skip
        by_cases q2 : mx = 0
        · skip
          subst q2
          have HF := Aside.mk (show repF 6 set (Re.mk k1 s1 a1 u1 v1 g1) rest mn 0 ng = emptyRe from by unfold repF; simp [Re.kind, q0, q1])
          go_enter Try.func140, Try.ntmps140
          go_wp2_with fail
          refine bodyPost_ret (resC rfl _ _ _ rfl (run_loadVar_row _ _ _ _ #[.int .i64 1, .slice none 0 0, .slice none 0 0, .int .i64 0, .int .i64 0, .bool false] (0, 0) _ (k3 w (.cells #[.int .i64 6, .slice A1 set.length c1, .slice (some ⟨b, off, none⟩) (rest.length + 1) c2, .int .i64 mn, .int .i64 0, .bool ng] 25) _ (.cells #[.int .i64 k1, .slice P1 s1.length d1, .slice P2 a1.length d2, .int .i64 u1, .int .i64 v1, .bool g1] 25)).2.1 Try.underlying25 rfl (by kernel_rfl))) rfl ?_
          rw [HF.out]
          exact ⟨H, _, rfl, rd_empty H, (((Ext.refl hs).alloc _).alloc _).alloc _⟩
        · skip
          by_cases q3 : k1 = 5
          · skip
            subst q3
            have HF := Aside.mk (show repF 6 set (Re.mk 5 s1 a1 u1 v1 g1) rest mn mx ng = Re.mk 5 s1 a1 u1 v1 g1 from by unfold repF; simp [Re.kind, q0, q1, q2])
            go_enter Try.func140, Try.ntmps140
            go_wp2_with fail
            refine bodyPost_ret (resC rfl _ _ _ rfl (run_loadVar_row _ _ _ _ #[.int .i64 5, .slice P1 s1.length d1, .slice P2 a1.length d2, .int .i64 u1, .int .i64 v1, .bool g1] (0, 0) _ (k3 w (.cells #[.int .i64 6, .slice A1 set.length c1, .slice (some ⟨b, off, none⟩) (rest.length + 1) c2, .int .i64 mn, .int .i64 mx, .bool ng] 25) _ (.cells #[.int .i64 5, .slice P1 s1.length d1, .slice P2 a1.length d2, .int .i64 u1, .int .i64 v1, .bool g1] 25)).2.1 Try.underlying25 rfl (by kernel_rfl))) rfl ?_
            rw [HF.out]
            exact ⟨H, _, rfl, HR.out.2, (((Ext.refl hs).alloc _).alloc _).alloc _⟩
          · skip
            by_cases q4 : mn = 1
            · skip
              subst q4
              by_cases q5 : mx = 1
              · skip
                subst q5
                have HF := Aside.mk (show repF 6 set (Re.mk k1 s1 a1 u1 v1 g1) rest 1 1 ng = Re.mk k1 s1 a1 u1 v1 g1 from by unfold repF; simp [Re.kind, q0, q1, q2, q3])
                go_enter Try.func140, Try.ntmps140
                go_wp2_with fail
                refine bodyPost_ret (resC rfl _ _ _ rfl (run_loadVar_row _ _ _ _ #[.int .i64 k1, .slice P1 s1.length d1, .slice P2 a1.length d2, .int .i64 u1, .int .i64 v1, .bool g1] (0, 0) _ (k3 w (.cells #[.int .i64 6, .slice A1 set.length c1, .slice (some ⟨b, off, none⟩) (rest.length + 1) c2, .int .i64 1, .int .i64 1, .bool ng] 25) _ (.cells #[.int .i64 k1, .slice P1 s1.length d1, .slice P2 a1.length d2, .int .i64 u1, .int .i64 v1, .bool g1] 25)).2.1 Try.underlying25 rfl (by kernel_rfl))) rfl ?_
                rw [HF.out]
                exact ⟨H, _, rfl, HR.out.2, (((Ext.refl hs).alloc _).alloc _).alloc _⟩
              · skip
                have HF := Aside.mk (show repF 6 set (Re.mk k1 s1 a1 u1 v1 g1) rest 1 mx ng = Re.mk 6 set (Re.mk k1 s1 a1 u1 v1 g1 :: rest) 1 mx ng from by unfold repF; simp [Re.kind, q0, q1, q2, q3, q5])
                go_enter Try.func140, Try.ntmps140
                go_wp2_with fail
                refine bodyPost_ret (resC rfl _ _ _ rfl (run_loadVar_row _ _ _ _ #[.int .i64 6, .slice A1 set.length c1, .slice (some ⟨b, off, none⟩) (rest.length + 1) c2, .int .i64 1, .int .i64 mx, .bool ng] (0, 0) _ (k3 w (.cells #[.int .i64 6, .slice A1 set.length c1, .slice (some ⟨b, off, none⟩) (rest.length + 1) c2, .int .i64 1, .int .i64 mx, .bool ng] 25) _ (.cells #[.int .i64 k1, .slice P1 s1.length d1, .slice P2 a1.length d2, .int .i64 u1, .int .i64 v1, .bool g1] 25)).2.1 Try.underlying25 rfl (by kernel_rfl))) rfl ?_
                rw [HF.out]
                exact ⟨H, _, rfl, HR.out.1, (((Ext.refl hs).alloc _).alloc _).alloc _⟩
            · skip
              have HF := Aside.mk (show repF 6 set (Re.mk k1 s1 a1 u1 v1 g1) rest mn mx ng = Re.mk 6 set (Re.mk k1 s1 a1 u1 v1 g1 :: rest) mn mx ng from by unfold repF; simp [Re.kind, q0, q1, q2, q3, q4])
              go_enter Try.func140, Try.ntmps140
              go_wp2_with fail
              refine bodyPost_ret (resC rfl _ _ _ rfl (run_loadVar_row _ _ _ _ #[.int .i64 6, .slice A1 set.length c1, .slice (some ⟨b, off, none⟩) (rest.length + 1) c2, .int .i64 mn, .int .i64 mx, .bool ng] (0, 0) _ (k3 w (.cells #[.int .i64 6, .slice A1 set.length c1, .slice (some ⟨b, off, none⟩) (rest.length + 1) c2, .int .i64 mn, .int .i64 mx, .bool ng] 25) _ (.cells #[.int .i64 k1, .slice P1 s1.length d1, .slice P2 a1.length d2, .int .i64 u1, .int .i64 v1, .bool g1] 25)).2.1 Try.underlying25 rfl (by kernel_rfl))) rfl ?_
              rw [HF.out]
              exact ⟨H, _, rfl, HR.out.1, (((Ext.refl hs).alloc _).alloc _).alloc _⟩
end Go.Proofs.Ytbnahmeaeakhhaa.B
