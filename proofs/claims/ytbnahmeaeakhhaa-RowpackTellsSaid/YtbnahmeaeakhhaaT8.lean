/- Contract: parllaw1.packBegun. -/
import Derived.Test.YtbnahmeaeakhhaaT7
namespace Go.Proofs.Ytbnahmeaeakhhaa.B
set_option linter.unusedVariables false
set_option linter.unusedSimpArgs false
open Go Go.RowKit Go.Proofs.Ytbnahmeaeakhhaa.Q Go.Proofs.Ytbnahmeaeakhhaa.S Classical

def evT : Tab := ⟨0, 1, [0, -1], [0, 1], [0, 1], [1, 0]⟩
theorem errT_ev : errT evT = 0 := by
  show tabErr 0 1 [0, -1] [0, 1] [0, 1] [1, 0] = 0
  unfold tabErr
  rw [if_neg (by decide), if_neg (by decide), if_neg]
  · decide
  · refine fun h => h ⟨by decide, by decide, fun s _ hs => ?_⟩
    have hs' : s < 2 := hs
    rcases (show s = 0 ∨ s = 1 by omega) with rfl | rfl <;> decide
theorem atV_ev : atV evT 0 0 = (1, 0) := by
  unfold atV
  rw [if_neg (fun h => h errT_ev), if_neg (by decide)]
  unfold entF
  rw [if_pos (by decide)]
  rfl
theorem bytes_ev : bytesT evT = [1, 2, 3, 3, 1, 0, 1, 2, 1, 2, 2, 1] := by
  unfold bytesT
  rw [if_pos errT_ev]
  show bytesF [0, 1, 2, 2, 0, -1, 0, 1, 0, 1, 1, 0] = _
  simp [bytesF, encN_small]
theorem inR_ev : InR (numsF evT.st evT.cols evT.acc evT.base evT.own evT.nxt) := by
  show InR [0, 1, 2, 2, 0, -1, 0, 1, 0, 1, 1, 0]
  intro a ha
  simp at ha
  omega
theorem packR_ev {err : Int} {T : Tab} (h : PackR 0 [0, -1] evN err T) : err = 0 ∧ T = evT := by
  obtain ⟨h1, h2⟩ := h
  rw [dfaErr_ev] at h1
  rcases h2 with h2 | ⟨_, ord, hp, hs, rfl⟩
  · exact absurd h1 h2.1
  · have ho := ord_ev hp hs
    subst ho
    exact ⟨h1, by unfold packT; rw [packGo_ev]; rfl⟩
set_option maxRecDepth 100000 in
set_option maxHeartbeats 4000000 in
theorem packBegun_any (H : PH) (w : World) (hs : Sat w H) : Calls Try.prog 57 #[] w fun e w' => e = .returned (.bool true) ∧ Below w.heap.size w w' := by
  have HS := Aside.mk hs
  clear hs
  go_enter Try.func57, Try.ntmps57
  go_wp2_with fail
  refine (two_any H w HS.out).mono ?_
  rintro e w1 ⟨H1, A1, A2, rfl, s1, s2, hx1⟩
  have X1 := Aside.mk (And.intro s1 (And.intro s2 hx1))
  clear s1 s2 hx1
  go_wp2_with fail
  refine (pack_any H1 0 [0, -1] evN A1 A2 2 2 w1 X1.out.1 X1.out.2.1 X1.out.2.2.sat).mono ?_
  rintro e w2 ⟨H2, cs, err, T, rfl, hT, hR, hx2⟩
  obtain ⟨rfl, rfl⟩ := packR_ev hR
  have hT2 := hT
  obtain ⟨B1, d1, B2, d2, B3, d3, B4, d4, rfl, -⟩ := hT
  have X2 := Aside.mk (And.intro hT2 (X1.out.2.2.trans hx2))
  clear hT2 hx2 hR X1
  go_wp2_with fail
  refine (At_any (T := evT) 0 0 X2.out.1 (X2.out.2.sat.alloc _)).mono ?_
  rintro e w3 ⟨rfl, hb3⟩
  rw [atV_ev]
  have k3 := box_below (boxN w2 _) hb3
  have X3 := Aside.mk (X2.out.2.trans ((Ext.of_below X2.out.2.sat ((Below.refl _ _).alloc (Nat.le_refl _) _)).then_below hb3))
  clear hb3
  have K3 := Aside.mk k3
  obtain ⟨⟨y0, y1, y2, y3, y4, y5⟩, y6, y7, y8, y9, y10, y11⟩ := kb6 k3
  have ly := boxL k3
  clear k3
  go_wp2_with fail
  clear y0 y1 y2 y3 y4 y5 y6 y7 y8 y9 y10 y11 ly
  refine (Bytes_any (T := evT) X2.out.1 X3.out.sat (fun _ => inR_ev)).mono ?_
  rintro e w4 ⟨v, rfl, ho, hb4⟩
  rw [errT_ev]
  rw [bytes_ev] at ho
  obtain ⟨g, c, cs, rfl, hc1, hc2, hrd, hcell, -⟩ := ho.cells 0 (by decide)
  obtain rfl : cs = [.int .u8 1] := hrd
  have g0 := hcell 0 _ rfl
  simp only [kI, Nat.mul_one, Nat.add_zero, Nat.zero_mul] at g0
  have X4 := Aside.mk (bT X3.out.below hb4)
  clear hcell ho hb4
  have hl12 : ([1, 2, 3, 3, 1, 0, 1, 2, 1, 2, 2, 1] : List Int).length = 12 := rfl
  rw [hl12] at hc1 ⊢
  go_wp2_with fail
  go_ret
  exact ⟨rfl, X4.out⟩
end Go.Proofs.Ytbnahmeaeakhhaa.B
