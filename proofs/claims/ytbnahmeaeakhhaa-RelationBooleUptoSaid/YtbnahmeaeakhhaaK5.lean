/- Contracts: parlkeep1.good, one, relationBegun, same. -/
import Derived.Test.YtbnahmeaeakhhaaK4
namespace Go.Proofs.Ytbnahmeaeakhhaa.B
set_option linter.unusedVariables false
set_option linter.unusedSimpArgs false
open Go Go.RowKit Classical

theorem goodf_any (w : World) : Calls Try.prog 110 #[.int .i64 0] w fun e w' => e = .returned (.bool false) ∧ w = w' := by
  go_enter Try.func110, Try.ntmps110
  go_wp2_with fail
  go_ret
  exact ⟨rfl, rfl⟩

set_option maxHeartbeats 2000000 in
theorem indexGood_any (H : PH) (es : List Int) (A : Option Addr) (n c : Nat) (w : World) (hx : SlR (kI .i64) H A n c es) (hs : Sat w H) (he : ∀ e ∈ es, e = 0) :
    Calls Try.prog 162 #[.slice A n c, .func (.func 110) #[] #[]] w fun e w' => e = .returned (.int .i64 (-1)) ∧ w = w' := by
  obtain rfl := hx.1
  have hc := hx.2.1
  have hlen := hx.2.2.2.1
  have HE := Aside.mk he
  clear he
  go_enter Try.func162, Try.ntmps162
  go_wp2_with fail
  go_loop [8] (fun i => ∃ k : Nat, k ≤ es.length ∧ i = .int .i64 k) (fun i => es.length - (intOf i).toNat)
  case atStart => exact ⟨0, by omega, rfl⟩
  case round =>
    obtain ⟨k, hk, rfl⟩ := hrel
    by_cases hlt : k < es.length
    · have hli : (k : Int) < (es.length : Int) := by omega
      obtain ⟨b1, o1, cs1, rfl, hrd1, hcell1⟩ := hx.row k hlt
      have h0 : es[k] = 0 := HE.out _ (List.getElem_mem hlt)
      rw [h0] at hrd1
      obtain rfl : cs1 = [.int .i64 0] := hrd1
      have g0 := at1 hs hcell1
      simp only [kI, Nat.mul_one] at g0
      clear hcell1 h0
      go_wp2_with fail
      refine (goodf_any w).mono ?_
      rintro e w1 ⟨rfl, rfl⟩
      go_wp2_with fail
      go_round
      case rel => exact ⟨k + 1, by omega, by go_num⟩
      case measure => simp [intOf]; omega
    · obtain rfl : k = es.length := by omega
      go_wp2_with fail
      go_ret
      exact ⟨rfl, rfl⟩

theorem containsGood_any (H : PH) (es : List Int) (A : Option Addr) (n c : Nat) (w : World) (hx : SlR (kI .i64) H A n c es) (hs : Sat w H) (he : ∀ e ∈ es, e = 0) :
    Calls Try.prog 109 #[.slice A n c, .func (.func 110) #[] #[]] w fun e w' => e = .returned (.bool false) ∧ w = w' := by
  have HI := Aside.mk (indexGood_any H es A n c w hx hs he)
  clear hx he
  go_enter Try.func109, Try.ntmps109
  go_wp2_with fail
  refine HI.out.mono ?_
  rintro e w1 ⟨rfl, rfl⟩
  go_wp2_with fail
  go_ret
  exact ⟨rfl, rfl⟩
theorem good_any (H : PH) (es : List Int) (A : Option Addr) (n c : Nat) (w : World) (hx : SlR (kI .i64) H A n c es) (hs : Sat w H) (he : ∀ e ∈ es, e = 0) :
    Calls Try.prog 51 #[.slice A n c] w fun e w' => e = .returned (.bool true) ∧ w = w' := by
  have HI := Aside.mk (containsGood_any H es A n c w hx hs he)
  clear hx he
  go_enter Try.func51, Try.ntmps51
  go_wp2_with fail
  refine HI.out.mono ?_
  rintro e w1 ⟨rfl, rfl⟩
  go_wp2_with fail
  go_ret
  exact ⟨rfl, rfl⟩

theorem kspan_any (a b : Int) (w : World) : Calls Try.prog 101 #[.int .i64 a, .int .i64 b] w fun e w' => e = .returned (.slice (some ⟨w.heap.size, 0, none⟩) 1 1) ∧ w' = w.alloc (.cells #[.int .i64 a, .int .i64 b] 121) := by
  go_enter Try.func101, Try.ntmps101
  go_wp2_with fail
  go_ret
  exact ⟨rfl, rfl⟩

set_option maxRecDepth 100000 in
set_option maxHeartbeats 2000000 in
theorem kone_any (H : PH) (c : Int) (w : World) (hs : Sat w H) : Calls Try.prog 46 #[.int .i64 c] w fun e w' => ∃ H' cs, e = .returned (.agg cs.toArray) ∧ RdRe H' (oneRe c) cs ∧ Ext H H' w w' := by
  have k0 := heap_alloc_new w (.cells #[.int .i64 0, .slice none 0 0, .slice none 0 0, .int .i64 0, .int .i64 0, .bool false] 25)
  have hx0 := (Ext.refl hs).alloc (.cells #[.int .i64 0, .slice none 0 0, .slice none 0 0, .int .i64 0, .int .i64 0, .bool false] 25)
  have hz0 : (w.alloc (.cells #[.int .i64 0, .slice none 0 0, .slice none 0 0, .int .i64 0, .int .i64 0, .bool false] 25)).heap.size = w.heap.size + 1 := by simp
  have K0 := Aside.mk (And.intro k0 (And.intro hx0 hz0))
  clear k0 hx0 hz0
  go_enter Try.func46, Try.ntmps46
  go_wp2_with fail
  generalize (w.alloc (.cells #[.int .i64 0, .slice none 0 0, .slice none 0 0, .int .i64 0, .int .i64 0, .bool false] 25)) = W0 at *
  refine (kspan_any c c W0).mono ?_
  rintro e w1 ⟨rfl, rfl⟩
  have k2 := (heap_alloc_old W0 (.cells #[.int .i64 c, .int .i64 c] 121) (show w.heap.size < W0.heap.size by rw [K0.out.2.2]; omega)).trans K0.out.1
  have hx1 := K0.out.2.1.alloc (.cells #[.int .i64 c, .int .i64 c] 121)
  have ho := Own.lit (k := kSpan) (e := 121) (xs := [⟨c, c⟩]) (base := W0.heap.size) K0.out.2.1.sat #[.int .i64 c, .int .i64 c] (Nat.le_refl _) (EncL.single rfl) (by unfold maxLen; simp)
  obtain ⟨H', hx3, hle, ⟨A, c', e1, hsl⟩, hold⟩ := ho.freezeE hx1 (by rw [K0.out.2.2]; omega) (by simp)
  have hn : ∀ o, H' w.heap.size o = none := fun o => by rw [hold _ _ (by simp [Value.ownBlock]; rw [K0.out.2.2]; omega)]; exact hs.new (Nat.le_refl _) o
  cases e1
  obtain ⟨⟨a0, a1, a2, a3, a4, a5⟩, b0, b1, b2, b3, b4, b5⟩ := kbox6 k2
  have K2 := Aside.mk (And.intro k2 (And.intro hx3 (And.intro hn hsl)))
  clear k2 hx1 hx3 hn hsl ho hle hold
  generalize (W0.alloc (.cells #[.int .i64 c, .int .i64 c] 121)) = W1 at *
  go_wp2_with fail
  refine bodyPost_ret (kresults_c1 rfl _ _ _ rfl (run_loadVar_row _ _ _ _ _ (0, 0) _ (kbox6_set K2.out.1 _ _ _ _ _ _) Try.underlying25 rfl (by kernel_rfl))) rfl ?_
  exact ⟨H', _, rfl, RdRe.shut K2.out.2.2.2 (SlR.nil _ _), kExt6 K2.out.2.1 (Nat.le_refl _) K2.out.2.2.1 _ _ _ _ _ _⟩
end Go.Proofs.Ytbnahmeaeakhhaa.B
