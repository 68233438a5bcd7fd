/- Contract: parlref1.PairsOf. -/
import Derived.Test.YtbnahmeaeakhhaaE6
namespace Go.Proofs.Ytbnahmeaeakhhaa.B
set_option linter.unusedVariables false
set_option linter.unusedSimpArgs false
open Go Go.RowKit Classical

set_option maxRecDepth 100000 in
set_option maxHeartbeats 4000000 in
theorem pairsOf_any (H : PH) (r : Re) (cs : List Value) (t : List Int) (A : Option Addr) (c : Nat) (w : World) (hr : RdRe H r cs) (ht : SlR (kI .i64) H A t.length c t) (hs : Sat w H) (hg : Good r) (hn : t.length ≤ 24) :
    Calls Try.prog 21 #[.agg cs.toArray, .slice A t.length c] w fun e w' => ∃ v, e = .returned v ∧ Own kP 33 w' w.heap.size emp v (prs t.length (M t r) (t.length + 1)) ∧ Below w.heap.size w w' := by
  have hm := fun (w : World) (i j : Nat) (hs : Sat w H) (hij : i ≤ j) (hj : j ≤ t.length) => ms_any t r hg H cs A c w i j hr ht hs hij hj
  obtain ⟨kind, set, args, mn, mx, neg, hq⟩ : ∃ a b c d e f, r = Re.mk a b c d e f := by cases r; exact ⟨_, _, _, _, _, _, rfl⟩
  subst hq
  obtain ⟨A1, c1, A2, c2, rfl, -, -⟩ := hr.open
  have HM := Aside.mk hm
  clear hm
  generalize M t (.mk kind set args mn mx neg) = R at *
  go_enter Try.func21, Try.ntmps21
  go_wp2_with fail
  have k0 := heap_alloc_new w (.cells #[.int .i64 kind, .slice A1 set.length c1, .slice A2 args.length c2, .int .i64 mn, .int .i64 mx, .bool neg] 25)
  have hx0 : Below w.heap.size w (w.alloc (.cells #[.int .i64 kind, .slice A1 set.length c1, .slice A2 args.length c2, .int .i64 mn, .int .i64 mx, .bool neg] 25)) := bA (Below.refl _ _) _
  have hz0 : (w.alloc (.cells #[.int .i64 kind, .slice A1 set.length c1, .slice A2 args.length c2, .int .i64 mn, .int .i64 mx, .bool neg] 25)).heap.size = w.heap.size + 1 := by simp
  generalize (w.alloc (.cells #[.int .i64 kind, .slice A1 set.length c1, .slice A2 args.length c2, .int .i64 mn, .int .i64 mx, .bool neg] 25)) = W1 at *
  have K1 := Aside.mk (And.intro k0 (And.intro hx0 hz0))
  clear k0 hx0 hz0
  generalize hnn : t.length = n at *
  have HN := Aside.mk hnn
  clear hnn
  go_loopw [5, 6] (fun o i wr => ∃ (m : Nat) (A5 : Option Addr) (l5 c5 : Nat), m ≤ n + 1 ∧ i = .int .i64 m ∧ o = .slice A5 l5 c5 ∧ Own kP 33 wr W1.heap.size emp o (prs n R m) ∧ Below W1.heap.size W1 wr) (fun _ i _ => n + 1 - (intOf i).toNat)
  case atStart => exact ⟨0, _, _, _, by omega, rfl, rfl, Own.nil _ _ _ _ _, Below.refl _ _⟩
  case round =>
    obtain ⟨m, A5, l5, c5, hm, rfl, rfl, ho5, hb5⟩ := hrel
    by_cases hmn : (m : Int) ≤ (n : Int)
    · obtain ⟨wo, rfl⟩ : ∃ wo : World, wo = wr := ⟨_, rfl⟩
      have HO5 := Aside.mk (And.intro ho5 hb5)
      clear ho5 hb5
      go_wp2_with fail
      go_loopw [5, 7] (fun o i wr => ∃ (k : Nat) (A5 : Option Addr) (l5 c5 : Nat), m ≤ k ∧ k ≤ n + 1 ∧ i = .int .i64 k ∧ o = .slice A5 l5 c5 ∧ Own kP 33 wr W1.heap.size emp o (prs n R m ++ prow R m k) ∧ Below W1.heap.size W1 wr) (fun _ i _ => n + 1 - (intOf i).toNat)
      case atStart => exact ⟨m, A5, l5, c5, by omega, by omega, rfl, rfl, by rw [prow_low _ _ _ (Nat.le_refl _), List.append_nil]; exact HO5.out.1, HO5.out.2⟩
      case round =>
        obtain ⟨k, A6, l6, c6, hmk, hk, rfl, rfl, ho6, hb6⟩ := hrel
        by_cases hkn : (k : Int) ≤ (n : Int)
        · have hlen := prs_len2 n R m k hn (by omega) (by omega)
          obtain ⟨⟨q0, q1, q2, q3, q4, q5⟩, -⟩ := box6 (box_below K1.out.1 hb6)
          have hsr := (hs.below K1.out.2.1).below hb6
          have H6 := Aside.mk (And.intro ho6 hb6)
          clear ho6 hb6
          go_wp2_with fail
          refine (HM.out _ m k hsr hmk (by omega)).mono ?_
          rintro e' w2 ⟨rfl, hb2⟩
          clear q0 q1 q2 q3 q4 q5
          have ho7 : Own kP 33 w2 W1.heap.size emp (.slice A6 l6 c6) (prs n R m ++ prow R m k) := H6.out.1.below (sat_emp _) hb2
          have hb7 := H6.out.2.trans (hb2.mono H6.out.2.size)
          clear hb2
          have hby : Aside (((prs n R m ++ prow R m k).length + 1) * 16 ≤ 140737488355328 ∧ (prs n R m ++ prow R m k).length + 1 ≤ maxLen) := ⟨by omega, by unfold maxLen; omega⟩

          have hbs : Aside (W1.heap.size ≤ w2.heap.size) := ⟨hb7.size⟩
          have hse := sat_emp w2
          have hrd : Aside (kP.rd emp ((m : Int), (k : Int)) (#[Value.int .i64 m, .int .i64 k] : Array Value).toList) := ⟨rfl⟩
          clear hlen
          by_cases hRk : R m k
          · have HRk := Aside.mk hRk
            rw [decide_eq_true hRk]
            clear hRk
            go_upto_region 7 with (at_builtin; go_must (refine wpList_app1 kP rfl (.tmp 26) (.tmp 30) 27 rfl 33 Try.underlying27 info33 rfl ho7 hse rfl rfl rfl hrd.out hby.out.1 hby.out.2 hbs.out ?_); intro v8 w8 ho8 hg8 hs8 hn8)
            have hb8 : Below W1.heap.size W1 w8 := ho7.belowG hb7 (Nat.le_refl _) hg8
            obtain ⟨A8, c8, rfl, -, -, -, -⟩ := ho8.form
            go_wp2_with fail
            go_roundw
            case rel =>
              refine ⟨k + 1, A8, _, c8, by omega, by omega, by go_num, rfl, ?_, hb8⟩
              rw [prow_succ, if_pos ⟨hmk, HRk.out⟩, ← List.append_assoc]
              exact ho8
            case measure => simp [intOf]; omega
          · have HRk := Aside.mk hRk
            rw [decide_eq_false hRk]
            clear hRk
            go_wp2_with fail
            go_roundw
            case rel =>
              refine ⟨k + 1, A6, l6, c6, by omega, by omega, by go_num, rfl, ?_, hb7⟩
              rw [prow_succ, if_neg (fun h => HRk.out h.2), List.append_nil]
              exact ho7
            case measure => simp [intOf]; omega
        · obtain rfl : k = n + 1 := by omega
          rw [← prs_succ] at ho6
          have HO6 := Aside.mk (And.intro ho6 hb6)
          clear ho6 hb6
          go_wp2_with fail
          go_roundw
          case rel => exact ⟨m + 1, A6, l6, c6, by omega, by go_num, rfl, HO6.out.1, HO6.out.2⟩
          case measure => simp [intOf]; omega
    · obtain rfl : m = n + 1 := by omega
      go_wp2_with fail
      go_ret
      exact ⟨_, rfl, by rw [HN.out]; exact ho5.rebase K1.out.2.1.size, bT K1.out.2.1 hb5⟩
end Go.Proofs.Ytbnahmeaeakhhaa.B
