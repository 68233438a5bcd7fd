/- Contract: relation.Pairs. -/
import Derived.Test.YtbnahmeaeakhhaaCr9
namespace Go.Proofs.Ytbnahmeaeakhhaa.B
set_option linter.unusedVariables false
set_option linter.unusedSimpArgs false
open Go Go.RowKit Classical

theorem info33 : (Try.prog.info? 33).map (fun i => (i.zero, i.size, i.bytes)) = some (some (.agg #[(.int .i64 0), (.int .i64 0)]), 2, 16) := by kernel_rfl

/-- the pairs of row i up to column k -/
noncomputable def prow (R : Rel) (i k : Nat) : List (Int × Int) := ((List.range k).filter (fun j => decide (i ≤ j ∧ R i j))).map fun j : Nat => ((i : Int), (j : Int))
noncomputable def prs (n : Nat) (R : Rel) (m : Nat) : List (Int × Int) := ((List.range m).map fun i => prow R i (n + 1)).flatten
theorem prow_succ (R : Rel) (i k : Nat) : prow R i (k + 1) = prow R i k ++ (if i ≤ k ∧ R i k then [((i : Int), (k : Int))] else []) := by
  rw [prow, List.range_succ, List.filter_append, List.map_append]
  congr 1
  by_cases h : i ≤ k ∧ R i k
  · simp [h]
  · simp [h]
theorem prow_low (R : Rel) (i k : Nat) (h : k ≤ i) : prow R i k = [] := by
  rw [prow, List.filter_eq_nil_iff.2]
  · rfl
  · intro j hj; have := List.mem_range.1 hj; simp; omega
theorem prow_len (R : Rel) (i k : Nat) : (prow R i k).length ≤ k := by
  rw [prow, List.length_map]
  exact Nat.le_trans (List.length_filter_le _ _) (by simp)
theorem prs_succ (n : Nat) (R : Rel) (m : Nat) : prs n R (m + 1) = prs n R m ++ prow R m (n + 1) := by
  simp [prs, List.range_succ]
theorem prs_len (n : Nat) (R : Rel) (m : Nat) : (prs n R m).length ≤ m * (n + 1) := by
  induction m with
  | zero => simp [prs]
  | succ m ih =>
    rw [prs_succ, List.length_append, Nat.add_mul]
    have := prow_len R m (n + 1)
    omega
theorem prs_len2 (n : Nat) (R : Rel) (m k : Nat) (hn : n ≤ 24) (hm : m ≤ 25) (hk : k ≤ 25) : (prs n R m ++ prow R m k).length ≤ 650 := by
  rw [List.length_append]
  have h1 := prs_len n R m
  have h2 := prow_len R m k
  have h3 : m * (n + 1) ≤ 25 * 25 := Nat.mul_le_mul hm (by omega)
  omega

set_option maxRecDepth 100000 in
set_option maxHeartbeats 4000000 in
theorem pairs_any (H : PH) (r : Re) (cs : List Value) (t : List Int) (A : Option Addr) (c : Nat) (w : World) (hr : RdRe H r cs) (ht : SlR (kI .i64) H A t.length c t) (hs : Sat w H) :
    Calls Try.prog 15 #[.agg cs.toArray, .slice A t.length c] w fun e w' => ∃ v, e = .returned (.tuple #[v, .int .i64 (textErr r t 24)]) ∧
      Own kP 33 w' w.heap.size emp v (if textErr r t 24 = 0 then prs t.length (M t r) (t.length + 1) else []) ∧ Below w.heap.size w w' := by
  have hof := fun (hg : Good r) (hn : t.length ≤ 24) => of_any t hn r hg H cs A c
  have hok := @textErr_ok r t 24
  have hchk := fun w hs => rcheckT_any H r cs t A c w hr ht hs
  cases r with
  | mk kind set args mn mx neg =>
  have hr0 := hr
  obtain ⟨A1, c1, A2, c2, rfl, -, -⟩ := hr.open
  generalize hee : textErr (.mk kind set args mn mx neg) t 24 = ee at *
  have HC := Aside.mk (And.intro hof (And.intro hok hchk))
  clear hof hok hchk
  have Hee := Aside.mk hee
  clear hee
  have htl := ht.2.2.2.1
  go_enter Try.func15, Try.ntmps15
  go_wp2_with fail
  refine (HC.out.2.2 _ (hs.alloc _)).mono ?_
  rintro e w1 ⟨rfl, hb1⟩
  have hb2 : Below w.heap.size w w1 := bT (by repeat (first | exact Below.refl _ _ | apply bA)) hb1
  have f0 : ∀ i, w1.cell? ⟨w.heap.size, i, none⟩ = (#[.int .i64 kind, .slice A1 set.length c1, .slice A2 args.length c2, .int .i64 mn, .int .i64 mx, .bool neg] : Array Value)[i]? := fun i => cell_box hb1 i
  clear hb1
  by_cases h0 : ee = 0
  · subst h0
    obtain ⟨h1, h2, h3⟩ := HC.out.2.1 rfl
    have hn : t.length ≤ 24 := by omega
    have q0 := f0 0
    have q1 := f0 1
    have q2 := f0 2
    have q3 := f0 3
    have q4 := f0 4
    have q5 := f0 5
    simp only [List.getElem?_toArray, List.getElem?_cons_succ, List.getElem?_cons_zero] at q0 q1 q2 q3 q4 q5
    have H123 := Aside.mk (And.intro h1 (And.intro h2 h3))
    clear f0 h1 h2 h3
    go_wp2_with fail
    refine (HC.out.1 H123.out.2.1 hn _ hr0 ht (hs.below hb2)).mono ?_
    rintro e w2 ⟨v, rfl, ho, hb3⟩
    obtain ⟨A3, c3, rfl, hw3, -⟩ := ho.wr (by rw [rows_length]; omega)
    rw [rows_length] at hw3 ⊢
    have hb4 := bT hb2 hb3
    have hc3 := hw3.2.1
    generalize hR : M t (.mk kind set args mn mx neg) = R at *
    have HR := Aside.mk hR
    clear hR ho hb3 q0 q1 q2 q3 q4 q5
    generalize hnn : t.length = n at *
    have HN := Aside.mk hnn
    clear hnn
    go_wp2_with fail
    go_loopw [7, 21] (fun o i wr => ∃ (m : Nat) (A5 : Option Addr) (l5 c5 : Nat), m ≤ n + 1 ∧ i = .int .i64 m ∧ o = .slice A5 l5 c5 ∧ Own kP 33 wr w2.heap.size emp o (prs n R m) ∧ Below w2.heap.size w2 wr) (fun _ i _ => n + 1 - (intOf i).toNat)
    case atStart => exact ⟨0, _, _, _, by omega, rfl, rfl, Own.nil _ _ _ _ _, Below.refl _ _⟩
    case round =>
      obtain ⟨m, A5, l5, c5, hm, rfl, rfl, ho5, hb5⟩ := hrel
      have hw5 := hw3.below hb5
      by_cases hmn : m < n + 1
      · have hmi : (m : Int) < (n : Int) + 1 := by omega
        obtain ⟨b, off, rfl, g0⟩ := hw5.at m (by rw [rows_length]; omega)
        rw [rows_get] at g0
        have hlt32 := mask_lt32 n (R m) hn
        have htst := mask_test n (R m)
        generalize mask n (R m) = x at *
        have HTST := Aside.mk (And.intro hlt32 htst)
        clear hlt32 htst
        obtain ⟨wo, rfl⟩ : ∃ wo : World, wo = wr := ⟨_, rfl⟩
        go_wp2_with fail
        go_loopw [7, 10] (fun o i wr => ∃ (k : Nat) (A5 : Option Addr) (l5 c5 : Nat), m ≤ k ∧ k ≤ n + 1 ∧ i = .int .i64 k ∧ o = .slice A5 l5 c5 ∧ Own kP 33 wr w2.heap.size emp o (prs n R m ++ prow R m k) ∧ Below w2.heap.size w2 wr) (fun _ i _ => n + 1 - (intOf i).toNat)
        case atStart => exact ⟨m, A5, l5, c5, by omega, by omega, rfl, rfl, by rw [prow_low _ _ _ (Nat.le_refl _), List.append_nil]; exact ho5, hb5⟩
        case round =>
          obtain ⟨k, A6, l6, c6, hmk, hk, rfl, rfl, ho6, hb6⟩ := hrel
          by_cases hkn : k ≤ n
          · have hki : (k : Int) ≤ (n : Int) := by omega
            have hbt := bit_test x k HTST.out.1
            rw [HTST.out.2] at hbt
            have hlen := prs_len2 n R m k hn (by omega) (by omega)
            have hby : Aside (((prs n R m ++ prow R m k).length + 1) * 16 ≤ 140737488355328 ∧ (prs n R m ++ prow R m k).length + 1 ≤ maxLen) := ⟨by omega, by unfold maxLen; omega⟩
            have hbk : Aside (wr.heap.size = wr.heap.size) := ⟨rfl⟩
            have hbs : Aside (w2.heap.size ≤ wr.heap.size) := ⟨hb6.size⟩
            have hse := sat_emp wr
            have hrd : Aside (kP.rd emp ((m : Int), (k : Int)) (#[Value.int .i64 m, .int .i64 k] : Array Value).toList) := ⟨rfl⟩
            clear hlen
            by_cases hRk : R m k
            · rw [if_pos ⟨hkn, hRk⟩] at hbt
              have hbt1 : bits BinOp.and IntKind.u32 ((x : Int) / 2 ^ k) 1 = 1 := hbt
              have HRk := Aside.mk hRk
              clear hbt hRk
              go_upto_region 10 with (at_builtin; go_must (refine wpList_app1 kP rfl (.tmp 38) (.tmp 42) 27 rfl 33 Try.underlying27 info33 rfl ho6 hse rfl hbk.out rfl hrd.out hby.out.1 hby.out.2 hbs.out ?_); intro v7 w7 ho7 hg7 hs7 hn7)
              have hb7 : Below w2.heap.size w2 w7 := ho6.belowG hb6 (Nat.le_refl _) hg7
              obtain ⟨A8, c8, rfl, -, -, -, -⟩ := ho7.form
              go_wp2_with fail
              go_roundw
              case rel =>
                refine ⟨k + 1, A8, _, c8, by omega, by omega, by go_num, rfl, ?_, hb7⟩
                rw [prow_succ, if_pos ⟨hmk, HRk.out⟩, ← List.append_assoc]
                exact ho7
              case measure => simp [intOf]; omega
            · rw [if_neg (fun h => hRk h.2)] at hbt
              have hbt1 : bits BinOp.and IntKind.u32 ((x : Int) / 2 ^ k) 1 = 0 := hbt
              have HRk := Aside.mk hRk
              clear hbt hRk
              go_wp2_with fail
              go_roundw
              case rel =>
                refine ⟨k + 1, A6, l6, c6, by omega, by omega, by go_num, rfl, ?_, hb6⟩
                rw [prow_succ, if_neg (fun h => HRk.out h.2), List.append_nil]
                exact ho6
              case measure => simp [intOf]; omega
          · obtain rfl : k = n + 1 := by omega
            rw [← prs_succ] at ho6
            have HO6 := Aside.mk ho6
            clear ho6
            go_wp2_with fail
            go_roundw
            case rel => exact ⟨m + 1, A6, l6, c6, by omega, by go_num, rfl, HO6.out, hb6⟩
            case measure => simp [intOf]; omega
      · obtain rfl : m = n + 1 := by omega
        go_wp2_with fail
        go_ret2
        exact ⟨_, rfl, by first | (rw [HR.out, HN.out]; exact ho5.rebase hb4.size) | (rw [if_pos Hee.out, HR.out, HN.out]; exact ho5.rebase hb4.size), bT hb4 hb5⟩
  · clear f0
    go_wp2_with fail
    go_ret2
    exact ⟨_, rfl, by first | exact Own.nil _ _ _ _ _ | (rw [if_neg (by rw [Hee.out]; exact h0)]; exact Own.nil _ _ _ _ _), hb2⟩
end Go.Proofs.Ytbnahmeaeakhhaa.B
