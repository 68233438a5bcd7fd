/- Contracts: relation.check, Match, Pairs. Contract: relation.Pairs. Contract: relation.First. -/
import Derived.Test.YtbnahmeaeakhhaaCr8
import Derived.Laws.Rows
namespace Go.Proofs.Ytbnahmeaeakhhaa.B
set_option linter.unusedVariables false
set_option linter.unusedSimpArgs false
open Go Go.RowKit Classical

theorem SlR.len {α} {k : Kd α} {H : PH} {A n c} {xs : List α} (h : SlR k H A n c xs) : n = xs.length := h.1

set_option maxHeartbeats 1000000 in
theorem rcheckT_any (H : PH) (r : Re) (cs : List Value) (t : List Int) (A : Option Addr) (c : Nat) (w : World) (hr : RdRe H r cs) (ht : SlR (kI .i64) H A t.length c t) (hs : Sat w H) :
    Calls Try.prog 76 #[.agg cs.toArray, .slice A t.length c] w fun e w' => e = .returned (.int .i64 (textErr r t 24)) ∧ Below w.heap.size w w' := by
  cases r with
  | mk kind set args mn mx neg =>
  have hr0 := hr
  obtain ⟨A1, c1, A2, c2, rfl, -, -⟩ := hr.open
  have htl := ht.2.2.2.1
  go_enter Try.func76, Try.ntmps76
  go_wp2_with fail
  refine (check_any H _ _ _ hr0 (hs.alloc _)).mono ?_
  rintro e w1 ⟨rfl, hb1⟩
  have hb2 : Below w.heap.size w w1 := bT (by repeat (first | exact Below.refl _ _ | apply bA)) hb1
  generalize hee : checkRe (.mk kind set args mn mx neg) 40 = ee
  have Hee := Aside.mk hee
  clear hee
  by_cases h0 : ee = 0
  · subst h0
    by_cases hbig : 24 < t.length
    · go_wp2_with fail
      go_ret
      exact ⟨by rw [textErr, Hee.out, if_neg (by simp), runesErr, if_pos (by omega)]; rfl, hb2⟩
    · go_wp2_with fail
      go_loop [18] (fun i => ∃ k : Nat, k ≤ t.length ∧ i = .int .i64 k ∧ Aside ((t.take k).any (fun c => decide (c < 0) || decide (1114111 < c)) = false)) (fun i => t.length - (intOf i).toNat)
      case atStart => exact ⟨0, by omega, rfl, ⟨by simp⟩⟩
      case round =>
        obtain ⟨k, hk, rfl, hgo⟩ := hrel
        by_cases hlt : k < t.length
        · obtain ⟨b, off, cs, rfl, hrd, hcell⟩ := ht.row k hlt
          have hsn := List.take_succ_eq_append_getElem hlt
          have hmem : t[k] ∈ t := List.getElem_mem _
          generalize t[k] = z at *
          have HS := Aside.mk (And.intro hsn hmem)
          clear hsn hmem
          obtain rfl : cs = [.int .i64 z] := hrd
          have g0 := at1 (hs.below hb2) hcell
          clear hcell
          simp only [kI, Nat.mul_one] at g0
          by_cases q1 : z < 0
          · go_wp2_with fail
            go_ret
            exact ⟨by rw [textErr, Hee.out, if_neg (by simp), runesErr, if_neg (by omega), if_pos (List.any_eq_true.2 ⟨z, HS.out.2, by simp [q1]⟩)]; rfl, hb2⟩
          · by_cases q2 : 1114111 < z
            · go_wp2_with fail
              go_ret
              exact ⟨by rw [textErr, Hee.out, if_neg (by simp), runesErr, if_neg (by omega), if_pos (List.any_eq_true.2 ⟨z, HS.out.2, by simp [q2]⟩)]; rfl, hb2⟩
            · go_wp2_with fail
              go_round
              case rel => exact ⟨k + 1, by omega, by go_num, ⟨by rw [HS.out.1, List.any_append, hgo.out]; simp; omega⟩⟩
              case measure => simp [intOf]; omega
        · go_wp2
          go_ret
          have hgo' := hgo.out
          rw [List.take_of_length_le (by omega)] at hgo'
          exact ⟨by rw [textErr, Hee.out, if_neg (by simp), runesErr, if_neg (by omega), hgo']; rfl, hb2⟩
  · go_wp2_with fail
    go_ret
    exact ⟨by rw [textErr, Hee.out, if_pos h0]; rfl, hb2⟩

theorem textErr_ok {r : Re} {t : List Int} {m : Int} (h : textErr r t m = 0) : checkRe r 40 = 0 ∧ Good r ∧ (t.length : Int) ≤ m := by
  unfold textErr at h
  by_cases h1 : checkRe r 40 ≠ 0
  · rw [if_pos h1] at h; exact absurd h h1
  · rw [if_neg h1] at h
    refine ⟨by simpa using h1, checkRe_good (m := 40) (by simpa using h1), ?_⟩
    unfold runesErr at h
    by_cases h2 : (t.length : Int) > m
    · rw [if_pos h2] at h; omega
    · omega

set_option maxRecDepth 100000 in
set_option maxHeartbeats 2000000 in
theorem match_any (H : PH) (r : Re) (cs : List Value) (t : List Int) (A : Option Addr) (c : Nat) (w : World) (hr : RdRe H r cs) (ht : SlR (kI .i64) H A t.length c t) (hs : Sat w H) :
    Calls Try.prog 16 #[.agg cs.toArray, .slice A t.length c] w fun e w' => e = .returned (.tuple #[.bool (decide (textErr r t 24 = 0 ∧ M t r 0 t.length)), .int .i64 (textErr r t 24)]) ∧ Below w.heap.size w w' := by
  have hof := fun (hg : Good r) (hn : t.length ≤ 24) => of_any t hn r hg H cs A c
  have hok := @textErr_ok r t 24
  have hchk := fun w hs => rcheckT_any H r cs t A c w hr ht hs
  cases r with
  | mk kind set args mn mx neg =>
  have hr0 := hr
  obtain ⟨A1, c1, A2, c2, rfl, -, -⟩ := hr.open
  generalize hee : textErr (.mk kind set args mn mx neg) t 24 = ee at *
  have HC := Aside.mk (And.intro hof (And.intro hok hchk))
  clear hof hok hchk
  have Hee := Aside.mk hee
  clear hee
  have htl := ht.2.2.2.1
  go_enter Try.func16, Try.ntmps16
  go_wp2_with fail
  refine (HC.out.2.2 _ (hs.alloc _)).mono ?_
  rintro e w1 ⟨rfl, hb1⟩
  have hb2 : Below w.heap.size w w1 := bT (by repeat (first | exact Below.refl _ _ | apply bA)) hb1
  have f0 : ∀ i, w1.cell? ⟨w.heap.size, i, none⟩ = (#[.int .i64 kind, .slice A1 set.length c1, .slice A2 args.length c2, .int .i64 mn, .int .i64 mx, .bool neg] : Array Value)[i]? := fun i => cell_box hb1 i
  clear hb1
  by_cases h0 : ee = 0
  · subst h0
    obtain ⟨h1, h2, h3⟩ := HC.out.2.1 rfl
    have hn : t.length ≤ 24 := by omega
    have q0 := f0 0
    have q1 := f0 1
    have q2 := f0 2
    have q3 := f0 3
    have q4 := f0 4
    have q5 := f0 5
    simp only [List.getElem?_toArray, List.getElem?_cons_succ, List.getElem?_cons_zero] at q0 q1 q2 q3 q4 q5
    have H123 := Aside.mk (And.intro h1 (And.intro h2 h3))
    clear f0 h1 h2 h3
    go_wp2_with fail
    refine (HC.out.1 H123.out.2.1 hn _ hr0 ht (hs.below hb2)).mono ?_
    rintro e w2 ⟨v, rfl, ho, hb3⟩
    obtain ⟨A3, c3, rfl, hw3, -⟩ := ho.wr (by rw [rows_length]; omega)
    rw [rows_length] at hw3 ⊢
    obtain ⟨b, off, rfl, g0⟩ := hw3.at 0 (by rw [rows_length]; omega)
    rw [rows_get, Nat.add_zero] at g0
    have hbt := bit_test (mask t.length (M t (.mk kind set args mn mx neg) 0)) t.length (mask_lt32 _ _ hn)
    rw [mask_test] at hbt
    have hb4 := bT hb2 hb3
    have hc3 := hw3.2.1
    generalize mask t.length (M t (.mk kind set args mn mx neg) 0) = x at *
    by_cases hM : M t (.mk kind set args mn mx neg) 0 t.length
    · rw [if_pos ⟨Nat.le_refl _, hM⟩] at hbt
      have hbt1 : bits BinOp.and IntKind.u32 ((x : Int) / 2 ^ t.length) 1 = 1 := hbt
      have HM := Aside.mk hM
      clear hbt hM
      go_wp2_with fail
      go_ret2
      exact ⟨by simp [HM.out], hb4⟩
    · rw [if_neg (fun h => hM h.2)] at hbt
      have hbt1 : bits BinOp.and IntKind.u32 ((x : Int) / 2 ^ t.length) 1 = 0 := hbt
      have HM := Aside.mk hM
      clear hbt hM
      go_wp2_with fail
      go_ret2
      exact ⟨by simp [HM.out], hb4⟩
  · clear f0
    go_wp2_with fail
    go_ret2
    exact ⟨by simp [h0], hb2⟩
end Go.Proofs.Ytbnahmeaeakhhaa.B

namespace Go.Proofs.Ytbnahmeaeakhhaa.B
set_option linter.unusedVariables false
set_option linter.unusedSimpArgs false
open Go Go.RowKit Classical

theorem info33 : (Try.prog.info? 33).map (fun i => (i.zero, i.size, i.bytes)) = some (some (.agg #[(.int .i64 0), (.int .i64 0)]), 2, 16) := by kernel_rfl

/-- the pairs of row i up to column k -/
noncomputable def prow (R : Rel) (i k : Nat) : List (Int × Int) := ((List.range k).filter (fun j => decide (i ≤ j ∧ R i j))).map fun j : Nat => ((i : Int), (j : Int))
noncomputable def prs (n : Nat) (R : Rel) (m : Nat) : List (Int × Int) := ((List.range m).map fun i => prow R i (n + 1)).flatten
theorem prow_succ (R : Rel) (i k : Nat) : prow R i (k + 1) = prow R i k ++ (if i ≤ k ∧ R i k then [((i : Int), (k : Int))] else []) := by
  rw [prow, List.range_succ, List.filter_append, List.map_append]
  congr 1
  by_cases h : i ≤ k ∧ R i k
  · simp [h]
  · simp [h]
theorem prow_low (R : Rel) (i k : Nat) (h : k ≤ i) : prow R i k = [] := by
  rw [prow, List.filter_eq_nil_iff.2]
  · rfl
  · intro j hj; have := List.mem_range.1 hj; simp; omega
theorem prow_len (R : Rel) (i k : Nat) : (prow R i k).length ≤ k := by
  rw [prow, List.length_map]
  exact Nat.le_trans (List.length_filter_le _ _) (by simp)
theorem prs_succ (n : Nat) (R : Rel) (m : Nat) : prs n R (m + 1) = prs n R m ++ prow R m (n + 1) := by
  simp [prs, List.range_succ]
theorem prs_len (n : Nat) (R : Rel) (m : Nat) : (prs n R m).length ≤ m * (n + 1) := by
  induction m with
  | zero => simp [prs]
  | succ m ih =>
    rw [prs_succ, List.length_append, Nat.add_mul]
    have := prow_len R m (n + 1)
    omega
theorem prs_len2 (n : Nat) (R : Rel) (m k : Nat) (hn : n ≤ 24) (hm : m ≤ 25) (hk : k ≤ 25) : (prs n R m ++ prow R m k).length ≤ 650 := by
  rw [List.length_append]
  have h1 := prs_len n R m
  have h2 := prow_len R m k
  have h3 : m * (n + 1) ≤ 25 * 25 := Nat.mul_le_mul hm (by omega)
  omega

set_option maxRecDepth 100000 in
set_option maxHeartbeats 4000000 in
theorem pairs_any (H : PH) (r : Re) (cs : List Value) (t : List Int) (A : Option Addr) (c : Nat) (w : World) (hr : RdRe H r cs) (ht : SlR (kI .i64) H A t.length c t) (hs : Sat w H) :
    Calls Try.prog 15 #[.agg cs.toArray, .slice A t.length c] w fun e w' => ∃ v, e = .returned (.tuple #[v, .int .i64 (textErr r t 24)]) ∧
      Own kP 33 w' w.heap.size emp v (if textErr r t 24 = 0 then prs t.length (M t r) (t.length + 1) else []) ∧ Below w.heap.size w w' := by
  have hof := fun (hg : Good r) (hn : t.length ≤ 24) => of_any t hn r hg H cs A c
  have hok := @textErr_ok r t 24
  have hchk := fun w hs => rcheckT_any H r cs t A c w hr ht hs
  cases r with
  | mk kind set args mn mx neg =>
  have hr0 := hr
  obtain ⟨A1, c1, A2, c2, rfl, -, -⟩ := hr.open
  generalize hee : textErr (.mk kind set args mn mx neg) t 24 = ee at *
  have HC := Aside.mk (And.intro hof (And.intro hok hchk))
  clear hof hok hchk
  have Hee := Aside.mk hee
  clear hee
  have htl := ht.2.2.2.1
  go_enter Try.func15, Try.ntmps15
  go_wp2_with fail
  refine (HC.out.2.2 _ (hs.alloc _)).mono ?_
  rintro e w1 ⟨rfl, hb1⟩
  have hb2 : Below w.heap.size w w1 := bT (by repeat (first | exact Below.refl _ _ | apply bA)) hb1
  have f0 : ∀ i, w1.cell? ⟨w.heap.size, i, none⟩ = (#[.int .i64 kind, .slice A1 set.length c1, .slice A2 args.length c2, .int .i64 mn, .int .i64 mx, .bool neg] : Array Value)[i]? := fun i => cell_box hb1 i
  clear hb1
  by_cases h0 : ee = 0
  · subst h0
    obtain ⟨h1, h2, h3⟩ := HC.out.2.1 rfl
    have hn : t.length ≤ 24 := by omega
    have q0 := f0 0
    have q1 := f0 1
    have q2 := f0 2
    have q3 := f0 3
    have q4 := f0 4
    have q5 := f0 5
    simp only [List.getElem?_toArray, List.getElem?_cons_succ, List.getElem?_cons_zero] at q0 q1 q2 q3 q4 q5
    have H123 := Aside.mk (And.intro h1 (And.intro h2 h3))
    clear f0 h1 h2 h3
    go_wp2_with fail
    refine (HC.out.1 H123.out.2.1 hn _ hr0 ht (hs.below hb2)).mono ?_
    rintro e w2 ⟨v, rfl, ho, hb3⟩
    obtain ⟨A3, c3, rfl, hw3, -⟩ := ho.wr (by rw [rows_length]; omega)
    rw [rows_length] at hw3 ⊢
    have hb4 := bT hb2 hb3
    have hc3 := hw3.2.1
    generalize hR : M t (.mk kind set args mn mx neg) = R at *
    have HR := Aside.mk hR
    clear hR ho hb3 q0 q1 q2 q3 q4 q5
    generalize hnn : t.length = n at *
    have HN := Aside.mk hnn
    clear hnn
    go_wp2_with fail
    go_loopw [7, 21] (fun o i wr => ∃ (m : Nat) (A5 : Option Addr) (l5 c5 : Nat), m ≤ n + 1 ∧ i = .int .i64 m ∧ o = .slice A5 l5 c5 ∧ Own kP 33 wr w2.heap.size emp o (prs n R m) ∧ Below w2.heap.size w2 wr) (fun _ i _ => n + 1 - (intOf i).toNat)
    case atStart => exact ⟨0, _, _, _, by omega, rfl, rfl, Own.nil _ _ _ _ _, Below.refl _ _⟩
    case round =>
      obtain ⟨m, A5, l5, c5, hm, rfl, rfl, ho5, hb5⟩ := hrel
      have hw5 := hw3.below hb5
      by_cases hmn : m < n + 1
      · have hmi : (m : Int) < (n : Int) + 1 := by omega
        obtain ⟨b, off, rfl, g0⟩ := hw5.at m (by rw [rows_length]; omega)
        rw [rows_get] at g0
        have hlt32 := mask_lt32 n (R m) hn
        have htst := mask_test n (R m)
        generalize mask n (R m) = x at *
        have HTST := Aside.mk (And.intro hlt32 htst)
        clear hlt32 htst
        obtain ⟨wo, rfl⟩ : ∃ wo : World, wo = wr := ⟨_, rfl⟩
        go_wp2_with fail
        go_loopw [7, 10] (fun o i wr => ∃ (k : Nat) (A5 : Option Addr) (l5 c5 : Nat), m ≤ k ∧ k ≤ n + 1 ∧ i = .int .i64 k ∧ o = .slice A5 l5 c5 ∧ Own kP 33 wr w2.heap.size emp o (prs n R m ++ prow R m k) ∧ Below w2.heap.size w2 wr) (fun _ i _ => n + 1 - (intOf i).toNat)
        case atStart => exact ⟨m, A5, l5, c5, by omega, by omega, rfl, rfl, by rw [prow_low _ _ _ (Nat.le_refl _), List.append_nil]; exact ho5, hb5⟩
        case round =>
          obtain ⟨k, A6, l6, c6, hmk, hk, rfl, rfl, ho6, hb6⟩ := hrel
          by_cases hkn : k ≤ n
          · have hki : (k : Int) ≤ (n : Int) := by omega
            have hbt := bit_test x k HTST.out.1
            rw [HTST.out.2] at hbt
            have hlen := prs_len2 n R m k hn (by omega) (by omega)
            have hby : Aside (((prs n R m ++ prow R m k).length + 1) * 16 ≤ 140737488355328 ∧ (prs n R m ++ prow R m k).length + 1 ≤ maxLen) := ⟨by omega, by unfold maxLen; omega⟩
            have hbk : Aside (wr.heap.size = wr.heap.size) := ⟨rfl⟩
            have hbs : Aside (w2.heap.size ≤ wr.heap.size) := ⟨hb6.size⟩
            have hse := sat_emp wr
            have hrd : Aside (kP.rd emp ((m : Int), (k : Int)) (#[Value.int .i64 m, .int .i64 k] : Array Value).toList) := ⟨rfl⟩
            clear hlen
            by_cases hRk : R m k
            · rw [if_pos ⟨hkn, hRk⟩] at hbt
              have hbt1 : bits BinOp.and IntKind.u32 ((x : Int) / 2 ^ k) 1 = 1 := hbt
              have HRk := Aside.mk hRk
              clear hbt hRk
              go_upto_region 10 with (at_builtin; go_must (refine wpList_app1 kP rfl (.tmp 38) (.tmp 42) 27 rfl 33 Try.underlying27 info33 rfl ho6 hse rfl hbk.out rfl hrd.out hby.out.1 hby.out.2 hbs.out ?_); intro v7 w7 ho7 hg7 hs7 hn7)
              have hb7 : Below w2.heap.size w2 w7 := ho6.belowG hb6 (Nat.le_refl _) hg7
              obtain ⟨A8, c8, rfl, -, -, -, -⟩ := ho7.form
              go_wp2_with fail
              go_roundw
              case rel =>
                refine ⟨k + 1, A8, _, c8, by omega, by omega, by go_num, rfl, ?_, hb7⟩
                rw [prow_succ, if_pos ⟨hmk, HRk.out⟩, ← List.append_assoc]
                exact ho7
              case measure => simp [intOf]; omega
            · rw [if_neg (fun h => hRk h.2)] at hbt
              have hbt1 : bits BinOp.and IntKind.u32 ((x : Int) / 2 ^ k) 1 = 0 := hbt
              have HRk := Aside.mk hRk
              clear hbt hRk
              go_wp2_with fail
              go_roundw
              case rel =>
                refine ⟨k + 1, A6, l6, c6, by omega, by omega, by go_num, rfl, ?_, hb6⟩
                rw [prow_succ, if_neg (fun h => HRk.out h.2), List.append_nil]
                exact ho6
              case measure => simp [intOf]; omega
          · obtain rfl : k = n + 1 := by omega
            rw [← prs_succ] at ho6
            have HO6 := Aside.mk ho6
            clear ho6
            go_wp2_with fail
            go_roundw
            case rel => exact ⟨m + 1, A6, l6, c6, by omega, by go_num, rfl, HO6.out, hb6⟩
            case measure => simp [intOf]; omega
      · obtain rfl : m = n + 1 := by omega
        go_wp2_with fail
        go_ret2
        exact ⟨_, rfl, by first | (rw [HR.out, HN.out]; exact ho5.rebase hb4.size) | (rw [if_pos Hee.out, HR.out, HN.out]; exact ho5.rebase hb4.size), bT hb4 hb5⟩
  · clear f0
    go_wp2_with fail
    go_ret2
    exact ⟨_, rfl, by first | exact Own.nil _ _ _ _ _ | (rw [if_neg (by rw [Hee.out]; exact h0)]; exact Own.nil _ _ _ _ _), hb2⟩
end Go.Proofs.Ytbnahmeaeakhhaa.B

namespace Go.Proofs.Ytbnahmeaeakhhaa.B
set_option linter.unusedVariables false
set_option linter.unusedSimpArgs false
open Go Go.RowKit Classical

/-- the last pair that begins where the first begins -/
def lastOf : List (Int × Int) → Int × Int
  | [] => (0, 0)
  | p :: l => (p :: l).foldl (fun o q => if q.1 = o.1 then q else o) p

theorem prs_le (n : Nat) (R : Rel) (h : n ≤ 24) : (prs n R (n + 1)).length ≤ 625 := by
  have := prs_len n R (n + 1)
  have h3 : (n + 1) * (n + 1) ≤ 25 * 25 := Nat.mul_le_mul (by omega) (by omega)
  omega

/-- a variable of two cells in memory -/
theorem box2 {w : World} {b : Nat} {u v : Value} {T : TypeId} (h : w.heap[b]? = some (.cells #[u, v] T)) : w.cell? ⟨b, 0, none⟩ = some u ∧ w.cell? ⟨b, 1, none⟩ = some v ∧ w.frozen? ⟨b, 0, none⟩ = false ∧ w.frozen? ⟨b, 1, none⟩ = false := by
  simp [World.cell?, World.frozen?, h]
theorem box2_set {w : World} {b : Nat} {u v : Value} {T : TypeId} (h : w.heap[b]? = some (.cells #[u, v] T)) (u' v' : Value) : ((w.setCell ⟨b, 0, none⟩ u').setCell ⟨b, 1, none⟩ v').heap[b]? = some (.cells #[u', v'] T) := by
  have hb : b < w.heap.size := (Array.getElem?_eq_some_iff.1 h).1
  have h1 : (w.setCell ⟨b, 0, none⟩ u').heap[b]? = some (.cells #[u', v] T) := by
    simp [World.setCell, Array.getElem?_modify, h]
  simp [World.setCell, Array.getElem?_modify, h1] at *
  simp [h]

theorem results_c22 {fn : Func} {a t u : Tmp} {T : TypeId} (h : fn.results = #[.cell a T, .tmp t, .tmp u]) (tmps : Array Value) (P : Program) (w : World) {ad : Addr} {v : Value} (ha : tmps.getD a undef = .pointer (some ad)) (hl : (loadVar T ad).run P w = .ok v w) :
    (results fn tmps).run P w = .ok (.tuple #[v, tmps.getD t undef, tmps.getD u undef]) w := by
  rw [Array.getD_eq_getD_getElem?] at ha
  simp [results, h, ha, hl, asAddr]

set_option maxRecDepth 100000 in
set_option maxHeartbeats 4000000 in
theorem first_any (H : PH) (r : Re) (cs : List Value) (t : List Int) (A : Option Addr) (c : Nat) (w : World) (hr : RdRe H r cs) (ht : SlR (kI .i64) H A t.length c t) (hs : Sat w H) :
    Calls Try.prog 17 #[.agg cs.toArray, .slice A t.length c] w fun e w' => e = .returned (.tuple #[.agg #[.int .i64 (if textErr r t 24 = 0 then lastOf (prs t.length (M t r) (t.length + 1)) else (0, 0)).1, .int .i64 (if textErr r t 24 = 0 then lastOf (prs t.length (M t r) (t.length + 1)) else (0, 0)).2],
      .bool (decide (textErr r t 24 = 0 ∧ prs t.length (M t r) (t.length + 1) ≠ [])), .int .i64 (textErr r t 24)]) ∧ Below w.heap.size w w' := by
  have hpr := fun w hs => pairs_any H r cs t A c w hr ht hs
  have hok := @textErr_ok r t 24
  cases r with
  | mk kind set args mn mx neg =>
  have hr0 := hr
  obtain ⟨A1, c1, A2, c2, rfl, -, -⟩ := hr.open
  generalize hll : prs t.length (M t (.mk kind set args mn mx neg)) (t.length + 1) = ll at *
  have hln : textErr (.mk kind set args mn mx neg) t 24 = 0 → ll.length ≤ 625 := fun h => by rw [← hll]; exact prs_le _ _ (by have := (hok h).2.2; omega)
  generalize hee : textErr (.mk kind set args mn mx neg) t 24 = ee at *
  have HP := Aside.mk hpr
  have HN := Aside.mk hln
  clear hok hpr hln
  have htl := ht.2.2.2.1
  go_enter Try.func17, Try.ntmps17
  go_wp2_with fail
  refine (HP.out _ ((hs.alloc _).alloc _)).mono ?_
  rintro e w1 ⟨v, rfl, ho, hb1⟩
  have k4 : w1.heap[w.heap.size + 1]? = some (.cells #[.int .i64 0, .int .i64 0] 33) := by
    rw [hb1.block _ (by simp)]; have := heap_alloc_new (w.alloc (.cells (#[.int .i64 kind, .slice A1 set.length c1, .slice A2 args.length c2, .int .i64 mn, .int .i64 mx, .bool neg]) 25)) (.cells #[.int .i64 0, .int .i64 0] 33); rw [show ∀ o, (w.alloc o).heap.size = w.heap.size + 1 from fun o => by simp] at this; exact this
  have hb2 : Below w.heap.size w w1 := bT (by repeat (first | exact Below.refl _ _ | apply bA)) hb1
  obtain ⟨l40, l41, l42, l43⟩ := box2 k4
  have K4 := Aside.mk k4
  have hz2 : w.heap.size + 1 < w1.heap.size := Nat.lt_of_lt_of_le (by simp) hb1.size
  have hb2t := Aside.mk hb2
  by_cases h0 : ee = 0
  · subst h0
    rw [if_pos rfl] at ho
    by_cases hne : ll = []
    · subst hne
      obtain ⟨A3, c3, rfl, -, -, -, -⟩ := ho.form
      clear ho hb1 k4 hb2
      go_wp2_with fail
      refine bodyPost_ret (results_c22 rfl _ _ _ rfl (run_loadVar_row _ _ _ _ _ (0, 0) _ (box2_set K4.out _ _) rfl rfl (by kernel_rfl))) rfl ?_
      refine ⟨?_, Below.setCell (Below.setCell hb2t.out ?_ _) ?_ _⟩
      · simp [lastOf]
      · simp
      · simp
    · obtain ⟨p0, l, rfl⟩ : ∃ p0 l, ll = p0 :: l := List.exists_cons_of_ne_nil hne
      have hlen := HN.out rfl
      obtain ⟨HQ, -, hs1, ⟨A3, c3, e1, hl⟩, -⟩ := ho.freeze (sat_emp w1) (by omega)
      cases e1
      obtain ⟨b, off, cs, rfl, hrd, hcell⟩ := hl.row 0 (by simp)
      obtain rfl : cs = [.int .i64 p0.1, .int .i64 p0.2] := hrd
      obtain ⟨g0, g1⟩ := at2 hs1 hcell
      simp only [kP, Nat.zero_mul, Nat.add_zero] at g0 g1
      have HL := Aside.mk hl
      have hc3 := hl.2.1
      have hbz : b < w1.heap.size := World.block_lt_of_cell? w1 _ g0
      simp only [List.length_cons] at hlen hc3 ⊢
      clear ho hb1 k4 hb2 hl hcell hne
      go_wp2_with fail
      go_loopw [32] (fun i wr => ∃ (k : Nat) (p : Int × Int), k ≤ l.length + 1 ∧ i = .int .i64 k ∧ wr.heap[w1.heap.size]? = some (.cells #[.int .i64 p.1, .int .i64 p.2] 33) ∧ wr.heap[w.heap.size + 1]? = some (.cells #[.int .i64 0, .int .i64 0] 33) ∧
        Aside (p = ((p0 :: l).take k).foldl (fun o q => if q.1 = o.1 then q else o) p0) ∧ Sat wr HQ ∧ Below w.heap.size w wr) (fun i _ => l.length + 1 - (intOf i).toNat)
      case atStart =>
        exact ⟨0, p0, by omega, rfl, heap_alloc_new _ _, by rw [heap_alloc_old _ _ hz2]; exact K4.out, ⟨rfl⟩, hs1.alloc _, hb2t.out.alloc hb2t.out.size _⟩
      case round =>
        obtain ⟨k, p, hk, rfl, hh9, hh4, hp, hsr, hbr⟩ := hrel
        obtain ⟨m0, m1, m2, m3⟩ := box2 hh9
        have H9 := Aside.mk hh9
        have H4 := Aside.mk hh4
        have HB := Aside.mk hbr
        have hz4 : w1.heap.size < wr.heap.size := (Array.getElem?_eq_some_iff.1 hh9).1
        clear hh9 hh4 hbr
        by_cases hlt : k < l.length + 1
        · obtain ⟨b', off', cs, e1, hrd, hcell⟩ := HL.out.row k (by simp; omega)
          cases e1
          have hsn := List.take_succ_eq_append_getElem (l := p0 :: l) (i := k) (by simp; omega)
          generalize hq : (p0 :: l)[k]'(by simp; omega) = q at *
          have HS := Aside.mk hsn
          have HQ' := Aside.mk hq
          clear hsn hq
          obtain rfl : cs = [.int .i64 q.1, .int .i64 q.2] := hrd
          obtain ⟨g2, g3⟩ := at2 hsr hcell
          simp only [kP] at g2 g3
          clear hcell
          have hbz' : b < wr.heap.size := World.block_lt_of_cell? wr _ g2
          by_cases hqp : q.1 = p.1
          · go_wp2_with fail
            go_roundw
            case rel =>
              have hs9 : ∀ o, HQ w1.heap.size o = none := fun o => hs1.new (Nat.le_refl _) o
              refine ⟨k + 1, q, by omega, by go_num, ?_, ?_, ⟨by rw [HS.out, List.foldl_append, ← hp.out]; simp [hqp]⟩, ?_, ?_⟩
              · rw [heap_alloc_old _ _ (by simpa using hz4), box2_set H9.out, hqp]
              · rw [heap_alloc_old _ _ (by simp; omega), Below.heap_setCell _ _ _ _ (by simp; omega), Below.heap_setCell _ _ _ _ (by simp; omega)]
                exact H4.out
              · exact ((hsr.grown (grownBy_setCell _ _ _ _) (fun b hb => by cases hb; exact hs9)).grown (grownBy_setCell _ _ _ _) (fun b hb => by cases hb; exact hs9)).alloc _
              · exact ((HB.out.setCell (by simp; omega) _).setCell (by simp; omega) _).alloc (by simp; exact HB.out.size) _
            case measure => simp [intOf]; omega
          · go_wp2_with fail
            go_roundw
            case rel =>
              refine ⟨k + 1, p, by omega, by go_num, ?_, ?_, ⟨by rw [HS.out, List.foldl_append, ← hp.out]; simp [hqp]⟩, hsr.alloc _, HB.out.alloc HB.out.size _⟩
              · rw [heap_alloc_old _ _ hz4]; exact H9.out
              · rw [heap_alloc_old _ _ (by omega)]; exact H4.out
            case measure => simp [intOf]; omega
        · obtain rfl : k = l.length + 1 := by omega
          obtain ⟨n0, n1, n2, n3⟩ := box2 H4.out
          go_wp2_with fail
          refine bodyPost_ret (results_c22 rfl _ _ _ rfl (run_loadVar_row _ _ _ _ _ (0, 0) _ (box2_set H4.out _ _) rfl rfl (by kernel_rfl))) rfl ?_
          refine ⟨?_, Below.setCell (Below.setCell HB.out ?_ _) ?_ _⟩
          · have hp' := hp.out
            rw [List.take_of_length_le (by simp)] at hp'
            have hlo : lastOf (p0 :: l) = p := hp'.symm
            simp [hlo]
          · simp
          · simp
  · rw [if_neg h0] at ho
    obtain ⟨A3, c3, rfl, -, -, -, -⟩ := ho.form
    clear ho hb1 k4 hb2
    go_wp2_with fail
    refine bodyPost_ret (results_c22 rfl _ _ _ rfl (run_loadVar_row _ _ _ _ _ (0, 0) _ (box2_set K4.out _ _) rfl rfl (by kernel_rfl))) rfl ?_
    refine ⟨?_, Below.setCell (Below.setCell hb2t.out ?_ _) ?_ _⟩
    · simp [h0]
    · simp
    · simp
end Go.Proofs.Ytbnahmeaeakhhaa.B
