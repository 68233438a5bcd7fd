/- Contracts: relation.check, Match, Pairs. -/
import Derived.Test.YtbnahmeaeakhhaaCr8
namespace Go.Proofs.Ytbnahmeaeakhhaa.B
set_option linter.unusedVariables false
set_option linter.unusedSimpArgs false
open Go Go.RowKit Classical

theorem SlR.len {α} {k : Kd α} {H : PH} {A n c} {xs : List α} (h : SlR k H A n c xs) : n = xs.length := h.1

set_option maxHeartbeats 1000000 in
theorem rcheckT_any (H : PH) (r : Re) (cs : List Value) (t : List Int) (A : Option Addr) (c : Nat) (w : World) (hr : RdRe H r cs) (ht : SlR (kI .i64) H A t.length c t) (hs : Sat w H) :
    Calls Try.prog 76 #[.agg cs.toArray, .slice A t.length c] w fun e w' => e = .returned (.int .i64 (textErr r t 24)) ∧ Below w.heap.size w w' := by
  cases r with
  | mk kind set args mn mx neg =>
  have hr0 := hr
  obtain ⟨A1, c1, A2, c2, rfl, -, -⟩ := hr.open
  have htl := ht.2.2.2.1
  go_enter Try.func76, Try.ntmps76
  go_wp2_with fail
  refine (check_any H _ _ _ hr0 (hs.alloc _)).mono ?_
  rintro e w1 ⟨rfl, hb1⟩
  have hb2 : Below w.heap.size w w1 := bT (by repeat (first | exact Below.refl _ _ | apply bA)) hb1
  generalize hee : checkRe (.mk kind set args mn mx neg) 40 = ee
  have Hee := Aside.mk hee
  clear hee
  by_cases h0 : ee = 0
  · subst h0
    by_cases hbig : 24 < t.length
    · go_wp2_with fail
      go_ret
      exact ⟨by rw [textErr, Hee.out, if_neg (by simp), runesErr, if_pos (by omega)]; rfl, hb2⟩
    · go_wp2_with fail
      go_loop [18] (fun i => ∃ k : Nat, k ≤ t.length ∧ i = .int .i64 k ∧ Aside ((t.take k).any (fun c => decide (c < 0) || decide (1114111 < c)) = false)) (fun i => t.length - (intOf i).toNat)
      case atStart => exact ⟨0, by omega, rfl, ⟨by simp⟩⟩
      case round =>
        obtain ⟨k, hk, rfl, hgo⟩ := hrel
        by_cases hlt : k < t.length
        · obtain ⟨b, off, cs, rfl, hrd, hcell⟩ := ht.row k hlt
          have hsn := List.take_succ_eq_append_getElem hlt
          have hmem : t[k] ∈ t := List.getElem_mem _
          generalize t[k] = z at *
          have HS := Aside.mk (And.intro hsn hmem)
          clear hsn hmem
          obtain rfl : cs = [.int .i64 z] := hrd
          have g0 := at1 (hs.below hb2) hcell
          clear hcell
          simp only [kI, Nat.mul_one] at g0
          by_cases q1 : z < 0
          · go_wp2_with fail
            go_ret
            exact ⟨by rw [textErr, Hee.out, if_neg (by simp), runesErr, if_neg (by omega), if_pos (List.any_eq_true.2 ⟨z, HS.out.2, by simp [q1]⟩)]; rfl, hb2⟩
          · by_cases q2 : 1114111 < z
            · go_wp2_with fail
              go_ret
              exact ⟨by rw [textErr, Hee.out, if_neg (by simp), runesErr, if_neg (by omega), if_pos (List.any_eq_true.2 ⟨z, HS.out.2, by simp [q2]⟩)]; rfl, hb2⟩
            · go_wp2_with fail
              go_round
              case rel => exact ⟨k + 1, by omega, by go_num, ⟨by rw [HS.out.1, List.any_append, hgo.out]; simp; omega⟩⟩
              case measure => simp [intOf]; omega
        · go_wp2
          go_ret
          have hgo' := hgo.out
          rw [List.take_of_length_le (by omega)] at hgo'
          exact ⟨by rw [textErr, Hee.out, if_neg (by simp), runesErr, if_neg (by omega), hgo']; rfl, hb2⟩
  · go_wp2_with fail
    go_ret
    exact ⟨by rw [textErr, Hee.out, if_pos h0]; rfl, hb2⟩

theorem textErr_ok {r : Re} {t : List Int} {m : Int} (h : textErr r t m = 0) : checkRe r 40 = 0 ∧ Good r ∧ (t.length : Int) ≤ m := by
  unfold textErr at h
  by_cases h1 : checkRe r 40 ≠ 0
  · rw [if_pos h1] at h; exact absurd h h1
  · rw [if_neg h1] at h
    refine ⟨by simpa using h1, checkRe_good (m := 40) (by simpa using h1), ?_⟩
    unfold runesErr at h
    by_cases h2 : (t.length : Int) > m
    · rw [if_pos h2] at h; omega
    · omega

set_option maxRecDepth 100000 in
set_option maxHeartbeats 2000000 in
theorem match_any (H : PH) (r : Re) (cs : List Value) (t : List Int) (A : Option Addr) (c : Nat) (w : World) (hr : RdRe H r cs) (ht : SlR (kI .i64) H A t.length c t) (hs : Sat w H) :
    Calls Try.prog 16 #[.agg cs.toArray, .slice A t.length c] w fun e w' => e = .returned (.tuple #[.bool (decide (textErr r t 24 = 0 ∧ M t r 0 t.length)), .int .i64 (textErr r t 24)]) ∧ Below w.heap.size w w' := by
  have hof := fun (hg : Good r) (hn : t.length ≤ 24) => of_any t hn r hg H cs A c
  have hok := @textErr_ok r t 24
  have hchk := fun w hs => rcheckT_any H r cs t A c w hr ht hs
  cases r with
  | mk kind set args mn mx neg =>
  have hr0 := hr
  obtain ⟨A1, c1, A2, c2, rfl, -, -⟩ := hr.open
  generalize hee : textErr (.mk kind set args mn mx neg) t 24 = ee at *
  have HC := Aside.mk (And.intro hof (And.intro hok hchk))
  clear hof hok hchk
  have Hee := Aside.mk hee
  clear hee
  have htl := ht.2.2.2.1
  go_enter Try.func16, Try.ntmps16
  go_wp2_with fail
  refine (HC.out.2.2 _ (hs.alloc _)).mono ?_
  rintro e w1 ⟨rfl, hb1⟩
  have hb2 : Below w.heap.size w w1 := bT (by repeat (first | exact Below.refl _ _ | apply bA)) hb1
  have f0 : ∀ i, w1.cell? ⟨w.heap.size, i, none⟩ = (#[.int .i64 kind, .slice A1 set.length c1, .slice A2 args.length c2, .int .i64 mn, .int .i64 mx, .bool neg] : Array Value)[i]? := fun i => cell_box hb1 i
  clear hb1
  by_cases h0 : ee = 0
  · subst h0
    obtain ⟨h1, h2, h3⟩ := HC.out.2.1 rfl
    have hn : t.length ≤ 24 := by omega
    have q0 := f0 0
    have q1 := f0 1
    have q2 := f0 2
    have q3 := f0 3
    have q4 := f0 4
    have q5 := f0 5
    simp only [List.getElem?_toArray, List.getElem?_cons_succ, List.getElem?_cons_zero] at q0 q1 q2 q3 q4 q5
    have H123 := Aside.mk (And.intro h1 (And.intro h2 h3))
    clear f0 h1 h2 h3
    go_wp2_with fail
    refine (HC.out.1 H123.out.2.1 hn _ hr0 ht (hs.below hb2)).mono ?_
    rintro e w2 ⟨v, rfl, ho, hb3⟩
    obtain ⟨A3, c3, rfl, hw3, -⟩ := ho.wr (by rw [rows_length]; omega)
    rw [rows_length] at hw3 ⊢
    obtain ⟨b, off, rfl, g0⟩ := hw3.at 0 (by rw [rows_length]; omega)
    rw [rows_get, Nat.add_zero] at g0
    have hbt := bit_test (mask t.length (M t (.mk kind set args mn mx neg) 0)) t.length (mask_lt32 _ _ hn)
    rw [mask_test] at hbt
    have hb4 := bT hb2 hb3
    have hc3 := hw3.2.1
    generalize mask t.length (M t (.mk kind set args mn mx neg) 0) = x at *
    by_cases hM : M t (.mk kind set args mn mx neg) 0 t.length
    · rw [if_pos ⟨Nat.le_refl _, hM⟩] at hbt
      have hbt1 : bits BinOp.and IntKind.u32 ((x : Int) / 2 ^ t.length) 1 = 1 := hbt
      have HM := Aside.mk hM
      clear hbt hM
      go_wp2_with fail
      go_ret2
      exact ⟨by simp [HM.out], hb4⟩
    · rw [if_neg (fun h => hM h.2)] at hbt
      have hbt1 : bits BinOp.and IntKind.u32 ((x : Int) / 2 ^ t.length) 1 = 0 := hbt
      have HM := Aside.mk hM
      clear hbt hM
      go_wp2_with fail
      go_ret2
      exact ⟨by simp [HM.out], hb4⟩
  · clear f0
    go_wp2_with fail
    go_ret2
    exact ⟨by simp [h0], hb2⟩
end Go.Proofs.Ytbnahmeaeakhhaa.B
