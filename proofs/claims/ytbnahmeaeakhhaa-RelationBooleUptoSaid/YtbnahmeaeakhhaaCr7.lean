/- Contract: relation.of at the kinds RCat, RAlt. -/
import Derived.Test.YtbnahmeaeakhhaaCr5
namespace Go.Proofs.Ytbnahmeaeakhhaa.B
set_option linter.unusedVariables false
set_option linter.unusedSimpArgs false
open Go Go.RowKit

set_option maxRecDepth 100000 in
set_option maxHeartbeats 4000000 in
theorem of_list (t : List Int) (kind : Int) (set : List Span) (args : List Re) (mn mx : Int) (neg : Bool) (ih : ∀ a ∈ args, OfS t a) (hn : t.length ≤ 24) (hk : kind = 3 ∨ kind = 4) : OfS t (.mk kind set args mn mx neg) := by
  intro H cs A c w hr ht hs
  rw [M_eq]
  obtain ⟨A1, c1, A2, c2, rfl, h1, ha⟩ := hr.open
  have h3 : opM t 3 set mn mx neg (args.map (M t)) = (args.map (M t)).foldl (Comp t.length) (fun i j => i = j) := by simp [opM]
  have h4 : opM t 4 set mn mx neg (args.map (M t)) = fun i j => ∃ R ∈ args.map (M t), R i j := by simp [opM]
  have H34 := Aside.mk (And.intro h3 h4)
  clear h3 h4
  generalize hnn : t.length = n at *
  have HN := Aside.mk hnn
  clear hnn
  have hz0 : ∀ w : World, (Instr.makeSlice 110 (.int .i64 ((n : Int) + 1)) (.int .i64 ((n : Int) + 1))).run Try.prog w = .ok (.slice (some ⟨w.heap.size, 0, none⟩) (n + 1) (n + 1)) (w.alloc (.cells (madeCells #[.int .u32 0] (n + 1)) 112)) := run_mk (P := Try.prog) 110 112 Try.underlying110 info112 rfl (n + 1) (by omega) (by unfold maxLen; omega) ((n : Int) + 1) (by omega)
  have hal := ha.2.2.2.1
  rcases hk with rfl | rfl
  · go_enter Try.func77, Try.ntmps77
    go_wp2_with fail
    refine (one_any0 n _ hn).mono ?_
    rintro e w1 ⟨v, rfl, ho, hb⟩
    obtain ⟨A5, c5, rfl, -, -⟩ := ho.wr (by rw [rows_length]; omega)
    rw [rows_length] at ho ⊢
    have hb1 : Below w.heap.size w w1 := bT (by repeat (first | exact Below.refl _ _ | apply bA)) hb
    have ho1 := ho.rebase (base' := w.heap.size) (by simp; omega)
    have f2 : w1.cell? ⟨w.heap.size, 2, none⟩ = some (.slice A2 args.length c2) := cell_box (w := w) (cs := #[.int .i64 3, .slice A1 set.length c1, .slice A2 args.length c2, .int .i64 mn, .int .i64 mx, .bool neg]) (t := 25) (bT (by repeat (first | exact Below.refl _ _ | apply bA)) hb) 2
    clear ho hb hz0
    go_wp2_with fail
    go_loopw [6, 67] (fun o i wr => ∃ (k : Nat) (A5 : Option Addr) (c5 : Nat), k ≤ args.length ∧ i = .int .i64 k ∧ o = .slice A5 (n + 1) c5 ∧ Own (kI .u32) 112 wr w.heap.size emp o (rows n (((args.take k).map (M t)).foldl (Comp n) (fun i j => i = j))) ∧ Below w.heap.size w wr) (fun _ i _ => args.length - (intOf i).toNat)
    case atStart => exact ⟨0, A5, c5, by omega, rfl, rfl, by simpa using ho1, hb1⟩
    case round =>
      obtain ⟨k, A6, c6, hk, rfl, rfl, ho5, hb5⟩ := hrel
      generalize hR : (((args.take k).map (M t)).foldl (Comp n) (fun i j => i = j)) = R at *
      have HR := Aside.mk hR
      clear hR
      by_cases hka : k < args.length
      · obtain ⟨b, off, k', s', a', mn', mx', ng', A1', c1', A2', c2', rfl, hx, hrd, g0, g1, g2, g3, g4, g5⟩ := cell_elem ha (hs.below hb5) k hka
        have ihk := ih args[k] (List.getElem_mem _)
        have hsn := List.take_succ_eq_append_getElem hka
        rw [hx] at ihk hsn
        have HS := Aside.mk hsn
        clear hsn hx
        have ih2 := fun cs => ihk H cs A c
        simp only [HN.out] at ih2
        obtain ⟨_, _, e6, hw6, -⟩ := ho5.wr (by rw [rows_length]; omega)
        rw [rows_length] at e6 hw6
        cases e6
        go_wp2_with fail
        refine (ih2 _ _ hrd ht ((hs.below hb5).alloc _)).mono ?_
        rintro e w3 ⟨v3, rfl, ho3, hb3⟩
        generalize hX : M t (Re.mk k' s' a' mn' mx' ng') = X at *
        have HXX := Aside.mk hX
        clear hX
        obtain ⟨A3, c3, rfl, hw3, -⟩ := ho3.wr (by rw [rows_length]; omega)
        rw [rows_length] at hw3 ⊢
        have hbb : Below wr.heap.size wr w3 := bT (bA (Below.refl _ _) _) hb3
        have hw63 := hw6.below hbb
        have hb6 := bT hb5 hbb
        clear hb3 ho5 hw6 g0 g1 g2 g3 g4 g5 ihk ih2 ho3
        go_wp2_with fail
        refine (then_any n R X _ _ _ _ _ hn hw63 hw3).mono ?_
        rintro e w4 ⟨v4, rfl, ho4, hb4⟩
        obtain ⟨A4, c4, rfl, -, -⟩ := ho4.wr (by rw [rows_length]; omega)
        rw [rows_length] at ho4 ⊢
        go_wp2_with fail
        go_roundw
        case rel =>
          refine ⟨k + 1, A4, c4, by omega, by go_num, rfl, ?_, bT hb6 hb4⟩
          have e2 := HXX.out
          rw [HS.out, List.map_append, List.foldl_append, HR.out]
          simp only [List.map_cons, List.map_nil, List.foldl_cons, List.foldl_nil, e2]
          exact ho4.rebase hb6.size
        case measure => simp [intOf]; omega
      · go_wp2_with fail
        go_ret
        refine ⟨_, rfl, ?_, hb5⟩
        have e : args.take k = args := List.take_of_length_le (by omega)
        have hR := HR.out
        rw [e] at hR
        rw [H34.out.1, hR]
        exact ho5
  · go_enter Try.func77, Try.ntmps77
    go_upto_region 24 with (fail)
    have e0 : rows n (fun i j => ∃ R ∈ (args.take 0).map (M t), R i j) = List.replicate (n + 1) 0 := by rw [← rows_none]; exact rows_congr fun i j _ _ => by simp
    have ho1 := own_mk (k := kI .u32) (e := 112) (base := w.heap.size) (sat_emp (w.alloc (.cells #[.int .i64 4, .slice A1 set.length c1, .slice A2 args.length c2, .int .i64 mn, .int .i64 mx, .bool neg] 25))) (z := .int .u32 0) (y := 0) rfl rfl (n + 1) (by unfold maxLen; omega) (by simp)
    rw [← e0] at ho1
    have HO1 := Aside.mk ho1
    clear ho1 e0 hz0
    go_wp2_with fail
    go_loopw [6, 82] (fun o i wr => ∃ (k : Nat) (A5 : Option Addr) (c5 : Nat), k ≤ args.length ∧ i = .int .i64 k ∧ o = .slice A5 (n + 1) c5 ∧ Own (kI .u32) 112 wr w.heap.size emp o (rows n (fun i j => ∃ R ∈ (args.take k).map (M t), R i j)) ∧ Below w.heap.size w wr) (fun _ i _ => args.length - (intOf i).toNat)
    case atStart => exact ⟨0, _, _, by omega, rfl, rfl, by simpa using HO1.out, by repeat (first | exact Below.refl _ _ | apply bA)⟩
    case round =>
      obtain ⟨k, A6, c6, hk, rfl, rfl, ho5, hb5⟩ := hrel
      generalize hR : (fun i j => ∃ R ∈ (args.take k).map (M t), R i j) = R at *
      have HR := Aside.mk hR
      clear hR
      by_cases hka : k < args.length
      · obtain ⟨b, off, k', s', a', mn', mx', ng', A1', c1', A2', c2', rfl, hx, hrd, g0, g1, g2, g3, g4, g5⟩ := cell_elem ha (hs.below hb5) k hka
        have ihk := ih args[k] (List.getElem_mem _)
        have hsn := List.take_succ_eq_append_getElem hka
        rw [hx] at ihk hsn
        have HS := Aside.mk hsn
        clear hsn hx
        have ih2 := fun cs => ihk H cs A c
        simp only [HN.out] at ih2
        obtain ⟨_, _, e6, hw6, -⟩ := ho5.wr (by rw [rows_length]; omega)
        rw [rows_length] at e6 hw6
        cases e6
        go_wp2_with fail
        refine (ih2 _ _ hrd ht ((hs.below hb5).alloc _)).mono ?_
        rintro e w3 ⟨v3, rfl, ho3, hb3⟩
        generalize hX : M t (Re.mk k' s' a' mn' mx' ng') = X at *
        have HXX := Aside.mk hX
        clear hX
        obtain ⟨A3, c3, rfl, hw3, -⟩ := ho3.wr (by rw [rows_length]; omega)
        rw [rows_length] at hw3 ⊢
        have hbb : Below wr.heap.size wr w3 := bT (bA (Below.refl _ _) _) hb3
        have hw63 := hw6.below hbb
        have hb6 := bT hb5 hbb
        clear hb3 ho5 hw6 g0 g1 g2 g3 g4 g5 ihk ih2 ho3
        go_wp2_with fail
        refine (or_any n R X _ _ _ _ _ hn hw63 hw3).mono ?_
        rintro e w4 ⟨v4, rfl, ho4, hb4⟩
        obtain ⟨A4, c4, rfl, -, -⟩ := ho4.wr (by rw [rows_length]; omega)
        rw [rows_length] at ho4 ⊢
        go_wp2_with fail
        go_roundw
        case rel =>
          refine ⟨k + 1, A4, c4, by omega, by go_num, rfl, ?_, bT hb6 hb4⟩
          have e2 := HXX.out
          have e3 : (fun i j => ∃ R ∈ (args.take (k + 1)).map (M t), R i j) = fun i j => R i j ∨ X i j := by
            rw [HS.out, ← HR.out, List.map_append]
            funext i j
            simp only [List.map_cons, List.map_nil, List.mem_append, List.mem_singleton, e2, eq_iff_iff]
            constructor
            · rintro ⟨Y, h | rfl, hy⟩
              · exact Or.inl ⟨Y, h, hy⟩
              · exact Or.inr hy
            · rintro (⟨Y, h, hy⟩ | h)
              · exact ⟨Y, Or.inl h, hy⟩
              · exact ⟨X, Or.inr rfl, h⟩
          rw [e3]
          exact ho4.rebase hb6.size
        case measure => simp [intOf]; omega
      · go_wp2_with fail
        go_ret
        refine ⟨_, rfl, ?_, hb5⟩
        have e : args.take k = args := List.take_of_length_le (by omega)
        have hR := HR.out
        rw [e] at hR
        rw [H34.out.2, hR]
        exact ho5
end Go.Proofs.Ytbnahmeaeakhhaa.B
