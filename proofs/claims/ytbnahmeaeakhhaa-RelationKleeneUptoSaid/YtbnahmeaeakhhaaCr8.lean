/- Contract: relation.of at RRepeat, and at every valid expression; relation.check, Match. -/
import Derived.Test.YtbnahmeaeakhhaaCr6
import Derived.Test.YtbnahmeaeakhhaaCr7
namespace Go.Proofs.Ytbnahmeaeakhhaa.B
set_option linter.unusedVariables false
set_option linter.unusedSimpArgs false
open Go Go.RowKit

set_option maxRecDepth 100000 in
set_option maxHeartbeats 4000000 in
theorem of_rep (t : List Int) (set : List Span) (a0 : Re) (mn mx : Int) (neg : Bool) (ih : OfS t a0) (hn : t.length ≤ 24) (h0 : 0 ≤ mn) (h1 : mn ≤ mx) (h2 : mx ≤ 8) :
    OfS t (.mk 6 set [a0] mn mx neg) := by
  intro H cs A c w hr ht hs
  rw [M_eq]
  obtain ⟨A1, c1, A2, c2, rfl, hh1, ha⟩ := hr.open
  generalize hnn : t.length = n at *
  have HN := Aside.mk hnn
  have hz0 : ∀ w : World, (Instr.makeSlice 110 (.int .i64 ((n : Int) + 1)) (.int .i64 ((n : Int) + 1))).run Try.prog w = .ok (.slice (some ⟨w.heap.size, 0, none⟩) (n + 1) (n + 1)) (w.alloc (.cells (madeCells #[.int .u32 0] (n + 1)) 112)) := run_mk (P := Try.prog) 110 112 Try.underlying110 info112 rfl (n + 1) (by omega) (by unfold maxLen; omega) ((n : Int) + 1) (by omega)
  obtain ⟨b, off, k, s, a, mn', mx', ng, A1', c1', A2', c2', rfl, hx, hrd, g0, g1, g2, g3, g4, g5⟩ := cell_elem ha hs 0 (by simp)
  simp only [List.getElem_cons_zero] at hx
  subst hx
  have ih2 := fun cs => ih H cs A c
  simp only [hnn] at ih2
  clear hnn
  simp only [Nat.zero_mul, Nat.add_zero] at g0 g1 g2 g3 g4 g5
  generalize hX : M t (Re.mk k s a mn' mx' ng) = X at *
  have hXX := Aside.mk hX
  clear hX
  have hac := ha.2.1
  have hbl := World.block_lt_of_cell? w _ g0
  simp only at hbl
  go_enter Try.func77, Try.ntmps77
  go_upto_region 33 with (fail)
  have q : ∀ j, ((w.alloc (.cells #[.int .i64 6, .slice A1 set.length c1, .slice (some ⟨b, off, none⟩) 1 c2, .int .i64 mn, .int .i64 mx, .bool neg] 25)).alloc (.cells (madeCells #[.int .u32 0] (n + 1)) 112)).cell? ⟨w.heap.size, j, none⟩ = (#[.int .i64 6, .slice A1 set.length c1, .slice (some ⟨b, off, none⟩) 1 c2, .int .i64 mn, .int .i64 mx, .bool neg] : Array Value)[j]? := fun j => cell_box (bA (Below.refl _ _) _) j
  have hbW : Below w.heap.size w ((w.alloc (.cells #[.int .i64 6, .slice A1 set.length c1, .slice (some ⟨b, off, none⟩) 1 c2, .int .i64 mn, .int .i64 mx, .bool neg] 25)).alloc (.cells (madeCells #[.int .u32 0] (n + 1)) 112)) := bA (bA (Below.refl _ _) _) _
  generalize ((w.alloc (.cells #[.int .i64 6, .slice A1 set.length c1, .slice (some ⟨b, off, none⟩) 1 c2, .int .i64 mn, .int .i64 mx, .bool neg] 25)).alloc (.cells (madeCells #[.int .u32 0] (n + 1)) 112)) = W2 at *
  have q2 := q 2
  have q3 := q 3
  have q4 := q 4
  simp only [List.getElem?_toArray, List.getElem?_cons_succ, List.getElem?_cons_zero] at q2 q3 q4
  have e0 := (hbW.cell (p := ⟨b, off, none⟩) hbl).trans g0
  have e1 := (hbW.cell (p := ⟨b, off + 1, none⟩) hbl).trans g1
  have e2 := (hbW.cell (p := ⟨b, off + 2, none⟩) hbl).trans g2
  have e3 := (hbW.cell (p := ⟨b, off + 3, none⟩) hbl).trans g3
  have e4 := (hbW.cell (p := ⟨b, off + 4, none⟩) hbl).trans g4
  have e5 := (hbW.cell (p := ⟨b, off + 5, none⟩) hbl).trans g5
  clear g0 g1 g2 g3 g4 g5 q hz0
  have hsW := hs.below hbW
  have lb : w.heap.size < W2.heap.size := World.block_lt_of_cell? W2 _ q3
  have lbb : b < W2.heap.size := by omega
  have HK : Aside (∀ w', Below W2.heap.size W2 w' → w'.cell? ⟨w.heap.size, 2, none⟩ = some (.slice (some ⟨b, off, none⟩) 1 c2) ∧ w'.cell? ⟨w.heap.size, 3, none⟩ = some (.int .i64 mn) ∧ w'.cell? ⟨w.heap.size, 4, none⟩ = some (.int .i64 mx) ∧ w'.cell? ⟨b, off, none⟩ = some (.int .i64 k) ∧ w'.cell? ⟨b, off + 1, none⟩ = some (.slice A1' s.length c1') ∧ w'.cell? ⟨b, off + 2, none⟩ = some (.slice A2' a.length c2') ∧ w'.cell? ⟨b, off + 3, none⟩ = some (.int .i64 mn') ∧ w'.cell? ⟨b, off + 4, none⟩ = some (.int .i64 mx') ∧ w'.cell? ⟨b, off + 5, none⟩ = some (.bool ng)) :=
    ⟨fun w' hb => ⟨(hb.cell (p := ⟨_, _, none⟩) lb).trans q2, (hb.cell (p := ⟨_, _, none⟩) lb).trans q3, (hb.cell (p := ⟨_, _, none⟩) lb).trans q4, (hb.cell (p := ⟨_, _, none⟩) lbb).trans e0, (hb.cell (p := ⟨_, _, none⟩) lbb).trans e1, (hb.cell (p := ⟨_, _, none⟩) lbb).trans e2, (hb.cell (p := ⟨_, _, none⟩) lbb).trans e3, (hb.cell (p := ⟨_, _, none⟩) lbb).trans e4, (hb.cell (p := ⟨_, _, none⟩) lbb).trans e5⟩⟩
  clear q2 q3 q4 e0 e1 e2 e3 e4 e5
  go_region_held3 (fun w' => w'.cell? ⟨w.heap.size, 2, none⟩ = some (.slice (some ⟨b, off, none⟩) 1 c2) ∧ w'.cell? ⟨w.heap.size, 3, none⟩ = some (.int .i64 mn) ∧ w'.cell? ⟨w.heap.size, 4, none⟩ = some (.int .i64 mx) ∧ w'.cell? ⟨b, off, none⟩ = some (.int .i64 k) ∧ w'.cell? ⟨b, off + 1, none⟩ = some (.slice A1' s.length c1') ∧ w'.cell? ⟨b, off + 2, none⟩ = some (.slice A2' a.length c2') ∧ w'.cell? ⟨b, off + 3, none⟩ = some (.int .i64 mn') ∧ w'.cell? ⟨b, off + 4, none⟩ = some (.int .i64 mx') ∧ w'.cell? ⟨b, off + 5, none⟩ = some (.bool ng))
    (first
      | exact HK.out _ (Below.refl _ _)
      | exact HK.out _ (Below.refl _ _).drew
      | exact HK.out _ ((Below.refl _ _).drew.trans hb3)
      | exact HK.out _ (((Below.refl _ _).drew.trans hb3).trans (hb4.mono hb3.size)))
    ((first
      | (go_at_call 77; with_reducible refine (ih2 _ _ hrd ht hsW.drew).mono ?_; rintro e w3 ⟨v3, rfl, ho3, hb3⟩; obtain ⟨A3, c3, rfl, hw3, -⟩ := ho3.wr (by rw [rows_length]; omega); rw [rows_length] at hw3; rw [rows_length])
      | (go_at_call 135; with_reducible refine (times_any n X _ _ mn mx _ hn hw3 h0 (by omega) (by omega)).mono ?_; rintro e w4 ⟨v4, rfl, ho4, hb4⟩)))
  go_wp2_with fail
  go_ret
  have e : rows n (opM t 6 set mn mx neg ([Re.mk k s a mn' mx' ng].map (M t))) = rows n (fun i j => ∃ k : Nat, mn ≤ k ∧ (k : Int) ≤ mx ∧ Pow n X k i j) := rows_congr fun i j _ _ => by simp [opM, hXX.out, HN.out]
  rw [e]
  have hb34 : Below W2.heap.size W2 w4 := (Below.refl _ _).drew.trans (bT hb3 hb4)
  exact ⟨_, rfl, ho4.rebase (Nat.le_trans hbW.size hb3.size), bT hbW hb34⟩

theorem of_any (t : List Int) (hn : t.length ≤ 24) (r : Re) (hg : Good r) : OfS t r := by
  induction r using Re.ind with
  | h kind set args mn mx neg ih =>
  have ih' : ∀ a ∈ args, OfS t a := fun a ha => ih a ha (hg.args ha)
  have hnode := hg.node
  obtain ⟨k0, k1⟩ := node_kind hnode
  have h1 := node_one hnode
  obtain rfl | rfl | rfl | rfl | rfl | rfl | rfl | rfl | rfl | rfl | rfl : kind = 0 ∨ kind = 1 ∨ kind = 2 ∨ kind = 3 ∨ kind = 4 ∨ kind = 5 ∨ kind = 6 ∨ kind = 7 ∨ kind = 8 ∨ kind = 9 ∨ kind = 10 := by omega
  · exact of_small t _ set args mn mx neg ih' hn hnode (by omega)
  · exact of_small t _ set args mn mx neg ih' hn hnode (by omega)
  · exact of_set t set args mn mx neg hn
  · exact of_list t _ set args mn mx neg ih' hn (by omega)
  · exact of_list t _ set args mn mx neg ih' hn (by omega)
  · obtain ⟨a, rfl⟩ := List.length_eq_one_iff.1 (h1 (by omega))
    exact of_one t _ set a mn mx neg (ih' a (by simp)) hn (by omega)
  · obtain ⟨a, rfl⟩ := List.length_eq_one_iff.1 (h1 (by omega))
    obtain ⟨m1, m2, m3⟩ := node_rep hnode
    exact of_rep t set a mn mx neg (ih' a (by simp)) hn m1 m2 m3
  · exact of_small t _ set args mn mx neg ih' hn hnode (by omega)
  · exact of_small t _ set args mn mx neg ih' hn hnode (by omega)
  · obtain ⟨a, rfl⟩ := List.length_eq_one_iff.1 (h1 (by omega))
    exact of_one t _ set a mn mx neg (ih' a (by simp)) hn (by omega)
  · exact of_small t _ set args mn mx neg ih' hn hnode (by omega)
end Go.Proofs.Ytbnahmeaeakhhaa.B
