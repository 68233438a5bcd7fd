/- Contract: relation.of. -/
import Derived.Test.YtbnahmeaeakhhaaCr4
import Derived.Test.YtbnahmeaeakhhaaTe
import Derived.Test.YtbnahmeaeakhhaaC4
namespace Go.Proofs.Ytbnahmeaeakhhaa.B
set_option linter.unusedVariables false
set_option linter.unusedSimpArgs false
open Go Go.RowKit

/-- every node is valid -/
def Good (r : Re) : Prop := ∀ x ∈ pre r, x.err = 0
theorem Good.node {k s args mn mx neg} (h : Good (.mk k s args mn mx neg)) : nodeErr k s args.length mn mx neg = 0 := by
  have := h (.mk k s args mn mx neg) (by rw [pre_eq]; simp)
  exact this
theorem Good.args {k s args mn mx neg} (h : Good (.mk k s args mn mx neg)) {a : Re} (ha : a ∈ args) : Good a := fun x hx => h x (by
  rw [pre_eq]
  exact List.mem_cons_of_mem _ (List.mem_flatten.2 ⟨pre a, List.mem_map.2 ⟨a, ha, rfl⟩, hx⟩))
theorem errL_good {l : List Re} {left : Int} (h : errL l left = 0) : ∀ x ∈ l, x.err = 0 := by
  induction l generalizing left with
  | nil => simp
  | cons x l ih =>
    simp only [errL] at h
    by_cases h1 : left < 1
    · simp [h1] at h
    · by_cases h2 : x.err ≠ 0
      · simp [h1, h2] at h
      · simp only [h1, h2, if_false] at h
        intro y hy
        rcases List.mem_cons.1 hy with rfl | hy
        · simpa using h2
        · exact ih h y hy
theorem checkRe_good {r : Re} {m : Int} (h : checkRe r m = 0) : Good r := errL_good h
theorem checkRe_len {r : Re} {m : Int} (h : checkRe r m = 0) (hm : 0 ≤ m) : ((pre r).length : Int) ≤ m := errL_zero_ge _ _ h hm

theorem node_kind {k s n mn mx neg} (h : nodeErr k s n mn mx neg = 0) : 0 ≤ k ∧ k ≤ 10 := by
  unfold nodeErr at h
  by_cases h1 : k < 0 ∨ 10 < k
  · simp [h1] at h
  · omega
theorem node_one {k s n mn mx neg} (h : nodeErr k s n mn mx neg = 0) (hk : k = 5 ∨ k = 6 ∨ k = 8 ∨ k = 9 ∨ k = 10) : n = 1 := by
  unfold nodeErr at h
  have hn : need k = 1 := by unfold need; rw [if_neg (by omega), if_pos (by omega)]
  by_cases h1 : k < 0 ∨ 10 < k
  · simp [h1] at h
  · by_cases h2 : n < need k ∨ (n > need k ∧ need k ≠ 2) ∨ (k ≠ 2 ∧ s.length > 0) ∨ (k ≠ 6 ∧ k ≠ 9 ∧ mn ≠ 0) ∨ (k ≠ 6 ∧ mx ≠ 0) ∨ (k ≠ 10 ∧ neg = true)
    · rw [if_neg h1, if_pos h2] at h; omega
    · omega
theorem node_many {k s n mn mx neg} (h : nodeErr k s n mn mx neg = 0) (hk : k = 3 ∨ k = 4 ∨ k = 7) : 2 ≤ n := by
  unfold nodeErr at h
  have hn : need k = 2 := by unfold need; rw [if_pos hk]
  by_cases h1 : k < 0 ∨ 10 < k
  · simp [h1] at h
  · by_cases h2 : n < need k ∨ (n > need k ∧ need k ≠ 2) ∨ (k ≠ 2 ∧ s.length > 0) ∨ (k ≠ 6 ∧ k ≠ 9 ∧ mn ≠ 0) ∨ (k ≠ 6 ∧ mx ≠ 0) ∨ (k ≠ 10 ∧ neg = true)
    · rw [if_neg h1, if_pos h2] at h; omega
    · omega
theorem node_rep {s n mn mx neg} (h : nodeErr 6 s n mn mx neg = 0) : 0 ≤ mn ∧ mn ≤ mx ∧ mx ≤ 8 := by
  unfold nodeErr at h
  by_cases h2 : n < need 6 ∨ (n > need 6 ∧ need 6 ≠ 2) ∨ ((6 : Int) ≠ 2 ∧ s.length > 0) ∨ ((6 : Int) ≠ 6 ∧ (6 : Int) ≠ 9 ∧ mn ≠ 0) ∨ ((6 : Int) ≠ 6 ∧ mx ≠ 0) ∨ ((6 : Int) ≠ 10 ∧ neg = true)
  · rw [if_neg (by omega), if_pos h2] at h; omega
  · rw [if_neg (by omega), if_neg h2, if_neg (by omega)] at h
    by_cases h3 : ((6 : Int) = 6 ∧ (mn < 0 ∨ mx < mn ∨ 8 < mx)) ∨ ((6 : Int) = 9 ∧ (mn < 0 ∨ 9 < mn))
    · rw [if_pos h3] at h; omega
    · omega

set_option maxRecDepth 100000 in
set_option maxHeartbeats 2000000 in
theorem of_small (t : List Int) (kind : Int) (set : List Span) (args : List Re) (mn mx : Int) (neg : Bool) (ih : ∀ a ∈ args, OfS t a) (hn : t.length ≤ 24) (hg : nodeErr kind set args.length mn mx neg = 0) (hk : kind = 0 ∨ kind = 1 ∨ kind = 7 ∨ kind = 8 ∨ kind = 10) :
    OfS t (.mk kind set args mn mx neg) := by
  intro H cs A c w hr ht hs
  have hr0 := hr
  have hone : Aside _ := ⟨node_one hg⟩
  have hlog := logic_any t kind set args mn mx neg ih hn
  rw [M_eq]
  rw [M_eq] at hlog
  obtain ⟨A1, c1, A2, c2, rfl, h1, ha⟩ := hr.open
  generalize hnn : t.length = n at *
  have HN := Aside.mk hnn
  clear hnn
  have hz0 : ∀ w : World, (Instr.makeSlice 110 (.int .i64 ((n : Int) + 1)) (.int .i64 ((n : Int) + 1))).run Try.prog w = .ok (.slice (some ⟨w.heap.size, 0, none⟩) (n + 1) (n + 1)) (w.alloc (.cells (madeCells #[.int .u32 0] (n + 1)) 112)) := run_mk (P := Try.prog) 110 112 Try.underlying110 info112 rfl (n + 1) (by omega) (by unfold maxLen; omega) ((n : Int) + 1) (by omega)
  rcases hk with rfl | rfl | hk
  · go_enter Try.func77, Try.ntmps77
    go_wp2_with fail
    go_ret
    refine ⟨_, rfl, ?_, by repeat (first | exact Below.refl _ _ | apply bA)⟩
    have e : rows n (opM t 0 set mn mx neg (args.map (M t))) = List.replicate (n + 1) 0 := by rw [← rows_none]; exact rows_congr fun i j _ _ => by simp [opM]
    rw [e]
    have := own_mk (k := kI .u32) (e := 112) (base := w.heap.size) (sat_emp (w.alloc (.cells #[.int .i64 0, .slice A1 set.length c1, .slice A2 args.length c2, .int .i64 mn, .int .i64 mx, .bool neg] 25))) (z := .int .u32 0) (y := 0) rfl rfl (n + 1) (by unfold maxLen; omega) (by simp)
    simpa using this
  · go_enter Try.func77, Try.ntmps77
    go_wp2_with fail
    refine (one_any0 n _ hn).mono ?_
    rintro e w1 ⟨v, rfl, ho, hb⟩
    go_wp2_with fail
    go_ret
    have e : rows n (opM t 1 set mn mx neg (args.map (M t))) = rows n (fun i j => i = j) := rows_congr fun i j _ _ => by simp [opM]
    rw [e]
    exact ⟨_, rfl, ho.rebase (by simp; omega), bT (by repeat (first | exact Below.refl _ _ | apply bA)) hb⟩
  · have hlog2 := fun w' hs' => hlog hk (fun h => hone.out (by omega)) H _ A c w' hr0 ht hs'
    have Hlog := Aside.mk hlog2
    clear hlog hlog2
    rcases hk with rfl | rfl | rfl
    all_goals
      go_enter Try.func77, Try.ntmps77
      go_wp2_with fail
      with_reducible refine (Hlog.out _ ((hs.alloc _).alloc _)).mono ?_
      rintro e w1 ⟨v, rfl, ho, hb⟩
      go_wp2_with fail
      go_ret
      exact ⟨_, rfl, ho.rebase (by simp; omega), bT (by repeat (first | exact Below.refl _ _ | apply bA)) hb⟩

/-- what is kept of the first steps: the box, the zero rows -/
theorem cell_elem {H : PH} {w : World} {A : Option Addr} {n c : Nat} {xs : List Re} (h : SlR kRe H A n c xs) (hs : Sat w H) (i : Nat) (hi : i < xs.length) :
    ∃ b off k s a mn mx ng A1 c1 A2 c2, A = some ⟨b, off, none⟩ ∧ xs[i] = .mk k s a mn mx ng ∧ RdRe H (.mk k s a mn mx ng) [.int .i64 k, .slice A1 s.length c1, .slice A2 a.length c2, .int .i64 mn, .int .i64 mx, .bool ng] ∧
      w.cell? ⟨b, off + i * 6, none⟩ = some (.int .i64 k) ∧ w.cell? ⟨b, off + i * 6 + 1, none⟩ = some (.slice A1 s.length c1) ∧ w.cell? ⟨b, off + i * 6 + 2, none⟩ = some (.slice A2 a.length c2) ∧ w.cell? ⟨b, off + i * 6 + 3, none⟩ = some (.int .i64 mn) ∧ w.cell? ⟨b, off + i * 6 + 4, none⟩ = some (.int .i64 mx) ∧ w.cell? ⟨b, off + i * 6 + 5, none⟩ = some (.bool ng) := by
  obtain ⟨b, off, cs, e, hrd, hcell⟩ := h.row i hi
  have hrd : RdRe H xs[i] cs := hrd
  cases hx : xs[i] with
  | mk k s a mn mx ng =>
    rw [hx] at hrd
    have hrd0 := hrd
    obtain ⟨A1, c1, A2, c2, rfl, -, -⟩ := hrd.open
    have := at6 hs hcell
    exact ⟨b, off, k, s, a, mn, mx, ng, A1, c1, A2, c2, e, rfl, hrd0, this⟩

set_option maxRecDepth 100000 in
set_option maxHeartbeats 4000000 in
theorem of_one (t : List Int) (kind : Int) (set : List Span) (a0 : Re) (mn mx : Int) (neg : Bool) (ih : OfS t a0) (hn : t.length ≤ 24) (hk : kind = 5 ∨ kind = 9) :
    OfS t (.mk kind set [a0] mn mx neg) := by
  intro H cs A c w hr ht hs
  rw [M_eq]
  obtain ⟨A1, c1, A2, c2, rfl, h1, ha⟩ := hr.open
  generalize hnn : t.length = n at *
  have HN := Aside.mk hnn
  have hz0 : ∀ w : World, (Instr.makeSlice 110 (.int .i64 ((n : Int) + 1)) (.int .i64 ((n : Int) + 1))).run Try.prog w = .ok (.slice (some ⟨w.heap.size, 0, none⟩) (n + 1) (n + 1)) (w.alloc (.cells (madeCells #[.int .u32 0] (n + 1)) 112)) := run_mk (P := Try.prog) 110 112 Try.underlying110 info112 rfl (n + 1) (by omega) (by unfold maxLen; omega) ((n : Int) + 1) (by omega)
  obtain ⟨b, off, k, s, a, mn', mx', ng, A1', c1', A2', c2', rfl, hx, hrd, g0, g1, g2, g3, g4, g5⟩ := cell_elem ha hs 0 (by simp)
  simp only [List.getElem_cons_zero] at hx
  subst hx
  have ih2 := fun cs => ih H cs A c
  simp only [hnn] at ih2
  clear hnn
  simp only [Nat.zero_mul, Nat.add_zero] at g0 g1 g2 g3 g4 g5
  generalize hX : M t (Re.mk k s a mn' mx' ng) = X at *
  have hXX := Aside.mk hX
  clear hX
  have hac := ha.2.1
  have hbl := World.block_lt_of_cell? w _ g0
  simp only at hbl
  rcases hk with rfl | rfl
  · go_enter Try.func77, Try.ntmps77
    go_wp2_with fail
    refine (ih2 _ _ hrd ht ((hs.alloc _).alloc _)).mono ?_
    rintro e w1 ⟨v, rfl, ho, hb⟩
    obtain ⟨A5, c5, rfl, hw5, -⟩ := ho.wr (by rw [rows_length]; omega)
    rw [rows_length] at hw5 ⊢
    have hb1 : Below w.heap.size w w1 := bT (by repeat (first | exact Below.refl _ _ | apply bA)) hb
    clear ho hb
    go_wp2_with fail
    refine (star_any n X _ _ _ hn hw5).mono ?_
    rintro e w2 ⟨v, rfl, ho, hb⟩
    go_wp2_with fail
    go_ret
    have e : rows n (opM t 5 set mn mx neg ([Re.mk k s a mn' mx' ng].map (M t))) = rows n (Star n X) := rows_congr fun i j _ _ => by simp [opM, hXX.out, HN.out]
    rw [e]
    exact ⟨_, rfl, ho.rebase hb1.size, bT hb1 hb⟩
  · go_enter Try.func77, Try.ntmps77
    go_wp2_with fail
    refine (ih2 _ _ hrd ht ((hs.alloc _).alloc _)).mono ?_
    rintro e w1 ⟨v, rfl, ho, hb⟩
    have hb1 : Below w.heap.size w w1 := bT (by repeat (first | exact Below.refl _ _ | apply bA)) hb
    go_wp2_with fail
    go_ret
    have e : rows n (opM t 9 set mn mx neg ([Re.mk k s a mn' mx' ng].map (M t))) = rows n X := rows_congr fun i j _ _ => by simp [opM, hXX.out]
    rw [e]
    exact ⟨_, rfl, ho.rebase (by simp; omega), hb1⟩
end Go.Proofs.Ytbnahmeaeakhhaa.B
