/- Contracts: retree.norm, at each kind. Contracts: retree.norm, at each kind. -/
import Derived.Test.YtbnahmeaeakhhaaNf
import Derived.Test.YtbnahmeaeakhhaaN7b
import Derived.Test.YtbnahmeaeakhhaaN8a
namespace Go.Proofs.Ytbnahmeaeakhhaa.B
set_option linter.unusedVariables false
set_option linter.unusedSimpArgs false
open Go Go.RowKit Classical

set_option maxRecDepth 100000 in
set_option maxHeartbeats 16000000 in
theorem norm_k8 (s : List Span) (args : List Re) (mn mx : Int) (ng : Bool) (hg : Good (.mk 8 s args mn mx ng)) (hz : sz (.mk 8 s args mn mx ng) ≤ 1048576) (ih : ∀ a ∈ args, NormS a) : NormS (.mk 8 s args mn mx ng) := by
  intro H cs w hr hs
  have hnode := good_node hg
  have hga := good_args hg
  have hst := set_len hnode
  rw [sz_mk] at hz
  have hln := len_szL args
  have hmz := map_sz hga
  have hgl : ∀ a ∈ args.map normF, Good a := fun a ha => by obtain ⟨b, hb, rfl⟩ := List.mem_map.1 ha; exact (normF_ok b (hga b hb)).1
  have heach := each_norm normF H 8 s args mn mx ng cs
  obtain ⟨A1, c1, A2, c2, rfl, h1, h2⟩ := hr.open
  have HN := Aside.mk (normF_eq 8 s args mn mx ng)
  have hlm : (args.map normF).length = args.length := List.length_map ..
  rw [← hlm] at hnode
  generalize args.map normF = l at *
  have HG := Aside.mk (And.intro hnode (And.intro hgl (And.intro hmz (And.intro hlm hz))))
  have hE := fun (w : World) hs => heach w hr hs hst (by omega) (fun a ha H' cs' w' hr' hs' => ih a ha H' cs' w' hr' hs')
  replace hE := Aside.mk hE
  clear hnode hga hst hln hmz hgl heach hr ih hg hlm
  have hx := Aside.mk (Ext.refl hs)
  go_enter Try.func88, Try.ntmps88
  go_wp2_with fail
  have hszw := hx.out.size
  have kr_ : ((w.alloc (.cells #[.int .i64 8, .slice A1 s.length c1, .slice A2 args.length c2, .int .i64 mn, .int .i64 mx, .bool ng] 25)).alloc (.cells #[.int .i64 0, .slice none 0 0, .slice none 0 0, .int .i64 0, .int .i64 0, .bool false] 25)).heap[w.heap.size]? = some (.cells #[.int .i64 8, .slice A1 s.length c1, .slice A2 args.length c2, .int .i64 mn, .int .i64 mx, .bool ng] 25) := (boxA (heap_alloc_new _ _) (.cells #[.int .i64 0, .slice none 0 0, .slice none 0 0, .int .i64 0, .int .i64 0, .bool false] 25))
  have kz_ : ((w.alloc (.cells #[.int .i64 8, .slice A1 s.length c1, .slice A2 args.length c2, .int .i64 mn, .int .i64 mx, .bool ng] 25)).alloc (.cells #[.int .i64 0, .slice none 0 0, .slice none 0 0, .int .i64 0, .int .i64 0, .bool false] 25)).heap[w.heap.size + 1]? = some (.cells #[.int .i64 0, .slice none 0 0, .slice none 0 0, .int .i64 0, .int .i64 0, .bool false] 25) := (by rw [show w.heap.size + 1 = ((w.alloc (.cells #[.int .i64 8, .slice A1 s.length c1, .slice A2 args.length c2, .int .i64 mn, .int .i64 mx, .bool ng] 25))).heap.size by simp]; exact heap_alloc_new _ _)
  have nr := Aside.mk (fun o => hx.out.sat.new (b := w.heap.size) (show w.heap.size ≤ _ by omega) o)
  have nz := Aside.mk (fun o => hx.out.sat.new (b := w.heap.size + 1) (show w.heap.size ≤ _ by omega) o)
  replace hx := Aside.mk (((hx.out.alloc (.cells #[.int .i64 8, .slice A1 s.length c1, .slice A2 args.length c2, .int .i64 mn, .int .i64 mx, .bool ng] 25)).alloc (.cells #[.int .i64 0, .slice none 0 0, .slice none 0 0, .int .i64 0, .int .i64 0, .bool false] 25)))
  generalize ((w.alloc (.cells #[.int .i64 8, .slice A1 s.length c1, .slice A2 args.length c2, .int .i64 mn, .int .i64 mx, .bool ng] 25)).alloc (.cells #[.int .i64 0, .slice none 0 0, .slice none 0 0, .int .i64 0, .int .i64 0, .bool false] 25)) = W1 at *
  have kr := Aside.mk kr_
  clear kr_
  have kz := Aside.mk kz_
  clear kz_
  refine (hE.out _ (hs.below hx.out.below)).mono ?_
  rintro e w1 ⟨H1, cs1, rfl, hr1, hz1⟩
  have hle := hz1.le
  replace nr := Aside.mk (fun o => (hz1.old _ o (boxL kr.out)).trans (nr.out o))
  replace nz := Aside.mk (fun o => (hz1.old _ o (boxL kz.out)).trans (nz.out o))
  replace kr := Aside.mk (box_below kr.out hz1.below)
  replace kz := Aside.mk (box_below kz.out hz1.below)
  replace hx := Aside.mk (hx.out.trans hz1)
  clear hle hz1
  have hr0 := hr1
  obtain ⟨A3, c3, A4, c4, rfl, -, h4⟩ := hr1.open
  replace hr0 := Aside.mk hr0
  replace h4 := Aside.mk h4
  have lr : w.heap.size < w1.heap.size := boxL kr.out
  have cr0 : w1.cell? ⟨w.heap.size, 0, none⟩ = some (.int .i64 8) := (boxC kr.out 0).1
  have fr0 : w1.frozen? ⟨w.heap.size, 0, none⟩ = false := (boxC kr.out 0).2
  have cr1 : w1.cell? ⟨w.heap.size, 1, none⟩ = some (.slice A1 s.length c1) := (boxC kr.out 1).1
  have fr1 : w1.frozen? ⟨w.heap.size, 1, none⟩ = false := (boxC kr.out 1).2
  have cr2 : w1.cell? ⟨w.heap.size, 2, none⟩ = some (.slice A2 args.length c2) := (boxC kr.out 2).1
  have fr2 : w1.frozen? ⟨w.heap.size, 2, none⟩ = false := (boxC kr.out 2).2
  have cr3 : w1.cell? ⟨w.heap.size, 3, none⟩ = some (.int .i64 mn) := (boxC kr.out 3).1
  have fr3 : w1.frozen? ⟨w.heap.size, 3, none⟩ = false := (boxC kr.out 3).2
  have cr4 : w1.cell? ⟨w.heap.size, 4, none⟩ = some (.int .i64 mx) := (boxC kr.out 4).1
  have fr4 : w1.frozen? ⟨w.heap.size, 4, none⟩ = false := (boxC kr.out 4).2
  have cr5 : w1.cell? ⟨w.heap.size, 5, none⟩ = some (.bool ng) := (boxC kr.out 5).1
  have fr5 : w1.frozen? ⟨w.heap.size, 5, none⟩ = false := (boxC kr.out 5).2
  have lz : w.heap.size + 1 < w1.heap.size := boxL kz.out
  have cz0 : w1.cell? ⟨w.heap.size + 1, 0, none⟩ = some (.int .i64 0) := (boxC kz.out 0).1
  have fz0 : w1.frozen? ⟨w.heap.size + 1, 0, none⟩ = false := (boxC kz.out 0).2
  have cz1 : w1.cell? ⟨w.heap.size + 1, 1, none⟩ = some (.slice none 0 0) := (boxC kz.out 1).1
  have fz1 : w1.frozen? ⟨w.heap.size + 1, 1, none⟩ = false := (boxC kz.out 1).2
  have cz2 : w1.cell? ⟨w.heap.size + 1, 2, none⟩ = some (.slice none 0 0) := (boxC kz.out 2).1
  have fz2 : w1.frozen? ⟨w.heap.size + 1, 2, none⟩ = false := (boxC kz.out 2).2
  have cz3 : w1.cell? ⟨w.heap.size + 1, 3, none⟩ = some (.int .i64 0) := (boxC kz.out 3).1
  have fz3 : w1.frozen? ⟨w.heap.size + 1, 3, none⟩ = false := (boxC kz.out 3).2
  have cz4 : w1.cell? ⟨w.heap.size + 1, 4, none⟩ = some (.int .i64 0) := (boxC kz.out 4).1
  have fz4 : w1.frozen? ⟨w.heap.size + 1, 4, none⟩ = false := (boxC kz.out 4).2
  have cz5 : w1.cell? ⟨w.heap.size + 1, 5, none⟩ = some (.bool false) := (boxC kz.out 5).1
  have fz5 : w1.frozen? ⟨w.heap.size + 1, 5, none⟩ = false := (boxC kz.out 5).2
  have hl1 := HG.out.1
  obtain ⟨a, rfl⟩ : ∃ a, l = [a] := List.length_eq_one_iff.1 (node_one hl1 (by omega))
  clear hl1
  obtain ⟨b, off, k1, s1, a1, u1, v1, g1, P1, d1, P2, d2, rfl, hq, hrd, q0, q1, q2, q3, q4, q5⟩ := cell_elem h4.out hx.out.sat 0 (by simp)
  simp only [List.getElem_cons_zero, Nat.zero_mul, Nat.add_zero, List.length_cons, List.length_nil, Nat.zero_add] at hq q0 q1 q2 q3 q4 q5 ⊢
  subst hq
  have hbz := World.block_lt_of_cell? _ _ q0
  simp only at hbz
  replace hrd := Aside.mk hrd
  have hbr : b ≠ w.heap.size := fun e => elem_block h4.out 0 (by simp) rfl (by rw [e]; exact nr.out _)
  have hbz2 : b ≠ w.heap.size + 1 := fun e => elem_block h4.out 0 (by simp) rfl (by rw [e]; exact nz.out _)
  clear lr cr0 fr0 cr1 fr1 cr2 fr2 cr3 fr3 cr4 fr4 cr5 fr5 lz cz0 fz0 cz1 fz1 cz2 fz2 cz3 fz3 cz4 fz4 cz5 fz5
  have hga := HG.out.2.1 (Re.mk k1 s1 a1 u1 v1 g1) (by simp)
  by_cases e8 : k1 = 8
  case neg =>
    replace hr0 := Aside.mk (show RdRe _ _ [.int .i64 8, .slice A3 s.length c3, .slice (some ⟨b, off, none⟩) 1 c4, .int .i64 mn, .int .i64 mx, .bool ng] from hr0.out)
    have lr : w.heap.size < w1.heap.size := boxL kr.out
    have cr0 : w1.cell? ⟨w.heap.size, 0, none⟩ = some (.int .i64 8) := (boxC kr.out 0).1
    have fr0 : w1.frozen? ⟨w.heap.size, 0, none⟩ = false := (boxC kr.out 0).2
    have cr1 : w1.cell? ⟨w.heap.size, 1, none⟩ = some (.slice A1 s.length c1) := (boxC kr.out 1).1
    have fr1 : w1.frozen? ⟨w.heap.size, 1, none⟩ = false := (boxC kr.out 1).2
    have cr2 : w1.cell? ⟨w.heap.size, 2, none⟩ = some (.slice A2 args.length c2) := (boxC kr.out 2).1
    have fr2 : w1.frozen? ⟨w.heap.size, 2, none⟩ = false := (boxC kr.out 2).2
    have cr3 : w1.cell? ⟨w.heap.size, 3, none⟩ = some (.int .i64 mn) := (boxC kr.out 3).1
    have fr3 : w1.frozen? ⟨w.heap.size, 3, none⟩ = false := (boxC kr.out 3).2
    have cr4 : w1.cell? ⟨w.heap.size, 4, none⟩ = some (.int .i64 mx) := (boxC kr.out 4).1
    have fr4 : w1.frozen? ⟨w.heap.size, 4, none⟩ = false := (boxC kr.out 4).2
    have cr5 : w1.cell? ⟨w.heap.size, 5, none⟩ = some (.bool ng) := (boxC kr.out 5).1
    have fr5 : w1.frozen? ⟨w.heap.size, 5, none⟩ = false := (boxC kr.out 5).2
    have lz : w.heap.size + 1 < w1.heap.size := boxL kz.out
    have cz0 : w1.cell? ⟨w.heap.size + 1, 0, none⟩ = some (.int .i64 0) := (boxC kz.out 0).1
    have fz0 : w1.frozen? ⟨w.heap.size + 1, 0, none⟩ = false := (boxC kz.out 0).2
    have cz1 : w1.cell? ⟨w.heap.size + 1, 1, none⟩ = some (.slice none 0 0) := (boxC kz.out 1).1
    have fz1 : w1.frozen? ⟨w.heap.size + 1, 1, none⟩ = false := (boxC kz.out 1).2
    have cz2 : w1.cell? ⟨w.heap.size + 1, 2, none⟩ = some (.slice none 0 0) := (boxC kz.out 2).1
    have fz2 : w1.frozen? ⟨w.heap.size + 1, 2, none⟩ = false := (boxC kz.out 2).2
    have cz3 : w1.cell? ⟨w.heap.size + 1, 3, none⟩ = some (.int .i64 0) := (boxC kz.out 3).1
    have fz3 : w1.frozen? ⟨w.heap.size + 1, 3, none⟩ = false := (boxC kz.out 3).2
    have cz4 : w1.cell? ⟨w.heap.size + 1, 4, none⟩ = some (.int .i64 0) := (boxC kz.out 4).1
    have fz4 : w1.frozen? ⟨w.heap.size + 1, 4, none⟩ = false := (boxC kz.out 4).2
    have cz5 : w1.cell? ⟨w.heap.size + 1, 5, none⟩ = some (.bool false) := (boxC kz.out 5).1
    have fz5 : w1.frozen? ⟨w.heap.size + 1, 5, none⟩ = false := (boxC kz.out 5).2
    go_wp2_with fail
    clear q0 q1 q2 q3 q4 q5
    clear lr cr0 fr0 cr1 fr1 cr2 fr2 cr3 fr3 cr4 fr4 cr5 fr5 lz cz0 fz0 cz1 fz1 cz2 fz2 cz3 fz3 cz4 fz4 cz5 fz5
    have kr_ : ((((((w1.setCell ⟨w.heap.size, 0, none⟩ (.int .i64 8)).setCell ⟨w.heap.size, 1, none⟩ (.slice A3 s.length c3)).setCell ⟨w.heap.size, 2, none⟩ (.slice (some ⟨b, off, none⟩) 1 c4)).setCell ⟨w.heap.size, 3, none⟩ (.int .i64 mn)).setCell ⟨w.heap.size, 4, none⟩ (.int .i64 mx)).setCell ⟨w.heap.size, 5, none⟩ (.bool ng)).heap[w.heap.size]? = some (.cells #[.int .i64 8, .slice A3 s.length c3, .slice (some ⟨b, off, none⟩) 1 c4, .int .i64 mn, .int .i64 mx, .bool ng] 25) := (boxS (boxS (boxS (boxS (boxS (boxS kr.out 0 (.int .i64 8)) 1 (.slice A3 s.length c3)) 2 (.slice (some ⟨b, off, none⟩) 1 c4)) 3 (.int .i64 mn)) 4 (.int .i64 mx)) 5 (.bool ng))
    have kz_ : ((((((w1.setCell ⟨w.heap.size, 0, none⟩ (.int .i64 8)).setCell ⟨w.heap.size, 1, none⟩ (.slice A3 s.length c3)).setCell ⟨w.heap.size, 2, none⟩ (.slice (some ⟨b, off, none⟩) 1 c4)).setCell ⟨w.heap.size, 3, none⟩ (.int .i64 mn)).setCell ⟨w.heap.size, 4, none⟩ (.int .i64 mx)).setCell ⟨w.heap.size, 5, none⟩ (.bool ng)).heap[w.heap.size + 1]? = some (.cells #[.int .i64 0, .slice none 0 0, .slice none 0 0, .int .i64 0, .int .i64 0, .bool false] 25) := (boxS_ne (boxS_ne (boxS_ne (boxS_ne (boxS_ne (boxS_ne kz.out (by first | omega | (simp; omega)) 0 (.int .i64 8)) (by first | omega | (simp; omega)) 1 (.slice A3 s.length c3)) (by first | omega | (simp; omega)) 2 (.slice (some ⟨b, off, none⟩) 1 c4)) (by first | omega | (simp; omega)) 3 (.int .i64 mn)) (by first | omega | (simp; omega)) 4 (.int .i64 mx)) (by first | omega | (simp; omega)) 5 (.bool ng))
    replace hx := Aside.mk (((((((hx.out.setCell (b := w.heap.size) (o := 0) (by first | omega | (simp; omega)) nr.out (.int .i64 8)).setCell (b := w.heap.size) (o := 1) (by first | omega | (simp; omega)) nr.out (.slice A3 s.length c3)).setCell (b := w.heap.size) (o := 2) (by first | omega | (simp; omega)) nr.out (.slice (some ⟨b, off, none⟩) 1 c4)).setCell (b := w.heap.size) (o := 3) (by first | omega | (simp; omega)) nr.out (.int .i64 mn)).setCell (b := w.heap.size) (o := 4) (by first | omega | (simp; omega)) nr.out (.int .i64 mx)).setCell (b := w.heap.size) (o := 5) (by first | omega | (simp; omega)) nr.out (.bool ng)))
    generalize ((((((w1.setCell ⟨w.heap.size, 0, none⟩ (.int .i64 8)).setCell ⟨w.heap.size, 1, none⟩ (.slice A3 s.length c3)).setCell ⟨w.heap.size, 2, none⟩ (.slice (some ⟨b, off, none⟩) 1 c4)).setCell ⟨w.heap.size, 3, none⟩ (.int .i64 mn)).setCell ⟨w.heap.size, 4, none⟩ (.int .i64 mx)).setCell ⟨w.heap.size, 5, none⟩ (.bool ng)) = W2 at *
    replace kr := Aside.mk kr_
    clear kr_
    replace kz := Aside.mk kz_
    clear kz_
    have kr_ : ((((((W2.setCell ⟨w.heap.size + 1, 0, none⟩ (.int .i64 8)).setCell ⟨w.heap.size + 1, 1, none⟩ (.slice A3 s.length c3)).setCell ⟨w.heap.size + 1, 2, none⟩ (.slice (some ⟨b, off, none⟩) 1 c4)).setCell ⟨w.heap.size + 1, 3, none⟩ (.int .i64 mn)).setCell ⟨w.heap.size + 1, 4, none⟩ (.int .i64 mx)).setCell ⟨w.heap.size + 1, 5, none⟩ (.bool ng)).heap[w.heap.size]? = some (.cells #[.int .i64 8, .slice A3 s.length c3, .slice (some ⟨b, off, none⟩) 1 c4, .int .i64 mn, .int .i64 mx, .bool ng] 25) := (boxS_ne (boxS_ne (boxS_ne (boxS_ne (boxS_ne (boxS_ne kr.out (by first | omega | (simp; omega)) 0 (.int .i64 8)) (by first | omega | (simp; omega)) 1 (.slice A3 s.length c3)) (by first | omega | (simp; omega)) 2 (.slice (some ⟨b, off, none⟩) 1 c4)) (by first | omega | (simp; omega)) 3 (.int .i64 mn)) (by first | omega | (simp; omega)) 4 (.int .i64 mx)) (by first | omega | (simp; omega)) 5 (.bool ng))
    have kz_ : ((((((W2.setCell ⟨w.heap.size + 1, 0, none⟩ (.int .i64 8)).setCell ⟨w.heap.size + 1, 1, none⟩ (.slice A3 s.length c3)).setCell ⟨w.heap.size + 1, 2, none⟩ (.slice (some ⟨b, off, none⟩) 1 c4)).setCell ⟨w.heap.size + 1, 3, none⟩ (.int .i64 mn)).setCell ⟨w.heap.size + 1, 4, none⟩ (.int .i64 mx)).setCell ⟨w.heap.size + 1, 5, none⟩ (.bool ng)).heap[w.heap.size + 1]? = some (.cells #[.int .i64 8, .slice A3 s.length c3, .slice (some ⟨b, off, none⟩) 1 c4, .int .i64 mn, .int .i64 mx, .bool ng] 25) := (boxS (boxS (boxS (boxS (boxS (boxS kz.out 0 (.int .i64 8)) 1 (.slice A3 s.length c3)) 2 (.slice (some ⟨b, off, none⟩) 1 c4)) 3 (.int .i64 mn)) 4 (.int .i64 mx)) 5 (.bool ng))
    replace hx := Aside.mk (((((((hx.out.setCell (b := w.heap.size + 1) (o := 0) (by first | omega | (simp; omega)) nz.out (.int .i64 8)).setCell (b := w.heap.size + 1) (o := 1) (by first | omega | (simp; omega)) nz.out (.slice A3 s.length c3)).setCell (b := w.heap.size + 1) (o := 2) (by first | omega | (simp; omega)) nz.out (.slice (some ⟨b, off, none⟩) 1 c4)).setCell (b := w.heap.size + 1) (o := 3) (by first | omega | (simp; omega)) nz.out (.int .i64 mn)).setCell (b := w.heap.size + 1) (o := 4) (by first | omega | (simp; omega)) nz.out (.int .i64 mx)).setCell (b := w.heap.size + 1) (o := 5) (by first | omega | (simp; omega)) nz.out (.bool ng)))
    generalize ((((((W2.setCell ⟨w.heap.size + 1, 0, none⟩ (.int .i64 8)).setCell ⟨w.heap.size + 1, 1, none⟩ (.slice A3 s.length c3)).setCell ⟨w.heap.size + 1, 2, none⟩ (.slice (some ⟨b, off, none⟩) 1 c4)).setCell ⟨w.heap.size + 1, 3, none⟩ (.int .i64 mn)).setCell ⟨w.heap.size + 1, 4, none⟩ (.int .i64 mx)).setCell ⟨w.heap.size + 1, 5, none⟩ (.bool ng)) = W3 at *
    replace kr := Aside.mk kr_
    clear kr_
    replace kz := Aside.mk kz_
    clear kz_
    refine bodyPost_ret (resC rfl _ _ _ rfl (run_loadVar_row _ _ _ _ _ (0, 0) _ kz.out Try.underlying25 rfl (by kernel_rfl))) rfl ?_
    rw [HN.out]
    rw [show normTop 8 s [Re.mk k1 s1 a1 u1 v1 g1] mn mx ng = Re.mk 8 s [Re.mk k1 s1 a1 u1 v1 g1] mn mx ng from by simp [normTop, Re.kind, e8]]
    exact ⟨_, _, rfl, hr0.out, hx.out⟩
  subst e8
  obtain ⟨x, rfl⟩ : ∃ x, a1 = [x] := List.length_eq_one_iff.1 (node_one (good_node hga) (by omega))
  clear hga
  obtain ⟨_, _, _, _, e9, -, hra⟩ := hrd.out.open
  simp only [List.cons.injEq, Value.slice.injEq, true_and, and_true] at e9
  obtain ⟨⟨rfl, rfl⟩, rfl, rfl⟩ := e9
  obtain ⟨b2, off2, k2, s2, a2, u2, v2, g2, R1, f1, R2, f2, rfl, hq, hrx, t0, t1, t2, t3, t4, t5⟩ := cell_elem hra hx.out.sat 0 (by simp)
  simp only [List.getElem_cons_zero, Nat.zero_mul, Nat.add_zero, List.length_cons, List.length_nil, Nat.zero_add] at hq t0 t1 t2 t3 t4 t5 q0 q1 q2 q3 q4 q5 ⊢
  subst hq
  have hb2z := World.block_lt_of_cell? _ _ t0
  simp only at hb2z
  replace hrx := Aside.mk hrx
  have hbr2 : b2 ≠ w.heap.size := fun e => elem_block hra 0 (by simp) rfl (by rw [e]; exact nr.out _)
  have hbz3 : b2 ≠ w.heap.size + 1 := fun e => elem_block hra 0 (by simp) rfl (by rw [e]; exact nz.out _)
  clear hra
  have lr : w.heap.size < w1.heap.size := boxL kr.out
  have cr0 : w1.cell? ⟨w.heap.size, 0, none⟩ = some (.int .i64 8) := (boxC kr.out 0).1
  have fr0 : w1.frozen? ⟨w.heap.size, 0, none⟩ = false := (boxC kr.out 0).2
  have cr1 : w1.cell? ⟨w.heap.size, 1, none⟩ = some (.slice A1 s.length c1) := (boxC kr.out 1).1
  have fr1 : w1.frozen? ⟨w.heap.size, 1, none⟩ = false := (boxC kr.out 1).2
  have cr2 : w1.cell? ⟨w.heap.size, 2, none⟩ = some (.slice A2 args.length c2) := (boxC kr.out 2).1
  have fr2 : w1.frozen? ⟨w.heap.size, 2, none⟩ = false := (boxC kr.out 2).2
  have cr3 : w1.cell? ⟨w.heap.size, 3, none⟩ = some (.int .i64 mn) := (boxC kr.out 3).1
  have fr3 : w1.frozen? ⟨w.heap.size, 3, none⟩ = false := (boxC kr.out 3).2
  have cr4 : w1.cell? ⟨w.heap.size, 4, none⟩ = some (.int .i64 mx) := (boxC kr.out 4).1
  have fr4 : w1.frozen? ⟨w.heap.size, 4, none⟩ = false := (boxC kr.out 4).2
  have cr5 : w1.cell? ⟨w.heap.size, 5, none⟩ = some (.bool ng) := (boxC kr.out 5).1
  have fr5 : w1.frozen? ⟨w.heap.size, 5, none⟩ = false := (boxC kr.out 5).2
  have lz : w.heap.size + 1 < w1.heap.size := boxL kz.out
  have cz0 : w1.cell? ⟨w.heap.size + 1, 0, none⟩ = some (.int .i64 0) := (boxC kz.out 0).1
  have fz0 : w1.frozen? ⟨w.heap.size + 1, 0, none⟩ = false := (boxC kz.out 0).2
  have cz1 : w1.cell? ⟨w.heap.size + 1, 1, none⟩ = some (.slice none 0 0) := (boxC kz.out 1).1
  have fz1 : w1.frozen? ⟨w.heap.size + 1, 1, none⟩ = false := (boxC kz.out 1).2
  have cz2 : w1.cell? ⟨w.heap.size + 1, 2, none⟩ = some (.slice none 0 0) := (boxC kz.out 2).1
  have fz2 : w1.frozen? ⟨w.heap.size + 1, 2, none⟩ = false := (boxC kz.out 2).2
  have cz3 : w1.cell? ⟨w.heap.size + 1, 3, none⟩ = some (.int .i64 0) := (boxC kz.out 3).1
  have fz3 : w1.frozen? ⟨w.heap.size + 1, 3, none⟩ = false := (boxC kz.out 3).2
  have cz4 : w1.cell? ⟨w.heap.size + 1, 4, none⟩ = some (.int .i64 0) := (boxC kz.out 4).1
  have fz4 : w1.frozen? ⟨w.heap.size + 1, 4, none⟩ = false := (boxC kz.out 4).2
  have cz5 : w1.cell? ⟨w.heap.size + 1, 5, none⟩ = some (.bool false) := (boxC kz.out 5).1
  have fz5 : w1.frozen? ⟨w.heap.size + 1, 5, none⟩ = false := (boxC kz.out 5).2
  go_wp2_with fail
  clear q0 q1 q2 q3 q4 q5
  clear lr cr0 fr0 cr1 fr1 cr2 fr2 cr3 fr3 cr4 fr4 cr5 fr5 lz cz0 fz0 cz1 fz1 cz2 fz2 cz3 fz3 cz4 fz4 cz5 fz5 t0 t1 t2 t3 t4 t5
  have kr_ : ((((((w1.setCell ⟨w.heap.size, 0, none⟩ (.int .i64 8)).setCell ⟨w.heap.size, 1, none⟩ (.slice A3 s.length c3)).setCell ⟨w.heap.size, 2, none⟩ (.slice (some ⟨b, off, none⟩) 1 c4)).setCell ⟨w.heap.size, 3, none⟩ (.int .i64 mn)).setCell ⟨w.heap.size, 4, none⟩ (.int .i64 mx)).setCell ⟨w.heap.size, 5, none⟩ (.bool ng)).heap[w.heap.size]? = some (.cells #[.int .i64 8, .slice A3 s.length c3, .slice (some ⟨b, off, none⟩) 1 c4, .int .i64 mn, .int .i64 mx, .bool ng] 25) := (boxS (boxS (boxS (boxS (boxS (boxS kr.out 0 (.int .i64 8)) 1 (.slice A3 s.length c3)) 2 (.slice (some ⟨b, off, none⟩) 1 c4)) 3 (.int .i64 mn)) 4 (.int .i64 mx)) 5 (.bool ng))
  have kz_ : ((((((w1.setCell ⟨w.heap.size, 0, none⟩ (.int .i64 8)).setCell ⟨w.heap.size, 1, none⟩ (.slice A3 s.length c3)).setCell ⟨w.heap.size, 2, none⟩ (.slice (some ⟨b, off, none⟩) 1 c4)).setCell ⟨w.heap.size, 3, none⟩ (.int .i64 mn)).setCell ⟨w.heap.size, 4, none⟩ (.int .i64 mx)).setCell ⟨w.heap.size, 5, none⟩ (.bool ng)).heap[w.heap.size + 1]? = some (.cells #[.int .i64 0, .slice none 0 0, .slice none 0 0, .int .i64 0, .int .i64 0, .bool false] 25) := (boxS_ne (boxS_ne (boxS_ne (boxS_ne (boxS_ne (boxS_ne kz.out (by first | omega | (simp; omega)) 0 (.int .i64 8)) (by first | omega | (simp; omega)) 1 (.slice A3 s.length c3)) (by first | omega | (simp; omega)) 2 (.slice (some ⟨b, off, none⟩) 1 c4)) (by first | omega | (simp; omega)) 3 (.int .i64 mn)) (by first | omega | (simp; omega)) 4 (.int .i64 mx)) (by first | omega | (simp; omega)) 5 (.bool ng))
  replace hx := Aside.mk (((((((hx.out.setCell (b := w.heap.size) (o := 0) (by first | omega | (simp; omega)) nr.out (.int .i64 8)).setCell (b := w.heap.size) (o := 1) (by first | omega | (simp; omega)) nr.out (.slice A3 s.length c3)).setCell (b := w.heap.size) (o := 2) (by first | omega | (simp; omega)) nr.out (.slice (some ⟨b, off, none⟩) 1 c4)).setCell (b := w.heap.size) (o := 3) (by first | omega | (simp; omega)) nr.out (.int .i64 mn)).setCell (b := w.heap.size) (o := 4) (by first | omega | (simp; omega)) nr.out (.int .i64 mx)).setCell (b := w.heap.size) (o := 5) (by first | omega | (simp; omega)) nr.out (.bool ng)))
  generalize ((((((w1.setCell ⟨w.heap.size, 0, none⟩ (.int .i64 8)).setCell ⟨w.heap.size, 1, none⟩ (.slice A3 s.length c3)).setCell ⟨w.heap.size, 2, none⟩ (.slice (some ⟨b, off, none⟩) 1 c4)).setCell ⟨w.heap.size, 3, none⟩ (.int .i64 mn)).setCell ⟨w.heap.size, 4, none⟩ (.int .i64 mx)).setCell ⟨w.heap.size, 5, none⟩ (.bool ng)) = W4 at *
  replace kr := Aside.mk kr_
  clear kr_
  replace kz := Aside.mk kz_
  clear kz_
  have kr_ : ((((((W4.setCell ⟨w.heap.size + 1, 0, none⟩ (.int .i64 k2)).setCell ⟨w.heap.size + 1, 1, none⟩ (.slice R1 s2.length f1)).setCell ⟨w.heap.size + 1, 2, none⟩ (.slice R2 a2.length f2)).setCell ⟨w.heap.size + 1, 3, none⟩ (.int .i64 u2)).setCell ⟨w.heap.size + 1, 4, none⟩ (.int .i64 v2)).setCell ⟨w.heap.size + 1, 5, none⟩ (.bool g2)).heap[w.heap.size]? = some (.cells #[.int .i64 8, .slice A3 s.length c3, .slice (some ⟨b, off, none⟩) 1 c4, .int .i64 mn, .int .i64 mx, .bool ng] 25) := (boxS_ne (boxS_ne (boxS_ne (boxS_ne (boxS_ne (boxS_ne kr.out (by first | omega | (simp; omega)) 0 (.int .i64 k2)) (by first | omega | (simp; omega)) 1 (.slice R1 s2.length f1)) (by first | omega | (simp; omega)) 2 (.slice R2 a2.length f2)) (by first | omega | (simp; omega)) 3 (.int .i64 u2)) (by first | omega | (simp; omega)) 4 (.int .i64 v2)) (by first | omega | (simp; omega)) 5 (.bool g2))
  have kz_ : ((((((W4.setCell ⟨w.heap.size + 1, 0, none⟩ (.int .i64 k2)).setCell ⟨w.heap.size + 1, 1, none⟩ (.slice R1 s2.length f1)).setCell ⟨w.heap.size + 1, 2, none⟩ (.slice R2 a2.length f2)).setCell ⟨w.heap.size + 1, 3, none⟩ (.int .i64 u2)).setCell ⟨w.heap.size + 1, 4, none⟩ (.int .i64 v2)).setCell ⟨w.heap.size + 1, 5, none⟩ (.bool g2)).heap[w.heap.size + 1]? = some (.cells #[.int .i64 k2, .slice R1 s2.length f1, .slice R2 a2.length f2, .int .i64 u2, .int .i64 v2, .bool g2] 25) := (boxS (boxS (boxS (boxS (boxS (boxS kz.out 0 (.int .i64 k2)) 1 (.slice R1 s2.length f1)) 2 (.slice R2 a2.length f2)) 3 (.int .i64 u2)) 4 (.int .i64 v2)) 5 (.bool g2))
  replace hx := Aside.mk (((((((hx.out.setCell (b := w.heap.size + 1) (o := 0) (by first | omega | (simp; omega)) nz.out (.int .i64 k2)).setCell (b := w.heap.size + 1) (o := 1) (by first | omega | (simp; omega)) nz.out (.slice R1 s2.length f1)).setCell (b := w.heap.size + 1) (o := 2) (by first | omega | (simp; omega)) nz.out (.slice R2 a2.length f2)).setCell (b := w.heap.size + 1) (o := 3) (by first | omega | (simp; omega)) nz.out (.int .i64 u2)).setCell (b := w.heap.size + 1) (o := 4) (by first | omega | (simp; omega)) nz.out (.int .i64 v2)).setCell (b := w.heap.size + 1) (o := 5) (by first | omega | (simp; omega)) nz.out (.bool g2)))
  generalize ((((((W4.setCell ⟨w.heap.size + 1, 0, none⟩ (.int .i64 k2)).setCell ⟨w.heap.size + 1, 1, none⟩ (.slice R1 s2.length f1)).setCell ⟨w.heap.size + 1, 2, none⟩ (.slice R2 a2.length f2)).setCell ⟨w.heap.size + 1, 3, none⟩ (.int .i64 u2)).setCell ⟨w.heap.size + 1, 4, none⟩ (.int .i64 v2)).setCell ⟨w.heap.size + 1, 5, none⟩ (.bool g2)) = W5 at *
  replace kr := Aside.mk kr_
  clear kr_
  replace kz := Aside.mk kz_
  clear kz_
  refine bodyPost_ret (resC rfl _ _ _ rfl (run_loadVar_row _ _ _ _ _ (0, 0) _ kz.out Try.underlying25 rfl (by kernel_rfl))) rfl ?_
  rw [HN.out]
  rw [show normTop 8 s [Re.mk 8 s1 [Re.mk k2 s2 a2 u2 v2 g2] u1 v1 g1] mn mx ng = Re.mk k2 s2 a2 u2 v2 g2 from by simp [normTop, Re.kind, Re.args]]
  exact ⟨_, _, rfl, hrx.out, hx.out⟩
end Go.Proofs.Ytbnahmeaeakhhaa.B

namespace Go.Proofs.Ytbnahmeaeakhhaa.B
set_option linter.unusedVariables false
set_option linter.unusedSimpArgs false
open Go Go.RowKit Classical

set_option maxRecDepth 100000 in
set_option maxHeartbeats 16000000 in
theorem norm_k0 (s : List Span) (args : List Re) (mn mx : Int) (ng : Bool) (hg : Good (.mk 0 s args mn mx ng)) (hz : sz (.mk 0 s args mn mx ng) ≤ 1048576) (ih : ∀ a ∈ args, NormS a) : NormS (.mk 0 s args mn mx ng) := by
  intro H cs w hr hs
  have hnode := good_node hg
  have hga := good_args hg
  have hst := set_len hnode
  rw [sz_mk] at hz
  have hln := len_szL args
  have hmz := map_sz hga
  have hgl : ∀ a ∈ args.map normF, Good a := fun a ha => by obtain ⟨b, hb, rfl⟩ := List.mem_map.1 ha; exact (normF_ok b (hga b hb)).1
  have heach := each_norm normF H 0 s args mn mx ng cs
  obtain ⟨A1, c1, A2, c2, rfl, h1, h2⟩ := hr.open
  have HN := Aside.mk (normF_eq 0 s args mn mx ng)
  have hlm : (args.map normF).length = args.length := List.length_map ..
  rw [← hlm] at hnode
  generalize args.map normF = l at *
  have HG := Aside.mk (And.intro hnode (And.intro hgl (And.intro hmz (And.intro hlm hz))))
  have hE := fun (w : World) hs => heach w hr hs hst (by omega) (fun a ha H' cs' w' hr' hs' => ih a ha H' cs' w' hr' hs')
  replace hE := Aside.mk hE
  clear hnode hga hst hln hmz hgl heach hr ih hg hlm
  have hx := Aside.mk (Ext.refl hs)
  go_enter Try.func88, Try.ntmps88
  go_wp2_with fail
  have hszw := hx.out.size
  have kr_ : ((w.alloc (.cells #[.int .i64 0, .slice A1 s.length c1, .slice A2 args.length c2, .int .i64 mn, .int .i64 mx, .bool ng] 25)).alloc (.cells #[.int .i64 0, .slice none 0 0, .slice none 0 0, .int .i64 0, .int .i64 0, .bool false] 25)).heap[w.heap.size]? = some (.cells #[.int .i64 0, .slice A1 s.length c1, .slice A2 args.length c2, .int .i64 mn, .int .i64 mx, .bool ng] 25) := (boxA (heap_alloc_new _ _) (.cells #[.int .i64 0, .slice none 0 0, .slice none 0 0, .int .i64 0, .int .i64 0, .bool false] 25))
  have kz_ : ((w.alloc (.cells #[.int .i64 0, .slice A1 s.length c1, .slice A2 args.length c2, .int .i64 mn, .int .i64 mx, .bool ng] 25)).alloc (.cells #[.int .i64 0, .slice none 0 0, .slice none 0 0, .int .i64 0, .int .i64 0, .bool false] 25)).heap[w.heap.size + 1]? = some (.cells #[.int .i64 0, .slice none 0 0, .slice none 0 0, .int .i64 0, .int .i64 0, .bool false] 25) := (by rw [show w.heap.size + 1 = ((w.alloc (.cells #[.int .i64 0, .slice A1 s.length c1, .slice A2 args.length c2, .int .i64 mn, .int .i64 mx, .bool ng] 25))).heap.size by simp]; exact heap_alloc_new _ _)
  have nr := Aside.mk (fun o => hx.out.sat.new (b := w.heap.size) (show w.heap.size ≤ _ by omega) o)
  have nz := Aside.mk (fun o => hx.out.sat.new (b := w.heap.size + 1) (show w.heap.size ≤ _ by omega) o)
  replace hx := Aside.mk (((hx.out.alloc (.cells #[.int .i64 0, .slice A1 s.length c1, .slice A2 args.length c2, .int .i64 mn, .int .i64 mx, .bool ng] 25)).alloc (.cells #[.int .i64 0, .slice none 0 0, .slice none 0 0, .int .i64 0, .int .i64 0, .bool false] 25)))
  generalize ((w.alloc (.cells #[.int .i64 0, .slice A1 s.length c1, .slice A2 args.length c2, .int .i64 mn, .int .i64 mx, .bool ng] 25)).alloc (.cells #[.int .i64 0, .slice none 0 0, .slice none 0 0, .int .i64 0, .int .i64 0, .bool false] 25)) = W1 at *
  have kr := Aside.mk kr_
  clear kr_
  have kz := Aside.mk kz_
  clear kz_
  refine (hE.out _ (hs.below hx.out.below)).mono ?_
  rintro e w1 ⟨H1, cs1, rfl, hr1, hz1⟩
  have hle := hz1.le
  replace nr := Aside.mk (fun o => (hz1.old _ o (boxL kr.out)).trans (nr.out o))
  replace nz := Aside.mk (fun o => (hz1.old _ o (boxL kz.out)).trans (nz.out o))
  replace kr := Aside.mk (box_below kr.out hz1.below)
  replace kz := Aside.mk (box_below kz.out hz1.below)
  replace hx := Aside.mk (hx.out.trans hz1)
  clear hle hz1
  have hr0 := hr1
  obtain ⟨A3, c3, A4, c4, rfl, -, h4⟩ := hr1.open
  replace hr0 := Aside.mk hr0
  replace h4 := Aside.mk h4
  have lr : w.heap.size < w1.heap.size := boxL kr.out
  have cr0 : w1.cell? ⟨w.heap.size, 0, none⟩ = some (.int .i64 0) := (boxC kr.out 0).1
  have fr0 : w1.frozen? ⟨w.heap.size, 0, none⟩ = false := (boxC kr.out 0).2
  have cr1 : w1.cell? ⟨w.heap.size, 1, none⟩ = some (.slice A1 s.length c1) := (boxC kr.out 1).1
  have fr1 : w1.frozen? ⟨w.heap.size, 1, none⟩ = false := (boxC kr.out 1).2
  have cr2 : w1.cell? ⟨w.heap.size, 2, none⟩ = some (.slice A2 args.length c2) := (boxC kr.out 2).1
  have fr2 : w1.frozen? ⟨w.heap.size, 2, none⟩ = false := (boxC kr.out 2).2
  have cr3 : w1.cell? ⟨w.heap.size, 3, none⟩ = some (.int .i64 mn) := (boxC kr.out 3).1
  have fr3 : w1.frozen? ⟨w.heap.size, 3, none⟩ = false := (boxC kr.out 3).2
  have cr4 : w1.cell? ⟨w.heap.size, 4, none⟩ = some (.int .i64 mx) := (boxC kr.out 4).1
  have fr4 : w1.frozen? ⟨w.heap.size, 4, none⟩ = false := (boxC kr.out 4).2
  have cr5 : w1.cell? ⟨w.heap.size, 5, none⟩ = some (.bool ng) := (boxC kr.out 5).1
  have fr5 : w1.frozen? ⟨w.heap.size, 5, none⟩ = false := (boxC kr.out 5).2
  have lz : w.heap.size + 1 < w1.heap.size := boxL kz.out
  have cz0 : w1.cell? ⟨w.heap.size + 1, 0, none⟩ = some (.int .i64 0) := (boxC kz.out 0).1
  have fz0 : w1.frozen? ⟨w.heap.size + 1, 0, none⟩ = false := (boxC kz.out 0).2
  have cz1 : w1.cell? ⟨w.heap.size + 1, 1, none⟩ = some (.slice none 0 0) := (boxC kz.out 1).1
  have fz1 : w1.frozen? ⟨w.heap.size + 1, 1, none⟩ = false := (boxC kz.out 1).2
  have cz2 : w1.cell? ⟨w.heap.size + 1, 2, none⟩ = some (.slice none 0 0) := (boxC kz.out 2).1
  have fz2 : w1.frozen? ⟨w.heap.size + 1, 2, none⟩ = false := (boxC kz.out 2).2
  have cz3 : w1.cell? ⟨w.heap.size + 1, 3, none⟩ = some (.int .i64 0) := (boxC kz.out 3).1
  have fz3 : w1.frozen? ⟨w.heap.size + 1, 3, none⟩ = false := (boxC kz.out 3).2
  have cz4 : w1.cell? ⟨w.heap.size + 1, 4, none⟩ = some (.int .i64 0) := (boxC kz.out 4).1
  have fz4 : w1.frozen? ⟨w.heap.size + 1, 4, none⟩ = false := (boxC kz.out 4).2
  have cz5 : w1.cell? ⟨w.heap.size + 1, 5, none⟩ = some (.bool false) := (boxC kz.out 5).1
  have fz5 : w1.frozen? ⟨w.heap.size + 1, 5, none⟩ = false := (boxC kz.out 5).2
  go_wp2_with fail
  clear lr cr0 fr0 cr1 fr1 cr2 fr2 cr3 fr3 cr4 fr4 cr5 fr5 lz cz0 fz0 cz1 fz1 cz2 fz2 cz3 fz3 cz4 fz4 cz5 fz5
  have kr_ : ((((((w1.setCell ⟨w.heap.size, 0, none⟩ (.int .i64 0)).setCell ⟨w.heap.size, 1, none⟩ (.slice A3 s.length c3)).setCell ⟨w.heap.size, 2, none⟩ (.slice A4 l.length c4)).setCell ⟨w.heap.size, 3, none⟩ (.int .i64 mn)).setCell ⟨w.heap.size, 4, none⟩ (.int .i64 mx)).setCell ⟨w.heap.size, 5, none⟩ (.bool ng)).heap[w.heap.size]? = some (.cells #[.int .i64 0, .slice A3 s.length c3, .slice A4 l.length c4, .int .i64 mn, .int .i64 mx, .bool ng] 25) := (boxS (boxS (boxS (boxS (boxS (boxS kr.out 0 (.int .i64 0)) 1 (.slice A3 s.length c3)) 2 (.slice A4 l.length c4)) 3 (.int .i64 mn)) 4 (.int .i64 mx)) 5 (.bool ng))
  have kz_ : ((((((w1.setCell ⟨w.heap.size, 0, none⟩ (.int .i64 0)).setCell ⟨w.heap.size, 1, none⟩ (.slice A3 s.length c3)).setCell ⟨w.heap.size, 2, none⟩ (.slice A4 l.length c4)).setCell ⟨w.heap.size, 3, none⟩ (.int .i64 mn)).setCell ⟨w.heap.size, 4, none⟩ (.int .i64 mx)).setCell ⟨w.heap.size, 5, none⟩ (.bool ng)).heap[w.heap.size + 1]? = some (.cells #[.int .i64 0, .slice none 0 0, .slice none 0 0, .int .i64 0, .int .i64 0, .bool false] 25) := (boxS_ne (boxS_ne (boxS_ne (boxS_ne (boxS_ne (boxS_ne kz.out (by first | omega | (simp; omega)) 0 (.int .i64 0)) (by first | omega | (simp; omega)) 1 (.slice A3 s.length c3)) (by first | omega | (simp; omega)) 2 (.slice A4 l.length c4)) (by first | omega | (simp; omega)) 3 (.int .i64 mn)) (by first | omega | (simp; omega)) 4 (.int .i64 mx)) (by first | omega | (simp; omega)) 5 (.bool ng))
  replace hx := Aside.mk (((((((hx.out.setCell (b := w.heap.size) (o := 0) (by first | omega | (simp; omega)) nr.out (.int .i64 0)).setCell (b := w.heap.size) (o := 1) (by first | omega | (simp; omega)) nr.out (.slice A3 s.length c3)).setCell (b := w.heap.size) (o := 2) (by first | omega | (simp; omega)) nr.out (.slice A4 l.length c4)).setCell (b := w.heap.size) (o := 3) (by first | omega | (simp; omega)) nr.out (.int .i64 mn)).setCell (b := w.heap.size) (o := 4) (by first | omega | (simp; omega)) nr.out (.int .i64 mx)).setCell (b := w.heap.size) (o := 5) (by first | omega | (simp; omega)) nr.out (.bool ng)))
  generalize ((((((w1.setCell ⟨w.heap.size, 0, none⟩ (.int .i64 0)).setCell ⟨w.heap.size, 1, none⟩ (.slice A3 s.length c3)).setCell ⟨w.heap.size, 2, none⟩ (.slice A4 l.length c4)).setCell ⟨w.heap.size, 3, none⟩ (.int .i64 mn)).setCell ⟨w.heap.size, 4, none⟩ (.int .i64 mx)).setCell ⟨w.heap.size, 5, none⟩ (.bool ng)) = W2 at *
  replace kr := Aside.mk kr_
  clear kr_
  replace kz := Aside.mk kz_
  clear kz_
  have kr_ : ((((((W2.setCell ⟨w.heap.size + 1, 0, none⟩ (.int .i64 0)).setCell ⟨w.heap.size + 1, 1, none⟩ (.slice A3 s.length c3)).setCell ⟨w.heap.size + 1, 2, none⟩ (.slice A4 l.length c4)).setCell ⟨w.heap.size + 1, 3, none⟩ (.int .i64 mn)).setCell ⟨w.heap.size + 1, 4, none⟩ (.int .i64 mx)).setCell ⟨w.heap.size + 1, 5, none⟩ (.bool ng)).heap[w.heap.size]? = some (.cells #[.int .i64 0, .slice A3 s.length c3, .slice A4 l.length c4, .int .i64 mn, .int .i64 mx, .bool ng] 25) := (boxS_ne (boxS_ne (boxS_ne (boxS_ne (boxS_ne (boxS_ne kr.out (by first | omega | (simp; omega)) 0 (.int .i64 0)) (by first | omega | (simp; omega)) 1 (.slice A3 s.length c3)) (by first | omega | (simp; omega)) 2 (.slice A4 l.length c4)) (by first | omega | (simp; omega)) 3 (.int .i64 mn)) (by first | omega | (simp; omega)) 4 (.int .i64 mx)) (by first | omega | (simp; omega)) 5 (.bool ng))
  have kz_ : ((((((W2.setCell ⟨w.heap.size + 1, 0, none⟩ (.int .i64 0)).setCell ⟨w.heap.size + 1, 1, none⟩ (.slice A3 s.length c3)).setCell ⟨w.heap.size + 1, 2, none⟩ (.slice A4 l.length c4)).setCell ⟨w.heap.size + 1, 3, none⟩ (.int .i64 mn)).setCell ⟨w.heap.size + 1, 4, none⟩ (.int .i64 mx)).setCell ⟨w.heap.size + 1, 5, none⟩ (.bool ng)).heap[w.heap.size + 1]? = some (.cells #[.int .i64 0, .slice A3 s.length c3, .slice A4 l.length c4, .int .i64 mn, .int .i64 mx, .bool ng] 25) := (boxS (boxS (boxS (boxS (boxS (boxS kz.out 0 (.int .i64 0)) 1 (.slice A3 s.length c3)) 2 (.slice A4 l.length c4)) 3 (.int .i64 mn)) 4 (.int .i64 mx)) 5 (.bool ng))
  replace hx := Aside.mk (((((((hx.out.setCell (b := w.heap.size + 1) (o := 0) (by first | omega | (simp; omega)) nz.out (.int .i64 0)).setCell (b := w.heap.size + 1) (o := 1) (by first | omega | (simp; omega)) nz.out (.slice A3 s.length c3)).setCell (b := w.heap.size + 1) (o := 2) (by first | omega | (simp; omega)) nz.out (.slice A4 l.length c4)).setCell (b := w.heap.size + 1) (o := 3) (by first | omega | (simp; omega)) nz.out (.int .i64 mn)).setCell (b := w.heap.size + 1) (o := 4) (by first | omega | (simp; omega)) nz.out (.int .i64 mx)).setCell (b := w.heap.size + 1) (o := 5) (by first | omega | (simp; omega)) nz.out (.bool ng)))
  generalize ((((((W2.setCell ⟨w.heap.size + 1, 0, none⟩ (.int .i64 0)).setCell ⟨w.heap.size + 1, 1, none⟩ (.slice A3 s.length c3)).setCell ⟨w.heap.size + 1, 2, none⟩ (.slice A4 l.length c4)).setCell ⟨w.heap.size + 1, 3, none⟩ (.int .i64 mn)).setCell ⟨w.heap.size + 1, 4, none⟩ (.int .i64 mx)).setCell ⟨w.heap.size + 1, 5, none⟩ (.bool ng)) = W3 at *
  replace kr := Aside.mk kr_
  clear kr_
  replace kz := Aside.mk kz_
  clear kz_
  refine bodyPost_ret (resC rfl _ _ _ rfl (run_loadVar_row _ _ _ _ _ (0, 0) _ kz.out Try.underlying25 rfl (by kernel_rfl))) rfl ?_
  rw [HN.out]
  rw [show normTop 0 s l mn mx ng = Re.mk 0 s l mn mx ng from by rcases l with _ | ⟨a, rest⟩ <;> simp [normTop]]
  exact ⟨_, _, rfl, hr0.out, hx.out⟩
set_option maxRecDepth 100000 in
set_option maxHeartbeats 16000000 in
theorem norm_k1 (s : List Span) (args : List Re) (mn mx : Int) (ng : Bool) (hg : Good (.mk 1 s args mn mx ng)) (hz : sz (.mk 1 s args mn mx ng) ≤ 1048576) (ih : ∀ a ∈ args, NormS a) : NormS (.mk 1 s args mn mx ng) := by
  intro H cs w hr hs
  have hnode := good_node hg
  have hga := good_args hg
  have hst := set_len hnode
  rw [sz_mk] at hz
  have hln := len_szL args
  have hmz := map_sz hga
  have hgl : ∀ a ∈ args.map normF, Good a := fun a ha => by obtain ⟨b, hb, rfl⟩ := List.mem_map.1 ha; exact (normF_ok b (hga b hb)).1
  have heach := each_norm normF H 1 s args mn mx ng cs
  obtain ⟨A1, c1, A2, c2, rfl, h1, h2⟩ := hr.open
  have HN := Aside.mk (normF_eq 1 s args mn mx ng)
  have hlm : (args.map normF).length = args.length := List.length_map ..
  rw [← hlm] at hnode
  generalize args.map normF = l at *
  have HG := Aside.mk (And.intro hnode (And.intro hgl (And.intro hmz (And.intro hlm hz))))
  have hE := fun (w : World) hs => heach w hr hs hst (by omega) (fun a ha H' cs' w' hr' hs' => ih a ha H' cs' w' hr' hs')
  replace hE := Aside.mk hE
  clear hnode hga hst hln hmz hgl heach hr ih hg hlm
  have hx := Aside.mk (Ext.refl hs)
  go_enter Try.func88, Try.ntmps88
  go_wp2_with fail
  have hszw := hx.out.size
  have kr_ : ((w.alloc (.cells #[.int .i64 1, .slice A1 s.length c1, .slice A2 args.length c2, .int .i64 mn, .int .i64 mx, .bool ng] 25)).alloc (.cells #[.int .i64 0, .slice none 0 0, .slice none 0 0, .int .i64 0, .int .i64 0, .bool false] 25)).heap[w.heap.size]? = some (.cells #[.int .i64 1, .slice A1 s.length c1, .slice A2 args.length c2, .int .i64 mn, .int .i64 mx, .bool ng] 25) := (boxA (heap_alloc_new _ _) (.cells #[.int .i64 0, .slice none 0 0, .slice none 0 0, .int .i64 0, .int .i64 0, .bool false] 25))
  have kz_ : ((w.alloc (.cells #[.int .i64 1, .slice A1 s.length c1, .slice A2 args.length c2, .int .i64 mn, .int .i64 mx, .bool ng] 25)).alloc (.cells #[.int .i64 0, .slice none 0 0, .slice none 0 0, .int .i64 0, .int .i64 0, .bool false] 25)).heap[w.heap.size + 1]? = some (.cells #[.int .i64 0, .slice none 0 0, .slice none 0 0, .int .i64 0, .int .i64 0, .bool false] 25) := (by rw [show w.heap.size + 1 = ((w.alloc (.cells #[.int .i64 1, .slice A1 s.length c1, .slice A2 args.length c2, .int .i64 mn, .int .i64 mx, .bool ng] 25))).heap.size by simp]; exact heap_alloc_new _ _)
  have nr := Aside.mk (fun o => hx.out.sat.new (b := w.heap.size) (show w.heap.size ≤ _ by omega) o)
  have nz := Aside.mk (fun o => hx.out.sat.new (b := w.heap.size + 1) (show w.heap.size ≤ _ by omega) o)
  replace hx := Aside.mk (((hx.out.alloc (.cells #[.int .i64 1, .slice A1 s.length c1, .slice A2 args.length c2, .int .i64 mn, .int .i64 mx, .bool ng] 25)).alloc (.cells #[.int .i64 0, .slice none 0 0, .slice none 0 0, .int .i64 0, .int .i64 0, .bool false] 25)))
  generalize ((w.alloc (.cells #[.int .i64 1, .slice A1 s.length c1, .slice A2 args.length c2, .int .i64 mn, .int .i64 mx, .bool ng] 25)).alloc (.cells #[.int .i64 0, .slice none 0 0, .slice none 0 0, .int .i64 0, .int .i64 0, .bool false] 25)) = W1 at *
  have kr := Aside.mk kr_
  clear kr_
  have kz := Aside.mk kz_
  clear kz_
  refine (hE.out _ (hs.below hx.out.below)).mono ?_
  rintro e w1 ⟨H1, cs1, rfl, hr1, hz1⟩
  have hle := hz1.le
  replace nr := Aside.mk (fun o => (hz1.old _ o (boxL kr.out)).trans (nr.out o))
  replace nz := Aside.mk (fun o => (hz1.old _ o (boxL kz.out)).trans (nz.out o))
  replace kr := Aside.mk (box_below kr.out hz1.below)
  replace kz := Aside.mk (box_below kz.out hz1.below)
  replace hx := Aside.mk (hx.out.trans hz1)
  clear hle hz1
  have hr0 := hr1
  obtain ⟨A3, c3, A4, c4, rfl, -, h4⟩ := hr1.open
  replace hr0 := Aside.mk hr0
  replace h4 := Aside.mk h4
  have lr : w.heap.size < w1.heap.size := boxL kr.out
  have cr0 : w1.cell? ⟨w.heap.size, 0, none⟩ = some (.int .i64 1) := (boxC kr.out 0).1
  have fr0 : w1.frozen? ⟨w.heap.size, 0, none⟩ = false := (boxC kr.out 0).2
  have cr1 : w1.cell? ⟨w.heap.size, 1, none⟩ = some (.slice A1 s.length c1) := (boxC kr.out 1).1
  have fr1 : w1.frozen? ⟨w.heap.size, 1, none⟩ = false := (boxC kr.out 1).2
  have cr2 : w1.cell? ⟨w.heap.size, 2, none⟩ = some (.slice A2 args.length c2) := (boxC kr.out 2).1
  have fr2 : w1.frozen? ⟨w.heap.size, 2, none⟩ = false := (boxC kr.out 2).2
  have cr3 : w1.cell? ⟨w.heap.size, 3, none⟩ = some (.int .i64 mn) := (boxC kr.out 3).1
  have fr3 : w1.frozen? ⟨w.heap.size, 3, none⟩ = false := (boxC kr.out 3).2
  have cr4 : w1.cell? ⟨w.heap.size, 4, none⟩ = some (.int .i64 mx) := (boxC kr.out 4).1
  have fr4 : w1.frozen? ⟨w.heap.size, 4, none⟩ = false := (boxC kr.out 4).2
  have cr5 : w1.cell? ⟨w.heap.size, 5, none⟩ = some (.bool ng) := (boxC kr.out 5).1
  have fr5 : w1.frozen? ⟨w.heap.size, 5, none⟩ = false := (boxC kr.out 5).2
  have lz : w.heap.size + 1 < w1.heap.size := boxL kz.out
  have cz0 : w1.cell? ⟨w.heap.size + 1, 0, none⟩ = some (.int .i64 0) := (boxC kz.out 0).1
  have fz0 : w1.frozen? ⟨w.heap.size + 1, 0, none⟩ = false := (boxC kz.out 0).2
  have cz1 : w1.cell? ⟨w.heap.size + 1, 1, none⟩ = some (.slice none 0 0) := (boxC kz.out 1).1
  have fz1 : w1.frozen? ⟨w.heap.size + 1, 1, none⟩ = false := (boxC kz.out 1).2
  have cz2 : w1.cell? ⟨w.heap.size + 1, 2, none⟩ = some (.slice none 0 0) := (boxC kz.out 2).1
  have fz2 : w1.frozen? ⟨w.heap.size + 1, 2, none⟩ = false := (boxC kz.out 2).2
  have cz3 : w1.cell? ⟨w.heap.size + 1, 3, none⟩ = some (.int .i64 0) := (boxC kz.out 3).1
  have fz3 : w1.frozen? ⟨w.heap.size + 1, 3, none⟩ = false := (boxC kz.out 3).2
  have cz4 : w1.cell? ⟨w.heap.size + 1, 4, none⟩ = some (.int .i64 0) := (boxC kz.out 4).1
  have fz4 : w1.frozen? ⟨w.heap.size + 1, 4, none⟩ = false := (boxC kz.out 4).2
  have cz5 : w1.cell? ⟨w.heap.size + 1, 5, none⟩ = some (.bool false) := (boxC kz.out 5).1
  have fz5 : w1.frozen? ⟨w.heap.size + 1, 5, none⟩ = false := (boxC kz.out 5).2
  go_wp2_with fail
  clear lr cr0 fr0 cr1 fr1 cr2 fr2 cr3 fr3 cr4 fr4 cr5 fr5 lz cz0 fz0 cz1 fz1 cz2 fz2 cz3 fz3 cz4 fz4 cz5 fz5
  have kr_ : ((((((w1.setCell ⟨w.heap.size, 0, none⟩ (.int .i64 1)).setCell ⟨w.heap.size, 1, none⟩ (.slice A3 s.length c3)).setCell ⟨w.heap.size, 2, none⟩ (.slice A4 l.length c4)).setCell ⟨w.heap.size, 3, none⟩ (.int .i64 mn)).setCell ⟨w.heap.size, 4, none⟩ (.int .i64 mx)).setCell ⟨w.heap.size, 5, none⟩ (.bool ng)).heap[w.heap.size]? = some (.cells #[.int .i64 1, .slice A3 s.length c3, .slice A4 l.length c4, .int .i64 mn, .int .i64 mx, .bool ng] 25) := (boxS (boxS (boxS (boxS (boxS (boxS kr.out 0 (.int .i64 1)) 1 (.slice A3 s.length c3)) 2 (.slice A4 l.length c4)) 3 (.int .i64 mn)) 4 (.int .i64 mx)) 5 (.bool ng))
  have kz_ : ((((((w1.setCell ⟨w.heap.size, 0, none⟩ (.int .i64 1)).setCell ⟨w.heap.size, 1, none⟩ (.slice A3 s.length c3)).setCell ⟨w.heap.size, 2, none⟩ (.slice A4 l.length c4)).setCell ⟨w.heap.size, 3, none⟩ (.int .i64 mn)).setCell ⟨w.heap.size, 4, none⟩ (.int .i64 mx)).setCell ⟨w.heap.size, 5, none⟩ (.bool ng)).heap[w.heap.size + 1]? = some (.cells #[.int .i64 0, .slice none 0 0, .slice none 0 0, .int .i64 0, .int .i64 0, .bool false] 25) := (boxS_ne (boxS_ne (boxS_ne (boxS_ne (boxS_ne (boxS_ne kz.out (by first | omega | (simp; omega)) 0 (.int .i64 1)) (by first | omega | (simp; omega)) 1 (.slice A3 s.length c3)) (by first | omega | (simp; omega)) 2 (.slice A4 l.length c4)) (by first | omega | (simp; omega)) 3 (.int .i64 mn)) (by first | omega | (simp; omega)) 4 (.int .i64 mx)) (by first | omega | (simp; omega)) 5 (.bool ng))
  replace hx := Aside.mk (((((((hx.out.setCell (b := w.heap.size) (o := 0) (by first | omega | (simp; omega)) nr.out (.int .i64 1)).setCell (b := w.heap.size) (o := 1) (by first | omega | (simp; omega)) nr.out (.slice A3 s.length c3)).setCell (b := w.heap.size) (o := 2) (by first | omega | (simp; omega)) nr.out (.slice A4 l.length c4)).setCell (b := w.heap.size) (o := 3) (by first | omega | (simp; omega)) nr.out (.int .i64 mn)).setCell (b := w.heap.size) (o := 4) (by first | omega | (simp; omega)) nr.out (.int .i64 mx)).setCell (b := w.heap.size) (o := 5) (by first | omega | (simp; omega)) nr.out (.bool ng)))
  generalize ((((((w1.setCell ⟨w.heap.size, 0, none⟩ (.int .i64 1)).setCell ⟨w.heap.size, 1, none⟩ (.slice A3 s.length c3)).setCell ⟨w.heap.size, 2, none⟩ (.slice A4 l.length c4)).setCell ⟨w.heap.size, 3, none⟩ (.int .i64 mn)).setCell ⟨w.heap.size, 4, none⟩ (.int .i64 mx)).setCell ⟨w.heap.size, 5, none⟩ (.bool ng)) = W2 at *
  replace kr := Aside.mk kr_
  clear kr_
  replace kz := Aside.mk kz_
  clear kz_
  have kr_ : ((((((W2.setCell ⟨w.heap.size + 1, 0, none⟩ (.int .i64 1)).setCell ⟨w.heap.size + 1, 1, none⟩ (.slice A3 s.length c3)).setCell ⟨w.heap.size + 1, 2, none⟩ (.slice A4 l.length c4)).setCell ⟨w.heap.size + 1, 3, none⟩ (.int .i64 mn)).setCell ⟨w.heap.size + 1, 4, none⟩ (.int .i64 mx)).setCell ⟨w.heap.size + 1, 5, none⟩ (.bool ng)).heap[w.heap.size]? = some (.cells #[.int .i64 1, .slice A3 s.length c3, .slice A4 l.length c4, .int .i64 mn, .int .i64 mx, .bool ng] 25) := (boxS_ne (boxS_ne (boxS_ne (boxS_ne (boxS_ne (boxS_ne kr.out (by first | omega | (simp; omega)) 0 (.int .i64 1)) (by first | omega | (simp; omega)) 1 (.slice A3 s.length c3)) (by first | omega | (simp; omega)) 2 (.slice A4 l.length c4)) (by first | omega | (simp; omega)) 3 (.int .i64 mn)) (by first | omega | (simp; omega)) 4 (.int .i64 mx)) (by first | omega | (simp; omega)) 5 (.bool ng))
  have kz_ : ((((((W2.setCell ⟨w.heap.size + 1, 0, none⟩ (.int .i64 1)).setCell ⟨w.heap.size + 1, 1, none⟩ (.slice A3 s.length c3)).setCell ⟨w.heap.size + 1, 2, none⟩ (.slice A4 l.length c4)).setCell ⟨w.heap.size + 1, 3, none⟩ (.int .i64 mn)).setCell ⟨w.heap.size + 1, 4, none⟩ (.int .i64 mx)).setCell ⟨w.heap.size + 1, 5, none⟩ (.bool ng)).heap[w.heap.size + 1]? = some (.cells #[.int .i64 1, .slice A3 s.length c3, .slice A4 l.length c4, .int .i64 mn, .int .i64 mx, .bool ng] 25) := (boxS (boxS (boxS (boxS (boxS (boxS kz.out 0 (.int .i64 1)) 1 (.slice A3 s.length c3)) 2 (.slice A4 l.length c4)) 3 (.int .i64 mn)) 4 (.int .i64 mx)) 5 (.bool ng))
  replace hx := Aside.mk (((((((hx.out.setCell (b := w.heap.size + 1) (o := 0) (by first | omega | (simp; omega)) nz.out (.int .i64 1)).setCell (b := w.heap.size + 1) (o := 1) (by first | omega | (simp; omega)) nz.out (.slice A3 s.length c3)).setCell (b := w.heap.size + 1) (o := 2) (by first | omega | (simp; omega)) nz.out (.slice A4 l.length c4)).setCell (b := w.heap.size + 1) (o := 3) (by first | omega | (simp; omega)) nz.out (.int .i64 mn)).setCell (b := w.heap.size + 1) (o := 4) (by first | omega | (simp; omega)) nz.out (.int .i64 mx)).setCell (b := w.heap.size + 1) (o := 5) (by first | omega | (simp; omega)) nz.out (.bool ng)))
  generalize ((((((W2.setCell ⟨w.heap.size + 1, 0, none⟩ (.int .i64 1)).setCell ⟨w.heap.size + 1, 1, none⟩ (.slice A3 s.length c3)).setCell ⟨w.heap.size + 1, 2, none⟩ (.slice A4 l.length c4)).setCell ⟨w.heap.size + 1, 3, none⟩ (.int .i64 mn)).setCell ⟨w.heap.size + 1, 4, none⟩ (.int .i64 mx)).setCell ⟨w.heap.size + 1, 5, none⟩ (.bool ng)) = W3 at *
  replace kr := Aside.mk kr_
  clear kr_
  replace kz := Aside.mk kz_
  clear kz_
  refine bodyPost_ret (resC rfl _ _ _ rfl (run_loadVar_row _ _ _ _ _ (0, 0) _ kz.out Try.underlying25 rfl (by kernel_rfl))) rfl ?_
  rw [HN.out]
  rw [show normTop 1 s l mn mx ng = Re.mk 1 s l mn mx ng from by rcases l with _ | ⟨a, rest⟩ <;> simp [normTop]]
  exact ⟨_, _, rfl, hr0.out, hx.out⟩
set_option maxRecDepth 100000 in
set_option maxHeartbeats 16000000 in
theorem norm_k2 (s : List Span) (args : List Re) (mn mx : Int) (ng : Bool) (hg : Good (.mk 2 s args mn mx ng)) (hz : sz (.mk 2 s args mn mx ng) ≤ 1048576) (ih : ∀ a ∈ args, NormS a) : NormS (.mk 2 s args mn mx ng) := by
  intro H cs w hr hs
  have hnode := good_node hg
  have hga := good_args hg
  have hst := set_len hnode
  rw [sz_mk] at hz
  have hln := len_szL args
  have hmz := map_sz hga
  have hgl : ∀ a ∈ args.map normF, Good a := fun a ha => by obtain ⟨b, hb, rfl⟩ := List.mem_map.1 ha; exact (normF_ok b (hga b hb)).1
  have heach := each_norm normF H 2 s args mn mx ng cs
  obtain ⟨A1, c1, A2, c2, rfl, h1, h2⟩ := hr.open
  have HN := Aside.mk (normF_eq 2 s args mn mx ng)
  have hlm : (args.map normF).length = args.length := List.length_map ..
  rw [← hlm] at hnode
  generalize args.map normF = l at *
  have HG := Aside.mk (And.intro hnode (And.intro hgl (And.intro hmz (And.intro hlm hz))))
  have hE := fun (w : World) hs => heach w hr hs hst (by omega) (fun a ha H' cs' w' hr' hs' => ih a ha H' cs' w' hr' hs')
  replace hE := Aside.mk hE
  clear hnode hga hst hln hmz hgl heach hr ih hg hlm
  have hx := Aside.mk (Ext.refl hs)
  go_enter Try.func88, Try.ntmps88
  go_wp2_with fail
  have hszw := hx.out.size
  have kr_ : ((w.alloc (.cells #[.int .i64 2, .slice A1 s.length c1, .slice A2 args.length c2, .int .i64 mn, .int .i64 mx, .bool ng] 25)).alloc (.cells #[.int .i64 0, .slice none 0 0, .slice none 0 0, .int .i64 0, .int .i64 0, .bool false] 25)).heap[w.heap.size]? = some (.cells #[.int .i64 2, .slice A1 s.length c1, .slice A2 args.length c2, .int .i64 mn, .int .i64 mx, .bool ng] 25) := (boxA (heap_alloc_new _ _) (.cells #[.int .i64 0, .slice none 0 0, .slice none 0 0, .int .i64 0, .int .i64 0, .bool false] 25))
  have kz_ : ((w.alloc (.cells #[.int .i64 2, .slice A1 s.length c1, .slice A2 args.length c2, .int .i64 mn, .int .i64 mx, .bool ng] 25)).alloc (.cells #[.int .i64 0, .slice none 0 0, .slice none 0 0, .int .i64 0, .int .i64 0, .bool false] 25)).heap[w.heap.size + 1]? = some (.cells #[.int .i64 0, .slice none 0 0, .slice none 0 0, .int .i64 0, .int .i64 0, .bool false] 25) := (by rw [show w.heap.size + 1 = ((w.alloc (.cells #[.int .i64 2, .slice A1 s.length c1, .slice A2 args.length c2, .int .i64 mn, .int .i64 mx, .bool ng] 25))).heap.size by simp]; exact heap_alloc_new _ _)
  have nr := Aside.mk (fun o => hx.out.sat.new (b := w.heap.size) (show w.heap.size ≤ _ by omega) o)
  have nz := Aside.mk (fun o => hx.out.sat.new (b := w.heap.size + 1) (show w.heap.size ≤ _ by omega) o)
  replace hx := Aside.mk (((hx.out.alloc (.cells #[.int .i64 2, .slice A1 s.length c1, .slice A2 args.length c2, .int .i64 mn, .int .i64 mx, .bool ng] 25)).alloc (.cells #[.int .i64 0, .slice none 0 0, .slice none 0 0, .int .i64 0, .int .i64 0, .bool false] 25)))
  generalize ((w.alloc (.cells #[.int .i64 2, .slice A1 s.length c1, .slice A2 args.length c2, .int .i64 mn, .int .i64 mx, .bool ng] 25)).alloc (.cells #[.int .i64 0, .slice none 0 0, .slice none 0 0, .int .i64 0, .int .i64 0, .bool false] 25)) = W1 at *
  have kr := Aside.mk kr_
  clear kr_
  have kz := Aside.mk kz_
  clear kz_
  refine (hE.out _ (hs.below hx.out.below)).mono ?_
  rintro e w1 ⟨H1, cs1, rfl, hr1, hz1⟩
  have hle := hz1.le
  replace nr := Aside.mk (fun o => (hz1.old _ o (boxL kr.out)).trans (nr.out o))
  replace nz := Aside.mk (fun o => (hz1.old _ o (boxL kz.out)).trans (nz.out o))
  replace kr := Aside.mk (box_below kr.out hz1.below)
  replace kz := Aside.mk (box_below kz.out hz1.below)
  replace hx := Aside.mk (hx.out.trans hz1)
  clear hle hz1
  have hr0 := hr1
  obtain ⟨A3, c3, A4, c4, rfl, -, h4⟩ := hr1.open
  replace hr0 := Aside.mk hr0
  replace h4 := Aside.mk h4
  have lr : w.heap.size < w1.heap.size := boxL kr.out
  have cr0 : w1.cell? ⟨w.heap.size, 0, none⟩ = some (.int .i64 2) := (boxC kr.out 0).1
  have fr0 : w1.frozen? ⟨w.heap.size, 0, none⟩ = false := (boxC kr.out 0).2
  have cr1 : w1.cell? ⟨w.heap.size, 1, none⟩ = some (.slice A1 s.length c1) := (boxC kr.out 1).1
  have fr1 : w1.frozen? ⟨w.heap.size, 1, none⟩ = false := (boxC kr.out 1).2
  have cr2 : w1.cell? ⟨w.heap.size, 2, none⟩ = some (.slice A2 args.length c2) := (boxC kr.out 2).1
  have fr2 : w1.frozen? ⟨w.heap.size, 2, none⟩ = false := (boxC kr.out 2).2
  have cr3 : w1.cell? ⟨w.heap.size, 3, none⟩ = some (.int .i64 mn) := (boxC kr.out 3).1
  have fr3 : w1.frozen? ⟨w.heap.size, 3, none⟩ = false := (boxC kr.out 3).2
  have cr4 : w1.cell? ⟨w.heap.size, 4, none⟩ = some (.int .i64 mx) := (boxC kr.out 4).1
  have fr4 : w1.frozen? ⟨w.heap.size, 4, none⟩ = false := (boxC kr.out 4).2
  have cr5 : w1.cell? ⟨w.heap.size, 5, none⟩ = some (.bool ng) := (boxC kr.out 5).1
  have fr5 : w1.frozen? ⟨w.heap.size, 5, none⟩ = false := (boxC kr.out 5).2
  have lz : w.heap.size + 1 < w1.heap.size := boxL kz.out
  have cz0 : w1.cell? ⟨w.heap.size + 1, 0, none⟩ = some (.int .i64 0) := (boxC kz.out 0).1
  have fz0 : w1.frozen? ⟨w.heap.size + 1, 0, none⟩ = false := (boxC kz.out 0).2
  have cz1 : w1.cell? ⟨w.heap.size + 1, 1, none⟩ = some (.slice none 0 0) := (boxC kz.out 1).1
  have fz1 : w1.frozen? ⟨w.heap.size + 1, 1, none⟩ = false := (boxC kz.out 1).2
  have cz2 : w1.cell? ⟨w.heap.size + 1, 2, none⟩ = some (.slice none 0 0) := (boxC kz.out 2).1
  have fz2 : w1.frozen? ⟨w.heap.size + 1, 2, none⟩ = false := (boxC kz.out 2).2
  have cz3 : w1.cell? ⟨w.heap.size + 1, 3, none⟩ = some (.int .i64 0) := (boxC kz.out 3).1
  have fz3 : w1.frozen? ⟨w.heap.size + 1, 3, none⟩ = false := (boxC kz.out 3).2
  have cz4 : w1.cell? ⟨w.heap.size + 1, 4, none⟩ = some (.int .i64 0) := (boxC kz.out 4).1
  have fz4 : w1.frozen? ⟨w.heap.size + 1, 4, none⟩ = false := (boxC kz.out 4).2
  have cz5 : w1.cell? ⟨w.heap.size + 1, 5, none⟩ = some (.bool false) := (boxC kz.out 5).1
  have fz5 : w1.frozen? ⟨w.heap.size + 1, 5, none⟩ = false := (boxC kz.out 5).2
  go_wp2_with fail
  clear lr cr0 fr0 cr1 fr1 cr2 fr2 cr3 fr3 cr4 fr4 cr5 fr5 lz cz0 fz0 cz1 fz1 cz2 fz2 cz3 fz3 cz4 fz4 cz5 fz5
  have kr_ : ((((((w1.setCell ⟨w.heap.size, 0, none⟩ (.int .i64 2)).setCell ⟨w.heap.size, 1, none⟩ (.slice A3 s.length c3)).setCell ⟨w.heap.size, 2, none⟩ (.slice A4 l.length c4)).setCell ⟨w.heap.size, 3, none⟩ (.int .i64 mn)).setCell ⟨w.heap.size, 4, none⟩ (.int .i64 mx)).setCell ⟨w.heap.size, 5, none⟩ (.bool ng)).heap[w.heap.size]? = some (.cells #[.int .i64 2, .slice A3 s.length c3, .slice A4 l.length c4, .int .i64 mn, .int .i64 mx, .bool ng] 25) := (boxS (boxS (boxS (boxS (boxS (boxS kr.out 0 (.int .i64 2)) 1 (.slice A3 s.length c3)) 2 (.slice A4 l.length c4)) 3 (.int .i64 mn)) 4 (.int .i64 mx)) 5 (.bool ng))
  have kz_ : ((((((w1.setCell ⟨w.heap.size, 0, none⟩ (.int .i64 2)).setCell ⟨w.heap.size, 1, none⟩ (.slice A3 s.length c3)).setCell ⟨w.heap.size, 2, none⟩ (.slice A4 l.length c4)).setCell ⟨w.heap.size, 3, none⟩ (.int .i64 mn)).setCell ⟨w.heap.size, 4, none⟩ (.int .i64 mx)).setCell ⟨w.heap.size, 5, none⟩ (.bool ng)).heap[w.heap.size + 1]? = some (.cells #[.int .i64 0, .slice none 0 0, .slice none 0 0, .int .i64 0, .int .i64 0, .bool false] 25) := (boxS_ne (boxS_ne (boxS_ne (boxS_ne (boxS_ne (boxS_ne kz.out (by first | omega | (simp; omega)) 0 (.int .i64 2)) (by first | omega | (simp; omega)) 1 (.slice A3 s.length c3)) (by first | omega | (simp; omega)) 2 (.slice A4 l.length c4)) (by first | omega | (simp; omega)) 3 (.int .i64 mn)) (by first | omega | (simp; omega)) 4 (.int .i64 mx)) (by first | omega | (simp; omega)) 5 (.bool ng))
  replace hx := Aside.mk (((((((hx.out.setCell (b := w.heap.size) (o := 0) (by first | omega | (simp; omega)) nr.out (.int .i64 2)).setCell (b := w.heap.size) (o := 1) (by first | omega | (simp; omega)) nr.out (.slice A3 s.length c3)).setCell (b := w.heap.size) (o := 2) (by first | omega | (simp; omega)) nr.out (.slice A4 l.length c4)).setCell (b := w.heap.size) (o := 3) (by first | omega | (simp; omega)) nr.out (.int .i64 mn)).setCell (b := w.heap.size) (o := 4) (by first | omega | (simp; omega)) nr.out (.int .i64 mx)).setCell (b := w.heap.size) (o := 5) (by first | omega | (simp; omega)) nr.out (.bool ng)))
  generalize ((((((w1.setCell ⟨w.heap.size, 0, none⟩ (.int .i64 2)).setCell ⟨w.heap.size, 1, none⟩ (.slice A3 s.length c3)).setCell ⟨w.heap.size, 2, none⟩ (.slice A4 l.length c4)).setCell ⟨w.heap.size, 3, none⟩ (.int .i64 mn)).setCell ⟨w.heap.size, 4, none⟩ (.int .i64 mx)).setCell ⟨w.heap.size, 5, none⟩ (.bool ng)) = W2 at *
  replace kr := Aside.mk kr_
  clear kr_
  replace kz := Aside.mk kz_
  clear kz_
  have kr_ : ((((((W2.setCell ⟨w.heap.size + 1, 0, none⟩ (.int .i64 2)).setCell ⟨w.heap.size + 1, 1, none⟩ (.slice A3 s.length c3)).setCell ⟨w.heap.size + 1, 2, none⟩ (.slice A4 l.length c4)).setCell ⟨w.heap.size + 1, 3, none⟩ (.int .i64 mn)).setCell ⟨w.heap.size + 1, 4, none⟩ (.int .i64 mx)).setCell ⟨w.heap.size + 1, 5, none⟩ (.bool ng)).heap[w.heap.size]? = some (.cells #[.int .i64 2, .slice A3 s.length c3, .slice A4 l.length c4, .int .i64 mn, .int .i64 mx, .bool ng] 25) := (boxS_ne (boxS_ne (boxS_ne (boxS_ne (boxS_ne (boxS_ne kr.out (by first | omega | (simp; omega)) 0 (.int .i64 2)) (by first | omega | (simp; omega)) 1 (.slice A3 s.length c3)) (by first | omega | (simp; omega)) 2 (.slice A4 l.length c4)) (by first | omega | (simp; omega)) 3 (.int .i64 mn)) (by first | omega | (simp; omega)) 4 (.int .i64 mx)) (by first | omega | (simp; omega)) 5 (.bool ng))
  have kz_ : ((((((W2.setCell ⟨w.heap.size + 1, 0, none⟩ (.int .i64 2)).setCell ⟨w.heap.size + 1, 1, none⟩ (.slice A3 s.length c3)).setCell ⟨w.heap.size + 1, 2, none⟩ (.slice A4 l.length c4)).setCell ⟨w.heap.size + 1, 3, none⟩ (.int .i64 mn)).setCell ⟨w.heap.size + 1, 4, none⟩ (.int .i64 mx)).setCell ⟨w.heap.size + 1, 5, none⟩ (.bool ng)).heap[w.heap.size + 1]? = some (.cells #[.int .i64 2, .slice A3 s.length c3, .slice A4 l.length c4, .int .i64 mn, .int .i64 mx, .bool ng] 25) := (boxS (boxS (boxS (boxS (boxS (boxS kz.out 0 (.int .i64 2)) 1 (.slice A3 s.length c3)) 2 (.slice A4 l.length c4)) 3 (.int .i64 mn)) 4 (.int .i64 mx)) 5 (.bool ng))
  replace hx := Aside.mk (((((((hx.out.setCell (b := w.heap.size + 1) (o := 0) (by first | omega | (simp; omega)) nz.out (.int .i64 2)).setCell (b := w.heap.size + 1) (o := 1) (by first | omega | (simp; omega)) nz.out (.slice A3 s.length c3)).setCell (b := w.heap.size + 1) (o := 2) (by first | omega | (simp; omega)) nz.out (.slice A4 l.length c4)).setCell (b := w.heap.size + 1) (o := 3) (by first | omega | (simp; omega)) nz.out (.int .i64 mn)).setCell (b := w.heap.size + 1) (o := 4) (by first | omega | (simp; omega)) nz.out (.int .i64 mx)).setCell (b := w.heap.size + 1) (o := 5) (by first | omega | (simp; omega)) nz.out (.bool ng)))
  generalize ((((((W2.setCell ⟨w.heap.size + 1, 0, none⟩ (.int .i64 2)).setCell ⟨w.heap.size + 1, 1, none⟩ (.slice A3 s.length c3)).setCell ⟨w.heap.size + 1, 2, none⟩ (.slice A4 l.length c4)).setCell ⟨w.heap.size + 1, 3, none⟩ (.int .i64 mn)).setCell ⟨w.heap.size + 1, 4, none⟩ (.int .i64 mx)).setCell ⟨w.heap.size + 1, 5, none⟩ (.bool ng)) = W3 at *
  replace kr := Aside.mk kr_
  clear kr_
  replace kz := Aside.mk kz_
  clear kz_
  refine bodyPost_ret (resC rfl _ _ _ rfl (run_loadVar_row _ _ _ _ _ (0, 0) _ kz.out Try.underlying25 rfl (by kernel_rfl))) rfl ?_
  rw [HN.out]
  rw [show normTop 2 s l mn mx ng = Re.mk 2 s l mn mx ng from by rcases l with _ | ⟨a, rest⟩ <;> simp [normTop]]
  exact ⟨_, _, rfl, hr0.out, hx.out⟩
set_option maxRecDepth 100000 in
set_option maxHeartbeats 16000000 in
theorem norm_k9 (s : List Span) (args : List Re) (mn mx : Int) (ng : Bool) (hg : Good (.mk 9 s args mn mx ng)) (hz : sz (.mk 9 s args mn mx ng) ≤ 1048576) (ih : ∀ a ∈ args, NormS a) : NormS (.mk 9 s args mn mx ng) := by
  intro H cs w hr hs
  have hnode := good_node hg
  have hga := good_args hg
  have hst := set_len hnode
  rw [sz_mk] at hz
  have hln := len_szL args
  have hmz := map_sz hga
  have hgl : ∀ a ∈ args.map normF, Good a := fun a ha => by obtain ⟨b, hb, rfl⟩ := List.mem_map.1 ha; exact (normF_ok b (hga b hb)).1
  have heach := each_norm normF H 9 s args mn mx ng cs
  obtain ⟨A1, c1, A2, c2, rfl, h1, h2⟩ := hr.open
  have HN := Aside.mk (normF_eq 9 s args mn mx ng)
  have hlm : (args.map normF).length = args.length := List.length_map ..
  rw [← hlm] at hnode
  generalize args.map normF = l at *
  have HG := Aside.mk (And.intro hnode (And.intro hgl (And.intro hmz (And.intro hlm hz))))
  have hE := fun (w : World) hs => heach w hr hs hst (by omega) (fun a ha H' cs' w' hr' hs' => ih a ha H' cs' w' hr' hs')
  replace hE := Aside.mk hE
  clear hnode hga hst hln hmz hgl heach hr ih hg hlm
  have hx := Aside.mk (Ext.refl hs)
  go_enter Try.func88, Try.ntmps88
  go_wp2_with fail
  have hszw := hx.out.size
  have kr_ : ((w.alloc (.cells #[.int .i64 9, .slice A1 s.length c1, .slice A2 args.length c2, .int .i64 mn, .int .i64 mx, .bool ng] 25)).alloc (.cells #[.int .i64 0, .slice none 0 0, .slice none 0 0, .int .i64 0, .int .i64 0, .bool false] 25)).heap[w.heap.size]? = some (.cells #[.int .i64 9, .slice A1 s.length c1, .slice A2 args.length c2, .int .i64 mn, .int .i64 mx, .bool ng] 25) := (boxA (heap_alloc_new _ _) (.cells #[.int .i64 0, .slice none 0 0, .slice none 0 0, .int .i64 0, .int .i64 0, .bool false] 25))
  have kz_ : ((w.alloc (.cells #[.int .i64 9, .slice A1 s.length c1, .slice A2 args.length c2, .int .i64 mn, .int .i64 mx, .bool ng] 25)).alloc (.cells #[.int .i64 0, .slice none 0 0, .slice none 0 0, .int .i64 0, .int .i64 0, .bool false] 25)).heap[w.heap.size + 1]? = some (.cells #[.int .i64 0, .slice none 0 0, .slice none 0 0, .int .i64 0, .int .i64 0, .bool false] 25) := (by rw [show w.heap.size + 1 = ((w.alloc (.cells #[.int .i64 9, .slice A1 s.length c1, .slice A2 args.length c2, .int .i64 mn, .int .i64 mx, .bool ng] 25))).heap.size by simp]; exact heap_alloc_new _ _)
  have nr := Aside.mk (fun o => hx.out.sat.new (b := w.heap.size) (show w.heap.size ≤ _ by omega) o)
  have nz := Aside.mk (fun o => hx.out.sat.new (b := w.heap.size + 1) (show w.heap.size ≤ _ by omega) o)
  replace hx := Aside.mk (((hx.out.alloc (.cells #[.int .i64 9, .slice A1 s.length c1, .slice A2 args.length c2, .int .i64 mn, .int .i64 mx, .bool ng] 25)).alloc (.cells #[.int .i64 0, .slice none 0 0, .slice none 0 0, .int .i64 0, .int .i64 0, .bool false] 25)))
  generalize ((w.alloc (.cells #[.int .i64 9, .slice A1 s.length c1, .slice A2 args.length c2, .int .i64 mn, .int .i64 mx, .bool ng] 25)).alloc (.cells #[.int .i64 0, .slice none 0 0, .slice none 0 0, .int .i64 0, .int .i64 0, .bool false] 25)) = W1 at *
  have kr := Aside.mk kr_
  clear kr_
  have kz := Aside.mk kz_
  clear kz_
  refine (hE.out _ (hs.below hx.out.below)).mono ?_
  rintro e w1 ⟨H1, cs1, rfl, hr1, hz1⟩
  have hle := hz1.le
  replace nr := Aside.mk (fun o => (hz1.old _ o (boxL kr.out)).trans (nr.out o))
  replace nz := Aside.mk (fun o => (hz1.old _ o (boxL kz.out)).trans (nz.out o))
  replace kr := Aside.mk (box_below kr.out hz1.below)
  replace kz := Aside.mk (box_below kz.out hz1.below)
  replace hx := Aside.mk (hx.out.trans hz1)
  clear hle hz1
  have hr0 := hr1
  obtain ⟨A3, c3, A4, c4, rfl, -, h4⟩ := hr1.open
  replace hr0 := Aside.mk hr0
  replace h4 := Aside.mk h4
  have lr : w.heap.size < w1.heap.size := boxL kr.out
  have cr0 : w1.cell? ⟨w.heap.size, 0, none⟩ = some (.int .i64 9) := (boxC kr.out 0).1
  have fr0 : w1.frozen? ⟨w.heap.size, 0, none⟩ = false := (boxC kr.out 0).2
  have cr1 : w1.cell? ⟨w.heap.size, 1, none⟩ = some (.slice A1 s.length c1) := (boxC kr.out 1).1
  have fr1 : w1.frozen? ⟨w.heap.size, 1, none⟩ = false := (boxC kr.out 1).2
  have cr2 : w1.cell? ⟨w.heap.size, 2, none⟩ = some (.slice A2 args.length c2) := (boxC kr.out 2).1
  have fr2 : w1.frozen? ⟨w.heap.size, 2, none⟩ = false := (boxC kr.out 2).2
  have cr3 : w1.cell? ⟨w.heap.size, 3, none⟩ = some (.int .i64 mn) := (boxC kr.out 3).1
  have fr3 : w1.frozen? ⟨w.heap.size, 3, none⟩ = false := (boxC kr.out 3).2
  have cr4 : w1.cell? ⟨w.heap.size, 4, none⟩ = some (.int .i64 mx) := (boxC kr.out 4).1
  have fr4 : w1.frozen? ⟨w.heap.size, 4, none⟩ = false := (boxC kr.out 4).2
  have cr5 : w1.cell? ⟨w.heap.size, 5, none⟩ = some (.bool ng) := (boxC kr.out 5).1
  have fr5 : w1.frozen? ⟨w.heap.size, 5, none⟩ = false := (boxC kr.out 5).2
  have lz : w.heap.size + 1 < w1.heap.size := boxL kz.out
  have cz0 : w1.cell? ⟨w.heap.size + 1, 0, none⟩ = some (.int .i64 0) := (boxC kz.out 0).1
  have fz0 : w1.frozen? ⟨w.heap.size + 1, 0, none⟩ = false := (boxC kz.out 0).2
  have cz1 : w1.cell? ⟨w.heap.size + 1, 1, none⟩ = some (.slice none 0 0) := (boxC kz.out 1).1
  have fz1 : w1.frozen? ⟨w.heap.size + 1, 1, none⟩ = false := (boxC kz.out 1).2
  have cz2 : w1.cell? ⟨w.heap.size + 1, 2, none⟩ = some (.slice none 0 0) := (boxC kz.out 2).1
  have fz2 : w1.frozen? ⟨w.heap.size + 1, 2, none⟩ = false := (boxC kz.out 2).2
  have cz3 : w1.cell? ⟨w.heap.size + 1, 3, none⟩ = some (.int .i64 0) := (boxC kz.out 3).1
  have fz3 : w1.frozen? ⟨w.heap.size + 1, 3, none⟩ = false := (boxC kz.out 3).2
  have cz4 : w1.cell? ⟨w.heap.size + 1, 4, none⟩ = some (.int .i64 0) := (boxC kz.out 4).1
  have fz4 : w1.frozen? ⟨w.heap.size + 1, 4, none⟩ = false := (boxC kz.out 4).2
  have cz5 : w1.cell? ⟨w.heap.size + 1, 5, none⟩ = some (.bool false) := (boxC kz.out 5).1
  have fz5 : w1.frozen? ⟨w.heap.size + 1, 5, none⟩ = false := (boxC kz.out 5).2
  go_wp2_with fail
  clear lr cr0 fr0 cr1 fr1 cr2 fr2 cr3 fr3 cr4 fr4 cr5 fr5 lz cz0 fz0 cz1 fz1 cz2 fz2 cz3 fz3 cz4 fz4 cz5 fz5
  have kr_ : ((((((w1.setCell ⟨w.heap.size, 0, none⟩ (.int .i64 9)).setCell ⟨w.heap.size, 1, none⟩ (.slice A3 s.length c3)).setCell ⟨w.heap.size, 2, none⟩ (.slice A4 l.length c4)).setCell ⟨w.heap.size, 3, none⟩ (.int .i64 mn)).setCell ⟨w.heap.size, 4, none⟩ (.int .i64 mx)).setCell ⟨w.heap.size, 5, none⟩ (.bool ng)).heap[w.heap.size]? = some (.cells #[.int .i64 9, .slice A3 s.length c3, .slice A4 l.length c4, .int .i64 mn, .int .i64 mx, .bool ng] 25) := (boxS (boxS (boxS (boxS (boxS (boxS kr.out 0 (.int .i64 9)) 1 (.slice A3 s.length c3)) 2 (.slice A4 l.length c4)) 3 (.int .i64 mn)) 4 (.int .i64 mx)) 5 (.bool ng))
  have kz_ : ((((((w1.setCell ⟨w.heap.size, 0, none⟩ (.int .i64 9)).setCell ⟨w.heap.size, 1, none⟩ (.slice A3 s.length c3)).setCell ⟨w.heap.size, 2, none⟩ (.slice A4 l.length c4)).setCell ⟨w.heap.size, 3, none⟩ (.int .i64 mn)).setCell ⟨w.heap.size, 4, none⟩ (.int .i64 mx)).setCell ⟨w.heap.size, 5, none⟩ (.bool ng)).heap[w.heap.size + 1]? = some (.cells #[.int .i64 0, .slice none 0 0, .slice none 0 0, .int .i64 0, .int .i64 0, .bool false] 25) := (boxS_ne (boxS_ne (boxS_ne (boxS_ne (boxS_ne (boxS_ne kz.out (by first | omega | (simp; omega)) 0 (.int .i64 9)) (by first | omega | (simp; omega)) 1 (.slice A3 s.length c3)) (by first | omega | (simp; omega)) 2 (.slice A4 l.length c4)) (by first | omega | (simp; omega)) 3 (.int .i64 mn)) (by first | omega | (simp; omega)) 4 (.int .i64 mx)) (by first | omega | (simp; omega)) 5 (.bool ng))
  replace hx := Aside.mk (((((((hx.out.setCell (b := w.heap.size) (o := 0) (by first | omega | (simp; omega)) nr.out (.int .i64 9)).setCell (b := w.heap.size) (o := 1) (by first | omega | (simp; omega)) nr.out (.slice A3 s.length c3)).setCell (b := w.heap.size) (o := 2) (by first | omega | (simp; omega)) nr.out (.slice A4 l.length c4)).setCell (b := w.heap.size) (o := 3) (by first | omega | (simp; omega)) nr.out (.int .i64 mn)).setCell (b := w.heap.size) (o := 4) (by first | omega | (simp; omega)) nr.out (.int .i64 mx)).setCell (b := w.heap.size) (o := 5) (by first | omega | (simp; omega)) nr.out (.bool ng)))
  generalize ((((((w1.setCell ⟨w.heap.size, 0, none⟩ (.int .i64 9)).setCell ⟨w.heap.size, 1, none⟩ (.slice A3 s.length c3)).setCell ⟨w.heap.size, 2, none⟩ (.slice A4 l.length c4)).setCell ⟨w.heap.size, 3, none⟩ (.int .i64 mn)).setCell ⟨w.heap.size, 4, none⟩ (.int .i64 mx)).setCell ⟨w.heap.size, 5, none⟩ (.bool ng)) = W2 at *
  replace kr := Aside.mk kr_
  clear kr_
  replace kz := Aside.mk kz_
  clear kz_
  have kr_ : ((((((W2.setCell ⟨w.heap.size + 1, 0, none⟩ (.int .i64 9)).setCell ⟨w.heap.size + 1, 1, none⟩ (.slice A3 s.length c3)).setCell ⟨w.heap.size + 1, 2, none⟩ (.slice A4 l.length c4)).setCell ⟨w.heap.size + 1, 3, none⟩ (.int .i64 mn)).setCell ⟨w.heap.size + 1, 4, none⟩ (.int .i64 mx)).setCell ⟨w.heap.size + 1, 5, none⟩ (.bool ng)).heap[w.heap.size]? = some (.cells #[.int .i64 9, .slice A3 s.length c3, .slice A4 l.length c4, .int .i64 mn, .int .i64 mx, .bool ng] 25) := (boxS_ne (boxS_ne (boxS_ne (boxS_ne (boxS_ne (boxS_ne kr.out (by first | omega | (simp; omega)) 0 (.int .i64 9)) (by first | omega | (simp; omega)) 1 (.slice A3 s.length c3)) (by first | omega | (simp; omega)) 2 (.slice A4 l.length c4)) (by first | omega | (simp; omega)) 3 (.int .i64 mn)) (by first | omega | (simp; omega)) 4 (.int .i64 mx)) (by first | omega | (simp; omega)) 5 (.bool ng))
  have kz_ : ((((((W2.setCell ⟨w.heap.size + 1, 0, none⟩ (.int .i64 9)).setCell ⟨w.heap.size + 1, 1, none⟩ (.slice A3 s.length c3)).setCell ⟨w.heap.size + 1, 2, none⟩ (.slice A4 l.length c4)).setCell ⟨w.heap.size + 1, 3, none⟩ (.int .i64 mn)).setCell ⟨w.heap.size + 1, 4, none⟩ (.int .i64 mx)).setCell ⟨w.heap.size + 1, 5, none⟩ (.bool ng)).heap[w.heap.size + 1]? = some (.cells #[.int .i64 9, .slice A3 s.length c3, .slice A4 l.length c4, .int .i64 mn, .int .i64 mx, .bool ng] 25) := (boxS (boxS (boxS (boxS (boxS (boxS kz.out 0 (.int .i64 9)) 1 (.slice A3 s.length c3)) 2 (.slice A4 l.length c4)) 3 (.int .i64 mn)) 4 (.int .i64 mx)) 5 (.bool ng))
  replace hx := Aside.mk (((((((hx.out.setCell (b := w.heap.size + 1) (o := 0) (by first | omega | (simp; omega)) nz.out (.int .i64 9)).setCell (b := w.heap.size + 1) (o := 1) (by first | omega | (simp; omega)) nz.out (.slice A3 s.length c3)).setCell (b := w.heap.size + 1) (o := 2) (by first | omega | (simp; omega)) nz.out (.slice A4 l.length c4)).setCell (b := w.heap.size + 1) (o := 3) (by first | omega | (simp; omega)) nz.out (.int .i64 mn)).setCell (b := w.heap.size + 1) (o := 4) (by first | omega | (simp; omega)) nz.out (.int .i64 mx)).setCell (b := w.heap.size + 1) (o := 5) (by first | omega | (simp; omega)) nz.out (.bool ng)))
  generalize ((((((W2.setCell ⟨w.heap.size + 1, 0, none⟩ (.int .i64 9)).setCell ⟨w.heap.size + 1, 1, none⟩ (.slice A3 s.length c3)).setCell ⟨w.heap.size + 1, 2, none⟩ (.slice A4 l.length c4)).setCell ⟨w.heap.size + 1, 3, none⟩ (.int .i64 mn)).setCell ⟨w.heap.size + 1, 4, none⟩ (.int .i64 mx)).setCell ⟨w.heap.size + 1, 5, none⟩ (.bool ng)) = W3 at *
  replace kr := Aside.mk kr_
  clear kr_
  replace kz := Aside.mk kz_
  clear kz_
  refine bodyPost_ret (resC rfl _ _ _ rfl (run_loadVar_row _ _ _ _ _ (0, 0) _ kz.out Try.underlying25 rfl (by kernel_rfl))) rfl ?_
  rw [HN.out]
  rw [show normTop 9 s l mn mx ng = Re.mk 9 s l mn mx ng from by rcases l with _ | ⟨a, rest⟩ <;> simp [normTop]]
  exact ⟨_, _, rfl, hr0.out, hx.out⟩
end Go.Proofs.Ytbnahmeaeakhhaa.B
