/- Contracts: retree.norm, Norm. -/
import Derived.Test.YtbnahmeaeakhhaaN8a
import Derived.Test.YtbnahmeaeakhhaaN8d
import Derived.Test.YtbnahmeaeakhhaaN8g
import Derived.Test.YtbnahmeaeakhhaaN8f
namespace Go.Proofs.Ytbnahmeaeakhhaa.B
set_option linter.unusedVariables false
set_option linter.unusedSimpArgs false
open Go Go.RowKit Classical

theorem norm_any (r : Re) : Good r → sz r ≤ 1048576 → NormS r := by
  induction r using Re.ind with
  | h kind s args mn mx ng ih =>
  intro hg hz
  have ih' : ∀ a ∈ args, NormS a := fun a ha => ih a ha (good_args hg a ha) (by
    have h1 : sz a ≤ szL args := by
      clear ih hg hz
      induction args with
      | nil => simp at ha
      | cons b l ihl =>
        rw [szL_cons]
        rcases List.mem_cons.1 ha with rfl | h
        · omega
        · have := ihl h; omega
    rw [sz_mk] at hz; omega)
  obtain ⟨k0, k1⟩ := node_kind (good_node hg)
  obtain rfl | rfl | rfl | rfl | rfl | rfl | rfl | rfl | rfl | rfl | rfl : kind = 0 ∨ kind = 1 ∨ kind = 2 ∨ kind = 3 ∨ kind = 4 ∨ kind = 5 ∨ kind = 6 ∨ kind = 7 ∨ kind = 8 ∨ kind = 9 ∨ kind = 10 := by omega
  · exact norm_k0 s args mn mx ng hg hz ih'
  · exact norm_k1 s args mn mx ng hg hz ih'
  · exact norm_k2 s args mn mx ng hg hz ih'
  · exact norm_k3 s args mn mx ng hg hz ih'
  · exact norm_k4 s args mn mx ng hg hz ih'
  · exact norm_k5 s args mn mx ng hg hz ih'
  · exact norm_k6 s args mn mx ng hg hz ih'
  · exact norm_k7 s args mn mx ng hg hz ih'
  · exact norm_k8 s args mn mx ng hg hz ih'
  · exact norm_k9 s args mn mx ng hg hz ih'
  · exact norm_k10 s args mn mx ng hg hz ih'

theorem checkRe_ok {r : Re} (h : checkRe r 40 = 0) : Good r ∧ sz r ≤ 40 := by
  have h1 := errL_zero_ge _ _ h (by omega)
  exact ⟨fun x hx => errL_good h x hx, by unfold sz; omega⟩
theorem checkRe_small {r : Re} (hg : Good r) (hl : sz r ≤ 40) : checkRe r 40 = 0 := errL_all _ _ hg (by unfold sz at hl; omega)

/-- what Norm gives -/
noncomputable def normR (r : Re) : Re := if checkRe r 40 = 0 then normF r else noneRe
def NormPost (H : PH) (w : World) (r : Re) (e : Ending) (w' : World) : Prop := ∃ H' cs, e = .returned (.tuple #[.agg cs.toArray, .int .i64 (checkRe r 40)]) ∧ RdRe H' (normR r) cs ∧ Ext H H' w w'

set_option maxRecDepth 100000 in
set_option maxHeartbeats 8000000 in
theorem normE_any (H : PH) (r : Re) (cs : List Value) (w : World) (hr : RdRe H r cs) (hs : Sat w H) : Calls Try.prog 31 #[.agg cs.toArray] w (NormPost H w r) := by
  have hchk := fun w hs => check_any H r cs w hr hs
  have hnorm := fun (h : checkRe r 40 = 0) => norm_any r (checkRe_ok h).1 (Nat.le_trans (checkRe_ok h).2 (by omega))
  obtain ⟨k, s, a, mn, mx, ng, rfl⟩ : ∃ p b c d e f, r = Re.mk p b c d e f := by cases r; exact ⟨_, _, _, _, _, _, rfl⟩
  have hr0 := Aside.mk hr
  obtain ⟨A1, c1, A2, c2, rfl, -, -⟩ := hr.open
  have HC := Aside.mk (And.intro hchk hnorm)
  clear hchk hnorm hr
  have hx := Aside.mk (Ext.refl hs)
  go_enter Try.func31, Try.ntmps31
  go_wp2_with fail
  have hszw := hx.out.size
  have kr_ : ((w.alloc (.cells #[.int .i64 k, .slice A1 s.length c1, .slice A2 a.length c2, .int .i64 mn, .int .i64 mx, .bool ng] 25)).alloc (.cells #[.int .i64 0, .slice none 0 0, .slice none 0 0, .int .i64 0, .int .i64 0, .bool false] 25)).heap[w.heap.size]? = some (.cells #[.int .i64 k, .slice A1 s.length c1, .slice A2 a.length c2, .int .i64 mn, .int .i64 mx, .bool ng] 25) := (boxA (heap_alloc_new _ _) (.cells #[.int .i64 0, .slice none 0 0, .slice none 0 0, .int .i64 0, .int .i64 0, .bool false] 25))
  have kz_ : ((w.alloc (.cells #[.int .i64 k, .slice A1 s.length c1, .slice A2 a.length c2, .int .i64 mn, .int .i64 mx, .bool ng] 25)).alloc (.cells #[.int .i64 0, .slice none 0 0, .slice none 0 0, .int .i64 0, .int .i64 0, .bool false] 25)).heap[w.heap.size + 1]? = some (.cells #[.int .i64 0, .slice none 0 0, .slice none 0 0, .int .i64 0, .int .i64 0, .bool false] 25) := (by rw [show w.heap.size + 1 = ((w.alloc (.cells #[.int .i64 k, .slice A1 s.length c1, .slice A2 a.length c2, .int .i64 mn, .int .i64 mx, .bool ng] 25))).heap.size by simp]; exact heap_alloc_new _ _)
  have nr := Aside.mk (fun o => hx.out.sat.new (b := w.heap.size) (show w.heap.size ≤ _ by omega) o)
  have nz := Aside.mk (fun o => hx.out.sat.new (b := w.heap.size + 1) (show w.heap.size ≤ _ by omega) o)
  replace hx := Aside.mk (((hx.out.alloc (.cells #[.int .i64 k, .slice A1 s.length c1, .slice A2 a.length c2, .int .i64 mn, .int .i64 mx, .bool ng] 25)).alloc (.cells #[.int .i64 0, .slice none 0 0, .slice none 0 0, .int .i64 0, .int .i64 0, .bool false] 25)))
  generalize ((w.alloc (.cells #[.int .i64 k, .slice A1 s.length c1, .slice A2 a.length c2, .int .i64 mn, .int .i64 mx, .bool ng] 25)).alloc (.cells #[.int .i64 0, .slice none 0 0, .slice none 0 0, .int .i64 0, .int .i64 0, .bool false] 25)) = W1 at *
  have kr := Aside.mk kr_
  clear kr_
  have kz := Aside.mk kz_
  clear kz_
  obtain ⟨H1, hx2, hle, Br, hold⟩ := box_freeze hx.out (by omega) kr.out nr.out
  replace nz := Aside.mk (fun o => (hold _ o (by omega)).trans (nz.out o))
  replace hx := Aside.mk hx2
  replace Br := Aside.mk Br
  clear hle hold hx2 kr nr
  refine (HC.out.1 _ (hs.below hx.out.below)).mono ?_
  rintro e w2 ⟨rfl, hb2⟩
  replace kz := Aside.mk (box_below kz.out hb2)
  replace hx := Aside.mk (hx.out.then_below hb2)
  clear hb2
  have HE := Aside.mk (show normR (Re.mk k s a mn mx ng) = if checkRe (Re.mk k s a mn mx ng) 40 = 0 then normF (Re.mk k s a mn mx ng) else noneRe from rfl)
  generalize hee : checkRe (Re.mk k s a mn mx ng) 40 = ee at *
  by_cases h0 : ee = 0
  case neg =>
    have lz : w.heap.size + 1 < w2.heap.size := boxL kz.out
    have cz0 : w2.cell? ⟨w.heap.size + 1, 0, none⟩ = some (.int .i64 0) := (boxC kz.out 0).1
    have fz0 : w2.frozen? ⟨w.heap.size + 1, 0, none⟩ = false := (boxC kz.out 0).2
    have cz1 : w2.cell? ⟨w.heap.size + 1, 1, none⟩ = some (.slice none 0 0) := (boxC kz.out 1).1
    have fz1 : w2.frozen? ⟨w.heap.size + 1, 1, none⟩ = false := (boxC kz.out 1).2
    have cz2 : w2.cell? ⟨w.heap.size + 1, 2, none⟩ = some (.slice none 0 0) := (boxC kz.out 2).1
    have fz2 : w2.frozen? ⟨w.heap.size + 1, 2, none⟩ = false := (boxC kz.out 2).2
    have cz3 : w2.cell? ⟨w.heap.size + 1, 3, none⟩ = some (.int .i64 0) := (boxC kz.out 3).1
    have fz3 : w2.frozen? ⟨w.heap.size + 1, 3, none⟩ = false := (boxC kz.out 3).2
    have cz4 : w2.cell? ⟨w.heap.size + 1, 4, none⟩ = some (.int .i64 0) := (boxC kz.out 4).1
    have fz4 : w2.frozen? ⟨w.heap.size + 1, 4, none⟩ = false := (boxC kz.out 4).2
    have cz5 : w2.cell? ⟨w.heap.size + 1, 5, none⟩ = some (.bool false) := (boxC kz.out 5).1
    have fz5 : w2.frozen? ⟨w.heap.size + 1, 5, none⟩ = false := (boxC kz.out 5).2
    have lr : w.heap.size < w2.heap.size := hx.out.sat.lt (Br.out 0 _ rfl)
    have cr0 : w2.cell? ⟨w.heap.size, 0, none⟩ = some (.int .i64 k) := hx.out.sat _ _ _ (Br.out 0 _ rfl)
    have cr1 : w2.cell? ⟨w.heap.size, 1, none⟩ = some (.slice A1 s.length c1) := hx.out.sat _ _ _ (Br.out 1 _ rfl)
    have cr2 : w2.cell? ⟨w.heap.size, 2, none⟩ = some (.slice A2 a.length c2) := hx.out.sat _ _ _ (Br.out 2 _ rfl)
    have cr3 : w2.cell? ⟨w.heap.size, 3, none⟩ = some (.int .i64 mn) := hx.out.sat _ _ _ (Br.out 3 _ rfl)
    have cr4 : w2.cell? ⟨w.heap.size, 4, none⟩ = some (.int .i64 mx) := hx.out.sat _ _ _ (Br.out 4 _ rfl)
    have cr5 : w2.cell? ⟨w.heap.size, 5, none⟩ = some (.bool ng) := hx.out.sat _ _ _ (Br.out 5 _ rfl)
    go_wp2_with fail
    clear lz cz0 fz0 cz1 fz1 cz2 fz2 cz3 fz3 cz4 fz4 cz5 fz5 lr cr0 cr1 cr2 cr3 cr4 cr5
    have kz_ : ((((((w2.setCell ⟨w.heap.size + 1, 0, none⟩ (.int .i64 0)).setCell ⟨w.heap.size + 1, 1, none⟩ (.slice none 0 0)).setCell ⟨w.heap.size + 1, 2, none⟩ (.slice none 0 0)).setCell ⟨w.heap.size + 1, 3, none⟩ (.int .i64 0)).setCell ⟨w.heap.size + 1, 4, none⟩ (.int .i64 0)).setCell ⟨w.heap.size + 1, 5, none⟩ (.bool false)).heap[w.heap.size + 1]? = some (.cells #[.int .i64 0, .slice none 0 0, .slice none 0 0, .int .i64 0, .int .i64 0, .bool false] 25) := (boxS (boxS (boxS (boxS (boxS (boxS kz.out 0 (.int .i64 0)) 1 (.slice none 0 0)) 2 (.slice none 0 0)) 3 (.int .i64 0)) 4 (.int .i64 0)) 5 (.bool false))
    replace hx := Aside.mk (((((((hx.out.setCell (b := w.heap.size + 1) (o := 0) (by first | omega | (simp; omega)) nz.out (.int .i64 0)).setCell (b := w.heap.size + 1) (o := 1) (by first | omega | (simp; omega)) nz.out (.slice none 0 0)).setCell (b := w.heap.size + 1) (o := 2) (by first | omega | (simp; omega)) nz.out (.slice none 0 0)).setCell (b := w.heap.size + 1) (o := 3) (by first | omega | (simp; omega)) nz.out (.int .i64 0)).setCell (b := w.heap.size + 1) (o := 4) (by first | omega | (simp; omega)) nz.out (.int .i64 0)).setCell (b := w.heap.size + 1) (o := 5) (by first | omega | (simp; omega)) nz.out (.bool false)))
    generalize ((((((w2.setCell ⟨w.heap.size + 1, 0, none⟩ (.int .i64 0)).setCell ⟨w.heap.size + 1, 1, none⟩ (.slice none 0 0)).setCell ⟨w.heap.size + 1, 2, none⟩ (.slice none 0 0)).setCell ⟨w.heap.size + 1, 3, none⟩ (.int .i64 0)).setCell ⟨w.heap.size + 1, 4, none⟩ (.int .i64 0)).setCell ⟨w.heap.size + 1, 5, none⟩ (.bool false)) = W2 at *
    replace kz := Aside.mk kz_
    clear kz_
    refine bodyPost_ret (resC2 rfl _ _ _ rfl (run_loadVar_row _ _ _ _ _ (0, 0) _ kz.out Try.underlying25 rfl (by kernel_rfl))) rfl ?_
    exact ⟨_, _, by rw [hee]; rfl, by rw [HE.out, if_neg h0]; exact rd_none _, hx.out⟩
  subst h0
  replace hee := Aside.mk hee
  have lz : w.heap.size + 1 < w2.heap.size := boxL kz.out
  have cz0 : w2.cell? ⟨w.heap.size + 1, 0, none⟩ = some (.int .i64 0) := (boxC kz.out 0).1
  have fz0 : w2.frozen? ⟨w.heap.size + 1, 0, none⟩ = false := (boxC kz.out 0).2
  have cz1 : w2.cell? ⟨w.heap.size + 1, 1, none⟩ = some (.slice none 0 0) := (boxC kz.out 1).1
  have fz1 : w2.frozen? ⟨w.heap.size + 1, 1, none⟩ = false := (boxC kz.out 1).2
  have cz2 : w2.cell? ⟨w.heap.size + 1, 2, none⟩ = some (.slice none 0 0) := (boxC kz.out 2).1
  have fz2 : w2.frozen? ⟨w.heap.size + 1, 2, none⟩ = false := (boxC kz.out 2).2
  have cz3 : w2.cell? ⟨w.heap.size + 1, 3, none⟩ = some (.int .i64 0) := (boxC kz.out 3).1
  have fz3 : w2.frozen? ⟨w.heap.size + 1, 3, none⟩ = false := (boxC kz.out 3).2
  have cz4 : w2.cell? ⟨w.heap.size + 1, 4, none⟩ = some (.int .i64 0) := (boxC kz.out 4).1
  have fz4 : w2.frozen? ⟨w.heap.size + 1, 4, none⟩ = false := (boxC kz.out 4).2
  have cz5 : w2.cell? ⟨w.heap.size + 1, 5, none⟩ = some (.bool false) := (boxC kz.out 5).1
  have fz5 : w2.frozen? ⟨w.heap.size + 1, 5, none⟩ = false := (boxC kz.out 5).2
  have lr : w.heap.size < w2.heap.size := hx.out.sat.lt (Br.out 0 _ rfl)
  have cr0 : w2.cell? ⟨w.heap.size, 0, none⟩ = some (.int .i64 k) := hx.out.sat _ _ _ (Br.out 0 _ rfl)
  have cr1 : w2.cell? ⟨w.heap.size, 1, none⟩ = some (.slice A1 s.length c1) := hx.out.sat _ _ _ (Br.out 1 _ rfl)
  have cr2 : w2.cell? ⟨w.heap.size, 2, none⟩ = some (.slice A2 a.length c2) := hx.out.sat _ _ _ (Br.out 2 _ rfl)
  have cr3 : w2.cell? ⟨w.heap.size, 3, none⟩ = some (.int .i64 mn) := hx.out.sat _ _ _ (Br.out 3 _ rfl)
  have cr4 : w2.cell? ⟨w.heap.size, 4, none⟩ = some (.int .i64 mx) := hx.out.sat _ _ _ (Br.out 4 _ rfl)
  have cr5 : w2.cell? ⟨w.heap.size, 5, none⟩ = some (.bool ng) := hx.out.sat _ _ _ (Br.out 5 _ rfl)
  go_wp2_with fail
  clear lz cz0 fz0 cz1 fz1 cz2 fz2 cz3 fz3 cz4 fz4 cz5 fz5 lr cr0 cr1 cr2 cr3 cr4 cr5
  refine (HC.out.2 trivial H _ _ hr0.out (hs.below hx.out.below)).mono ?_
  rintro e w3 ⟨H3, cs3, rfl, hr3, hz3⟩
  have hq3 : H3 = H3 := rfl
  clear hq3
  have hx3 : Ext H H3 w w3 := (Ext.of_below hs hx.out.below).trans hz3
  have kz3 := box_below kz.out hz3.below
  have nz3 : ∀ o, H3 (w.heap.size + 1) o = none := fun o => (hz3.old _ o (boxL kz.out)).trans (hs.new (by omega) o)
  obtain ⟨k9, s9, l9, m9, x9, g9, hq9⟩ : ∃ y1 y2 y3 y4 y5 y6, normF (Re.mk k s a mn mx ng) = Re.mk y1 y2 y3 y4 y5 y6 := by cases normF (Re.mk k s a mn mx ng); exact ⟨_, _, _, _, _, _, rfl⟩
  replace hq9 := Aside.mk hq9
  rw [hq9.out] at hr3
  have hr4 := Aside.mk hr3
  obtain ⟨B1, d1, B2, d2, rfl, -, -⟩ := hr3.open
  clear hr3
  replace hx := Aside.mk hx3
  replace kz := Aside.mk kz3
  replace nz := Aside.mk nz3
  clear hx3 kz3 nz3 hz3 Br
  have lz : w.heap.size + 1 < w3.heap.size := boxL kz.out
  have cz0 : w3.cell? ⟨w.heap.size + 1, 0, none⟩ = some (.int .i64 0) := (boxC kz.out 0).1
  have fz0 : w3.frozen? ⟨w.heap.size + 1, 0, none⟩ = false := (boxC kz.out 0).2
  have cz1 : w3.cell? ⟨w.heap.size + 1, 1, none⟩ = some (.slice none 0 0) := (boxC kz.out 1).1
  have fz1 : w3.frozen? ⟨w.heap.size + 1, 1, none⟩ = false := (boxC kz.out 1).2
  have cz2 : w3.cell? ⟨w.heap.size + 1, 2, none⟩ = some (.slice none 0 0) := (boxC kz.out 2).1
  have fz2 : w3.frozen? ⟨w.heap.size + 1, 2, none⟩ = false := (boxC kz.out 2).2
  have cz3 : w3.cell? ⟨w.heap.size + 1, 3, none⟩ = some (.int .i64 0) := (boxC kz.out 3).1
  have fz3 : w3.frozen? ⟨w.heap.size + 1, 3, none⟩ = false := (boxC kz.out 3).2
  have cz4 : w3.cell? ⟨w.heap.size + 1, 4, none⟩ = some (.int .i64 0) := (boxC kz.out 4).1
  have fz4 : w3.frozen? ⟨w.heap.size + 1, 4, none⟩ = false := (boxC kz.out 4).2
  have cz5 : w3.cell? ⟨w.heap.size + 1, 5, none⟩ = some (.bool false) := (boxC kz.out 5).1
  have fz5 : w3.frozen? ⟨w.heap.size + 1, 5, none⟩ = false := (boxC kz.out 5).2
  go_wp2_with fail
  clear lz cz0 fz0 cz1 fz1 cz2 fz2 cz3 fz3 cz4 fz4 cz5 fz5
  have kz_ : ((((((w3.setCell ⟨w.heap.size + 1, 0, none⟩ (.int .i64 k9)).setCell ⟨w.heap.size + 1, 1, none⟩ (.slice B1 s9.length d1)).setCell ⟨w.heap.size + 1, 2, none⟩ (.slice B2 l9.length d2)).setCell ⟨w.heap.size + 1, 3, none⟩ (.int .i64 m9)).setCell ⟨w.heap.size + 1, 4, none⟩ (.int .i64 x9)).setCell ⟨w.heap.size + 1, 5, none⟩ (.bool g9)).heap[w.heap.size + 1]? = some (.cells #[.int .i64 k9, .slice B1 s9.length d1, .slice B2 l9.length d2, .int .i64 m9, .int .i64 x9, .bool g9] 25) := (boxS (boxS (boxS (boxS (boxS (boxS kz.out 0 (.int .i64 k9)) 1 (.slice B1 s9.length d1)) 2 (.slice B2 l9.length d2)) 3 (.int .i64 m9)) 4 (.int .i64 x9)) 5 (.bool g9))
  replace hx := Aside.mk (((((((hx.out.setCell (b := w.heap.size + 1) (o := 0) (by first | omega | (simp; omega)) nz.out (.int .i64 k9)).setCell (b := w.heap.size + 1) (o := 1) (by first | omega | (simp; omega)) nz.out (.slice B1 s9.length d1)).setCell (b := w.heap.size + 1) (o := 2) (by first | omega | (simp; omega)) nz.out (.slice B2 l9.length d2)).setCell (b := w.heap.size + 1) (o := 3) (by first | omega | (simp; omega)) nz.out (.int .i64 m9)).setCell (b := w.heap.size + 1) (o := 4) (by first | omega | (simp; omega)) nz.out (.int .i64 x9)).setCell (b := w.heap.size + 1) (o := 5) (by first | omega | (simp; omega)) nz.out (.bool g9)))
  generalize ((((((w3.setCell ⟨w.heap.size + 1, 0, none⟩ (.int .i64 k9)).setCell ⟨w.heap.size + 1, 1, none⟩ (.slice B1 s9.length d1)).setCell ⟨w.heap.size + 1, 2, none⟩ (.slice B2 l9.length d2)).setCell ⟨w.heap.size + 1, 3, none⟩ (.int .i64 m9)).setCell ⟨w.heap.size + 1, 4, none⟩ (.int .i64 x9)).setCell ⟨w.heap.size + 1, 5, none⟩ (.bool g9)) = W3 at *
  replace kz := Aside.mk kz_
  clear kz_
  refine bodyPost_ret (resC2 rfl _ _ _ rfl (run_loadVar_row _ _ _ _ _ (0, 0) _ kz.out Try.underlying25 rfl (by kernel_rfl))) rfl ?_
  exact ⟨_, _, by rw [hee.out]; rfl, by rw [HE.out, if_pos trivial, hq9.out]; exact hr4.out, hx.out⟩
end Go.Proofs.Ytbnahmeaeakhhaa.B
