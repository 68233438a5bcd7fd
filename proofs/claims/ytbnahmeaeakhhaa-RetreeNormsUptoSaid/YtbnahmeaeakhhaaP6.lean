/- Contracts: the reference's rule, NormRe. Contracts: the reference's rule, NormRe. Contracts: parllaw1.retreeBegun; the walk of RetreeNorms. -/
import Derived.Test.YtbnahmeaeakhhaaP3
import Derived.Test.YtbnahmeaeakhhaaP4
import Derived.Test.YtbnahmeaeakhhaaN9
import Derived.Test.YtbnahmeaeakhhaaNu
import Derived.Test.YtbnahmeaeakhhaaD2
import Derived.Test.YtbnahmeaeakhhaaK6
import Derived.Test.YtbnahmeaeakhhaaC8
import Derived.Deep.RegionHeld3
namespace Go.Proofs.Ytbnahmeaeakhhaa.B
set_option linter.unusedVariables false
set_option linter.unusedSimpArgs false
open Go Go.RowKit Classical

set_option maxRecDepth 100000 in
set_option maxHeartbeats 16000000 in
theorem rule_k3 (H : PH) (s : List Span) (args : List Re) (mn mx : Int) (ng : Bool) (cs : List Value) (w : World) (hr : RdRe H (.mk 3 s args mn mx ng) cs) (hs : Sat w H) (hz : args.length + szL args ≤ 1048576) :
    Calls Try.prog 95 #[.agg cs.toArray] w (RuleR H w (.mk 3 s args mn mx ng) (ruleF (.mk 3 s args mn mx ng))) := by
  have hr_ := hr
  obtain ⟨A1, c1, A2, c2, rfl, -, h2⟩ := hr_.open
  have hc2 := h2.2.1
  clear h2 hr_
  have hx := Aside.mk (Ext.refl hs)
  replace hr := Aside.mk hr
  go_enter Try.func95, Try.ntmps95
  go_wp2_with fail
  have hszw := hx.out.size
  have kr_ : ((w.alloc (.cells #[.int .i64 3, .slice A1 s.length c1, .slice A2 args.length c2, .int .i64 mn, .int .i64 mx, .bool ng] 25)).alloc (.cells #[.int .i64 0, .slice none 0 0, .slice none 0 0, .int .i64 0, .int .i64 0, .bool false] 25)).heap[w.heap.size]? = some (.cells #[.int .i64 3, .slice A1 s.length c1, .slice A2 args.length c2, .int .i64 mn, .int .i64 mx, .bool ng] 25) := (boxA (heap_alloc_new _ _) (.cells #[.int .i64 0, .slice none 0 0, .slice none 0 0, .int .i64 0, .int .i64 0, .bool false] 25))
  have kz_ : ((w.alloc (.cells #[.int .i64 3, .slice A1 s.length c1, .slice A2 args.length c2, .int .i64 mn, .int .i64 mx, .bool ng] 25)).alloc (.cells #[.int .i64 0, .slice none 0 0, .slice none 0 0, .int .i64 0, .int .i64 0, .bool false] 25)).heap[w.heap.size + 1]? = some (.cells #[.int .i64 0, .slice none 0 0, .slice none 0 0, .int .i64 0, .int .i64 0, .bool false] 25) := (by rw [show w.heap.size + 1 = ((w.alloc (.cells #[.int .i64 3, .slice A1 s.length c1, .slice A2 args.length c2, .int .i64 mn, .int .i64 mx, .bool ng] 25))).heap.size by simp]; exact heap_alloc_new _ _)
  have nr := Aside.mk (fun o => hx.out.sat.new (b := w.heap.size) (show w.heap.size ≤ _ by omega) o)
  have nz := Aside.mk (fun o => hx.out.sat.new (b := w.heap.size + 1) (show w.heap.size ≤ _ by omega) o)
  replace hx := Aside.mk (((hx.out.alloc (.cells #[.int .i64 3, .slice A1 s.length c1, .slice A2 args.length c2, .int .i64 mn, .int .i64 mx, .bool ng] 25)).alloc (.cells #[.int .i64 0, .slice none 0 0, .slice none 0 0, .int .i64 0, .int .i64 0, .bool false] 25)))
  generalize ((w.alloc (.cells #[.int .i64 3, .slice A1 s.length c1, .slice A2 args.length c2, .int .i64 mn, .int .i64 mx, .bool ng] 25)).alloc (.cells #[.int .i64 0, .slice none 0 0, .slice none 0 0, .int .i64 0, .int .i64 0, .bool false] 25)) = W1 at *
  have kr := Aside.mk kr_
  clear kr_
  have kz := Aside.mk kz_
  clear kz_
  refine (ruleMany_any _ 3 s args mn mx ng _ _ hr.out hx.out.sat (by decide) hz).mono ?_
  rintro e w1 ⟨H1, cs1, rfl, hr1, hz⟩
  have hle := hz.le
  replace hr := Aside.mk (hr.out.mono hle)
  replace nr := Aside.mk (fun o => (hz.old _ o (boxL kr.out)).trans (nr.out o))
  replace nz := Aside.mk (fun o => (hz.old _ o (boxL kz.out)).trans (nz.out o))
  replace kr := Aside.mk (box_below kr.out hz.below)
  replace kz := Aside.mk (box_below kz.out hz.below)
  replace hx := Aside.mk (hx.out.trans hz)
  clear hle hz
  have HF := Aside.mk (show ruleF (.mk 3 s (args) mn mx ng) = manyF 3 args from by simp only [ruleF]; rw [if_pos (by decide)])
  generalize hoo : manyF 3 args = oo at *
  replace hoo := Aside.mk hoo
  generalize hxx : oo.getD (Re.mk 3 s (args) mn mx ng) = xx at *
  replace hxx := Aside.mk hxx
  generalize hbb : oo.isSome = bb at *
  replace hbb := Aside.mk hbb
  have hr3 := hr1
  obtain ⟨k7, s7, a7, u7, v7, g7, rfl⟩ : ∃ a b c d e f, xx = Re.mk a b c d e f := (by cases xx; exact ⟨_, _, _, _, _, _, rfl⟩)
  obtain ⟨Q1, q1, Q2, q2, rfl, -, -⟩ := hr1.open
  replace hr3 := Aside.mk hr3
  clear hr1
  have lqr : w.heap.size < w1.heap.size := boxL kr.out
  obtain ⟨⟨cr0, cr1, cr2, cr3, cr4, cr5⟩, fr0, fr1, fr2, fr3, fr4, fr5⟩ := kb6 kr.out
  have lqz : w.heap.size + 1 < w1.heap.size := boxL kz.out
  obtain ⟨⟨cz0, cz1, cz2, cz3, cz4, cz5⟩, fz0, fz1, fz2, fz3, fz4, fz5⟩ := kb6 kz.out
  go_wp2_with fail
  clear lqr cr0 cr1 cr2 cr3 cr4 cr5 fr0 fr1 fr2 fr3 fr4 fr5 lqz cz0 cz1 cz2 cz3 cz4 cz5 fz0 fz1 fz2 fz3 fz4 fz5
  have kr_ : ((((((w1.setCell ⟨w.heap.size + 1, 0, none⟩ (.int .i64 k7)).setCell ⟨w.heap.size + 1, 1, none⟩ (.slice Q1 s7.length q1)).setCell ⟨w.heap.size + 1, 2, none⟩ (.slice Q2 a7.length q2)).setCell ⟨w.heap.size + 1, 3, none⟩ (.int .i64 u7)).setCell ⟨w.heap.size + 1, 4, none⟩ (.int .i64 v7)).setCell ⟨w.heap.size + 1, 5, none⟩ (.bool g7)).heap[w.heap.size]? = some (.cells #[.int .i64 3, .slice A1 s.length c1, .slice A2 args.length c2, .int .i64 mn, .int .i64 mx, .bool ng] 25) := (boxS_ne (boxS_ne (boxS_ne (boxS_ne (boxS_ne (boxS_ne kr.out (by first | omega | (simp; omega)) 0 (.int .i64 k7)) (by first | omega | (simp; omega)) 1 (.slice Q1 s7.length q1)) (by first | omega | (simp; omega)) 2 (.slice Q2 a7.length q2)) (by first | omega | (simp; omega)) 3 (.int .i64 u7)) (by first | omega | (simp; omega)) 4 (.int .i64 v7)) (by first | omega | (simp; omega)) 5 (.bool g7))
  have kz_ : ((((((w1.setCell ⟨w.heap.size + 1, 0, none⟩ (.int .i64 k7)).setCell ⟨w.heap.size + 1, 1, none⟩ (.slice Q1 s7.length q1)).setCell ⟨w.heap.size + 1, 2, none⟩ (.slice Q2 a7.length q2)).setCell ⟨w.heap.size + 1, 3, none⟩ (.int .i64 u7)).setCell ⟨w.heap.size + 1, 4, none⟩ (.int .i64 v7)).setCell ⟨w.heap.size + 1, 5, none⟩ (.bool g7)).heap[w.heap.size + 1]? = some (.cells #[.int .i64 k7, .slice Q1 s7.length q1, .slice Q2 a7.length q2, .int .i64 u7, .int .i64 v7, .bool g7] 25) := (boxS (boxS (boxS (boxS (boxS (boxS kz.out 0 (.int .i64 k7)) 1 (.slice Q1 s7.length q1)) 2 (.slice Q2 a7.length q2)) 3 (.int .i64 u7)) 4 (.int .i64 v7)) 5 (.bool g7))
  replace hx := Aside.mk (((((((hx.out.setCell (b := w.heap.size + 1) (o := 0) (by first | omega | (simp; omega)) nz.out (.int .i64 k7)).setCell (b := w.heap.size + 1) (o := 1) (by first | omega | (simp; omega)) nz.out (.slice Q1 s7.length q1)).setCell (b := w.heap.size + 1) (o := 2) (by first | omega | (simp; omega)) nz.out (.slice Q2 a7.length q2)).setCell (b := w.heap.size + 1) (o := 3) (by first | omega | (simp; omega)) nz.out (.int .i64 u7)).setCell (b := w.heap.size + 1) (o := 4) (by first | omega | (simp; omega)) nz.out (.int .i64 v7)).setCell (b := w.heap.size + 1) (o := 5) (by first | omega | (simp; omega)) nz.out (.bool g7)))
  generalize ((((((w1.setCell ⟨w.heap.size + 1, 0, none⟩ (.int .i64 k7)).setCell ⟨w.heap.size + 1, 1, none⟩ (.slice Q1 s7.length q1)).setCell ⟨w.heap.size + 1, 2, none⟩ (.slice Q2 a7.length q2)).setCell ⟨w.heap.size + 1, 3, none⟩ (.int .i64 u7)).setCell ⟨w.heap.size + 1, 4, none⟩ (.int .i64 v7)).setCell ⟨w.heap.size + 1, 5, none⟩ (.bool g7)) = W2 at *
  replace kr := Aside.mk kr_
  clear kr_
  replace kz := Aside.mk kz_
  clear kz_
  refine bodyPost_ret (resC2 rfl _ _ _ rfl (run_loadVar_row _ _ _ _ _ (0, 0) _ kz.out Try.underlying25 rfl (by kernel_rfl))) rfl ?_
  exact ⟨_, _, by rw [HF.out, hbb.out]; rfl, by rw [HF.out, hxx.out]; exact hr3.out, hx.out⟩

set_option maxRecDepth 100000 in
set_option maxHeartbeats 16000000 in
theorem rule_k4 (H : PH) (s : List Span) (args : List Re) (mn mx : Int) (ng : Bool) (cs : List Value) (w : World) (hr : RdRe H (.mk 4 s args mn mx ng) cs) (hs : Sat w H) (hz : args.length + szL args ≤ 1048576) :
    Calls Try.prog 95 #[.agg cs.toArray] w (RuleR H w (.mk 4 s args mn mx ng) (ruleF (.mk 4 s args mn mx ng))) := by
  have hr_ := hr
  obtain ⟨A1, c1, A2, c2, rfl, -, h2⟩ := hr_.open
  have hc2 := h2.2.1
  clear h2 hr_
  have hx := Aside.mk (Ext.refl hs)
  replace hr := Aside.mk hr
  go_enter Try.func95, Try.ntmps95
  go_wp2_with fail
  have hszw := hx.out.size
  have kr_ : ((w.alloc (.cells #[.int .i64 4, .slice A1 s.length c1, .slice A2 args.length c2, .int .i64 mn, .int .i64 mx, .bool ng] 25)).alloc (.cells #[.int .i64 0, .slice none 0 0, .slice none 0 0, .int .i64 0, .int .i64 0, .bool false] 25)).heap[w.heap.size]? = some (.cells #[.int .i64 4, .slice A1 s.length c1, .slice A2 args.length c2, .int .i64 mn, .int .i64 mx, .bool ng] 25) := (boxA (heap_alloc_new _ _) (.cells #[.int .i64 0, .slice none 0 0, .slice none 0 0, .int .i64 0, .int .i64 0, .bool false] 25))
  have kz_ : ((w.alloc (.cells #[.int .i64 4, .slice A1 s.length c1, .slice A2 args.length c2, .int .i64 mn, .int .i64 mx, .bool ng] 25)).alloc (.cells #[.int .i64 0, .slice none 0 0, .slice none 0 0, .int .i64 0, .int .i64 0, .bool false] 25)).heap[w.heap.size + 1]? = some (.cells #[.int .i64 0, .slice none 0 0, .slice none 0 0, .int .i64 0, .int .i64 0, .bool false] 25) := (by rw [show w.heap.size + 1 = ((w.alloc (.cells #[.int .i64 4, .slice A1 s.length c1, .slice A2 args.length c2, .int .i64 mn, .int .i64 mx, .bool ng] 25))).heap.size by simp]; exact heap_alloc_new _ _)
  have nr := Aside.mk (fun o => hx.out.sat.new (b := w.heap.size) (show w.heap.size ≤ _ by omega) o)
  have nz := Aside.mk (fun o => hx.out.sat.new (b := w.heap.size + 1) (show w.heap.size ≤ _ by omega) o)
  replace hx := Aside.mk (((hx.out.alloc (.cells #[.int .i64 4, .slice A1 s.length c1, .slice A2 args.length c2, .int .i64 mn, .int .i64 mx, .bool ng] 25)).alloc (.cells #[.int .i64 0, .slice none 0 0, .slice none 0 0, .int .i64 0, .int .i64 0, .bool false] 25)))
  generalize ((w.alloc (.cells #[.int .i64 4, .slice A1 s.length c1, .slice A2 args.length c2, .int .i64 mn, .int .i64 mx, .bool ng] 25)).alloc (.cells #[.int .i64 0, .slice none 0 0, .slice none 0 0, .int .i64 0, .int .i64 0, .bool false] 25)) = W1 at *
  have kr := Aside.mk kr_
  clear kr_
  have kz := Aside.mk kz_
  clear kz_
  refine (ruleMany_any _ 4 s args mn mx ng _ _ hr.out hx.out.sat (by decide) hz).mono ?_
  rintro e w1 ⟨H1, cs1, rfl, hr1, hz⟩
  have hle := hz.le
  replace hr := Aside.mk (hr.out.mono hle)
  replace nr := Aside.mk (fun o => (hz.old _ o (boxL kr.out)).trans (nr.out o))
  replace nz := Aside.mk (fun o => (hz.old _ o (boxL kz.out)).trans (nz.out o))
  replace kr := Aside.mk (box_below kr.out hz.below)
  replace kz := Aside.mk (box_below kz.out hz.below)
  replace hx := Aside.mk (hx.out.trans hz)
  clear hle hz
  have HF := Aside.mk (show ruleF (.mk 4 s (args) mn mx ng) = manyF 4 args from by simp only [ruleF]; rw [if_pos (by decide)])
  generalize hoo : manyF 4 args = oo at *
  replace hoo := Aside.mk hoo
  generalize hxx : oo.getD (Re.mk 4 s (args) mn mx ng) = xx at *
  replace hxx := Aside.mk hxx
  generalize hbb : oo.isSome = bb at *
  replace hbb := Aside.mk hbb
  have hr3 := hr1
  obtain ⟨k7, s7, a7, u7, v7, g7, rfl⟩ : ∃ a b c d e f, xx = Re.mk a b c d e f := (by cases xx; exact ⟨_, _, _, _, _, _, rfl⟩)
  obtain ⟨Q1, q1, Q2, q2, rfl, -, -⟩ := hr1.open
  replace hr3 := Aside.mk hr3
  clear hr1
  have lqr : w.heap.size < w1.heap.size := boxL kr.out
  obtain ⟨⟨cr0, cr1, cr2, cr3, cr4, cr5⟩, fr0, fr1, fr2, fr3, fr4, fr5⟩ := kb6 kr.out
  have lqz : w.heap.size + 1 < w1.heap.size := boxL kz.out
  obtain ⟨⟨cz0, cz1, cz2, cz3, cz4, cz5⟩, fz0, fz1, fz2, fz3, fz4, fz5⟩ := kb6 kz.out
  go_wp2_with fail
  clear lqr cr0 cr1 cr2 cr3 cr4 cr5 fr0 fr1 fr2 fr3 fr4 fr5 lqz cz0 cz1 cz2 cz3 cz4 cz5 fz0 fz1 fz2 fz3 fz4 fz5
  have kr_ : ((((((w1.setCell ⟨w.heap.size + 1, 0, none⟩ (.int .i64 k7)).setCell ⟨w.heap.size + 1, 1, none⟩ (.slice Q1 s7.length q1)).setCell ⟨w.heap.size + 1, 2, none⟩ (.slice Q2 a7.length q2)).setCell ⟨w.heap.size + 1, 3, none⟩ (.int .i64 u7)).setCell ⟨w.heap.size + 1, 4, none⟩ (.int .i64 v7)).setCell ⟨w.heap.size + 1, 5, none⟩ (.bool g7)).heap[w.heap.size]? = some (.cells #[.int .i64 4, .slice A1 s.length c1, .slice A2 args.length c2, .int .i64 mn, .int .i64 mx, .bool ng] 25) := (boxS_ne (boxS_ne (boxS_ne (boxS_ne (boxS_ne (boxS_ne kr.out (by first | omega | (simp; omega)) 0 (.int .i64 k7)) (by first | omega | (simp; omega)) 1 (.slice Q1 s7.length q1)) (by first | omega | (simp; omega)) 2 (.slice Q2 a7.length q2)) (by first | omega | (simp; omega)) 3 (.int .i64 u7)) (by first | omega | (simp; omega)) 4 (.int .i64 v7)) (by first | omega | (simp; omega)) 5 (.bool g7))
  have kz_ : ((((((w1.setCell ⟨w.heap.size + 1, 0, none⟩ (.int .i64 k7)).setCell ⟨w.heap.size + 1, 1, none⟩ (.slice Q1 s7.length q1)).setCell ⟨w.heap.size + 1, 2, none⟩ (.slice Q2 a7.length q2)).setCell ⟨w.heap.size + 1, 3, none⟩ (.int .i64 u7)).setCell ⟨w.heap.size + 1, 4, none⟩ (.int .i64 v7)).setCell ⟨w.heap.size + 1, 5, none⟩ (.bool g7)).heap[w.heap.size + 1]? = some (.cells #[.int .i64 k7, .slice Q1 s7.length q1, .slice Q2 a7.length q2, .int .i64 u7, .int .i64 v7, .bool g7] 25) := (boxS (boxS (boxS (boxS (boxS (boxS kz.out 0 (.int .i64 k7)) 1 (.slice Q1 s7.length q1)) 2 (.slice Q2 a7.length q2)) 3 (.int .i64 u7)) 4 (.int .i64 v7)) 5 (.bool g7))
  replace hx := Aside.mk (((((((hx.out.setCell (b := w.heap.size + 1) (o := 0) (by first | omega | (simp; omega)) nz.out (.int .i64 k7)).setCell (b := w.heap.size + 1) (o := 1) (by first | omega | (simp; omega)) nz.out (.slice Q1 s7.length q1)).setCell (b := w.heap.size + 1) (o := 2) (by first | omega | (simp; omega)) nz.out (.slice Q2 a7.length q2)).setCell (b := w.heap.size + 1) (o := 3) (by first | omega | (simp; omega)) nz.out (.int .i64 u7)).setCell (b := w.heap.size + 1) (o := 4) (by first | omega | (simp; omega)) nz.out (.int .i64 v7)).setCell (b := w.heap.size + 1) (o := 5) (by first | omega | (simp; omega)) nz.out (.bool g7)))
  generalize ((((((w1.setCell ⟨w.heap.size + 1, 0, none⟩ (.int .i64 k7)).setCell ⟨w.heap.size + 1, 1, none⟩ (.slice Q1 s7.length q1)).setCell ⟨w.heap.size + 1, 2, none⟩ (.slice Q2 a7.length q2)).setCell ⟨w.heap.size + 1, 3, none⟩ (.int .i64 u7)).setCell ⟨w.heap.size + 1, 4, none⟩ (.int .i64 v7)).setCell ⟨w.heap.size + 1, 5, none⟩ (.bool g7)) = W2 at *
  replace kr := Aside.mk kr_
  clear kr_
  replace kz := Aside.mk kz_
  clear kz_
  refine bodyPost_ret (resC2 rfl _ _ _ rfl (run_loadVar_row _ _ _ _ _ (0, 0) _ kz.out Try.underlying25 rfl (by kernel_rfl))) rfl ?_
  exact ⟨_, _, by rw [HF.out, hbb.out]; rfl, by rw [HF.out, hxx.out]; exact hr3.out, hx.out⟩

set_option maxRecDepth 100000 in
set_option maxHeartbeats 16000000 in
theorem rule_k7 (H : PH) (s : List Span) (args : List Re) (mn mx : Int) (ng : Bool) (cs : List Value) (w : World) (hr : RdRe H (.mk 7 s args mn mx ng) cs) (hs : Sat w H) (hz : args.length + szL args ≤ 1048576) :
    Calls Try.prog 95 #[.agg cs.toArray] w (RuleR H w (.mk 7 s args mn mx ng) (ruleF (.mk 7 s args mn mx ng))) := by
  have hr_ := hr
  obtain ⟨A1, c1, A2, c2, rfl, -, h2⟩ := hr_.open
  have hc2 := h2.2.1
  clear h2 hr_
  have hx := Aside.mk (Ext.refl hs)
  replace hr := Aside.mk hr
  go_enter Try.func95, Try.ntmps95
  go_wp2_with fail
  have hszw := hx.out.size
  have kr_ : ((w.alloc (.cells #[.int .i64 7, .slice A1 s.length c1, .slice A2 args.length c2, .int .i64 mn, .int .i64 mx, .bool ng] 25)).alloc (.cells #[.int .i64 0, .slice none 0 0, .slice none 0 0, .int .i64 0, .int .i64 0, .bool false] 25)).heap[w.heap.size]? = some (.cells #[.int .i64 7, .slice A1 s.length c1, .slice A2 args.length c2, .int .i64 mn, .int .i64 mx, .bool ng] 25) := (boxA (heap_alloc_new _ _) (.cells #[.int .i64 0, .slice none 0 0, .slice none 0 0, .int .i64 0, .int .i64 0, .bool false] 25))
  have kz_ : ((w.alloc (.cells #[.int .i64 7, .slice A1 s.length c1, .slice A2 args.length c2, .int .i64 mn, .int .i64 mx, .bool ng] 25)).alloc (.cells #[.int .i64 0, .slice none 0 0, .slice none 0 0, .int .i64 0, .int .i64 0, .bool false] 25)).heap[w.heap.size + 1]? = some (.cells #[.int .i64 0, .slice none 0 0, .slice none 0 0, .int .i64 0, .int .i64 0, .bool false] 25) := (by rw [show w.heap.size + 1 = ((w.alloc (.cells #[.int .i64 7, .slice A1 s.length c1, .slice A2 args.length c2, .int .i64 mn, .int .i64 mx, .bool ng] 25))).heap.size by simp]; exact heap_alloc_new _ _)
  have nr := Aside.mk (fun o => hx.out.sat.new (b := w.heap.size) (show w.heap.size ≤ _ by omega) o)
  have nz := Aside.mk (fun o => hx.out.sat.new (b := w.heap.size + 1) (show w.heap.size ≤ _ by omega) o)
  replace hx := Aside.mk (((hx.out.alloc (.cells #[.int .i64 7, .slice A1 s.length c1, .slice A2 args.length c2, .int .i64 mn, .int .i64 mx, .bool ng] 25)).alloc (.cells #[.int .i64 0, .slice none 0 0, .slice none 0 0, .int .i64 0, .int .i64 0, .bool false] 25)))
  generalize ((w.alloc (.cells #[.int .i64 7, .slice A1 s.length c1, .slice A2 args.length c2, .int .i64 mn, .int .i64 mx, .bool ng] 25)).alloc (.cells #[.int .i64 0, .slice none 0 0, .slice none 0 0, .int .i64 0, .int .i64 0, .bool false] 25)) = W1 at *
  have kr := Aside.mk kr_
  clear kr_
  have kz := Aside.mk kz_
  clear kz_
  refine (ruleMany_any _ 7 s args mn mx ng _ _ hr.out hx.out.sat (by decide) hz).mono ?_
  rintro e w1 ⟨H1, cs1, rfl, hr1, hz⟩
  have hle := hz.le
  replace hr := Aside.mk (hr.out.mono hle)
  replace nr := Aside.mk (fun o => (hz.old _ o (boxL kr.out)).trans (nr.out o))
  replace nz := Aside.mk (fun o => (hz.old _ o (boxL kz.out)).trans (nz.out o))
  replace kr := Aside.mk (box_below kr.out hz.below)
  replace kz := Aside.mk (box_below kz.out hz.below)
  replace hx := Aside.mk (hx.out.trans hz)
  clear hle hz
  have HF := Aside.mk (show ruleF (.mk 7 s (args) mn mx ng) = manyF 7 args from by simp only [ruleF]; rw [if_pos (by decide)])
  generalize hoo : manyF 7 args = oo at *
  replace hoo := Aside.mk hoo
  generalize hxx : oo.getD (Re.mk 7 s (args) mn mx ng) = xx at *
  replace hxx := Aside.mk hxx
  generalize hbb : oo.isSome = bb at *
  replace hbb := Aside.mk hbb
  have hr3 := hr1
  obtain ⟨k7, s7, a7, u7, v7, g7, rfl⟩ : ∃ a b c d e f, xx = Re.mk a b c d e f := (by cases xx; exact ⟨_, _, _, _, _, _, rfl⟩)
  obtain ⟨Q1, q1, Q2, q2, rfl, -, -⟩ := hr1.open
  replace hr3 := Aside.mk hr3
  clear hr1
  have lqr : w.heap.size < w1.heap.size := boxL kr.out
  obtain ⟨⟨cr0, cr1, cr2, cr3, cr4, cr5⟩, fr0, fr1, fr2, fr3, fr4, fr5⟩ := kb6 kr.out
  have lqz : w.heap.size + 1 < w1.heap.size := boxL kz.out
  obtain ⟨⟨cz0, cz1, cz2, cz3, cz4, cz5⟩, fz0, fz1, fz2, fz3, fz4, fz5⟩ := kb6 kz.out
  go_wp2_with fail
  clear lqr cr0 cr1 cr2 cr3 cr4 cr5 fr0 fr1 fr2 fr3 fr4 fr5 lqz cz0 cz1 cz2 cz3 cz4 cz5 fz0 fz1 fz2 fz3 fz4 fz5
  have kr_ : ((((((w1.setCell ⟨w.heap.size + 1, 0, none⟩ (.int .i64 k7)).setCell ⟨w.heap.size + 1, 1, none⟩ (.slice Q1 s7.length q1)).setCell ⟨w.heap.size + 1, 2, none⟩ (.slice Q2 a7.length q2)).setCell ⟨w.heap.size + 1, 3, none⟩ (.int .i64 u7)).setCell ⟨w.heap.size + 1, 4, none⟩ (.int .i64 v7)).setCell ⟨w.heap.size + 1, 5, none⟩ (.bool g7)).heap[w.heap.size]? = some (.cells #[.int .i64 7, .slice A1 s.length c1, .slice A2 args.length c2, .int .i64 mn, .int .i64 mx, .bool ng] 25) := (boxS_ne (boxS_ne (boxS_ne (boxS_ne (boxS_ne (boxS_ne kr.out (by first | omega | (simp; omega)) 0 (.int .i64 k7)) (by first | omega | (simp; omega)) 1 (.slice Q1 s7.length q1)) (by first | omega | (simp; omega)) 2 (.slice Q2 a7.length q2)) (by first | omega | (simp; omega)) 3 (.int .i64 u7)) (by first | omega | (simp; omega)) 4 (.int .i64 v7)) (by first | omega | (simp; omega)) 5 (.bool g7))
  have kz_ : ((((((w1.setCell ⟨w.heap.size + 1, 0, none⟩ (.int .i64 k7)).setCell ⟨w.heap.size + 1, 1, none⟩ (.slice Q1 s7.length q1)).setCell ⟨w.heap.size + 1, 2, none⟩ (.slice Q2 a7.length q2)).setCell ⟨w.heap.size + 1, 3, none⟩ (.int .i64 u7)).setCell ⟨w.heap.size + 1, 4, none⟩ (.int .i64 v7)).setCell ⟨w.heap.size + 1, 5, none⟩ (.bool g7)).heap[w.heap.size + 1]? = some (.cells #[.int .i64 k7, .slice Q1 s7.length q1, .slice Q2 a7.length q2, .int .i64 u7, .int .i64 v7, .bool g7] 25) := (boxS (boxS (boxS (boxS (boxS (boxS kz.out 0 (.int .i64 k7)) 1 (.slice Q1 s7.length q1)) 2 (.slice Q2 a7.length q2)) 3 (.int .i64 u7)) 4 (.int .i64 v7)) 5 (.bool g7))
  replace hx := Aside.mk (((((((hx.out.setCell (b := w.heap.size + 1) (o := 0) (by first | omega | (simp; omega)) nz.out (.int .i64 k7)).setCell (b := w.heap.size + 1) (o := 1) (by first | omega | (simp; omega)) nz.out (.slice Q1 s7.length q1)).setCell (b := w.heap.size + 1) (o := 2) (by first | omega | (simp; omega)) nz.out (.slice Q2 a7.length q2)).setCell (b := w.heap.size + 1) (o := 3) (by first | omega | (simp; omega)) nz.out (.int .i64 u7)).setCell (b := w.heap.size + 1) (o := 4) (by first | omega | (simp; omega)) nz.out (.int .i64 v7)).setCell (b := w.heap.size + 1) (o := 5) (by first | omega | (simp; omega)) nz.out (.bool g7)))
  generalize ((((((w1.setCell ⟨w.heap.size + 1, 0, none⟩ (.int .i64 k7)).setCell ⟨w.heap.size + 1, 1, none⟩ (.slice Q1 s7.length q1)).setCell ⟨w.heap.size + 1, 2, none⟩ (.slice Q2 a7.length q2)).setCell ⟨w.heap.size + 1, 3, none⟩ (.int .i64 u7)).setCell ⟨w.heap.size + 1, 4, none⟩ (.int .i64 v7)).setCell ⟨w.heap.size + 1, 5, none⟩ (.bool g7)) = W2 at *
  replace kr := Aside.mk kr_
  clear kr_
  replace kz := Aside.mk kz_
  clear kz_
  refine bodyPost_ret (resC2 rfl _ _ _ rfl (run_loadVar_row _ _ _ _ _ (0, 0) _ kz.out Try.underlying25 rfl (by kernel_rfl))) rfl ?_
  exact ⟨_, _, by rw [HF.out, hbb.out]; rfl, by rw [HF.out, hxx.out]; exact hr3.out, hx.out⟩

set_option maxRecDepth 100000 in
set_option maxHeartbeats 16000000 in
theorem rule_k5 (H : PH) (s : List Span) (a : Re) (rest : List Re) (mn mx : Int) (ng : Bool) (cs : List Value) (w : World) (hr : RdRe H (.mk 5 s (a :: rest) mn mx ng) cs) (hs : Sat w H) :
    Calls Try.prog 95 #[.agg cs.toArray] w (RuleR H w (.mk 5 s (a :: rest) mn mx ng) (ruleF (.mk 5 s (a :: rest) mn mx ng))) := by
  have hrl : (a :: rest).length = rest.length + 1 := rfl
  have hr_ := hr
  obtain ⟨A1, c1, A2, c2, rfl, -, h2⟩ := hr_.open
  have hc2 := h2.2.1
  clear h2 hr_
  simp only [List.length_cons] at hc2 hr ⊢
  have hx := Aside.mk (Ext.refl hs)
  replace hr := Aside.mk hr
  go_enter Try.func95, Try.ntmps95
  go_wp2_with fail
  have hszw := hx.out.size
  have kr_ : ((w.alloc (.cells #[.int .i64 5, .slice A1 s.length c1, .slice A2 (rest.length + 1) c2, .int .i64 mn, .int .i64 mx, .bool ng] 25)).alloc (.cells #[.int .i64 0, .slice none 0 0, .slice none 0 0, .int .i64 0, .int .i64 0, .bool false] 25)).heap[w.heap.size]? = some (.cells #[.int .i64 5, .slice A1 s.length c1, .slice A2 (rest.length + 1) c2, .int .i64 mn, .int .i64 mx, .bool ng] 25) := (boxA (heap_alloc_new _ _) (.cells #[.int .i64 0, .slice none 0 0, .slice none 0 0, .int .i64 0, .int .i64 0, .bool false] 25))
  have kz_ : ((w.alloc (.cells #[.int .i64 5, .slice A1 s.length c1, .slice A2 (rest.length + 1) c2, .int .i64 mn, .int .i64 mx, .bool ng] 25)).alloc (.cells #[.int .i64 0, .slice none 0 0, .slice none 0 0, .int .i64 0, .int .i64 0, .bool false] 25)).heap[w.heap.size + 1]? = some (.cells #[.int .i64 0, .slice none 0 0, .slice none 0 0, .int .i64 0, .int .i64 0, .bool false] 25) := (by rw [show w.heap.size + 1 = ((w.alloc (.cells #[.int .i64 5, .slice A1 s.length c1, .slice A2 (rest.length + 1) c2, .int .i64 mn, .int .i64 mx, .bool ng] 25))).heap.size by simp]; exact heap_alloc_new _ _)
  have nr := Aside.mk (fun o => hx.out.sat.new (b := w.heap.size) (show w.heap.size ≤ _ by omega) o)
  have nz := Aside.mk (fun o => hx.out.sat.new (b := w.heap.size + 1) (show w.heap.size ≤ _ by omega) o)
  replace hx := Aside.mk (((hx.out.alloc (.cells #[.int .i64 5, .slice A1 s.length c1, .slice A2 (rest.length + 1) c2, .int .i64 mn, .int .i64 mx, .bool ng] 25)).alloc (.cells #[.int .i64 0, .slice none 0 0, .slice none 0 0, .int .i64 0, .int .i64 0, .bool false] 25)))
  generalize ((w.alloc (.cells #[.int .i64 5, .slice A1 s.length c1, .slice A2 (rest.length + 1) c2, .int .i64 mn, .int .i64 mx, .bool ng] 25)).alloc (.cells #[.int .i64 0, .slice none 0 0, .slice none 0 0, .int .i64 0, .int .i64 0, .bool false] 25)) = W1 at *
  have kr := Aside.mk kr_
  clear kr_
  have kz := Aside.mk kz_
  clear kz_
  refine (ruleRepeat_any _ 5 s a rest mn mx ng _ _ hr.out hx.out.sat (by decide)).mono ?_
  rintro e w1 ⟨H1, cs1, rfl, hr1, hz⟩
  have hle := hz.le
  replace hr := Aside.mk (hr.out.mono hle)
  replace nr := Aside.mk (fun o => (hz.old _ o (boxL kr.out)).trans (nr.out o))
  replace nz := Aside.mk (fun o => (hz.old _ o (boxL kz.out)).trans (nz.out o))
  replace kr := Aside.mk (box_below kr.out hz.below)
  replace kz := Aside.mk (box_below kz.out hz.below)
  replace hx := Aside.mk (hx.out.trans hz)
  clear hle hz
  have HF := Aside.mk (show ruleF (.mk 5 s (a :: rest) mn mx ng) = repG 5 a mn mx from by simp only [ruleF]; rw [if_neg (by decide), if_pos (by decide)])
  generalize hoo : repG 5 a mn mx = oo at *
  replace hoo := Aside.mk hoo
  generalize hxx : oo.getD (Re.mk 5 s (a :: rest) mn mx ng) = xx at *
  replace hxx := Aside.mk hxx
  generalize hbb : oo.isSome = bb at *
  replace hbb := Aside.mk hbb
  have hr3 := hr1
  obtain ⟨k7, s7, a7, u7, v7, g7, rfl⟩ : ∃ a b c d e f, xx = Re.mk a b c d e f := (by cases xx; exact ⟨_, _, _, _, _, _, rfl⟩)
  obtain ⟨Q1, q1, Q2, q2, rfl, -, -⟩ := hr1.open
  replace hr3 := Aside.mk hr3
  clear hr1
  have lqr : w.heap.size < w1.heap.size := boxL kr.out
  obtain ⟨⟨cr0, cr1, cr2, cr3, cr4, cr5⟩, fr0, fr1, fr2, fr3, fr4, fr5⟩ := kb6 kr.out
  have lqz : w.heap.size + 1 < w1.heap.size := boxL kz.out
  obtain ⟨⟨cz0, cz1, cz2, cz3, cz4, cz5⟩, fz0, fz1, fz2, fz3, fz4, fz5⟩ := kb6 kz.out
  go_wp2_with fail
  clear lqr cr0 cr1 cr2 cr3 cr4 cr5 fr0 fr1 fr2 fr3 fr4 fr5 lqz cz0 cz1 cz2 cz3 cz4 cz5 fz0 fz1 fz2 fz3 fz4 fz5
  have kr_ : ((((((w1.setCell ⟨w.heap.size + 1, 0, none⟩ (.int .i64 k7)).setCell ⟨w.heap.size + 1, 1, none⟩ (.slice Q1 s7.length q1)).setCell ⟨w.heap.size + 1, 2, none⟩ (.slice Q2 a7.length q2)).setCell ⟨w.heap.size + 1, 3, none⟩ (.int .i64 u7)).setCell ⟨w.heap.size + 1, 4, none⟩ (.int .i64 v7)).setCell ⟨w.heap.size + 1, 5, none⟩ (.bool g7)).heap[w.heap.size]? = some (.cells #[.int .i64 5, .slice A1 s.length c1, .slice A2 (rest.length + 1) c2, .int .i64 mn, .int .i64 mx, .bool ng] 25) := (boxS_ne (boxS_ne (boxS_ne (boxS_ne (boxS_ne (boxS_ne kr.out (by first | omega | (simp; omega)) 0 (.int .i64 k7)) (by first | omega | (simp; omega)) 1 (.slice Q1 s7.length q1)) (by first | omega | (simp; omega)) 2 (.slice Q2 a7.length q2)) (by first | omega | (simp; omega)) 3 (.int .i64 u7)) (by first | omega | (simp; omega)) 4 (.int .i64 v7)) (by first | omega | (simp; omega)) 5 (.bool g7))
  have kz_ : ((((((w1.setCell ⟨w.heap.size + 1, 0, none⟩ (.int .i64 k7)).setCell ⟨w.heap.size + 1, 1, none⟩ (.slice Q1 s7.length q1)).setCell ⟨w.heap.size + 1, 2, none⟩ (.slice Q2 a7.length q2)).setCell ⟨w.heap.size + 1, 3, none⟩ (.int .i64 u7)).setCell ⟨w.heap.size + 1, 4, none⟩ (.int .i64 v7)).setCell ⟨w.heap.size + 1, 5, none⟩ (.bool g7)).heap[w.heap.size + 1]? = some (.cells #[.int .i64 k7, .slice Q1 s7.length q1, .slice Q2 a7.length q2, .int .i64 u7, .int .i64 v7, .bool g7] 25) := (boxS (boxS (boxS (boxS (boxS (boxS kz.out 0 (.int .i64 k7)) 1 (.slice Q1 s7.length q1)) 2 (.slice Q2 a7.length q2)) 3 (.int .i64 u7)) 4 (.int .i64 v7)) 5 (.bool g7))
  replace hx := Aside.mk (((((((hx.out.setCell (b := w.heap.size + 1) (o := 0) (by first | omega | (simp; omega)) nz.out (.int .i64 k7)).setCell (b := w.heap.size + 1) (o := 1) (by first | omega | (simp; omega)) nz.out (.slice Q1 s7.length q1)).setCell (b := w.heap.size + 1) (o := 2) (by first | omega | (simp; omega)) nz.out (.slice Q2 a7.length q2)).setCell (b := w.heap.size + 1) (o := 3) (by first | omega | (simp; omega)) nz.out (.int .i64 u7)).setCell (b := w.heap.size + 1) (o := 4) (by first | omega | (simp; omega)) nz.out (.int .i64 v7)).setCell (b := w.heap.size + 1) (o := 5) (by first | omega | (simp; omega)) nz.out (.bool g7)))
  generalize ((((((w1.setCell ⟨w.heap.size + 1, 0, none⟩ (.int .i64 k7)).setCell ⟨w.heap.size + 1, 1, none⟩ (.slice Q1 s7.length q1)).setCell ⟨w.heap.size + 1, 2, none⟩ (.slice Q2 a7.length q2)).setCell ⟨w.heap.size + 1, 3, none⟩ (.int .i64 u7)).setCell ⟨w.heap.size + 1, 4, none⟩ (.int .i64 v7)).setCell ⟨w.heap.size + 1, 5, none⟩ (.bool g7)) = W2 at *
  replace kr := Aside.mk kr_
  clear kr_
  replace kz := Aside.mk kz_
  clear kz_
  refine bodyPost_ret (resC2 rfl _ _ _ rfl (run_loadVar_row _ _ _ _ _ (0, 0) _ kz.out Try.underlying25 rfl (by kernel_rfl))) rfl ?_
  exact ⟨_, _, by rw [HF.out, hbb.out]; rfl, by rw [HF.out, hxx.out]; exact hr3.out, hx.out⟩

set_option maxRecDepth 100000 in
set_option maxHeartbeats 16000000 in
theorem rule_k6 (H : PH) (s : List Span) (a : Re) (rest : List Re) (mn mx : Int) (ng : Bool) (cs : List Value) (w : World) (hr : RdRe H (.mk 6 s (a :: rest) mn mx ng) cs) (hs : Sat w H) :
    Calls Try.prog 95 #[.agg cs.toArray] w (RuleR H w (.mk 6 s (a :: rest) mn mx ng) (ruleF (.mk 6 s (a :: rest) mn mx ng))) := by
  have hrl : (a :: rest).length = rest.length + 1 := rfl
  have hr_ := hr
  obtain ⟨A1, c1, A2, c2, rfl, -, h2⟩ := hr_.open
  have hc2 := h2.2.1
  clear h2 hr_
  simp only [List.length_cons] at hc2 hr ⊢
  have hx := Aside.mk (Ext.refl hs)
  replace hr := Aside.mk hr
  go_enter Try.func95, Try.ntmps95
  go_wp2_with fail
  have hszw := hx.out.size
  have kr_ : ((w.alloc (.cells #[.int .i64 6, .slice A1 s.length c1, .slice A2 (rest.length + 1) c2, .int .i64 mn, .int .i64 mx, .bool ng] 25)).alloc (.cells #[.int .i64 0, .slice none 0 0, .slice none 0 0, .int .i64 0, .int .i64 0, .bool false] 25)).heap[w.heap.size]? = some (.cells #[.int .i64 6, .slice A1 s.length c1, .slice A2 (rest.length + 1) c2, .int .i64 mn, .int .i64 mx, .bool ng] 25) := (boxA (heap_alloc_new _ _) (.cells #[.int .i64 0, .slice none 0 0, .slice none 0 0, .int .i64 0, .int .i64 0, .bool false] 25))
  have kz_ : ((w.alloc (.cells #[.int .i64 6, .slice A1 s.length c1, .slice A2 (rest.length + 1) c2, .int .i64 mn, .int .i64 mx, .bool ng] 25)).alloc (.cells #[.int .i64 0, .slice none 0 0, .slice none 0 0, .int .i64 0, .int .i64 0, .bool false] 25)).heap[w.heap.size + 1]? = some (.cells #[.int .i64 0, .slice none 0 0, .slice none 0 0, .int .i64 0, .int .i64 0, .bool false] 25) := (by rw [show w.heap.size + 1 = ((w.alloc (.cells #[.int .i64 6, .slice A1 s.length c1, .slice A2 (rest.length + 1) c2, .int .i64 mn, .int .i64 mx, .bool ng] 25))).heap.size by simp]; exact heap_alloc_new _ _)
  have nr := Aside.mk (fun o => hx.out.sat.new (b := w.heap.size) (show w.heap.size ≤ _ by omega) o)
  have nz := Aside.mk (fun o => hx.out.sat.new (b := w.heap.size + 1) (show w.heap.size ≤ _ by omega) o)
  replace hx := Aside.mk (((hx.out.alloc (.cells #[.int .i64 6, .slice A1 s.length c1, .slice A2 (rest.length + 1) c2, .int .i64 mn, .int .i64 mx, .bool ng] 25)).alloc (.cells #[.int .i64 0, .slice none 0 0, .slice none 0 0, .int .i64 0, .int .i64 0, .bool false] 25)))
  generalize ((w.alloc (.cells #[.int .i64 6, .slice A1 s.length c1, .slice A2 (rest.length + 1) c2, .int .i64 mn, .int .i64 mx, .bool ng] 25)).alloc (.cells #[.int .i64 0, .slice none 0 0, .slice none 0 0, .int .i64 0, .int .i64 0, .bool false] 25)) = W1 at *
  have kr := Aside.mk kr_
  clear kr_
  have kz := Aside.mk kz_
  clear kz_
  refine (ruleRepeat_any _ 6 s a rest mn mx ng _ _ hr.out hx.out.sat (by decide)).mono ?_
  rintro e w1 ⟨H1, cs1, rfl, hr1, hz⟩
  have hle := hz.le
  replace hr := Aside.mk (hr.out.mono hle)
  replace nr := Aside.mk (fun o => (hz.old _ o (boxL kr.out)).trans (nr.out o))
  replace nz := Aside.mk (fun o => (hz.old _ o (boxL kz.out)).trans (nz.out o))
  replace kr := Aside.mk (box_below kr.out hz.below)
  replace kz := Aside.mk (box_below kz.out hz.below)
  replace hx := Aside.mk (hx.out.trans hz)
  clear hle hz
  have HF := Aside.mk (show ruleF (.mk 6 s (a :: rest) mn mx ng) = repG 6 a mn mx from by simp only [ruleF]; rw [if_neg (by decide), if_pos (by decide)])
  generalize hoo : repG 6 a mn mx = oo at *
  replace hoo := Aside.mk hoo
  generalize hxx : oo.getD (Re.mk 6 s (a :: rest) mn mx ng) = xx at *
  replace hxx := Aside.mk hxx
  generalize hbb : oo.isSome = bb at *
  replace hbb := Aside.mk hbb
  have hr3 := hr1
  obtain ⟨k7, s7, a7, u7, v7, g7, rfl⟩ : ∃ a b c d e f, xx = Re.mk a b c d e f := (by cases xx; exact ⟨_, _, _, _, _, _, rfl⟩)
  obtain ⟨Q1, q1, Q2, q2, rfl, -, -⟩ := hr1.open
  replace hr3 := Aside.mk hr3
  clear hr1
  have lqr : w.heap.size < w1.heap.size := boxL kr.out
  obtain ⟨⟨cr0, cr1, cr2, cr3, cr4, cr5⟩, fr0, fr1, fr2, fr3, fr4, fr5⟩ := kb6 kr.out
  have lqz : w.heap.size + 1 < w1.heap.size := boxL kz.out
  obtain ⟨⟨cz0, cz1, cz2, cz3, cz4, cz5⟩, fz0, fz1, fz2, fz3, fz4, fz5⟩ := kb6 kz.out
  go_wp2_with fail
  clear lqr cr0 cr1 cr2 cr3 cr4 cr5 fr0 fr1 fr2 fr3 fr4 fr5 lqz cz0 cz1 cz2 cz3 cz4 cz5 fz0 fz1 fz2 fz3 fz4 fz5
  have kr_ : ((((((w1.setCell ⟨w.heap.size + 1, 0, none⟩ (.int .i64 k7)).setCell ⟨w.heap.size + 1, 1, none⟩ (.slice Q1 s7.length q1)).setCell ⟨w.heap.size + 1, 2, none⟩ (.slice Q2 a7.length q2)).setCell ⟨w.heap.size + 1, 3, none⟩ (.int .i64 u7)).setCell ⟨w.heap.size + 1, 4, none⟩ (.int .i64 v7)).setCell ⟨w.heap.size + 1, 5, none⟩ (.bool g7)).heap[w.heap.size]? = some (.cells #[.int .i64 6, .slice A1 s.length c1, .slice A2 (rest.length + 1) c2, .int .i64 mn, .int .i64 mx, .bool ng] 25) := (boxS_ne (boxS_ne (boxS_ne (boxS_ne (boxS_ne (boxS_ne kr.out (by first | omega | (simp; omega)) 0 (.int .i64 k7)) (by first | omega | (simp; omega)) 1 (.slice Q1 s7.length q1)) (by first | omega | (simp; omega)) 2 (.slice Q2 a7.length q2)) (by first | omega | (simp; omega)) 3 (.int .i64 u7)) (by first | omega | (simp; omega)) 4 (.int .i64 v7)) (by first | omega | (simp; omega)) 5 (.bool g7))
  have kz_ : ((((((w1.setCell ⟨w.heap.size + 1, 0, none⟩ (.int .i64 k7)).setCell ⟨w.heap.size + 1, 1, none⟩ (.slice Q1 s7.length q1)).setCell ⟨w.heap.size + 1, 2, none⟩ (.slice Q2 a7.length q2)).setCell ⟨w.heap.size + 1, 3, none⟩ (.int .i64 u7)).setCell ⟨w.heap.size + 1, 4, none⟩ (.int .i64 v7)).setCell ⟨w.heap.size + 1, 5, none⟩ (.bool g7)).heap[w.heap.size + 1]? = some (.cells #[.int .i64 k7, .slice Q1 s7.length q1, .slice Q2 a7.length q2, .int .i64 u7, .int .i64 v7, .bool g7] 25) := (boxS (boxS (boxS (boxS (boxS (boxS kz.out 0 (.int .i64 k7)) 1 (.slice Q1 s7.length q1)) 2 (.slice Q2 a7.length q2)) 3 (.int .i64 u7)) 4 (.int .i64 v7)) 5 (.bool g7))
  replace hx := Aside.mk (((((((hx.out.setCell (b := w.heap.size + 1) (o := 0) (by first | omega | (simp; omega)) nz.out (.int .i64 k7)).setCell (b := w.heap.size + 1) (o := 1) (by first | omega | (simp; omega)) nz.out (.slice Q1 s7.length q1)).setCell (b := w.heap.size + 1) (o := 2) (by first | omega | (simp; omega)) nz.out (.slice Q2 a7.length q2)).setCell (b := w.heap.size + 1) (o := 3) (by first | omega | (simp; omega)) nz.out (.int .i64 u7)).setCell (b := w.heap.size + 1) (o := 4) (by first | omega | (simp; omega)) nz.out (.int .i64 v7)).setCell (b := w.heap.size + 1) (o := 5) (by first | omega | (simp; omega)) nz.out (.bool g7)))
  generalize ((((((w1.setCell ⟨w.heap.size + 1, 0, none⟩ (.int .i64 k7)).setCell ⟨w.heap.size + 1, 1, none⟩ (.slice Q1 s7.length q1)).setCell ⟨w.heap.size + 1, 2, none⟩ (.slice Q2 a7.length q2)).setCell ⟨w.heap.size + 1, 3, none⟩ (.int .i64 u7)).setCell ⟨w.heap.size + 1, 4, none⟩ (.int .i64 v7)).setCell ⟨w.heap.size + 1, 5, none⟩ (.bool g7)) = W2 at *
  replace kr := Aside.mk kr_
  clear kr_
  replace kz := Aside.mk kz_
  clear kz_
  refine bodyPost_ret (resC2 rfl _ _ _ rfl (run_loadVar_row _ _ _ _ _ (0, 0) _ kz.out Try.underlying25 rfl (by kernel_rfl))) rfl ?_
  exact ⟨_, _, by rw [HF.out, hbb.out]; rfl, by rw [HF.out, hxx.out]; exact hr3.out, hx.out⟩

set_option maxRecDepth 100000 in
set_option maxHeartbeats 16000000 in
theorem rule_k8 (H : PH) (s : List Span) (a : Re) (rest : List Re) (mn mx : Int) (ng : Bool) (cs : List Value) (w : World) (hr : RdRe H (.mk 8 s (a :: rest) mn mx ng) cs) (hs : Sat w H) (h8 : a.kind = 8 → a.args ≠ []) :
    Calls Try.prog 95 #[.agg cs.toArray] w (RuleR H w (.mk 8 s (a :: rest) mn mx ng) (ruleF (.mk 8 s (a :: rest) mn mx ng))) := by
  obtain ⟨A1, c1, A2, c2, rfl, h1, h2⟩ := hr.open
  obtain ⟨b, off, k1, s1, a1, u1, v1, g1, P1, d1, P2, d2, rfl, hq, hrd, g0, g1_, g2, g3, g4, g5⟩ := cell_elem h2 hs 0 (by simp)
  simp only [List.getElem_cons_zero, Nat.zero_mul, Nat.add_zero] at hq g0 g1_ g2 g3 g4 g5
  subst hq
  have hc2 := h2.2.1
  have hbz : b < w.heap.size := World.block_lt_of_cell? w _ g0
  simp only [List.length_cons] at hc2 hr ⊢
  have hll : (0 : Int) < (rest.length : Int) + 1 := by omega
  by_cases hk : k1 = 8
  case pos =>
    subst hk
    obtain ⟨_, _, _, _, e9, -, hra⟩ := hrd.open
    simp only [List.cons.injEq, Value.slice.injEq, true_and, and_true] at e9
    obtain ⟨⟨rfl, rfl⟩, rfl, rfl⟩ := e9
    obtain ⟨y, a2, rfl⟩ : ∃ y a2, a1 = y :: a2 := by cases a1 with | nil => exact absurd rfl (h8 rfl) | cons y a2 => exact ⟨y, a2, rfl⟩
    obtain ⟨b', off', k4, s4, a4, u4, v4, g4', R1, r1, R2, r2, rfl, q2, hrd2, z0, z1, z2, z3, z4, z5⟩ := cell_elem hra hs 0 (by simp)
    simp only [List.getElem_cons_zero, Nat.zero_mul, Nat.add_zero] at q2 z0 z1 z2 z3 z4 z5
    subst q2
    simp only [List.length_cons] at g2
    have hc3 := hra.2.1
    simp only [List.length_cons] at hc3
    have hll2 : (0 : Int) < (a2.length : Int) + 1 := by omega
    have hbz' : b' < w.heap.size := World.block_lt_of_cell? w _ z0
    replace hrd2 := Aside.mk hrd2
    have HF := Aside.mk (show ruleF (.mk 8 s (Re.mk 8 s1 (Re.mk k4 s4 a4 u4 v4 g4' :: a2) u1 v1 g1 :: rest) mn mx ng) = some (Re.mk k4 s4 a4 u4 v4 g4') from by simp [ruleF, Re.kind, Re.args])
    clear h1 h2 hrd hra hr h8
    have hx := Aside.mk (Ext.refl hs)
    go_enter Try.func95, Try.ntmps95
    go_wp2_with fail
    have hszw := hx.out.size
    have kr_ : ((w.alloc (.cells #[.int .i64 8, .slice A1 s.length c1, .slice (some ⟨b, off, none⟩) (rest.length + 1) c2, .int .i64 mn, .int .i64 mx, .bool ng] 25)).alloc (.cells #[.int .i64 k4, .slice R1 s4.length r1, .slice R2 a4.length r2, .int .i64 u4, .int .i64 v4, .bool g4'] 25)).heap[w.heap.size]? = some (.cells #[.int .i64 8, .slice A1 s.length c1, .slice (some ⟨b, off, none⟩) (rest.length + 1) c2, .int .i64 mn, .int .i64 mx, .bool ng] 25) := (boxA (heap_alloc_new _ _) (.cells #[.int .i64 k4, .slice R1 s4.length r1, .slice R2 a4.length r2, .int .i64 u4, .int .i64 v4, .bool g4'] 25))
    have kz_ : ((w.alloc (.cells #[.int .i64 8, .slice A1 s.length c1, .slice (some ⟨b, off, none⟩) (rest.length + 1) c2, .int .i64 mn, .int .i64 mx, .bool ng] 25)).alloc (.cells #[.int .i64 k4, .slice R1 s4.length r1, .slice R2 a4.length r2, .int .i64 u4, .int .i64 v4, .bool g4'] 25)).heap[w.heap.size + 1]? = some (.cells #[.int .i64 k4, .slice R1 s4.length r1, .slice R2 a4.length r2, .int .i64 u4, .int .i64 v4, .bool g4'] 25) := (by rw [show w.heap.size + 1 = ((w.alloc (.cells #[.int .i64 8, .slice A1 s.length c1, .slice (some ⟨b, off, none⟩) (rest.length + 1) c2, .int .i64 mn, .int .i64 mx, .bool ng] 25))).heap.size by simp]; exact heap_alloc_new _ _)
    have nr := Aside.mk (fun o => hx.out.sat.new (b := w.heap.size) (show w.heap.size ≤ _ by omega) o)
    have nz := Aside.mk (fun o => hx.out.sat.new (b := w.heap.size + 1) (show w.heap.size ≤ _ by omega) o)
    replace hx := Aside.mk (((hx.out.alloc (.cells #[.int .i64 8, .slice A1 s.length c1, .slice (some ⟨b, off, none⟩) (rest.length + 1) c2, .int .i64 mn, .int .i64 mx, .bool ng] 25)).alloc (.cells #[.int .i64 k4, .slice R1 s4.length r1, .slice R2 a4.length r2, .int .i64 u4, .int .i64 v4, .bool g4'] 25)))
    generalize ((w.alloc (.cells #[.int .i64 8, .slice A1 s.length c1, .slice (some ⟨b, off, none⟩) (rest.length + 1) c2, .int .i64 mn, .int .i64 mx, .bool ng] 25)).alloc (.cells #[.int .i64 k4, .slice R1 s4.length r1, .slice R2 a4.length r2, .int .i64 u4, .int .i64 v4, .bool g4'] 25)) = W1 at *
    have kr := Aside.mk kr_
    clear kr_
    have kz := Aside.mk kz_
    clear kz_
    refine bodyPost_ret (resC2 rfl _ _ _ rfl (run_loadVar_row _ _ _ _ _ (0, 0) _ kz.out Try.underlying25 rfl (by kernel_rfl))) rfl ?_
    rw [HF.out]
    exact ⟨_, _, rfl, hrd2.out.mono hx.out.le, hx.out⟩
  case neg =>
    have hk8 : (k1 == 8) = false := by simpa using hk
    have HF := Aside.mk (show ruleF (.mk 8 s ((Re.mk k1 s1 a1 u1 v1 g1) :: rest) mn mx ng) = none from by simp [ruleF, Re.kind, hk])
    replace hr := Aside.mk hr
    clear h1 h2 hrd h8 hk
    have hx := Aside.mk (Ext.refl hs)
    go_enter Try.func95, Try.ntmps95
    go_wp2_with fail
    have hszw := hx.out.size
    have kr_ : ((w.alloc (.cells #[.int .i64 8, .slice A1 s.length c1, .slice (some ⟨b, off, none⟩) (rest.length + 1) c2, .int .i64 mn, .int .i64 mx, .bool ng] 25)).alloc (.cells #[.int .i64 8, .slice A1 s.length c1, .slice (some ⟨b, off, none⟩) (rest.length + 1) c2, .int .i64 mn, .int .i64 mx, .bool ng] 25)).heap[w.heap.size]? = some (.cells #[.int .i64 8, .slice A1 s.length c1, .slice (some ⟨b, off, none⟩) (rest.length + 1) c2, .int .i64 mn, .int .i64 mx, .bool ng] 25) := (boxA (heap_alloc_new _ _) (.cells #[.int .i64 8, .slice A1 s.length c1, .slice (some ⟨b, off, none⟩) (rest.length + 1) c2, .int .i64 mn, .int .i64 mx, .bool ng] 25))
    have kz_ : ((w.alloc (.cells #[.int .i64 8, .slice A1 s.length c1, .slice (some ⟨b, off, none⟩) (rest.length + 1) c2, .int .i64 mn, .int .i64 mx, .bool ng] 25)).alloc (.cells #[.int .i64 8, .slice A1 s.length c1, .slice (some ⟨b, off, none⟩) (rest.length + 1) c2, .int .i64 mn, .int .i64 mx, .bool ng] 25)).heap[w.heap.size + 1]? = some (.cells #[.int .i64 8, .slice A1 s.length c1, .slice (some ⟨b, off, none⟩) (rest.length + 1) c2, .int .i64 mn, .int .i64 mx, .bool ng] 25) := (by rw [show w.heap.size + 1 = ((w.alloc (.cells #[.int .i64 8, .slice A1 s.length c1, .slice (some ⟨b, off, none⟩) (rest.length + 1) c2, .int .i64 mn, .int .i64 mx, .bool ng] 25))).heap.size by simp]; exact heap_alloc_new _ _)
    have nr := Aside.mk (fun o => hx.out.sat.new (b := w.heap.size) (show w.heap.size ≤ _ by omega) o)
    have nz := Aside.mk (fun o => hx.out.sat.new (b := w.heap.size + 1) (show w.heap.size ≤ _ by omega) o)
    replace hx := Aside.mk (((hx.out.alloc (.cells #[.int .i64 8, .slice A1 s.length c1, .slice (some ⟨b, off, none⟩) (rest.length + 1) c2, .int .i64 mn, .int .i64 mx, .bool ng] 25)).alloc (.cells #[.int .i64 8, .slice A1 s.length c1, .slice (some ⟨b, off, none⟩) (rest.length + 1) c2, .int .i64 mn, .int .i64 mx, .bool ng] 25)))
    generalize ((w.alloc (.cells #[.int .i64 8, .slice A1 s.length c1, .slice (some ⟨b, off, none⟩) (rest.length + 1) c2, .int .i64 mn, .int .i64 mx, .bool ng] 25)).alloc (.cells #[.int .i64 8, .slice A1 s.length c1, .slice (some ⟨b, off, none⟩) (rest.length + 1) c2, .int .i64 mn, .int .i64 mx, .bool ng] 25)) = W2 at *
    have kr := Aside.mk kr_
    clear kr_
    have kz := Aside.mk kz_
    clear kz_
    refine bodyPost_ret (resC2 rfl _ _ _ rfl (run_loadVar_row _ _ _ _ _ (0, 0) _ kz.out Try.underlying25 rfl (by kernel_rfl))) rfl ?_
    rw [HF.out]
    exact ⟨_, _, rfl, hr.out.mono hx.out.le, hx.out⟩

set_option maxRecDepth 100000 in
set_option maxHeartbeats 16000000 in
theorem rule_k10 (H : PH) (s : List Span) (a : Re) (rest : List Re) (mn mx : Int) (ng : Bool) (cs : List Value) (w : World) (hr : RdRe H (.mk 10 s (a :: rest) mn mx ng) cs) (hs : Sat w H) :
    Calls Try.prog 95 #[.agg cs.toArray] w (RuleR H w (.mk 10 s (a :: rest) mn mx ng) (ruleF (.mk 10 s (a :: rest) mn mx ng))) := by
  obtain ⟨A1, c1, A2, c2, rfl, h1, h2⟩ := hr.open
  obtain ⟨b, off, k1, s1, a1, u1, v1, g1, P1, d1, P2, d2, rfl, hq, hrd, g0, g1_, g2, g3, g4, g5⟩ := cell_elem h2 hs 0 (by simp)
  simp only [List.getElem_cons_zero, Nat.zero_mul, Nat.add_zero] at hq g0 g1_ g2 g3 g4 g5
  subst hq
  have hc2 := h2.2.1
  have hbz : b < w.heap.size := World.block_lt_of_cell? w _ g0
  simp only [List.length_cons] at hc2 hr ⊢
  have hll : (0 : Int) < (rest.length : Int) + 1 := by omega
  by_cases hk : k1 ≤ 1
  case pos =>
    by_cases hk1 : k1 = 1
    case pos =>
      subst hk1
      cases ng
      case false =>
        have HF := Aside.mk (show ruleF (.mk 10 s ((Re.mk 1 s1 a1 u1 v1 g1) :: rest) mn mx false) = some emptyRe from by simp [ruleF, Re.kind])
        clear h1 h2 hrd hr
        have hx := Aside.mk (Ext.refl hs)
        go_enter Try.func95, Try.ntmps95
        go_wp2_with fail
        have hszw := hx.out.size
        have kr_ : ((w.alloc (.cells #[.int .i64 10, .slice A1 s.length c1, .slice (some ⟨b, off, none⟩) (rest.length + 1) c2, .int .i64 mn, .int .i64 mx, .bool false] 25)).alloc (.cells #[.int .i64 0, .slice none 0 0, .slice none 0 0, .int .i64 0, .int .i64 0, .bool false] 25)).heap[w.heap.size]? = some (.cells #[.int .i64 10, .slice A1 s.length c1, .slice (some ⟨b, off, none⟩) (rest.length + 1) c2, .int .i64 mn, .int .i64 mx, .bool false] 25) := (boxA (heap_alloc_new _ _) (.cells #[.int .i64 0, .slice none 0 0, .slice none 0 0, .int .i64 0, .int .i64 0, .bool false] 25))
        have kz_ : ((w.alloc (.cells #[.int .i64 10, .slice A1 s.length c1, .slice (some ⟨b, off, none⟩) (rest.length + 1) c2, .int .i64 mn, .int .i64 mx, .bool false] 25)).alloc (.cells #[.int .i64 0, .slice none 0 0, .slice none 0 0, .int .i64 0, .int .i64 0, .bool false] 25)).heap[w.heap.size + 1]? = some (.cells #[.int .i64 0, .slice none 0 0, .slice none 0 0, .int .i64 0, .int .i64 0, .bool false] 25) := (by rw [show w.heap.size + 1 = ((w.alloc (.cells #[.int .i64 10, .slice A1 s.length c1, .slice (some ⟨b, off, none⟩) (rest.length + 1) c2, .int .i64 mn, .int .i64 mx, .bool false] 25))).heap.size by simp]; exact heap_alloc_new _ _)
        have nr := Aside.mk (fun o => hx.out.sat.new (b := w.heap.size) (show w.heap.size ≤ _ by omega) o)
        have nz := Aside.mk (fun o => hx.out.sat.new (b := w.heap.size + 1) (show w.heap.size ≤ _ by omega) o)
        replace hx := Aside.mk (((hx.out.alloc (.cells #[.int .i64 10, .slice A1 s.length c1, .slice (some ⟨b, off, none⟩) (rest.length + 1) c2, .int .i64 mn, .int .i64 mx, .bool false] 25)).alloc (.cells #[.int .i64 0, .slice none 0 0, .slice none 0 0, .int .i64 0, .int .i64 0, .bool false] 25)))
        generalize ((w.alloc (.cells #[.int .i64 10, .slice A1 s.length c1, .slice (some ⟨b, off, none⟩) (rest.length + 1) c2, .int .i64 mn, .int .i64 mx, .bool false] 25)).alloc (.cells #[.int .i64 0, .slice none 0 0, .slice none 0 0, .int .i64 0, .int .i64 0, .bool false] 25)) = W1 at *
        have kr := Aside.mk kr_
        clear kr_
        have kz := Aside.mk kz_
        clear kz_
        refine (refEmpty_any _).mono ?_
        rintro e w1 ⟨rfl, hb⟩
        replace kr := Aside.mk (box_below kr.out hb)
        replace kz := Aside.mk (box_below kz.out hb)
        replace hx := Aside.mk (hx.out.then_below hb)
        clear hb
        have lqr : w.heap.size < w1.heap.size := boxL kr.out
        obtain ⟨⟨cr0, cr1, cr2, cr3, cr4, cr5⟩, fr0, fr1, fr2, fr3, fr4, fr5⟩ := kb6 kr.out
        have lqz : w.heap.size + 1 < w1.heap.size := boxL kz.out
        obtain ⟨⟨cz0, cz1, cz2, cz3, cz4, cz5⟩, fz0, fz1, fz2, fz3, fz4, fz5⟩ := kb6 kz.out
        go_wp2_with fail
        clear lqr cr0 cr1 cr2 cr3 cr4 cr5 fr0 fr1 fr2 fr3 fr4 fr5 lqz cz0 cz1 cz2 cz3 cz4 cz5 fz0 fz1 fz2 fz3 fz4 fz5
        have kr_ : ((((((w1.setCell ⟨w.heap.size + 1, 0, none⟩ (.int .i64 1)).setCell ⟨w.heap.size + 1, 1, none⟩ (.slice none 0 0)).setCell ⟨w.heap.size + 1, 2, none⟩ (.slice none 0 0)).setCell ⟨w.heap.size + 1, 3, none⟩ (.int .i64 0)).setCell ⟨w.heap.size + 1, 4, none⟩ (.int .i64 0)).setCell ⟨w.heap.size + 1, 5, none⟩ (.bool false)).heap[w.heap.size]? = some (.cells #[.int .i64 10, .slice A1 s.length c1, .slice (some ⟨b, off, none⟩) (rest.length + 1) c2, .int .i64 mn, .int .i64 mx, .bool false] 25) := (boxS_ne (boxS_ne (boxS_ne (boxS_ne (boxS_ne (boxS_ne kr.out (by first | omega | (simp; omega)) 0 (.int .i64 1)) (by first | omega | (simp; omega)) 1 (.slice none 0 0)) (by first | omega | (simp; omega)) 2 (.slice none 0 0)) (by first | omega | (simp; omega)) 3 (.int .i64 0)) (by first | omega | (simp; omega)) 4 (.int .i64 0)) (by first | omega | (simp; omega)) 5 (.bool false))
        have kz_ : ((((((w1.setCell ⟨w.heap.size + 1, 0, none⟩ (.int .i64 1)).setCell ⟨w.heap.size + 1, 1, none⟩ (.slice none 0 0)).setCell ⟨w.heap.size + 1, 2, none⟩ (.slice none 0 0)).setCell ⟨w.heap.size + 1, 3, none⟩ (.int .i64 0)).setCell ⟨w.heap.size + 1, 4, none⟩ (.int .i64 0)).setCell ⟨w.heap.size + 1, 5, none⟩ (.bool false)).heap[w.heap.size + 1]? = some (.cells #[.int .i64 1, .slice none 0 0, .slice none 0 0, .int .i64 0, .int .i64 0, .bool false] 25) := (boxS (boxS (boxS (boxS (boxS (boxS kz.out 0 (.int .i64 1)) 1 (.slice none 0 0)) 2 (.slice none 0 0)) 3 (.int .i64 0)) 4 (.int .i64 0)) 5 (.bool false))
        replace hx := Aside.mk (((((((hx.out.setCell (b := w.heap.size + 1) (o := 0) (by first | omega | (simp; omega)) nz.out (.int .i64 1)).setCell (b := w.heap.size + 1) (o := 1) (by first | omega | (simp; omega)) nz.out (.slice none 0 0)).setCell (b := w.heap.size + 1) (o := 2) (by first | omega | (simp; omega)) nz.out (.slice none 0 0)).setCell (b := w.heap.size + 1) (o := 3) (by first | omega | (simp; omega)) nz.out (.int .i64 0)).setCell (b := w.heap.size + 1) (o := 4) (by first | omega | (simp; omega)) nz.out (.int .i64 0)).setCell (b := w.heap.size + 1) (o := 5) (by first | omega | (simp; omega)) nz.out (.bool false)))
        generalize ((((((w1.setCell ⟨w.heap.size + 1, 0, none⟩ (.int .i64 1)).setCell ⟨w.heap.size + 1, 1, none⟩ (.slice none 0 0)).setCell ⟨w.heap.size + 1, 2, none⟩ (.slice none 0 0)).setCell ⟨w.heap.size + 1, 3, none⟩ (.int .i64 0)).setCell ⟨w.heap.size + 1, 4, none⟩ (.int .i64 0)).setCell ⟨w.heap.size + 1, 5, none⟩ (.bool false)) = W2 at *
        replace kr := Aside.mk kr_
        clear kr_
        replace kz := Aside.mk kz_
        clear kz_
        refine bodyPost_ret (resC2 rfl _ _ _ rfl (run_loadVar_row _ _ _ _ _ (0, 0) _ kz.out Try.underlying25 rfl (by kernel_rfl))) rfl ?_
        rw [HF.out]
        exact ⟨_, _, rfl, rd_empty _, hx.out⟩
      case true =>
        have HF := Aside.mk (show ruleF (.mk 10 s ((Re.mk 1 s1 a1 u1 v1 g1) :: rest) mn mx true) = some noneRe from by simp [ruleF, Re.kind])
        clear h1 h2 hrd hr
        have hx := Aside.mk (Ext.refl hs)
        go_enter Try.func95, Try.ntmps95
        go_wp2_with fail
        have hszw := hx.out.size
        have kr_ : ((w.alloc (.cells #[.int .i64 10, .slice A1 s.length c1, .slice (some ⟨b, off, none⟩) (rest.length + 1) c2, .int .i64 mn, .int .i64 mx, .bool true] 25)).alloc (.cells #[.int .i64 0, .slice none 0 0, .slice none 0 0, .int .i64 0, .int .i64 0, .bool false] 25)).heap[w.heap.size]? = some (.cells #[.int .i64 10, .slice A1 s.length c1, .slice (some ⟨b, off, none⟩) (rest.length + 1) c2, .int .i64 mn, .int .i64 mx, .bool true] 25) := (boxA (heap_alloc_new _ _) (.cells #[.int .i64 0, .slice none 0 0, .slice none 0 0, .int .i64 0, .int .i64 0, .bool false] 25))
        have kz_ : ((w.alloc (.cells #[.int .i64 10, .slice A1 s.length c1, .slice (some ⟨b, off, none⟩) (rest.length + 1) c2, .int .i64 mn, .int .i64 mx, .bool true] 25)).alloc (.cells #[.int .i64 0, .slice none 0 0, .slice none 0 0, .int .i64 0, .int .i64 0, .bool false] 25)).heap[w.heap.size + 1]? = some (.cells #[.int .i64 0, .slice none 0 0, .slice none 0 0, .int .i64 0, .int .i64 0, .bool false] 25) := (by rw [show w.heap.size + 1 = ((w.alloc (.cells #[.int .i64 10, .slice A1 s.length c1, .slice (some ⟨b, off, none⟩) (rest.length + 1) c2, .int .i64 mn, .int .i64 mx, .bool true] 25))).heap.size by simp]; exact heap_alloc_new _ _)
        have nr := Aside.mk (fun o => hx.out.sat.new (b := w.heap.size) (show w.heap.size ≤ _ by omega) o)
        have nz := Aside.mk (fun o => hx.out.sat.new (b := w.heap.size + 1) (show w.heap.size ≤ _ by omega) o)
        replace hx := Aside.mk (((hx.out.alloc (.cells #[.int .i64 10, .slice A1 s.length c1, .slice (some ⟨b, off, none⟩) (rest.length + 1) c2, .int .i64 mn, .int .i64 mx, .bool true] 25)).alloc (.cells #[.int .i64 0, .slice none 0 0, .slice none 0 0, .int .i64 0, .int .i64 0, .bool false] 25)))
        generalize ((w.alloc (.cells #[.int .i64 10, .slice A1 s.length c1, .slice (some ⟨b, off, none⟩) (rest.length + 1) c2, .int .i64 mn, .int .i64 mx, .bool true] 25)).alloc (.cells #[.int .i64 0, .slice none 0 0, .slice none 0 0, .int .i64 0, .int .i64 0, .bool false] 25)) = W3 at *
        have kr := Aside.mk kr_
        clear kr_
        have kz := Aside.mk kz_
        clear kz_
        refine (refNone_any _).mono ?_
        rintro e w1 ⟨rfl, hb⟩
        replace kr := Aside.mk (box_below kr.out hb)
        replace kz := Aside.mk (box_below kz.out hb)
        replace hx := Aside.mk (hx.out.then_below hb)
        clear hb
        have lqr : w.heap.size < w1.heap.size := boxL kr.out
        obtain ⟨⟨cr0, cr1, cr2, cr3, cr4, cr5⟩, fr0, fr1, fr2, fr3, fr4, fr5⟩ := kb6 kr.out
        have lqz : w.heap.size + 1 < w1.heap.size := boxL kz.out
        obtain ⟨⟨cz0, cz1, cz2, cz3, cz4, cz5⟩, fz0, fz1, fz2, fz3, fz4, fz5⟩ := kb6 kz.out
        go_wp2_with fail
        clear lqr cr0 cr1 cr2 cr3 cr4 cr5 fr0 fr1 fr2 fr3 fr4 fr5 lqz cz0 cz1 cz2 cz3 cz4 cz5 fz0 fz1 fz2 fz3 fz4 fz5
        have kr_ : ((((((w1.setCell ⟨w.heap.size + 1, 0, none⟩ (.int .i64 0)).setCell ⟨w.heap.size + 1, 1, none⟩ (.slice none 0 0)).setCell ⟨w.heap.size + 1, 2, none⟩ (.slice none 0 0)).setCell ⟨w.heap.size + 1, 3, none⟩ (.int .i64 0)).setCell ⟨w.heap.size + 1, 4, none⟩ (.int .i64 0)).setCell ⟨w.heap.size + 1, 5, none⟩ (.bool false)).heap[w.heap.size]? = some (.cells #[.int .i64 10, .slice A1 s.length c1, .slice (some ⟨b, off, none⟩) (rest.length + 1) c2, .int .i64 mn, .int .i64 mx, .bool true] 25) := (boxS_ne (boxS_ne (boxS_ne (boxS_ne (boxS_ne (boxS_ne kr.out (by first | omega | (simp; omega)) 0 (.int .i64 0)) (by first | omega | (simp; omega)) 1 (.slice none 0 0)) (by first | omega | (simp; omega)) 2 (.slice none 0 0)) (by first | omega | (simp; omega)) 3 (.int .i64 0)) (by first | omega | (simp; omega)) 4 (.int .i64 0)) (by first | omega | (simp; omega)) 5 (.bool false))
        have kz_ : ((((((w1.setCell ⟨w.heap.size + 1, 0, none⟩ (.int .i64 0)).setCell ⟨w.heap.size + 1, 1, none⟩ (.slice none 0 0)).setCell ⟨w.heap.size + 1, 2, none⟩ (.slice none 0 0)).setCell ⟨w.heap.size + 1, 3, none⟩ (.int .i64 0)).setCell ⟨w.heap.size + 1, 4, none⟩ (.int .i64 0)).setCell ⟨w.heap.size + 1, 5, none⟩ (.bool false)).heap[w.heap.size + 1]? = some (.cells #[.int .i64 0, .slice none 0 0, .slice none 0 0, .int .i64 0, .int .i64 0, .bool false] 25) := (boxS (boxS (boxS (boxS (boxS (boxS kz.out 0 (.int .i64 0)) 1 (.slice none 0 0)) 2 (.slice none 0 0)) 3 (.int .i64 0)) 4 (.int .i64 0)) 5 (.bool false))
        replace hx := Aside.mk (((((((hx.out.setCell (b := w.heap.size + 1) (o := 0) (by first | omega | (simp; omega)) nz.out (.int .i64 0)).setCell (b := w.heap.size + 1) (o := 1) (by first | omega | (simp; omega)) nz.out (.slice none 0 0)).setCell (b := w.heap.size + 1) (o := 2) (by first | omega | (simp; omega)) nz.out (.slice none 0 0)).setCell (b := w.heap.size + 1) (o := 3) (by first | omega | (simp; omega)) nz.out (.int .i64 0)).setCell (b := w.heap.size + 1) (o := 4) (by first | omega | (simp; omega)) nz.out (.int .i64 0)).setCell (b := w.heap.size + 1) (o := 5) (by first | omega | (simp; omega)) nz.out (.bool false)))
        generalize ((((((w1.setCell ⟨w.heap.size + 1, 0, none⟩ (.int .i64 0)).setCell ⟨w.heap.size + 1, 1, none⟩ (.slice none 0 0)).setCell ⟨w.heap.size + 1, 2, none⟩ (.slice none 0 0)).setCell ⟨w.heap.size + 1, 3, none⟩ (.int .i64 0)).setCell ⟨w.heap.size + 1, 4, none⟩ (.int .i64 0)).setCell ⟨w.heap.size + 1, 5, none⟩ (.bool false)) = W4 at *
        replace kr := Aside.mk kr_
        clear kr_
        replace kz := Aside.mk kz_
        clear kz_
        refine bodyPost_ret (resC2 rfl _ _ _ rfl (run_loadVar_row _ _ _ _ _ (0, 0) _ kz.out Try.underlying25 rfl (by kernel_rfl))) rfl ?_
        rw [HF.out]
        exact ⟨_, _, rfl, rd_none _, hx.out⟩
    case neg =>
      have hk1b : (k1 == 1) = false := by simpa using hk1
      cases ng
      case false =>
        have HF := Aside.mk (show ruleF (.mk 10 s ((Re.mk k1 s1 a1 u1 v1 g1) :: rest) mn mx false) = some noneRe from by simp [ruleF, Re.kind, hk, hk1])
        clear h1 h2 hrd hr
        clear hk1
        have hx := Aside.mk (Ext.refl hs)
        go_enter Try.func95, Try.ntmps95
        go_wp2_with fail
        have hszw := hx.out.size
        have kr_ : ((w.alloc (.cells #[.int .i64 10, .slice A1 s.length c1, .slice (some ⟨b, off, none⟩) (rest.length + 1) c2, .int .i64 mn, .int .i64 mx, .bool false] 25)).alloc (.cells #[.int .i64 0, .slice none 0 0, .slice none 0 0, .int .i64 0, .int .i64 0, .bool false] 25)).heap[w.heap.size]? = some (.cells #[.int .i64 10, .slice A1 s.length c1, .slice (some ⟨b, off, none⟩) (rest.length + 1) c2, .int .i64 mn, .int .i64 mx, .bool false] 25) := (boxA (heap_alloc_new _ _) (.cells #[.int .i64 0, .slice none 0 0, .slice none 0 0, .int .i64 0, .int .i64 0, .bool false] 25))
        have kz_ : ((w.alloc (.cells #[.int .i64 10, .slice A1 s.length c1, .slice (some ⟨b, off, none⟩) (rest.length + 1) c2, .int .i64 mn, .int .i64 mx, .bool false] 25)).alloc (.cells #[.int .i64 0, .slice none 0 0, .slice none 0 0, .int .i64 0, .int .i64 0, .bool false] 25)).heap[w.heap.size + 1]? = some (.cells #[.int .i64 0, .slice none 0 0, .slice none 0 0, .int .i64 0, .int .i64 0, .bool false] 25) := (by rw [show w.heap.size + 1 = ((w.alloc (.cells #[.int .i64 10, .slice A1 s.length c1, .slice (some ⟨b, off, none⟩) (rest.length + 1) c2, .int .i64 mn, .int .i64 mx, .bool false] 25))).heap.size by simp]; exact heap_alloc_new _ _)
        have nr := Aside.mk (fun o => hx.out.sat.new (b := w.heap.size) (show w.heap.size ≤ _ by omega) o)
        have nz := Aside.mk (fun o => hx.out.sat.new (b := w.heap.size + 1) (show w.heap.size ≤ _ by omega) o)
        replace hx := Aside.mk (((hx.out.alloc (.cells #[.int .i64 10, .slice A1 s.length c1, .slice (some ⟨b, off, none⟩) (rest.length + 1) c2, .int .i64 mn, .int .i64 mx, .bool false] 25)).alloc (.cells #[.int .i64 0, .slice none 0 0, .slice none 0 0, .int .i64 0, .int .i64 0, .bool false] 25)))
        generalize ((w.alloc (.cells #[.int .i64 10, .slice A1 s.length c1, .slice (some ⟨b, off, none⟩) (rest.length + 1) c2, .int .i64 mn, .int .i64 mx, .bool false] 25)).alloc (.cells #[.int .i64 0, .slice none 0 0, .slice none 0 0, .int .i64 0, .int .i64 0, .bool false] 25)) = W5 at *
        have kr := Aside.mk kr_
        clear kr_
        have kz := Aside.mk kz_
        clear kz_
        refine (refNone_any _).mono ?_
        rintro e w1 ⟨rfl, hb⟩
        replace kr := Aside.mk (box_below kr.out hb)
        replace kz := Aside.mk (box_below kz.out hb)
        replace hx := Aside.mk (hx.out.then_below hb)
        clear hb
        have lqr : w.heap.size < w1.heap.size := boxL kr.out
        obtain ⟨⟨cr0, cr1, cr2, cr3, cr4, cr5⟩, fr0, fr1, fr2, fr3, fr4, fr5⟩ := kb6 kr.out
        have lqz : w.heap.size + 1 < w1.heap.size := boxL kz.out
        obtain ⟨⟨cz0, cz1, cz2, cz3, cz4, cz5⟩, fz0, fz1, fz2, fz3, fz4, fz5⟩ := kb6 kz.out
        go_wp2_with fail
        clear lqr cr0 cr1 cr2 cr3 cr4 cr5 fr0 fr1 fr2 fr3 fr4 fr5 lqz cz0 cz1 cz2 cz3 cz4 cz5 fz0 fz1 fz2 fz3 fz4 fz5
        have kr_ : ((((((w1.setCell ⟨w.heap.size + 1, 0, none⟩ (.int .i64 0)).setCell ⟨w.heap.size + 1, 1, none⟩ (.slice none 0 0)).setCell ⟨w.heap.size + 1, 2, none⟩ (.slice none 0 0)).setCell ⟨w.heap.size + 1, 3, none⟩ (.int .i64 0)).setCell ⟨w.heap.size + 1, 4, none⟩ (.int .i64 0)).setCell ⟨w.heap.size + 1, 5, none⟩ (.bool false)).heap[w.heap.size]? = some (.cells #[.int .i64 10, .slice A1 s.length c1, .slice (some ⟨b, off, none⟩) (rest.length + 1) c2, .int .i64 mn, .int .i64 mx, .bool false] 25) := (boxS_ne (boxS_ne (boxS_ne (boxS_ne (boxS_ne (boxS_ne kr.out (by first | omega | (simp; omega)) 0 (.int .i64 0)) (by first | omega | (simp; omega)) 1 (.slice none 0 0)) (by first | omega | (simp; omega)) 2 (.slice none 0 0)) (by first | omega | (simp; omega)) 3 (.int .i64 0)) (by first | omega | (simp; omega)) 4 (.int .i64 0)) (by first | omega | (simp; omega)) 5 (.bool false))
        have kz_ : ((((((w1.setCell ⟨w.heap.size + 1, 0, none⟩ (.int .i64 0)).setCell ⟨w.heap.size + 1, 1, none⟩ (.slice none 0 0)).setCell ⟨w.heap.size + 1, 2, none⟩ (.slice none 0 0)).setCell ⟨w.heap.size + 1, 3, none⟩ (.int .i64 0)).setCell ⟨w.heap.size + 1, 4, none⟩ (.int .i64 0)).setCell ⟨w.heap.size + 1, 5, none⟩ (.bool false)).heap[w.heap.size + 1]? = some (.cells #[.int .i64 0, .slice none 0 0, .slice none 0 0, .int .i64 0, .int .i64 0, .bool false] 25) := (boxS (boxS (boxS (boxS (boxS (boxS kz.out 0 (.int .i64 0)) 1 (.slice none 0 0)) 2 (.slice none 0 0)) 3 (.int .i64 0)) 4 (.int .i64 0)) 5 (.bool false))
        replace hx := Aside.mk (((((((hx.out.setCell (b := w.heap.size + 1) (o := 0) (by first | omega | (simp; omega)) nz.out (.int .i64 0)).setCell (b := w.heap.size + 1) (o := 1) (by first | omega | (simp; omega)) nz.out (.slice none 0 0)).setCell (b := w.heap.size + 1) (o := 2) (by first | omega | (simp; omega)) nz.out (.slice none 0 0)).setCell (b := w.heap.size + 1) (o := 3) (by first | omega | (simp; omega)) nz.out (.int .i64 0)).setCell (b := w.heap.size + 1) (o := 4) (by first | omega | (simp; omega)) nz.out (.int .i64 0)).setCell (b := w.heap.size + 1) (o := 5) (by first | omega | (simp; omega)) nz.out (.bool false)))
        generalize ((((((w1.setCell ⟨w.heap.size + 1, 0, none⟩ (.int .i64 0)).setCell ⟨w.heap.size + 1, 1, none⟩ (.slice none 0 0)).setCell ⟨w.heap.size + 1, 2, none⟩ (.slice none 0 0)).setCell ⟨w.heap.size + 1, 3, none⟩ (.int .i64 0)).setCell ⟨w.heap.size + 1, 4, none⟩ (.int .i64 0)).setCell ⟨w.heap.size + 1, 5, none⟩ (.bool false)) = W6 at *
        replace kr := Aside.mk kr_
        clear kr_
        replace kz := Aside.mk kz_
        clear kz_
        refine bodyPost_ret (resC2 rfl _ _ _ rfl (run_loadVar_row _ _ _ _ _ (0, 0) _ kz.out Try.underlying25 rfl (by kernel_rfl))) rfl ?_
        rw [HF.out]
        exact ⟨_, _, rfl, rd_none _, hx.out⟩
      case true =>
        have HF := Aside.mk (show ruleF (.mk 10 s ((Re.mk k1 s1 a1 u1 v1 g1) :: rest) mn mx true) = some emptyRe from by simp [ruleF, Re.kind, hk, hk1])
        clear h1 h2 hrd hr
        clear hk1
        have hx := Aside.mk (Ext.refl hs)
        go_enter Try.func95, Try.ntmps95
        go_wp2_with fail
        have hszw := hx.out.size
        have kr_ : ((w.alloc (.cells #[.int .i64 10, .slice A1 s.length c1, .slice (some ⟨b, off, none⟩) (rest.length + 1) c2, .int .i64 mn, .int .i64 mx, .bool true] 25)).alloc (.cells #[.int .i64 0, .slice none 0 0, .slice none 0 0, .int .i64 0, .int .i64 0, .bool false] 25)).heap[w.heap.size]? = some (.cells #[.int .i64 10, .slice A1 s.length c1, .slice (some ⟨b, off, none⟩) (rest.length + 1) c2, .int .i64 mn, .int .i64 mx, .bool true] 25) := (boxA (heap_alloc_new _ _) (.cells #[.int .i64 0, .slice none 0 0, .slice none 0 0, .int .i64 0, .int .i64 0, .bool false] 25))
        have kz_ : ((w.alloc (.cells #[.int .i64 10, .slice A1 s.length c1, .slice (some ⟨b, off, none⟩) (rest.length + 1) c2, .int .i64 mn, .int .i64 mx, .bool true] 25)).alloc (.cells #[.int .i64 0, .slice none 0 0, .slice none 0 0, .int .i64 0, .int .i64 0, .bool false] 25)).heap[w.heap.size + 1]? = some (.cells #[.int .i64 0, .slice none 0 0, .slice none 0 0, .int .i64 0, .int .i64 0, .bool false] 25) := (by rw [show w.heap.size + 1 = ((w.alloc (.cells #[.int .i64 10, .slice A1 s.length c1, .slice (some ⟨b, off, none⟩) (rest.length + 1) c2, .int .i64 mn, .int .i64 mx, .bool true] 25))).heap.size by simp]; exact heap_alloc_new _ _)
        have nr := Aside.mk (fun o => hx.out.sat.new (b := w.heap.size) (show w.heap.size ≤ _ by omega) o)
        have nz := Aside.mk (fun o => hx.out.sat.new (b := w.heap.size + 1) (show w.heap.size ≤ _ by omega) o)
        replace hx := Aside.mk (((hx.out.alloc (.cells #[.int .i64 10, .slice A1 s.length c1, .slice (some ⟨b, off, none⟩) (rest.length + 1) c2, .int .i64 mn, .int .i64 mx, .bool true] 25)).alloc (.cells #[.int .i64 0, .slice none 0 0, .slice none 0 0, .int .i64 0, .int .i64 0, .bool false] 25)))
        generalize ((w.alloc (.cells #[.int .i64 10, .slice A1 s.length c1, .slice (some ⟨b, off, none⟩) (rest.length + 1) c2, .int .i64 mn, .int .i64 mx, .bool true] 25)).alloc (.cells #[.int .i64 0, .slice none 0 0, .slice none 0 0, .int .i64 0, .int .i64 0, .bool false] 25)) = W7 at *
        have kr := Aside.mk kr_
        clear kr_
        have kz := Aside.mk kz_
        clear kz_
        refine (refEmpty_any _).mono ?_
        rintro e w1 ⟨rfl, hb⟩
        replace kr := Aside.mk (box_below kr.out hb)
        replace kz := Aside.mk (box_below kz.out hb)
        replace hx := Aside.mk (hx.out.then_below hb)
        clear hb
        have lqr : w.heap.size < w1.heap.size := boxL kr.out
        obtain ⟨⟨cr0, cr1, cr2, cr3, cr4, cr5⟩, fr0, fr1, fr2, fr3, fr4, fr5⟩ := kb6 kr.out
        have lqz : w.heap.size + 1 < w1.heap.size := boxL kz.out
        obtain ⟨⟨cz0, cz1, cz2, cz3, cz4, cz5⟩, fz0, fz1, fz2, fz3, fz4, fz5⟩ := kb6 kz.out
        go_wp2_with fail
        clear lqr cr0 cr1 cr2 cr3 cr4 cr5 fr0 fr1 fr2 fr3 fr4 fr5 lqz cz0 cz1 cz2 cz3 cz4 cz5 fz0 fz1 fz2 fz3 fz4 fz5
        have kr_ : ((((((w1.setCell ⟨w.heap.size + 1, 0, none⟩ (.int .i64 1)).setCell ⟨w.heap.size + 1, 1, none⟩ (.slice none 0 0)).setCell ⟨w.heap.size + 1, 2, none⟩ (.slice none 0 0)).setCell ⟨w.heap.size + 1, 3, none⟩ (.int .i64 0)).setCell ⟨w.heap.size + 1, 4, none⟩ (.int .i64 0)).setCell ⟨w.heap.size + 1, 5, none⟩ (.bool false)).heap[w.heap.size]? = some (.cells #[.int .i64 10, .slice A1 s.length c1, .slice (some ⟨b, off, none⟩) (rest.length + 1) c2, .int .i64 mn, .int .i64 mx, .bool true] 25) := (boxS_ne (boxS_ne (boxS_ne (boxS_ne (boxS_ne (boxS_ne kr.out (by first | omega | (simp; omega)) 0 (.int .i64 1)) (by first | omega | (simp; omega)) 1 (.slice none 0 0)) (by first | omega | (simp; omega)) 2 (.slice none 0 0)) (by first | omega | (simp; omega)) 3 (.int .i64 0)) (by first | omega | (simp; omega)) 4 (.int .i64 0)) (by first | omega | (simp; omega)) 5 (.bool false))
        have kz_ : ((((((w1.setCell ⟨w.heap.size + 1, 0, none⟩ (.int .i64 1)).setCell ⟨w.heap.size + 1, 1, none⟩ (.slice none 0 0)).setCell ⟨w.heap.size + 1, 2, none⟩ (.slice none 0 0)).setCell ⟨w.heap.size + 1, 3, none⟩ (.int .i64 0)).setCell ⟨w.heap.size + 1, 4, none⟩ (.int .i64 0)).setCell ⟨w.heap.size + 1, 5, none⟩ (.bool false)).heap[w.heap.size + 1]? = some (.cells #[.int .i64 1, .slice none 0 0, .slice none 0 0, .int .i64 0, .int .i64 0, .bool false] 25) := (boxS (boxS (boxS (boxS (boxS (boxS kz.out 0 (.int .i64 1)) 1 (.slice none 0 0)) 2 (.slice none 0 0)) 3 (.int .i64 0)) 4 (.int .i64 0)) 5 (.bool false))
        replace hx := Aside.mk (((((((hx.out.setCell (b := w.heap.size + 1) (o := 0) (by first | omega | (simp; omega)) nz.out (.int .i64 1)).setCell (b := w.heap.size + 1) (o := 1) (by first | omega | (simp; omega)) nz.out (.slice none 0 0)).setCell (b := w.heap.size + 1) (o := 2) (by first | omega | (simp; omega)) nz.out (.slice none 0 0)).setCell (b := w.heap.size + 1) (o := 3) (by first | omega | (simp; omega)) nz.out (.int .i64 0)).setCell (b := w.heap.size + 1) (o := 4) (by first | omega | (simp; omega)) nz.out (.int .i64 0)).setCell (b := w.heap.size + 1) (o := 5) (by first | omega | (simp; omega)) nz.out (.bool false)))
        generalize ((((((w1.setCell ⟨w.heap.size + 1, 0, none⟩ (.int .i64 1)).setCell ⟨w.heap.size + 1, 1, none⟩ (.slice none 0 0)).setCell ⟨w.heap.size + 1, 2, none⟩ (.slice none 0 0)).setCell ⟨w.heap.size + 1, 3, none⟩ (.int .i64 0)).setCell ⟨w.heap.size + 1, 4, none⟩ (.int .i64 0)).setCell ⟨w.heap.size + 1, 5, none⟩ (.bool false)) = W8 at *
        replace kr := Aside.mk kr_
        clear kr_
        replace kz := Aside.mk kz_
        clear kz_
        refine bodyPost_ret (resC2 rfl _ _ _ rfl (run_loadVar_row _ _ _ _ _ (0, 0) _ kz.out Try.underlying25 rfl (by kernel_rfl))) rfl ?_
        rw [HF.out]
        exact ⟨_, _, rfl, rd_empty _, hx.out⟩
  case neg =>
    have HF := Aside.mk (show ruleF (.mk 10 s ((Re.mk k1 s1 a1 u1 v1 g1) :: rest) mn mx ng) = none from by simp [ruleF, Re.kind, hk])
    replace hr := Aside.mk hr
    clear h1 h2 hrd
    have hx := Aside.mk (Ext.refl hs)
    go_enter Try.func95, Try.ntmps95
    go_wp2_with fail
    have hszw := hx.out.size
    have kr_ : ((w.alloc (.cells #[.int .i64 10, .slice A1 s.length c1, .slice (some ⟨b, off, none⟩) (rest.length + 1) c2, .int .i64 mn, .int .i64 mx, .bool ng] 25)).alloc (.cells #[.int .i64 10, .slice A1 s.length c1, .slice (some ⟨b, off, none⟩) (rest.length + 1) c2, .int .i64 mn, .int .i64 mx, .bool ng] 25)).heap[w.heap.size]? = some (.cells #[.int .i64 10, .slice A1 s.length c1, .slice (some ⟨b, off, none⟩) (rest.length + 1) c2, .int .i64 mn, .int .i64 mx, .bool ng] 25) := (boxA (heap_alloc_new _ _) (.cells #[.int .i64 10, .slice A1 s.length c1, .slice (some ⟨b, off, none⟩) (rest.length + 1) c2, .int .i64 mn, .int .i64 mx, .bool ng] 25))
    have kz_ : ((w.alloc (.cells #[.int .i64 10, .slice A1 s.length c1, .slice (some ⟨b, off, none⟩) (rest.length + 1) c2, .int .i64 mn, .int .i64 mx, .bool ng] 25)).alloc (.cells #[.int .i64 10, .slice A1 s.length c1, .slice (some ⟨b, off, none⟩) (rest.length + 1) c2, .int .i64 mn, .int .i64 mx, .bool ng] 25)).heap[w.heap.size + 1]? = some (.cells #[.int .i64 10, .slice A1 s.length c1, .slice (some ⟨b, off, none⟩) (rest.length + 1) c2, .int .i64 mn, .int .i64 mx, .bool ng] 25) := (by rw [show w.heap.size + 1 = ((w.alloc (.cells #[.int .i64 10, .slice A1 s.length c1, .slice (some ⟨b, off, none⟩) (rest.length + 1) c2, .int .i64 mn, .int .i64 mx, .bool ng] 25))).heap.size by simp]; exact heap_alloc_new _ _)
    have nr := Aside.mk (fun o => hx.out.sat.new (b := w.heap.size) (show w.heap.size ≤ _ by omega) o)
    have nz := Aside.mk (fun o => hx.out.sat.new (b := w.heap.size + 1) (show w.heap.size ≤ _ by omega) o)
    replace hx := Aside.mk (((hx.out.alloc (.cells #[.int .i64 10, .slice A1 s.length c1, .slice (some ⟨b, off, none⟩) (rest.length + 1) c2, .int .i64 mn, .int .i64 mx, .bool ng] 25)).alloc (.cells #[.int .i64 10, .slice A1 s.length c1, .slice (some ⟨b, off, none⟩) (rest.length + 1) c2, .int .i64 mn, .int .i64 mx, .bool ng] 25)))
    generalize ((w.alloc (.cells #[.int .i64 10, .slice A1 s.length c1, .slice (some ⟨b, off, none⟩) (rest.length + 1) c2, .int .i64 mn, .int .i64 mx, .bool ng] 25)).alloc (.cells #[.int .i64 10, .slice A1 s.length c1, .slice (some ⟨b, off, none⟩) (rest.length + 1) c2, .int .i64 mn, .int .i64 mx, .bool ng] 25)) = W9 at *
    have kr := Aside.mk kr_
    clear kr_
    have kz := Aside.mk kz_
    clear kz_
    refine bodyPost_ret (resC2 rfl _ _ _ rfl (run_loadVar_row _ _ _ _ _ (0, 0) _ kz.out Try.underlying25 rfl (by kernel_rfl))) rfl ?_
    rw [HF.out]
    exact ⟨_, _, rfl, hr.out.mono hx.out.le, hx.out⟩

set_option maxRecDepth 100000 in
set_option maxHeartbeats 16000000 in
theorem rule_else (H : PH) (k : Int) (s : List Span) (args : List Re) (mn mx : Int) (ng : Bool) (cs : List Value) (w : World) (hr : RdRe H (.mk k s args mn mx ng) cs) (hs : Sat w H) (hk : k ≠ 3 ∧ k ≠ 4 ∧ k ≠ 7 ∧ k ≠ 5 ∧ k ≠ 6 ∧ k ≠ 8 ∧ k ≠ 10) :
    Calls Try.prog 95 #[.agg cs.toArray] w (RuleR H w (.mk k s args mn mx ng) (ruleF (.mk k s args mn mx ng))) := by
  have hr_ := hr
  obtain ⟨A1, c1, A2, c2, rfl, -, -⟩ := hr_.open
  clear hr_
  obtain ⟨q3, q4, q7, q5, q6, q8, q10⟩ := hk
  have HF := Aside.mk (show ruleF (.mk k s args mn mx ng) = none from by simp only [ruleF]; rw [if_neg (by omega)]; cases args with | nil => rfl | cons a l => simp only []; rw [if_neg (by omega), if_neg q8, if_neg q10])
  have p3 : (k == 3) = false := by simpa using q3
  have p4 : (k == 4) = false := by simpa using q4
  have p5 : (k == 5) = false := by simpa using q5
  have p6 : (k == 6) = false := by simpa using q6
  have p7 : (k == 7) = false := by simpa using q7
  have p8 : (k == 8) = false := by simpa using q8
  have p10 : (k == 10) = false := by simpa using q10
  clear q3 q4 q7 q5 q6 q8 q10
  have hx := Aside.mk (Ext.refl hs)
  replace hr := Aside.mk hr
  go_enter Try.func95, Try.ntmps95
  go_wp2_with fail
  have hszw := hx.out.size
  have kr_ : ((w.alloc (.cells #[.int .i64 k, .slice A1 s.length c1, .slice A2 args.length c2, .int .i64 mn, .int .i64 mx, .bool ng] 25)).alloc (.cells #[.int .i64 k, .slice A1 s.length c1, .slice A2 args.length c2, .int .i64 mn, .int .i64 mx, .bool ng] 25)).heap[w.heap.size]? = some (.cells #[.int .i64 k, .slice A1 s.length c1, .slice A2 args.length c2, .int .i64 mn, .int .i64 mx, .bool ng] 25) := (boxA (heap_alloc_new _ _) (.cells #[.int .i64 k, .slice A1 s.length c1, .slice A2 args.length c2, .int .i64 mn, .int .i64 mx, .bool ng] 25))
  have kz_ : ((w.alloc (.cells #[.int .i64 k, .slice A1 s.length c1, .slice A2 args.length c2, .int .i64 mn, .int .i64 mx, .bool ng] 25)).alloc (.cells #[.int .i64 k, .slice A1 s.length c1, .slice A2 args.length c2, .int .i64 mn, .int .i64 mx, .bool ng] 25)).heap[w.heap.size + 1]? = some (.cells #[.int .i64 k, .slice A1 s.length c1, .slice A2 args.length c2, .int .i64 mn, .int .i64 mx, .bool ng] 25) := (by rw [show w.heap.size + 1 = ((w.alloc (.cells #[.int .i64 k, .slice A1 s.length c1, .slice A2 args.length c2, .int .i64 mn, .int .i64 mx, .bool ng] 25))).heap.size by simp]; exact heap_alloc_new _ _)
  have nr := Aside.mk (fun o => hx.out.sat.new (b := w.heap.size) (show w.heap.size ≤ _ by omega) o)
  have nz := Aside.mk (fun o => hx.out.sat.new (b := w.heap.size + 1) (show w.heap.size ≤ _ by omega) o)
  replace hx := Aside.mk (((hx.out.alloc (.cells #[.int .i64 k, .slice A1 s.length c1, .slice A2 args.length c2, .int .i64 mn, .int .i64 mx, .bool ng] 25)).alloc (.cells #[.int .i64 k, .slice A1 s.length c1, .slice A2 args.length c2, .int .i64 mn, .int .i64 mx, .bool ng] 25)))
  generalize ((w.alloc (.cells #[.int .i64 k, .slice A1 s.length c1, .slice A2 args.length c2, .int .i64 mn, .int .i64 mx, .bool ng] 25)).alloc (.cells #[.int .i64 k, .slice A1 s.length c1, .slice A2 args.length c2, .int .i64 mn, .int .i64 mx, .bool ng] 25)) = W1 at *
  have kr := Aside.mk kr_
  clear kr_
  have kz := Aside.mk kz_
  clear kz_
  refine bodyPost_ret (resC2 rfl _ _ _ rfl (run_loadVar_row _ _ _ _ _ (0, 0) _ kz.out Try.underlying25 rfl (by kernel_rfl))) rfl ?_
  rw [HF.out]
  exact ⟨_, _, rfl, hr.out, hx.out⟩

end Go.Proofs.Ytbnahmeaeakhhaa.B

namespace Go.Proofs.Ytbnahmeaeakhhaa.B
set_option linter.unusedVariables false
set_option linter.unusedSimpArgs false
open Go Go.RowKit Classical

theorem rule_any (H : PH) (r : Re) (cs : List Value) (w : World) (hr : RdRe H r cs) (hs : Sat w H) (hok : OkN r) (hz : sz r ≤ 524288) : Calls Try.prog 95 #[.agg cs.toArray] w (RuleR H w r (ruleF r)) := by
  cases r with
  | mk k s args mn mx ng =>
    rw [sz_mk] at hz
    have hl := len_szL args
    obtain ⟨h1, h2, h3⟩ := hok
    by_cases q3 : k = 3
    · subst q3; exact rule_k3 H s args mn mx ng cs w hr hs (by omega)
    by_cases q4 : k = 4
    · subst q4; exact rule_k4 H s args mn mx ng cs w hr hs (by omega)
    by_cases q7 : k = 7
    · subst q7; exact rule_k7 H s args mn mx ng cs w hr hs (by omega)
    by_cases q : k = 5 ∨ k = 6 ∨ k = 8 ∨ k = 10
    · have hne := h3 q
      cases args with
      | nil => exact absurd rfl hne
      | cons a rest =>
        rcases q with rfl | rfl | rfl | rfl
        · exact rule_k5 H s a rest mn mx ng cs w hr hs
        · exact rule_k6 H s a rest mn mx ng cs w hr hs
        · refine rule_k8 H s a rest mn mx ng cs w hr hs fun h8 => ?_
          obtain ⟨g1, g2⟩ := h1 a (by simp)
          have := OkN_normal g1 g2
          cases a with
          | mk k' s' l' m' x' g' => exact this.2.2 (Or.inr (Or.inr (Or.inl h8)))
        · exact rule_k10 H s a rest mn mx ng cs w hr hs
    · exact rule_else H k s args mn mx ng cs w hr hs (by omega)

theorem sz_le_szLp {a : Re} {l : List Re} (h : a ∈ l) : sz a ≤ szL l := by
  induction l with
  | nil => simp at h
  | cons b l ih =>
    rw [szL_cons]
    rcases List.mem_cons.1 h with rfl | h
    · omega
    · have := ih h; omega
def NormReS (r : Re) : Prop := ∀ (H : PH) (cs : List Value) (w : World), RdRe H r cs → Sat w H → Calls Try.prog 35 #[.agg cs.toArray] w (ReR H w (normF r))

set_option maxRecDepth 100000 in
set_option maxHeartbeats 16000000 in
theorem normRe_any (r : Re) : Good r → sz r ≤ 524288 → NormReS r := by
  induction r using Re.ind with
  | h kind set args mn mx neg ih =>
  intro hg hz H cs w hr hs
  have hln := len_szL args
  rw [sz_mk] at hz
  have ih' : ∀ a ∈ args, NormReS a := fun a ha => ih a ha (good_args hg a ha) (by have := sz_le_szLp ha; omega)
  have hb2 : args.length ≤ 1048576 := by omega
  have hga : ∀ a ∈ args.map normF, Good a := fun a ha => by obtain ⟨b, hb, rfl⟩ := List.mem_map.1 ha; exact (normF_ok b (good_args hg b hb)).1
  have hg1 : Good (.mk kind set (args.map normF) mn mx neg) := good_mk (by rw [List.length_map]; exact good_node hg) hga
  have hok : OkN (.mk kind set (args.map normF) mn mx neg) := OkN_of hg1 (fun a ha => by obtain ⟨b, hb, rfl⟩ := List.mem_map.1 ha; exact normF_IsN b)
  have hsz : sz (.mk kind set (args.map normF) mn mx neg) ≤ 524288 := by
    rw [sz_mk]
    have : szL (args.map normF) ≤ szL args := map_sz (good_args hg)
    omega
  have hN : normF (.mk kind set args mn mx neg) = topF (.mk kind set (args.map normF) mn mx neg) := normF_eq ..
  have hr_ := hr
  obtain ⟨A1, c1, A2, c2, rfl, -, -⟩ := hr_.open
  have HI := Aside.mk (And.intro ih' (And.intro hb2 (And.intro hok (And.intro hsz hN))))
  clear ih ih' hg hz hln hb2 hga hg1 hok hsz hN hr_
  have hx := Aside.mk (Ext.refl hs)
  replace hr := Aside.mk hr
  go_enter Try.func35, Try.ntmps35
  go_wp2_with fail
  have hszw := hx.out.size
  have kr_ : ((w.alloc (.cells #[.int .i64 kind, .slice A1 set.length c1, .slice A2 args.length c2, .int .i64 mn, .int .i64 mx, .bool neg] 25)).alloc (.cells #[.int .i64 0, .slice none 0 0, .slice none 0 0, .int .i64 0, .int .i64 0, .bool false] 25)).heap[w.heap.size]? = some (.cells #[.int .i64 kind, .slice A1 set.length c1, .slice A2 args.length c2, .int .i64 mn, .int .i64 mx, .bool neg] 25) := (boxA (heap_alloc_new _ _) (.cells #[.int .i64 0, .slice none 0 0, .slice none 0 0, .int .i64 0, .int .i64 0, .bool false] 25))
  have kz_ : ((w.alloc (.cells #[.int .i64 kind, .slice A1 set.length c1, .slice A2 args.length c2, .int .i64 mn, .int .i64 mx, .bool neg] 25)).alloc (.cells #[.int .i64 0, .slice none 0 0, .slice none 0 0, .int .i64 0, .int .i64 0, .bool false] 25)).heap[w.heap.size + 1]? = some (.cells #[.int .i64 0, .slice none 0 0, .slice none 0 0, .int .i64 0, .int .i64 0, .bool false] 25) := (by rw [show w.heap.size + 1 = ((w.alloc (.cells #[.int .i64 kind, .slice A1 set.length c1, .slice A2 args.length c2, .int .i64 mn, .int .i64 mx, .bool neg] 25))).heap.size by simp]; exact heap_alloc_new _ _)
  have nr := Aside.mk (fun o => hx.out.sat.new (b := w.heap.size) (show w.heap.size ≤ _ by omega) o)
  have nz := Aside.mk (fun o => hx.out.sat.new (b := w.heap.size + 1) (show w.heap.size ≤ _ by omega) o)
  replace hx := Aside.mk (((hx.out.alloc (.cells #[.int .i64 kind, .slice A1 set.length c1, .slice A2 args.length c2, .int .i64 mn, .int .i64 mx, .bool neg] 25)).alloc (.cells #[.int .i64 0, .slice none 0 0, .slice none 0 0, .int .i64 0, .int .i64 0, .bool false] 25)))
  generalize ((w.alloc (.cells #[.int .i64 kind, .slice A1 set.length c1, .slice A2 args.length c2, .int .i64 mn, .int .i64 mx, .bool neg] 25)).alloc (.cells #[.int .i64 0, .slice none 0 0, .slice none 0 0, .int .i64 0, .int .i64 0, .bool false] 25)) = W1 at *
  have kr := Aside.mk kr_
  clear kr_
  have kz := Aside.mk kz_
  clear kz_
  refine (mapped_norm normF _ kind set args mn mx neg _ _ hr.out hx.out.sat HI.out.2.1 (fun a ha H2 cs2 w2 hr2 hs2 => HI.out.1 a ha H2 cs2 w2 hr2 hs2)).mono ?_
  rintro e w1 ⟨H1, cs1, rfl, hr1, hz⟩
  have hle := hz.le
  replace hr := Aside.mk (hr.out.mono hle)
  replace nr := Aside.mk (fun o => (hz.old _ o (boxL kr.out)).trans (nr.out o))
  replace nz := Aside.mk (fun o => (hz.old _ o (boxL kz.out)).trans (nz.out o))
  replace kr := Aside.mk (box_below kr.out hz.below)
  replace kz := Aside.mk (box_below kz.out hz.below)
  replace hx := Aside.mk (hx.out.trans hz)
  clear hle hz
  clear hr
  have HI2 := Aside.mk HI.out.2.2
  clear HI
  generalize Re.mk kind set (args.map normF) mn mx neg = r0 at *
  generalize normF (Re.mk kind set args mn mx neg) = rr at *
  have hr3 := hr1
  obtain ⟨k7, s7, a7, u7, v7, g7, e7⟩ : ∃ a b c d e f, r0 = Re.mk a b c d e f := (by cases r0; exact ⟨_, _, _, _, _, _, rfl⟩)
  rw [e7] at hr1
  obtain ⟨Q1, q1, Q2, q2, rfl, -, -⟩ := hr1.open
  clear hr1
  rw [e7] at hr3
  replace hr3 := Aside.mk hr3
  replace e7 := Aside.mk e7
  have lqr : w.heap.size < w1.heap.size := boxL kr.out
  obtain ⟨⟨cr0, cr1, cr2, cr3, cr4, cr5⟩, fr0, fr1, fr2, fr3, fr4, fr5⟩ := kb6 kr.out
  have lqz : w.heap.size + 1 < w1.heap.size := boxL kz.out
  obtain ⟨⟨cz0, cz1, cz2, cz3, cz4, cz5⟩, fz0, fz1, fz2, fz3, fz4, fz5⟩ := kb6 kz.out
  go_wp2_with fail
  clear lqr cr0 cr1 cr2 cr3 cr4 cr5 fr0 fr1 fr2 fr3 fr4 fr5 lqz cz0 cz1 cz2 cz3 cz4 cz5 fz0 fz1 fz2 fz3 fz4 fz5
  have kr_ : ((((((w1.setCell ⟨w.heap.size, 0, none⟩ (.int .i64 k7)).setCell ⟨w.heap.size, 1, none⟩ (.slice Q1 s7.length q1)).setCell ⟨w.heap.size, 2, none⟩ (.slice Q2 a7.length q2)).setCell ⟨w.heap.size, 3, none⟩ (.int .i64 u7)).setCell ⟨w.heap.size, 4, none⟩ (.int .i64 v7)).setCell ⟨w.heap.size, 5, none⟩ (.bool g7)).heap[w.heap.size]? = some (.cells #[.int .i64 k7, .slice Q1 s7.length q1, .slice Q2 a7.length q2, .int .i64 u7, .int .i64 v7, .bool g7] 25) := (boxS (boxS (boxS (boxS (boxS (boxS kr.out 0 (.int .i64 k7)) 1 (.slice Q1 s7.length q1)) 2 (.slice Q2 a7.length q2)) 3 (.int .i64 u7)) 4 (.int .i64 v7)) 5 (.bool g7))
  have kz_ : ((((((w1.setCell ⟨w.heap.size, 0, none⟩ (.int .i64 k7)).setCell ⟨w.heap.size, 1, none⟩ (.slice Q1 s7.length q1)).setCell ⟨w.heap.size, 2, none⟩ (.slice Q2 a7.length q2)).setCell ⟨w.heap.size, 3, none⟩ (.int .i64 u7)).setCell ⟨w.heap.size, 4, none⟩ (.int .i64 v7)).setCell ⟨w.heap.size, 5, none⟩ (.bool g7)).heap[w.heap.size + 1]? = some (.cells #[.int .i64 0, .slice none 0 0, .slice none 0 0, .int .i64 0, .int .i64 0, .bool false] 25) := (boxS_ne (boxS_ne (boxS_ne (boxS_ne (boxS_ne (boxS_ne kz.out (by first | omega | (simp; omega)) 0 (.int .i64 k7)) (by first | omega | (simp; omega)) 1 (.slice Q1 s7.length q1)) (by first | omega | (simp; omega)) 2 (.slice Q2 a7.length q2)) (by first | omega | (simp; omega)) 3 (.int .i64 u7)) (by first | omega | (simp; omega)) 4 (.int .i64 v7)) (by first | omega | (simp; omega)) 5 (.bool g7))
  replace hx := Aside.mk (((((((hx.out.setCell (b := w.heap.size) (o := 0) (by first | omega | (simp; omega)) nr.out (.int .i64 k7)).setCell (b := w.heap.size) (o := 1) (by first | omega | (simp; omega)) nr.out (.slice Q1 s7.length q1)).setCell (b := w.heap.size) (o := 2) (by first | omega | (simp; omega)) nr.out (.slice Q2 a7.length q2)).setCell (b := w.heap.size) (o := 3) (by first | omega | (simp; omega)) nr.out (.int .i64 u7)).setCell (b := w.heap.size) (o := 4) (by first | omega | (simp; omega)) nr.out (.int .i64 v7)).setCell (b := w.heap.size) (o := 5) (by first | omega | (simp; omega)) nr.out (.bool g7)))
  generalize ((((((w1.setCell ⟨w.heap.size, 0, none⟩ (.int .i64 k7)).setCell ⟨w.heap.size, 1, none⟩ (.slice Q1 s7.length q1)).setCell ⟨w.heap.size, 2, none⟩ (.slice Q2 a7.length q2)).setCell ⟨w.heap.size, 3, none⟩ (.int .i64 u7)).setCell ⟨w.heap.size, 4, none⟩ (.int .i64 v7)).setCell ⟨w.heap.size, 5, none⟩ (.bool g7)) = W2 at *
  replace kr := Aside.mk kr_
  clear kr_
  replace kz := Aside.mk kz_
  clear kz_
  go_loopg [4] (sz r0 + 1) (fun gk s4 wr => ∃ (k7 : Int) (s7 : List Span) (a7 : List Re) (u7 v7 : Int) (g7 : Bool) (Q1 : Option Addr) (q1 : Nat) (Q2 : Option Addr) (q2 : Nat) (Hk : PH), Aside (OkN (Re.mk k7 s7 a7 u7 v7 g7) ∧ topF (Re.mk k7 s7 a7 u7 v7 g7) = rr ∧ sz (Re.mk k7 s7 a7 u7 v7 g7) ≤ 524288 ∧ sz (Re.mk k7 s7 a7 u7 v7 g7) < gk) ∧ Aside (Ext H Hk w wr) ∧ Aside (RdRe Hk (Re.mk k7 s7 a7 u7 v7 g7) [.int .i64 k7, .slice Q1 s7.length q1, .slice Q2 a7.length q2, .int .i64 u7, .int .i64 v7, .bool g7]) ∧ Aside (wr.heap[w.heap.size]? = some (.cells #[.int .i64 k7, .slice Q1 s7.length q1, .slice Q2 a7.length q2, .int .i64 u7, .int .i64 v7, .bool g7] 25)) ∧ Aside (∀ o, Hk (w.heap.size) o = none) ∧ Aside (wr.heap[w.heap.size + 1]? = some (.cells #[.int .i64 0, .slice none 0 0, .slice none 0 0, .int .i64 0, .int .i64 0, .bool false] 25)) ∧ Aside (∀ o, Hk (w.heap.size + 1) o = none))
  case atStart => exact ⟨_, _, _, _, _, _, _, _, _, _, _, ⟨by rw [← e7.out]; exact ⟨HI2.out.1, HI2.out.2.2.symm, HI2.out.2.1, by omega⟩⟩, hx, hr3, kr, nr, kz, nz⟩
  case round =>
    clear hx hr3 kr nr kz nz
    obtain ⟨k7, s7, a7, u7, v7, g7, Q1, q1, Q2, q2, Hk, hO, hx, hr3, kr, nr, kz, nz⟩ := hrel
    have lqr : w.heap.size < wr.heap.size := boxL kr.out
    obtain ⟨⟨cr0, cr1, cr2, cr3, cr4, cr5⟩, fr0, fr1, fr2, fr3, fr4, fr5⟩ := kb6 kr.out
    have lqz : w.heap.size + 1 < wr.heap.size := boxL kz.out
    obtain ⟨⟨cz0, cz1, cz2, cz3, cz4, cz5⟩, fz0, fz1, fz2, fz3, fz4, fz5⟩ := kb6 kz.out
    go_wp2_with fail
    clear lqr cr0 cr1 cr2 cr3 cr4 cr5 fr0 fr1 fr2 fr3 fr4 fr5 lqz cz0 cz1 cz2 cz3 cz4 cz5 fz0 fz1 fz2 fz3 fz4 fz5
    refine (rule_any _ (Re.mk k7 s7 a7 u7 v7 g7) _ _ hr3.out hx.out.sat hO.out.1 hO.out.2.2.1).mono ?_
    rintro e w2 ⟨H2, cs2, rfl, hr4, hz⟩
    have hle := hz.le
    replace hr3 := Aside.mk (hr3.out.mono hle)
    replace nr := Aside.mk (fun o => (hz.old _ o (boxL kr.out)).trans (nr.out o))
    replace nz := Aside.mk (fun o => (hz.old _ o (boxL kz.out)).trans (nz.out o))
    replace kr := Aside.mk (box_below kr.out hz.below)
    replace kz := Aside.mk (box_below kz.out hz.below)
    replace hx := Aside.mk (hx.out.trans hz)
    clear hle hz
    generalize hbb : (ruleF (Re.mk k7 s7 a7 u7 v7 g7)).isSome = bb at *
    replace hbb := Aside.mk hbb
    cases hrf : ruleF (Re.mk k7 s7 a7 u7 v7 g7) with
    | none =>
      rw [hrf] at hr4
      have hT := rule_none hO.out.1 hrf
      have hE := Aside.mk (hT.symm.trans hO.out.2.1)
      clear hT
      replace hrf := Aside.mk hrf
      replace hr4 : RdRe H2 (Re.mk k7 s7 a7 u7 v7 g7) cs2 := hr4
      replace hr4 := hr4
      obtain ⟨B1, d1, B2, d2, rfl, -, -⟩ := hr4.open
      clear hr4
      obtain rfl : bb = false := by rw [← hbb.out, hrf.out]; rfl
      have lqr : w.heap.size < w2.heap.size := boxL kr.out
      obtain ⟨⟨cr0, cr1, cr2, cr3, cr4, cr5⟩, fr0, fr1, fr2, fr3, fr4, fr5⟩ := kb6 kr.out
      have lqz : w.heap.size + 1 < w2.heap.size := boxL kz.out
      obtain ⟨⟨cz0, cz1, cz2, cz3, cz4, cz5⟩, fz0, fz1, fz2, fz3, fz4, fz5⟩ := kb6 kz.out
      go_wp2_with fail
      clear lqr cr0 cr1 cr2 cr3 cr4 cr5 fr0 fr1 fr2 fr3 fr4 fr5 lqz cz0 cz1 cz2 cz3 cz4 cz5 fz0 fz1 fz2 fz3 fz4 fz5
      have kr_ : (((((((w2.setCell ⟨w.heap.size + 1, 0, none⟩ (.int .i64 k7)).setCell ⟨w.heap.size + 1, 1, none⟩ (.slice Q1 s7.length q1)).setCell ⟨w.heap.size + 1, 2, none⟩ (.slice Q2 a7.length q2)).setCell ⟨w.heap.size + 1, 3, none⟩ (.int .i64 u7)).setCell ⟨w.heap.size + 1, 4, none⟩ (.int .i64 v7)).setCell ⟨w.heap.size + 1, 5, none⟩ (.bool g7)).alloc (.cells #[.int .i64 k7, .slice B1 s7.length d1, .slice B2 a7.length d2, .int .i64 u7, .int .i64 v7, .bool g7] 25)).heap[w.heap.size]? = some (.cells #[.int .i64 k7, .slice Q1 s7.length q1, .slice Q2 a7.length q2, .int .i64 u7, .int .i64 v7, .bool g7] 25) := (boxA (boxS_ne (boxS_ne (boxS_ne (boxS_ne (boxS_ne (boxS_ne kr.out (by first | omega | (simp; omega)) 0 (.int .i64 k7)) (by first | omega | (simp; omega)) 1 (.slice Q1 s7.length q1)) (by first | omega | (simp; omega)) 2 (.slice Q2 a7.length q2)) (by first | omega | (simp; omega)) 3 (.int .i64 u7)) (by first | omega | (simp; omega)) 4 (.int .i64 v7)) (by first | omega | (simp; omega)) 5 (.bool g7)) (.cells #[.int .i64 k7, .slice B1 s7.length d1, .slice B2 a7.length d2, .int .i64 u7, .int .i64 v7, .bool g7] 25))
      have kz_ : (((((((w2.setCell ⟨w.heap.size + 1, 0, none⟩ (.int .i64 k7)).setCell ⟨w.heap.size + 1, 1, none⟩ (.slice Q1 s7.length q1)).setCell ⟨w.heap.size + 1, 2, none⟩ (.slice Q2 a7.length q2)).setCell ⟨w.heap.size + 1, 3, none⟩ (.int .i64 u7)).setCell ⟨w.heap.size + 1, 4, none⟩ (.int .i64 v7)).setCell ⟨w.heap.size + 1, 5, none⟩ (.bool g7)).alloc (.cells #[.int .i64 k7, .slice B1 s7.length d1, .slice B2 a7.length d2, .int .i64 u7, .int .i64 v7, .bool g7] 25)).heap[w.heap.size + 1]? = some (.cells #[.int .i64 k7, .slice Q1 s7.length q1, .slice Q2 a7.length q2, .int .i64 u7, .int .i64 v7, .bool g7] 25) := (boxA (boxS (boxS (boxS (boxS (boxS (boxS kz.out 0 (.int .i64 k7)) 1 (.slice Q1 s7.length q1)) 2 (.slice Q2 a7.length q2)) 3 (.int .i64 u7)) 4 (.int .i64 v7)) 5 (.bool g7)) (.cells #[.int .i64 k7, .slice B1 s7.length d1, .slice B2 a7.length d2, .int .i64 u7, .int .i64 v7, .bool g7] 25))
      replace hx := Aside.mk ((((((((hx.out.setCell (b := w.heap.size + 1) (o := 0) (by first | omega | (simp; omega)) nz.out (.int .i64 k7)).setCell (b := w.heap.size + 1) (o := 1) (by first | omega | (simp; omega)) nz.out (.slice Q1 s7.length q1)).setCell (b := w.heap.size + 1) (o := 2) (by first | omega | (simp; omega)) nz.out (.slice Q2 a7.length q2)).setCell (b := w.heap.size + 1) (o := 3) (by first | omega | (simp; omega)) nz.out (.int .i64 u7)).setCell (b := w.heap.size + 1) (o := 4) (by first | omega | (simp; omega)) nz.out (.int .i64 v7)).setCell (b := w.heap.size + 1) (o := 5) (by first | omega | (simp; omega)) nz.out (.bool g7)).alloc (.cells #[.int .i64 k7, .slice B1 s7.length d1, .slice B2 a7.length d2, .int .i64 u7, .int .i64 v7, .bool g7] 25)))
      generalize (((((((w2.setCell ⟨w.heap.size + 1, 0, none⟩ (.int .i64 k7)).setCell ⟨w.heap.size + 1, 1, none⟩ (.slice Q1 s7.length q1)).setCell ⟨w.heap.size + 1, 2, none⟩ (.slice Q2 a7.length q2)).setCell ⟨w.heap.size + 1, 3, none⟩ (.int .i64 u7)).setCell ⟨w.heap.size + 1, 4, none⟩ (.int .i64 v7)).setCell ⟨w.heap.size + 1, 5, none⟩ (.bool g7)).alloc (.cells #[.int .i64 k7, .slice B1 s7.length d1, .slice B2 a7.length d2, .int .i64 u7, .int .i64 v7, .bool g7] 25)) = W3 at *
      replace kr := Aside.mk kr_
      clear kr_
      replace kz := Aside.mk kz_
      clear kz_
      refine bodyPost_ret (resC rfl _ _ _ rfl (run_loadVar_row _ _ _ _ _ (0, 0) _ kz.out Try.underlying25 rfl (by kernel_rfl))) rfl ?_
      exact ⟨_, _, rfl, by rw [← hE.out]; exact hr3.out, hx.out⟩
    | some x =>
      rw [hrf] at hr4
      obtain ⟨o1, o2, o3⟩ := rule_some hO.out.1 hrf
      replace hr4 : RdRe H2 x cs2 := hr4
      have HO2 := Aside.mk (And.intro o1 (And.intro (o2.trans hO.out.2.1) (And.intro (show sz x ≤ 524288 from by have := hO.out.2.2.1; omega) (show sz x < gk - 1 from by have := hO.out.2.2.2; omega))))
      clear o1 o2 o3
      replace hrf := Aside.mk hrf
      obtain rfl : bb = true := by rw [← hbb.out, hrf.out]; rfl
      obtain ⟨k8, s8, a8, u8, v8, g8, rfl⟩ : ∃ a b c d e f, x = Re.mk a b c d e f := (by cases x; exact ⟨_, _, _, _, _, _, rfl⟩)
      have hr5 := Aside.mk hr4
      obtain ⟨B1, d1, B2, d2, rfl, -, -⟩ := hr4.open
      clear hr4 hr3
      have lqr : w.heap.size < w2.heap.size := boxL kr.out
      obtain ⟨⟨cr0, cr1, cr2, cr3, cr4, cr5⟩, fr0, fr1, fr2, fr3, fr4, fr5⟩ := kb6 kr.out
      have lqz : w.heap.size + 1 < w2.heap.size := boxL kz.out
      obtain ⟨⟨cz0, cz1, cz2, cz3, cz4, cz5⟩, fz0, fz1, fz2, fz3, fz4, fz5⟩ := kb6 kz.out
      go_wp2_with fail
      clear lqr cr0 cr1 cr2 cr3 cr4 cr5 fr0 fr1 fr2 fr3 fr4 fr5 lqz cz0 cz1 cz2 cz3 cz4 cz5 fz0 fz1 fz2 fz3 fz4 fz5
      have kr_ : (((((((w2.setCell ⟨w.heap.size, 0, none⟩ (.int .i64 k8)).setCell ⟨w.heap.size, 1, none⟩ (.slice B1 s8.length d1)).setCell ⟨w.heap.size, 2, none⟩ (.slice B2 a8.length d2)).setCell ⟨w.heap.size, 3, none⟩ (.int .i64 u8)).setCell ⟨w.heap.size, 4, none⟩ (.int .i64 v8)).setCell ⟨w.heap.size, 5, none⟩ (.bool g8)).alloc (.cells #[.int .i64 k8, .slice B1 s8.length d1, .slice B2 a8.length d2, .int .i64 u8, .int .i64 v8, .bool g8] 25)).heap[w.heap.size]? = some (.cells #[.int .i64 k8, .slice B1 s8.length d1, .slice B2 a8.length d2, .int .i64 u8, .int .i64 v8, .bool g8] 25) := (boxA (boxS (boxS (boxS (boxS (boxS (boxS kr.out 0 (.int .i64 k8)) 1 (.slice B1 s8.length d1)) 2 (.slice B2 a8.length d2)) 3 (.int .i64 u8)) 4 (.int .i64 v8)) 5 (.bool g8)) (.cells #[.int .i64 k8, .slice B1 s8.length d1, .slice B2 a8.length d2, .int .i64 u8, .int .i64 v8, .bool g8] 25))
      have kz_ : (((((((w2.setCell ⟨w.heap.size, 0, none⟩ (.int .i64 k8)).setCell ⟨w.heap.size, 1, none⟩ (.slice B1 s8.length d1)).setCell ⟨w.heap.size, 2, none⟩ (.slice B2 a8.length d2)).setCell ⟨w.heap.size, 3, none⟩ (.int .i64 u8)).setCell ⟨w.heap.size, 4, none⟩ (.int .i64 v8)).setCell ⟨w.heap.size, 5, none⟩ (.bool g8)).alloc (.cells #[.int .i64 k8, .slice B1 s8.length d1, .slice B2 a8.length d2, .int .i64 u8, .int .i64 v8, .bool g8] 25)).heap[w.heap.size + 1]? = some (.cells #[.int .i64 0, .slice none 0 0, .slice none 0 0, .int .i64 0, .int .i64 0, .bool false] 25) := (boxA (boxS_ne (boxS_ne (boxS_ne (boxS_ne (boxS_ne (boxS_ne kz.out (by first | omega | (simp; omega)) 0 (.int .i64 k8)) (by first | omega | (simp; omega)) 1 (.slice B1 s8.length d1)) (by first | omega | (simp; omega)) 2 (.slice B2 a8.length d2)) (by first | omega | (simp; omega)) 3 (.int .i64 u8)) (by first | omega | (simp; omega)) 4 (.int .i64 v8)) (by first | omega | (simp; omega)) 5 (.bool g8)) (.cells #[.int .i64 k8, .slice B1 s8.length d1, .slice B2 a8.length d2, .int .i64 u8, .int .i64 v8, .bool g8] 25))
      replace hx := Aside.mk ((((((((hx.out.setCell (b := w.heap.size) (o := 0) (by first | omega | (simp; omega)) nr.out (.int .i64 k8)).setCell (b := w.heap.size) (o := 1) (by first | omega | (simp; omega)) nr.out (.slice B1 s8.length d1)).setCell (b := w.heap.size) (o := 2) (by first | omega | (simp; omega)) nr.out (.slice B2 a8.length d2)).setCell (b := w.heap.size) (o := 3) (by first | omega | (simp; omega)) nr.out (.int .i64 u8)).setCell (b := w.heap.size) (o := 4) (by first | omega | (simp; omega)) nr.out (.int .i64 v8)).setCell (b := w.heap.size) (o := 5) (by first | omega | (simp; omega)) nr.out (.bool g8)).alloc (.cells #[.int .i64 k8, .slice B1 s8.length d1, .slice B2 a8.length d2, .int .i64 u8, .int .i64 v8, .bool g8] 25)))
      generalize (((((((w2.setCell ⟨w.heap.size, 0, none⟩ (.int .i64 k8)).setCell ⟨w.heap.size, 1, none⟩ (.slice B1 s8.length d1)).setCell ⟨w.heap.size, 2, none⟩ (.slice B2 a8.length d2)).setCell ⟨w.heap.size, 3, none⟩ (.int .i64 u8)).setCell ⟨w.heap.size, 4, none⟩ (.int .i64 v8)).setCell ⟨w.heap.size, 5, none⟩ (.bool g8)).alloc (.cells #[.int .i64 k8, .slice B1 s8.length d1, .slice B2 a8.length d2, .int .i64 u8, .int .i64 v8, .bool g8] 25)) = W4 at *
      replace kr := Aside.mk kr_
      clear kr_
      replace kz := Aside.mk kz_
      clear kz_
      have hr3 := hr5
      go_roundg (gk - 1)
      case rel => exact ⟨_, _, _, _, _, _, _, _, _, _, _, ⟨⟨HO2.out.1, HO2.out.2.1, HO2.out.2.2.1, HO2.out.2.2.2⟩⟩, hx, hr3, kr, nr, kz, nz⟩
      case measure => (have := hO.out.2.2.2; omega)
end Go.Proofs.Ytbnahmeaeakhhaa.B

namespace Go.Proofs.Ytbnahmeaeakhhaa.B
set_option linter.unusedVariables false
set_option linter.unusedSimpArgs false
open Go Go.RowKit Classical

theorem lit_ext {α : Type} {k : Kd α} {H0 H : PH} {w0 w : World} {e : TypeId} {xs : List α} (hx : Ext H0 H w0 w) (cs : Array Value) (henc : EncL k H xs cs.toList) (hl : xs.length ≤ 140737488355328) :
    ∃ H', Ext H0 H' w0 (w.alloc (.cells cs e)) ∧ H.le H' ∧ SlR k H' (some ⟨w.heap.size, 0, none⟩) xs.length xs.length xs := by
  obtain ⟨H', h1, h2, ⟨A, c, e1, h3⟩, -⟩ := (Own.lit (k := k) (e := e) (xs := xs) (base := w.heap.size) hx.sat cs (Nat.le_refl _) henc (by unfold maxLen; omega)).freezeE (hx.alloc _) hx.size hl
  cases e1
  exact ⟨H', h1, h2, h3⟩

set_option maxRecDepth 100000 in
theorem null1_any (w : World) : Calls Try.prog 141 #[.agg #[.int .i64 1, .slice none 0 0, .slice none 0 0, .int .i64 0, .int .i64 0, .bool false]] w fun e w' => e = .returned (.bool true) ∧ Below w.heap.size w w' := by
  go_enter Try.func141, Try.ntmps141
  go_wp2_with fail
  go_ret
  exact ⟨rfl, bA (Below.refl _ _) _⟩
theorem err_empty : checkRe emptyRe 40 = 0 := checkRe_small good_empty (by rw [sz_empty]; omega)
set_option maxRecDepth 100000 in
theorem nullE_any (w : World) : Calls Try.prog 90 #[.agg #[.int .i64 1, .slice none 0 0, .slice none 0 0, .int .i64 0, .int .i64 0, .bool false]] w fun e w' => e = .returned (.tuple #[.bool true, .int .i64 0]) ∧ Below w.heap.size w w' := by
  have HC := Aside.mk (fun w' => check_any emp emptyRe [.int .i64 1, .slice none 0 0, .slice none 0 0, .int .i64 0, .int .i64 0, .bool false] w' (rd_empty emp) (sat_emp w'))
  go_enter Try.func90, Try.ntmps90
  go_wp2_with fail
  refine (HC.out _).mono ?_
  rintro e w1 ⟨rfl, hb⟩
  rw [err_empty]
  have k0 : ∀ i, w1.cell? ⟨w.heap.size, i, none⟩ = #[.int .i64 1, .slice none 0 0, .slice none 0 0, .int .i64 0, .int .i64 0, .bool false][i]? := fun i => cell_box hb i
  have c0 : w1.cell? ⟨w.heap.size, 0, none⟩ = some (.int .i64 1) := k0 0
  have c1 : w1.cell? ⟨w.heap.size, 1, none⟩ = some (.slice none 0 0) := k0 1
  have c2 : w1.cell? ⟨w.heap.size, 2, none⟩ = some (.slice none 0 0) := k0 2
  have c3 : w1.cell? ⟨w.heap.size, 3, none⟩ = some (.int .i64 0) := k0 3
  have c4 : w1.cell? ⟨w.heap.size, 4, none⟩ = some (.int .i64 0) := k0 4
  have c5 : w1.cell? ⟨w.heap.size, 5, none⟩ = some (.bool false) := k0 5
  have HB := Aside.mk hb
  clear k0 hb
  go_wp2_with fail
  refine (null1_any _).mono ?_
  rintro e w2 ⟨rfl, hb2⟩
  go_wp2_with fail
  go_ret2
  exact ⟨rfl, bT (bT (bA (Below.refl _ _) _) HB.out) hb2⟩

def begRe : Re := .mk 3 [] [oneRe 97, emptyRe, starRe (oneRe 97)] 0 0 false
theorem one_good : Good (oneRe 97) := good_mk (by decide) (by simp)
theorem star_good : Good (starRe (oneRe 97)) := good_mk (by decide) (fun a ha => by rw [List.mem_singleton.1 ha]; exact one_good)
theorem beg_good : Good begRe := good_mk (by decide) (fun a ha => by
  simp only [List.mem_cons, List.not_mem_nil, or_false] at ha
  rcases ha with rfl | rfl | rfl
  · exact one_good
  · exact good_empty
  · exact star_good)
theorem sz_one : sz (oneRe 97) = 1 := by unfold oneRe; rw [sz_mk]; rfl
theorem sz_beg : sz begRe = 5 := by
  unfold begRe starRe
  rw [sz_mk, szL_cons, szL_cons, szL_cons, sz_mk, szL_cons, sz_one, sz_empty]; rfl
theorem beg_err : checkRe begRe 40 = 0 := checkRe_small beg_good (by rw [sz_beg]; omega)
theorem beg_norm : normR begRe = .mk 3 [] [oneRe 97, starRe (oneRe 97)] 0 0 false := by
  rw [normR, if_pos beg_err]
  unfold begRe
  rw [normF_eq]
  have h1 : normF (oneRe 97) = oneRe 97 := by unfold oneRe; rw [normF_eq]; simp [normTop]
  have h2 : normF emptyRe = emptyRe := by unfold emptyRe; rw [normF_eq]; simp [normTop]
  have h4 : normF (starRe (oneRe 97)) = starRe (oneRe 97) := by
    unfold starRe
    rw [normF_eq, List.map_cons, List.map_nil, h1]
    unfold normTop
    rw [if_neg (by decide)]
    simp only [true_or, if_true]
    unfold repF
    rw [if_neg (by simp [oneRe, Re.kind]), if_neg (by simp [oneRe, Re.kind])]
  rw [List.map_cons, List.map_cons, List.map_cons, List.map_nil, h1, h2, h4]
  have h3 : sevL 3 [oneRe 97, emptyRe, starRe (oneRe 97)] = [oneRe 97, starRe (oneRe 97)] := by
    unfold emptyRe
    simp only [sevL, List.map_cons, List.map_nil, flat1_e3]
    unfold starRe oneRe
    rw [flat1_else _ _ _ _ _ (by decide) (by decide) (by decide), flat1_else _ _ _ _ _ (by decide) (by decide) (by decide)]; rfl
  unfold normTop
  rw [if_pos (Or.inl rfl)]
  unfold sevF
  rw [h3, if_neg (by rintro ⟨-, a, ha, h0⟩; simp only [List.mem_cons, List.not_mem_nil, or_false] at ha; rcases ha with rfl | rfl <;> simp [oneRe, starRe, Re.kind] at h0), if_neg (by simp)]
  rfl
theorem beg_uses : usesP begRe [5] := (usesP_mk ..).2 (Or.inr ⟨starRe (oneRe 97), by simp, (usesP_mk ..).2 (Or.inl (by simp))⟩)

set_option maxRecDepth 100000 in
set_option maxHeartbeats 8000000 in
theorem lretreeBegun_any (w : World) : Calls Try.prog 32 #[] w fun e w' => e = .returned (.bool true) ∧ Below w.heap.size w w' := by
  have hx := Aside.mk (Ext.refl (sat_emp w))
  go_enter Try.func32, Try.ntmps32
  go_wp2_with fail
  refine (sp_any 97 97 w).mono ?_
  rintro e w1 ⟨rfl, hb⟩
  replace hx := Aside.mk (hx.out.then_below hb)
  clear hb
  have hw0 := hx.out.size
  go_wp2_with fail
  obtain ⟨G1, hx1, hle1, hsl1⟩ := lit_ext (k := kSpan) (e := 121) (xs := [⟨97, 97⟩]) hx.out #[.int .i64 97, .int .i64 97] (EncL.single rfl) (by simp)
  have hra : RdRe G1 (oneRe 97) [.int .i64 2, .slice (some ⟨w1.heap.size, 0, none⟩) 1 1, .slice none 0 0, .int .i64 0, .int .i64 0, .bool false] := RdRe.shut hsl1 (SlR.nil _ _)
  have hx2 := hx1.alloc (.cells #[.int .i64 2, .slice (some ⟨w1.heap.size, 0, none⟩) 1 1, .slice none 0 0, .int .i64 0, .int .i64 0, .bool false] 25)
  obtain ⟨G2, hx3, hle2, hsl2⟩ := lit_ext (k := kRe) (e := 25) (xs := [oneRe 97]) hx2 #[.int .i64 2, .slice (some ⟨w1.heap.size, 0, none⟩) 1 1, .slice none 0 0, .int .i64 0, .int .i64 0, .bool false] (EncL.single hra) (by simp)
  have hsl2b : SlR kRe G2 (some ⟨w1.heap.size + 1 + 1, 0, none⟩) 1 1 [oneRe 97] := by simpa using hsl2
  obtain ⟨G3, hx4, hle3, hsl3⟩ := lit_ext (k := kRe) (e := 25) (xs := [oneRe 97, emptyRe, starRe (oneRe 97)]) hx3 #[.int .i64 2, .slice (some ⟨w1.heap.size, 0, none⟩) 1 1, .slice none 0 0, .int .i64 0, .int .i64 0, .bool false, .int .i64 1, .slice none 0 0, .slice none 0 0, .int .i64 0, .int .i64 0, .bool false, .int .i64 5, .slice none 0 0, .slice (some ⟨w1.heap.size + 1 + 1, 0, none⟩) 1 1, .int .i64 0, .int .i64 0, .bool false] ⟨[.int .i64 2, .slice (some ⟨w1.heap.size, 0, none⟩) 1 1, .slice none 0 0, .int .i64 0, .int .i64 0, .bool false], _, rfl, hra.mono hle2, ⟨[.int .i64 1, .slice none 0 0, .slice none 0 0, .int .i64 0, .int .i64 0, .bool false], _, rfl, rd_empty _, EncL.single (show RdRe G2 _ [.int .i64 5, .slice none 0 0, .slice (some ⟨w1.heap.size + 1 + 1, 0, none⟩) 1 1, .int .i64 0, .int .i64 0, .bool false] from RdRe.shut (SlR.nil _ _) hsl2b)⟩⟩ (by simp)
  have hsl3b : SlR kRe G3 (some ⟨w1.heap.size + 1 + 1 + 1, 0, none⟩) 3 3 [oneRe 97, emptyRe, starRe (oneRe 97)] := by simpa using hsl3
  have hrr : RdRe G3 begRe [.int .i64 3, .slice none 0 0, .slice (some ⟨w1.heap.size + 1 + 1 + 1, 0, none⟩) 3 3, .int .i64 0, .int .i64 0, .bool false] := RdRe.shut (SlR.nil _ _) hsl3b
  have nr := Aside.mk (fun o => hx4.sat.new (b := w1.heap.size + 1 + 1 + 1 + 1) (by simp) o)
  replace hx := Aside.mk (hx4.alloc (.cells #[.int .i64 3, .slice none 0 0, .slice (some ⟨w1.heap.size + 1 + 1 + 1, 0, none⟩) 3 3, .int .i64 0, .int .i64 0, .bool false] 25))
  have kr_ : (((((w1.alloc (.cells #[.int .i64 97, .int .i64 97] 121)).alloc (.cells #[.int .i64 2, .slice (some ⟨w1.heap.size, 0, none⟩) 1 1, .slice none 0 0, .int .i64 0, .int .i64 0, .bool false] 25)).alloc (.cells #[.int .i64 2, .slice (some ⟨w1.heap.size, 0, none⟩) 1 1, .slice none 0 0, .int .i64 0, .int .i64 0, .bool false] 25)).alloc (.cells #[.int .i64 2, .slice (some ⟨w1.heap.size, 0, none⟩) 1 1, .slice none 0 0, .int .i64 0, .int .i64 0, .bool false, .int .i64 1, .slice none 0 0, .slice none 0 0, .int .i64 0, .int .i64 0, .bool false, .int .i64 5, .slice none 0 0, .slice (some ⟨w1.heap.size + 1 + 1, 0, none⟩) 1 1, .int .i64 0, .int .i64 0, .bool false] 25)).alloc (.cells #[.int .i64 3, .slice none 0 0, .slice (some ⟨w1.heap.size + 1 + 1 + 1, 0, none⟩) 3 3, .int .i64 0, .int .i64 0, .bool false] 25)).heap[w1.heap.size + 1 + 1 + 1 + 1]? = some (.cells #[.int .i64 3, .slice none 0 0, .slice (some ⟨w1.heap.size + 1 + 1 + 1, 0, none⟩) 3 3, .int .i64 0, .int .i64 0, .bool false] 25) := by
    have h9 := heap_alloc_new ((((w1.alloc (.cells #[.int .i64 97, .int .i64 97] 121)).alloc (.cells #[.int .i64 2, .slice (some ⟨w1.heap.size, 0, none⟩) 1 1, .slice none 0 0, .int .i64 0, .int .i64 0, .bool false] 25)).alloc (.cells #[.int .i64 2, .slice (some ⟨w1.heap.size, 0, none⟩) 1 1, .slice none 0 0, .int .i64 0, .int .i64 0, .bool false] 25)).alloc (.cells #[.int .i64 2, .slice (some ⟨w1.heap.size, 0, none⟩) 1 1, .slice none 0 0, .int .i64 0, .int .i64 0, .bool false, .int .i64 1, .slice none 0 0, .slice none 0 0, .int .i64 0, .int .i64 0, .bool false, .int .i64 5, .slice none 0 0, .slice (some ⟨w1.heap.size + 1 + 1, 0, none⟩) 1 1, .int .i64 0, .int .i64 0, .bool false] 25)) (.cells #[.int .i64 3, .slice none 0 0, .slice (some ⟨w1.heap.size + 1 + 1 + 1, 0, none⟩) 3 3, .int .i64 0, .int .i64 0, .bool false] 25)
    simpa using h9
  replace hrr := Aside.mk hrr
  clear hx1 hx2 hx3 hx4 hle1 hle2 hle3 hsl1 hsl2 hsl3 hsl2b hsl3b hra
  have hw1 := hx.out.size
  generalize (((((w1.alloc (.cells #[.int .i64 97, .int .i64 97] 121)).alloc (.cells #[.int .i64 2, .slice (some ⟨w1.heap.size, 0, none⟩) 1 1, .slice none 0 0, .int .i64 0, .int .i64 0, .bool false] 25)).alloc (.cells #[.int .i64 2, .slice (some ⟨w1.heap.size, 0, none⟩) 1 1, .slice none 0 0, .int .i64 0, .int .i64 0, .bool false] 25)).alloc (.cells #[.int .i64 2, .slice (some ⟨w1.heap.size, 0, none⟩) 1 1, .slice none 0 0, .int .i64 0, .int .i64 0, .bool false, .int .i64 1, .slice none 0 0, .slice none 0 0, .int .i64 0, .int .i64 0, .bool false, .int .i64 5, .slice none 0 0, .slice (some ⟨w1.heap.size + 1 + 1, 0, none⟩) 1 1, .int .i64 0, .int .i64 0, .bool false] 25)).alloc (.cells #[.int .i64 3, .slice none 0 0, .slice (some ⟨w1.heap.size + 1 + 1 + 1, 0, none⟩) 3 3, .int .i64 0, .int .i64 0, .bool false] 25)) = Wr at *
  have kr := Aside.mk kr_
  clear kr_
  have hbw : w.heap.size ≤ w1.heap.size + 1 + 1 + 1 + 1 := by omega
  obtain ⟨H1, hx2, hle, Br, hold⟩ := box_freeze hx.out (by omega) kr.out nr.out
  replace hrr := Aside.mk (hrr.out.mono hle)
  replace hx := Aside.mk hx2
  replace Br := Aside.mk Br
  clear hle hold hx2 kr nr
  refine (normE_any _ begRe _ _ hrr.out hx.out.sat).mono ?_
  rintro e w4 ⟨H4, cs4, rfl, hr4, hz⟩
  have hle := hz.le
  replace hrr := Aside.mk (hrr.out.mono hle)
  replace Br := Aside.mk (Br.out.mono hle)
  replace hx := Aside.mk (hx.out.trans hz)
  clear hle hz
  rw [beg_norm] at hr4
  rw [beg_err]
  obtain ⟨A5, c5, A6, c6, rfl, -, -⟩ := hr4.open
  simp only [List.length_cons, List.length_nil, Nat.zero_add, Nat.reduceAdd]
  have lqr : w1.heap.size + 1 + 1 + 1 + 1 < w4.heap.size := hx.out.sat.lt (Br.out 0 _ rfl)
  obtain ⟨cr0, cr1, cr2, cr3, cr4, cr5⟩ := hb6 hx.out.sat Br.out
  go_wp2_with fail
  clear lqr cr0 cr1 cr2 cr3 cr4 cr5
  have hszw4 := hx.out.size
  have kn_ : (w4.alloc (.cells #[.int .i64 3, .slice A5 0 c5, .slice A6 2 c6, .int .i64 0, .int .i64 0, .bool false] 25)).heap[w4.heap.size]? = some (.cells #[.int .i64 3, .slice A5 0 c5, .slice A6 2 c6, .int .i64 0, .int .i64 0, .bool false] 25) := (heap_alloc_new _ _)
  have nn := Aside.mk (fun o => hx.out.sat.new (b := w4.heap.size) (show w4.heap.size ≤ _ by omega) o)
  replace hx := Aside.mk ((hx.out.alloc (.cells #[.int .i64 3, .slice A5 0 c5, .slice A6 2 c6, .int .i64 0, .int .i64 0, .bool false] 25)))
  generalize (w4.alloc (.cells #[.int .i64 3, .slice A5 0 c5, .slice A6 2 c6, .int .i64 0, .int .i64 0, .bool false] 25)) = W1 at *
  have kn := Aside.mk kn_
  clear kn_
  obtain ⟨H1, hx2, hle, Bn, hold⟩ := box_freeze hx.out (by omega) kn.out nn.out
  replace hrr := Aside.mk (hrr.out.mono hle)
  replace Br := Aside.mk (Br.out.mono hle)
  replace hx := Aside.mk hx2
  replace Bn := Aside.mk Bn
  clear hle hold hx2 kn nn
  refine (nullE_any _).mono ?_
  rintro e w5 ⟨rfl, hb⟩
  replace hx := Aside.mk (hx.out.then_below hb)
  clear hb
  have lqr : w1.heap.size + 1 + 1 + 1 + 1 < w5.heap.size := hx.out.sat.lt (Br.out 0 _ rfl)
  obtain ⟨cr0, cr1, cr2, cr3, cr4, cr5⟩ := hb6 hx.out.sat Br.out
  have lqn : w4.heap.size < w5.heap.size := hx.out.sat.lt (Bn.out 0 _ rfl)
  obtain ⟨cn0, cn1, cn2, cn3, cn4, cn5⟩ := hb6 hx.out.sat Bn.out
  go_wp2_with fail
  clear lqr cr0 cr1 cr2 cr3 cr4 cr5 lqn cn0 cn1 cn2 cn3 cn4 cn5
  refine (size_any _ begRe _ _ hrr.out hx.out.sat (by have := sz_beg; unfold sz at this; omega)).mono ?_
  rintro e w6 ⟨rfl, hb⟩
  replace hx := Aside.mk (hx.out.then_below hb)
  clear hb
  have h5 : (pre begRe).length = 5 := sz_beg
  rw [h5]
  clear h5
  have lqr : w1.heap.size + 1 + 1 + 1 + 1 < w6.heap.size := hx.out.sat.lt (Br.out 0 _ rfl)
  obtain ⟨cr0, cr1, cr2, cr3, cr4, cr5⟩ := hb6 hx.out.sat Br.out
  have lqn : w4.heap.size < w6.heap.size := hx.out.sat.lt (Bn.out 0 _ rfl)
  obtain ⟨cn0, cn1, cn2, cn3, cn4, cn5⟩ := hb6 hx.out.sat Bn.out
  go_wp2_with fail
  clear lqr cr0 cr1 cr2 cr3 cr4 cr5 lqn cn0 cn1 cn2 cn3 cn4 cn5
  obtain ⟨Hg, hxg, hleg, hslg⟩ := lit_ext (k := kI .i64) (e := 3) (xs := [5]) hx.out #[.int .i64 5] (EncL.single rfl) (by simp)
  refine (uses_any begRe (by rw [sz_beg]; omega) Hg _ [5] _ 1 1 _ (hrr.out.mono hleg) hslg hxg.sat).mono ?_
  rintro e w7 ⟨he, hb⟩
  obtain rfl : e = .returned (.bool true) := he.trans (retT beg_uses)
  have hfin := (hxg.then_below hb).below
  clear hxg hleg hslg
  replace hfin := Aside.mk hfin
  go_wp2_with fail
  go_ret
  exact ⟨rfl, hfin.out⟩

set_option maxRecDepth 100000 in
set_option maxHeartbeats 16000000 in
theorem retreeNorms_any (H : PH) (r : Re) (cs : List Value) (w : World) (hr : RdRe H r cs) (hs : Sat w H) (hbig : (pre r).length ≤ 1048576) :
    Calls Try.prog 6 #[.agg cs.toArray] w fun e w' => e = .returned (.bool true) ∧ Below w.heap.size w w' := by
  have hrr := hr
  obtain ⟨kr, sr, lr_, mr, xr, gr, hqr⟩ : ∃ y1 y2 y3 y4 y5 y6, r = Re.mk y1 y2 y3 y4 y5 y6 := by cases r; exact ⟨_, _, _, _, _, _, rfl⟩
  replace hqr := Aside.mk hqr
  rw [hqr.out] at hrr
  obtain ⟨P1, p1, P2, p2, rfl, -, -⟩ := hrr.open
  clear hrr
  replace hbig := Aside.mk hbig
  have hx := Aside.mk (Ext.refl hs)
  replace hr := Aside.mk hr
  go_enter Try.func6, Try.ntmps6
  go_wp2_with fail
  have hszw := hx.out.size
  have kr_ : (w.alloc (.cells #[.int .i64 kr, .slice P1 sr.length p1, .slice P2 lr_.length p2, .int .i64 mr, .int .i64 xr, .bool gr] 25)).heap[w.heap.size]? = some (.cells #[.int .i64 kr, .slice P1 sr.length p1, .slice P2 lr_.length p2, .int .i64 mr, .int .i64 xr, .bool gr] 25) := (heap_alloc_new _ _)
  have nr := Aside.mk (fun o => hx.out.sat.new (b := w.heap.size) (show w.heap.size ≤ _ by omega) o)
  replace hx := Aside.mk ((hx.out.alloc (.cells #[.int .i64 kr, .slice P1 sr.length p1, .slice P2 lr_.length p2, .int .i64 mr, .int .i64 xr, .bool gr] 25)))
  generalize (w.alloc (.cells #[.int .i64 kr, .slice P1 sr.length p1, .slice P2 lr_.length p2, .int .i64 mr, .int .i64 xr, .bool gr] 25)) = W1 at *
  have kr := Aside.mk kr_
  clear kr_
  obtain ⟨H1, hx2, hle, Br, hold⟩ := box_freeze hx.out (by omega) kr.out nr.out
  replace hr := Aside.mk (hr.out.mono hle)
  replace hx := Aside.mk hx2
  replace Br := Aside.mk Br
  clear hle hold hx2 kr nr
  refine (normE_any _ r _ _ hr.out hx.out.sat).mono ?_
  rintro e w5 ⟨H6, cs5, rfl, hn, hz⟩
  have hle := hz.le
  replace hr := Aside.mk (hr.out.mono hle)
  replace Br := Aside.mk (Br.out.mono hle)
  replace hx := Aside.mk (hx.out.trans hz)
  clear hle hz
  have hn_ := hn
  obtain ⟨kn, sn, ln, mn, xn, gn, hqn⟩ : ∃ y1 y2 y3 y4 y5 y6, normR r = Re.mk y1 y2 y3 y4 y5 y6 := by cases normR r; exact ⟨_, _, _, _, _, _, rfl⟩
  replace hqn := Aside.mk hqn
  rw [hqn.out] at hn_
  obtain ⟨Q1, q1, Q2, q2, rfl, -, -⟩ := hn_.open
  clear hn_
  replace hn := Aside.mk hn
  generalize hee : checkRe r 40 = ee at *
  replace hee := Aside.mk hee
  have lqr : w.heap.size < w5.heap.size := hx.out.sat.lt (Br.out 0 _ rfl)
  obtain ⟨cr0, cr1, cr2, cr3, cr4, cr5⟩ := hb6 hx.out.sat Br.out
  go_wp2_with fail
  clear lqr cr0 cr1 cr2 cr3 cr4 cr5
  have hszw5 := hx.out.size
  have kn_ : (w5.alloc (.cells #[.int .i64 kn, .slice Q1 sn.length q1, .slice Q2 ln.length q2, .int .i64 mn, .int .i64 xn, .bool gn] 25)).heap[w5.heap.size]? = some (.cells #[.int .i64 kn, .slice Q1 sn.length q1, .slice Q2 ln.length q2, .int .i64 mn, .int .i64 xn, .bool gn] 25) := (heap_alloc_new _ _)
  have nn := Aside.mk (fun o => hx.out.sat.new (b := w5.heap.size) (show w5.heap.size ≤ _ by omega) o)
  replace hx := Aside.mk ((hx.out.alloc (.cells #[.int .i64 kn, .slice Q1 sn.length q1, .slice Q2 ln.length q2, .int .i64 mn, .int .i64 xn, .bool gn] 25)))
  generalize (w5.alloc (.cells #[.int .i64 kn, .slice Q1 sn.length q1, .slice Q2 ln.length q2, .int .i64 mn, .int .i64 xn, .bool gn] 25)) = W2 at *
  have kn := Aside.mk kn_
  clear kn_
  obtain ⟨H1, hx2, hle, Bn, hold⟩ := box_freeze hx.out (by omega) kn.out nn.out
  replace hr := Aside.mk (hr.out.mono hle)
  replace hn := Aside.mk (hn.out.mono hle)
  replace Br := Aside.mk (Br.out.mono hle)
  replace hx := Aside.mk hx2
  replace Bn := Aside.mk Bn
  clear hle hold hx2 kn nn
  refine (lretreeBegun_any _).mono ?_
  rintro e w6 ⟨rfl, hb⟩
  replace hx := Aside.mk (hx.out.then_below hb)
  clear hb
  have lqr : w.heap.size < w6.heap.size := hx.out.sat.lt (Br.out 0 _ rfl)
  obtain ⟨cr0, cr1, cr2, cr3, cr4, cr5⟩ := hb6 hx.out.sat Br.out
  have lqn : w5.heap.size < w6.heap.size := hx.out.sat.lt (Bn.out 0 _ rfl)
  obtain ⟨cn0, cn1, cn2, cn3, cn4, cn5⟩ := hb6 hx.out.sat Bn.out
  go_wp2_with fail
  clear lqr cr0 cr1 cr2 cr3 cr4 cr5 lqn cn0 cn1 cn2 cn3 cn4 cn5
  have hck := checkRe_any _ r _ 40 w6 hr.out hx.out.sat hbig.out (by omega)
  rw [show ((40 : Nat) : Int) = 40 from rfl, hee.out] at hck
  refine hck.mono ?_
  clear hck
  rintro e w7 ⟨rfl, hb⟩
  replace hx := Aside.mk (hx.out.then_below hb)
  clear hb
  by_cases h0 : ee = 0
  case neg =>
    have hb0 : (ee == 0) = false := by simpa using h0
    have hb1 : (ee != 0) = true := by simpa using h0
    have hnn : normR r = noneRe := by unfold normR; rw [if_neg (by rw [hee.out]; exact h0)]
    replace hnn := Aside.mk hnn
    clear h0
    have lqr : w.heap.size < w7.heap.size := hx.out.sat.lt (Br.out 0 _ rfl)
    obtain ⟨cr0, cr1, cr2, cr3, cr4, cr5⟩ := hb6 hx.out.sat Br.out
    have lqn : w5.heap.size < w7.heap.size := hx.out.sat.lt (Bn.out 0 _ rfl)
    obtain ⟨cn0, cn1, cn2, cn3, cn4, cn5⟩ := hb6 hx.out.sat Bn.out
    go_wp2_with fail
    clear lqr cr0 cr1 cr2 cr3 cr4 cr5 lqn cn0 cn1 cn2 cn3 cn4 cn5
    have hn2 := hn.out
    rw [hnn.out] at hn2
    refine (reEq_any noneRe _ noneRe _ _ _ hn2 (rd_none _) hx.out.sat).mono ?_
    rintro e w8 ⟨he, hb⟩
    obtain rfl : e = .returned (.bool true) := he.trans (retT rfl)
    clear hn2
    replace hx := Aside.mk (hx.out.then_below hb)
    clear hb
    go_wp2_with fail
    go_ret
    exact ⟨rfl, hx.out.below⟩
  case pos =>
    subst h0
    obtain ⟨hg, hsz⟩ := checkRe_ok hee.out
    have hnn : normR r = normF r := if_pos hee.out
    have HN := Aside.mk (And.intro (normRe_any r hg (by omega)) hnn)
    clear hg hsz hnn
    go_wp2_with fail
    have HS := Aside.mk (fun w' (hb : Below w7.heap.size w7 w') => hx.out.sat.below hb)
    have HK : Aside (∀ w', Below w7.heap.size w7 w' → w'.cell? ⟨w.heap.size, 0, none⟩ = some (.int .i64 kr) ∧ w'.cell? ⟨w.heap.size, 1, none⟩ = some (.slice P1 sr.length p1) ∧ w'.cell? ⟨w.heap.size, 2, none⟩ = some (.slice P2 lr_.length p2) ∧ w'.cell? ⟨w.heap.size, 3, none⟩ = some (.int .i64 mr) ∧ w'.cell? ⟨w.heap.size, 4, none⟩ = some (.int .i64 xr) ∧ w'.cell? ⟨w.heap.size, 5, none⟩ = some (.bool gr) ∧ w'.cell? ⟨w5.heap.size, 0, none⟩ = some (.int .i64 kn) ∧ w'.cell? ⟨w5.heap.size, 1, none⟩ = some (.slice Q1 sn.length q1) ∧ w'.cell? ⟨w5.heap.size, 2, none⟩ = some (.slice Q2 ln.length q2) ∧ w'.cell? ⟨w5.heap.size, 3, none⟩ = some (.int .i64 mn) ∧ w'.cell? ⟨w5.heap.size, 4, none⟩ = some (.int .i64 xn) ∧ w'.cell? ⟨w5.heap.size, 5, none⟩ = some (.bool gn)) := ⟨fun w' hb => by
      have qr := at6 (HS.out _ hb) Br.out
      have qn := at6 (HS.out _ hb) Bn.out
      simp only [Nat.add_zero, Nat.zero_add] at qr qn
      simp only [qr, qn, and_self]⟩
    have hB := Aside.mk (Below.refl w7.heap.size w7)
    have hxx := hx
    go_region_held3 (fun w' => w'.cell? ⟨w.heap.size, 0, none⟩ = some (.int .i64 kr) ∧ w'.cell? ⟨w.heap.size, 1, none⟩ = some (.slice P1 sr.length p1) ∧ w'.cell? ⟨w.heap.size, 2, none⟩ = some (.slice P2 lr_.length p2) ∧ w'.cell? ⟨w.heap.size, 3, none⟩ = some (.int .i64 mr) ∧ w'.cell? ⟨w.heap.size, 4, none⟩ = some (.int .i64 xr) ∧ w'.cell? ⟨w.heap.size, 5, none⟩ = some (.bool gr) ∧ w'.cell? ⟨w5.heap.size, 0, none⟩ = some (.int .i64 kn) ∧ w'.cell? ⟨w5.heap.size, 1, none⟩ = some (.slice Q1 sn.length q1) ∧ w'.cell? ⟨w5.heap.size, 2, none⟩ = some (.slice Q2 ln.length q2) ∧ w'.cell? ⟨w5.heap.size, 3, none⟩ = some (.int .i64 mn) ∧ w'.cell? ⟨w5.heap.size, 4, none⟩ = some (.int .i64 xn) ∧ w'.cell? ⟨w5.heap.size, 5, none⟩ = some (.bool gn))
      (first | exact HK.out _ hB.out | exact HK.out _ hB.out.drew | exact HK.out _ (bA hB.out.drew _) | exact HK.out _ (bD (bA hB.out _)) | exact HK.out _ (bA hB.out _))
      ((first
      | (go_at_call 35; refine (HN.out.1 _ _ _ hr.out hx.out.sat.drew).mono ?_; rintro e w9 ⟨H9, cs9, rfl, hr9, hz9⟩; have hr9_ := Aside.mk hr9; obtain ⟨k9, s9, l9, m9, x9, g9, hq9⟩ : ∃ y1 y2 y3 y4 y5 y6, normF r = Re.mk y1 y2 y3 y4 y5 y6 := (by cases normF r; exact ⟨_, _, _, _, _, _, rfl⟩); replace hq9 := Aside.mk hq9; rw [hq9.out] at hr9; obtain ⟨A7, c7, A8, c8, rfl, -, -⟩ := hr9.open; clear hr9; replace hB := Aside.mk (hB.out.drew.trans (hz9.below.mono hB.out.size)))
      | (go_at_call 34; refine (reEq_any (normF r) _ (normF r) _ _ _ (HN.out.2 ▸ hn.out.mono hz9.le) hr9_.out hz9.sat).mono ?_; rintro e w10 ⟨he, hb10⟩; obtain rfl : e = .returned (.bool true) := (he.trans (retT (by first | trivial | rfl | simp))); replace hB := Aside.mk (bT hB.out hb10))))
    go_wp2_with fail
    go_ret
    exact ⟨rfl, (hxx.out.then_below hB.out).below⟩
end Go.Proofs.Ytbnahmeaeakhhaa.B
