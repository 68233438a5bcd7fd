/- Contracts: the reference's ruleMany. Contracts: the reference's ruleMany. Contracts: the reference's ruleMany. -/
import Derived.Test.YtbnahmeaeakhhaaP4a
namespace Go.Proofs.Ytbnahmeaeakhhaa.B
set_option linter.unusedVariables false
set_option linter.unusedSimpArgs false
open Go Go.RowKit Classical

set_option maxRecDepth 100000 in
set_option maxHeartbeats 32000000 in
theorem ruleMany4 (H : PH) (s : List Span) (args : List Re) (mn mx : Int) (ng : Bool) (cs : List Value) (w : World) (hr : RdRe H (.mk 4 s args mn mx ng) cs) (hs : Sat w H) (hz : args.length + szL args ≤ 1048576) :
    Calls Try.prog 147 #[.agg cs.toArray] w (RuleR H w (.mk 4 s args mn mx ng) (manyF 4 args)) := by
  have hr_ := hr
  obtain ⟨A1, c1, A2, c2, rfl, -, h2⟩ := hr_.open
  clear hr_
  replace hz := Aside.mk hz
  have hc2 := h2.2.1
  have hc3 := h2.2.2.1
  have hl48 : args.length ≤ 1048576 := by have := hz.out; omega
  have hzz := sizeRe
  have hx := Aside.mk (Ext.refl hs)
  replace hr := Aside.mk hr
  replace h2 := Aside.mk h2
  go_enter Try.func147, Try.ntmps147
  go_wp2_with fail
  have hszw := hx.out.size
  have kr_ : ((w.alloc (.cells #[.int .i64 4, .slice A1 s.length c1, .slice A2 args.length c2, .int .i64 mn, .int .i64 mx, .bool ng] 25)).alloc (.cells #[.int .i64 0, .slice none 0 0, .slice none 0 0, .int .i64 0, .int .i64 0, .bool false] 25)).heap[w.heap.size]? = some (.cells #[.int .i64 4, .slice A1 s.length c1, .slice A2 args.length c2, .int .i64 mn, .int .i64 mx, .bool ng] 25) := (boxA (heap_alloc_new _ _) (.cells #[.int .i64 0, .slice none 0 0, .slice none 0 0, .int .i64 0, .int .i64 0, .bool false] 25))
  have kz_ : ((w.alloc (.cells #[.int .i64 4, .slice A1 s.length c1, .slice A2 args.length c2, .int .i64 mn, .int .i64 mx, .bool ng] 25)).alloc (.cells #[.int .i64 0, .slice none 0 0, .slice none 0 0, .int .i64 0, .int .i64 0, .bool false] 25)).heap[w.heap.size + 1]? = some (.cells #[.int .i64 0, .slice none 0 0, .slice none 0 0, .int .i64 0, .int .i64 0, .bool false] 25) := (by rw [show w.heap.size + 1 = ((w.alloc (.cells #[.int .i64 4, .slice A1 s.length c1, .slice A2 args.length c2, .int .i64 mn, .int .i64 mx, .bool ng] 25))).heap.size by simp]; exact heap_alloc_new _ _)
  have nr := Aside.mk (fun o => hx.out.sat.new (b := w.heap.size) (show w.heap.size ≤ _ by omega) o)
  have nz := Aside.mk (fun o => hx.out.sat.new (b := w.heap.size + 1) (show w.heap.size ≤ _ by omega) o)
  replace hx := Aside.mk (((hx.out.alloc (.cells #[.int .i64 4, .slice A1 s.length c1, .slice A2 args.length c2, .int .i64 mn, .int .i64 mx, .bool ng] 25)).alloc (.cells #[.int .i64 0, .slice none 0 0, .slice none 0 0, .int .i64 0, .int .i64 0, .bool false] 25)))
  generalize ((w.alloc (.cells #[.int .i64 4, .slice A1 s.length c1, .slice A2 args.length c2, .int .i64 mn, .int .i64 mx, .bool ng] 25)).alloc (.cells #[.int .i64 0, .slice none 0 0, .slice none 0 0, .int .i64 0, .int .i64 0, .bool false] 25)) = W1 at *
  have kr := Aside.mk kr_
  clear kr_
  have kz := Aside.mk kz_
  clear kz_
  obtain ⟨H1, hx2, hle, Br, hold⟩ := box_freeze hx.out (by omega) kr.out nr.out
  replace hr := Aside.mk (hr.out.mono hle)
  replace h2 := Aside.mk (h2.out.mono hle)
  replace nz := Aside.mk (fun o => (hold _ o (by omega)).trans (nz.out o))
  replace hx := Aside.mk hx2
  replace Br := Aside.mk Br
  clear hle hold hx2 kr nr
  go_loopw [14] (fun i wr => ∃ (k : Nat) (Hk : PH), k ≤ args.length ∧ i = .int .i64 k ∧ Aside (manyGo 4 [] args = manyGo 4 (args.take k) (args.drop k)) ∧ Aside (Ext H Hk w wr) ∧ Aside (RdRe Hk (Re.mk 4 s args mn mx ng) [.int .i64 4, .slice A1 s.length c1, .slice A2 args.length c2, .int .i64 mn, .int .i64 mx, .bool ng]) ∧ Aside (SlR kRe Hk A2 args.length c2 args) ∧ Aside (BoxH Hk (w.heap.size) [.int .i64 4, .slice A1 s.length c1, .slice A2 args.length c2, .int .i64 mn, .int .i64 mx, .bool ng]) ∧ Aside (wr.heap[w.heap.size + 1]? = some (.cells #[.int .i64 0, .slice none 0 0, .slice none 0 0, .int .i64 0, .int .i64 0, .bool false] 25)) ∧ Aside (∀ o, Hk (w.heap.size + 1) o = none)) (fun i _ => args.length - (intOf i).toNat)
  case atStart => exact ⟨0, _, by omega, rfl, ⟨by simp⟩, hx, hr, h2, Br, kz, nz⟩
  case round =>
    clear hx hr h2 Br kz nz
    obtain ⟨k, Hk, hk, rfl, hM, hx, hr, h2, Br, kz, nz⟩ := hrel
    obtain ⟨wo, rfl⟩ : ∃ wo : World, wo = wr := ⟨_, rfl⟩
    by_cases hlt : k < args.length
    case pos =>
      have hto := fun W => run_to (P := Try.prog) 23 25 6 Try.underlying23 sizeRe A2 args.length c2 k (by omega) (k : Int) rfl W
      have hfr := fun W => run_from (P := Try.prog) 23 25 6 Try.underlying23 sizeRe A2 args.length c2 (k + 1) (by omega) ((k : Int) + 1) (by omega) W
      have hT := Aside.mk (h2.out.to k (by omega))
      have hF := Aside.mk (h2.out.from (k + 1) (by omega))
      obtain ⟨b, off, k1, s1, a1, u1, v1, g1, P1, d1, P2, d2, e0, hq, hrd, g0, g1_, g2, g3, g4, g5⟩ := cell_elem h2.out hx.out.sat k hlt
      have hhM := manyGo_at (K := 4) hlt hq
      have hal : a1.length ≤ szL args := args_le hlt hq
      generalize hQA : fromA A2 c2 (k + 1) 6 = QA at *
      have hF2 : SlR kRe Hk QA (args.length - (k + 1)) (c2 - (k + 1)) (args.drop (k + 1)) := by rw [← hQA]; exact hF.out
      replace hF := Aside.mk hF2
      clear hF2
      replace hQA := Aside.mk hQA
      subst e0
      have hlen1 : (args.take k).length = k := by simp; omega
      have hlen2 : (args.drop (k + 1)).length = args.length - (k + 1) := by simp
      have hrd0 := Aside.mk hrd
      obtain ⟨_, _, _, _, e9, -, hra⟩ := hrd.open
      simp only [List.cons.injEq, Value.slice.injEq, true_and, and_true] at e9
      obtain ⟨⟨rfl, rfl⟩, rfl, rfl⟩ := e9
      clear hrd
      replace hra := Aside.mk hra
      have hzo := hz.out
      have hbz : b < wo.heap.size := World.block_lt_of_cell? wo _ g0
      have hik : (0 : Int) ≤ (k : Int) := by omega
      have hik2 : (k : Int) < (args.length : Int) := by omega
      have hwk : IntKind.i64.wrap ((k : Int) + 1) = (k : Int) + 1 := IntWalk.i64_in _ (by omega)
      have HA := Aside.mk (And.intro hhM (And.intro hal (And.intro hlen1 (And.intro hlen2 (And.intro hq hlt)))))
      have hlt2 := hlt
      clear hhM hal hlen1 hlen2 hq hzo
      by_cases q1 : k1 = 4
      case pos =>
        subst q1
        have HR := Aside.mk (show manyF 4 args = some (Re.mk 4 [] (args.take k ++ a1 ++ args.drop (k + 1)) 0 0 false) from by unfold manyF; rw [hM.out, HA.out.1]; simp [Re.kind, Re.args])
        have lqz : w.heap.size + 1 < wo.heap.size := boxL kz.out
        obtain ⟨⟨cz0, cz1, cz2, cz3, cz4, cz5⟩, fz0, fz1, fz2, fz3, fz4, fz5⟩ := kb6 kz.out
        have lqr : w.heap.size < wo.heap.size := hx.out.sat.lt (Br.out 0 _ rfl)
        obtain ⟨cr0, cr1, cr2, cr3, cr4, cr5⟩ := hb6 hx.out.sat Br.out
        go_wp2_with fail
        clear lqz cz0 cz1 cz2 cz3 cz4 cz5 fz0 fz1 fz2 fz3 fz4 fz5 lqr cr0 cr1 cr2 cr3 cr4 cr5 g0 g1_ g2 g3 g4 g5
        have hszwo := hx.out.size
        have habzwo := boxL kz.out
        have kz_ : (wo.alloc (.cells #[.int .i64 4, .slice P1 s1.length d1, .slice P2 a1.length d2, .int .i64 u1, .int .i64 v1, .bool g1] 25)).heap[w.heap.size + 1]? = some (.cells #[.int .i64 0, .slice none 0 0, .slice none 0 0, .int .i64 0, .int .i64 0, .bool false] 25) := (boxA kz.out (.cells #[.int .i64 4, .slice P1 s1.length d1, .slice P2 a1.length d2, .int .i64 u1, .int .i64 v1, .bool g1] 25))
        have ke_ : (wo.alloc (.cells #[.int .i64 4, .slice P1 s1.length d1, .slice P2 a1.length d2, .int .i64 u1, .int .i64 v1, .bool g1] 25)).heap[wo.heap.size]? = some (.cells #[.int .i64 4, .slice P1 s1.length d1, .slice P2 a1.length d2, .int .i64 u1, .int .i64 v1, .bool g1] 25) := (heap_alloc_new _ _)
        have ne := Aside.mk (fun o => hx.out.sat.new (b := wo.heap.size) (show wo.heap.size ≤ _ by omega) o)
        replace hx := Aside.mk ((hx.out.alloc (.cells #[.int .i64 4, .slice P1 s1.length d1, .slice P2 a1.length d2, .int .i64 u1, .int .i64 v1, .bool g1] 25)))
        generalize (wo.alloc (.cells #[.int .i64 4, .slice P1 s1.length d1, .slice P2 a1.length d2, .int .i64 u1, .int .i64 v1, .bool g1] 25)) = W2 at *
        replace kz := Aside.mk kz_
        clear kz_
        have ke := Aside.mk ke_
        clear ke_
        obtain ⟨H1, hx2, hle, Be, hold⟩ := box_freeze hx.out (by omega) ke.out ne.out
        replace hr := Aside.mk (hr.out.mono hle)
        replace h2 := Aside.mk (h2.out.mono hle)
        replace hT := Aside.mk (hT.out.mono hle)
        replace hF := Aside.mk (hF.out.mono hle)
        replace hrd0 := Aside.mk (hrd0.out.mono hle)
        replace hra := Aside.mk (hra.out.mono hle)
        replace Br := Aside.mk (Br.out.mono hle)
        replace nz := Aside.mk (fun o => (hold _ o (by omega)).trans (nz.out o))
        replace hx := Aside.mk hx2
        replace Be := Aside.mk Be
        clear hle hold hx2 ke ne
        have hwx := hx.out.size
        have HS2 := Aside.mk (fun w' (hb : Sat w' H1) => show w'.cell? ⟨w.heap.size, 2, none⟩ = some (.slice (some ⟨b, off, none⟩) args.length c2) from (by have q := at6 hb Br.out; simp only [Nat.add_zero, Nat.zero_add] at q; exact q.2.2.1))
        have hbase0 : w.heap.size + 1 + 1 ≤ W2.heap.size := boxL kz.out
        have hlt48 : ((args.take k).length + 0) * 80 ≤ 140737488355328 := by rw [HA.out.2.2.1]; omega
        have hby1 : Aside ((([] : List Re).length + (args.take k).length) * 80 ≤ 140737488355328 ∧ ([] : List Re).length + (args.take k).length ≤ maxLen) := ⟨by rw [HA.out.2.2.1]; simp; omega, by rw [HA.out.2.2.1]; unfold maxLen; simp; omega⟩
        have hby2 : Aside ((([] ++ args.take k : List Re).length + (args.drop (k + 1)).length) * 80 ≤ 140737488355328 ∧ ([] ++ args.take k : List Re).length + (args.drop (k + 1)).length ≤ maxLen) := ⟨by rw [List.nil_append, HA.out.2.2.1, HA.out.2.2.2.1]; omega, by rw [List.nil_append, HA.out.2.2.1, HA.out.2.2.2.1]; unfold maxLen; omega⟩
        clear hlt48
        have hlit := Aside.mk (Own.lit (k := kRe) (e := 25) (xs := []) (base := W2.heap.size) hx.out.sat.drew #[] (Nat.le_refl _) rfl (by unfold maxLen; simp))
        go_region_held3 (fun w' => w'.cell? ⟨w.heap.size, 2, none⟩ = some (.slice (some ⟨b, off, none⟩) args.length c2))
          (first | exact HS2.out _ hx.out.sat | exact HS2.out _ hx.out.sat.drew | exact HS2.out _ (hx.out.sat.drew.alloc _) | exact HS2.out _ (hx.out.sat.alloc _).drew | exact HS2.out _ hs8 | exact HS2.out _ hs9)
          ((first
          | (have _t := ho8; go_must (refine step_appS kRe (by rfl) (.tmp 24) (.tmp 29) 23 (by rfl) 25 Try.underlying23 info25 rfl ho8 hs8 hF.out (by rfl) (by rfl) hby2.out.1 hby2.out.2 (by have := hg8.size; simp at this; omega) ?_); intro v9 w9 ho9 hg9 hs9 hn9)
          | (go_must (refine step_appS kRe (by rfl) (.tmp 19) (.tmp 23) 23 (by rfl) 25 Try.underlying23 info25 rfl hlit.out (hx.out.sat.drew.alloc _) hT.out (by rfl) (by rfl) hby1.out.1 hby1.out.2 (by simp) ?_); intro v8 w8 ho8 hg8 hs8 hn8)))
        have hb8 : Below W2.heap.size W2 w8 := (bD (bA (Below.refl _ _) _)).grown hg8 (bD (bA (Below.refl _ _) _)).size (fun b hb => by simp [Value.ownBlock] at hb; omega)
        have hb9 : Below W2.heap.size W2 w9 := hb8.grown hg9 hb8.size (fun b hb => (ho8.blk hb).1)
        simp only [List.nil_append] at ho9
        obtain ⟨A9, c9, e9, -, -, -, -⟩ := ho9.form
        generalize (args.take k ++ args.drop (k + 1)).length = l9 at e9
        subst e9
        clear hlit ho8 hg8 hs8 hn8 hg9 hs9 hn9 hb8 hby2 HS2
        replace kz := Aside.mk (box_below kz.out hb9)
        replace hx := Aside.mk (hx.out.then_below hb9)
        clear hb9
        replace ho9 := Aside.mk ho9
        clear ho9
        have hlit := Aside.mk (Own.lit (k := kRe) (e := 25) (xs := []) (base := w9.heap.size) hx.out.sat #[] (Nat.le_refl _) rfl (by unfold maxLen; simp))
        have hwx0 := hx.out.size
        have hwx1 := boxL kz.out
        have lqz : w.heap.size + 1 < w9.heap.size := boxL kz.out
        obtain ⟨⟨cz0, cz1, cz2, cz3, cz4, cz5⟩, fz0, fz1, fz2, fz3, fz4, fz5⟩ := kb6 kz.out
        have lqr : w.heap.size < w9.heap.size := hx.out.sat.lt (Br.out 0 _ rfl)
        obtain ⟨cr0, cr1, cr2, cr3, cr4, cr5⟩ := hb6 hx.out.sat Br.out
        have lqe : wo.heap.size < w9.heap.size := hx.out.sat.lt (Be.out 0 _ rfl)
        obtain ⟨ce0, ce1, ce2, ce3, ce4, ce5⟩ := hb6 hx.out.sat Be.out
        go_upto_region 7 with (at_builtin; go_must (refine wpList_appS kRe rfl (.tmp 36) (.tmp 40) 23 rfl 25 Try.underlying23 info25 rfl hlit.out (hx.out.sat.alloc _) hT.out rfl rfl hby1.out.1 hby1.out.2 (by simp) ?_); intro v10 w10 ho10 hg10 hs10 hn10 hni10)
        clear lqz cz0 cz1 cz2 cz3 cz4 cz5 fz0 fz1 fz2 fz3 fz4 fz5 lqr cr0 cr1 cr2 cr3 cr4 cr5 lqe ce0 ce1 ce2 ce3 ce4 ce5
        have hb10 : Below w9.heap.size w9 w10 := (bA (Below.refl _ _) _).grown hg10 (bA (Below.refl _ _) _).size (fun b hb => by simp [Value.ownBlock] at hb; omega)
        simp only [List.nil_append] at ho10
        obtain ⟨A10, c10, e10, -, -, -, -⟩ := ho10.form
        generalize (args.take k).length = l10 at e10
        subst e10
        clear hlit hg10 hs10 hn10 hni10
        have hsz10 : w9.heap.size ≤ w10.heap.size := hb10.size
        replace kz := Aside.mk (box_below kz.out hb10)
        replace hx := Aside.mk (hx.out.then_below hb10)
        clear hb10
        replace ho10 := Aside.mk ho10
        have hby3 : Aside (((args.take k).length + a1.length) * 80 ≤ 140737488355328 ∧ (args.take k).length + a1.length ≤ maxLen) := ⟨by rw [HA.out.2.2.1]; have := HA.out.2.1; have := hz.out; omega, by rw [HA.out.2.2.1]; have := HA.out.2.1; have := hz.out; unfold maxLen; omega⟩
        have hwx := hx.out.size
        have lqz : w.heap.size + 1 < w10.heap.size := boxL kz.out
        obtain ⟨⟨cz0, cz1, cz2, cz3, cz4, cz5⟩, fz0, fz1, fz2, fz3, fz4, fz5⟩ := kb6 kz.out
        have lqr : w.heap.size < w10.heap.size := hx.out.sat.lt (Br.out 0 _ rfl)
        obtain ⟨cr0, cr1, cr2, cr3, cr4, cr5⟩ := hb6 hx.out.sat Br.out
        have lqe : wo.heap.size < w10.heap.size := hx.out.sat.lt (Be.out 0 _ rfl)
        obtain ⟨ce0, ce1, ce2, ce3, ce4, ce5⟩ := hb6 hx.out.sat Be.out
        go_upto_region 8 with (at_builtin; go_must (refine wpList_appS kRe rfl (.tmp 42) (.tmp 44) 23 rfl 25 Try.underlying23 info25 rfl ho10.out hx.out.sat hra.out rfl rfl hby3.out.1 hby3.out.2 hsz10 ?_); intro v11 w11 ho11 hg11 hs11 hn11 hni11)
        clear lqz cz0 cz1 cz2 cz3 cz4 cz5 fz0 fz1 fz2 fz3 fz4 fz5 lqr cr0 cr1 cr2 cr3 cr4 cr5 lqe ce0 ce1 ce2 ce3 ce4 ce5
        obtain ⟨A11, c11, e11, -, -, -, -⟩ := ho11.form
        generalize (args.take k ++ a1).length = l11 at e11
        subst e11
        have hsz11 : w9.heap.size ≤ w11.heap.size := Nat.le_trans hsz10 hg11.size
        have hwbase : w.heap.size ≤ w9.heap.size := hwx0
        replace kz := Aside.mk (boxG kz.out hg11 (fun e => by have h1 := (ho10.out.blk e).1; omega))
        replace hx := Aside.mk (ho10.out.extG hx.out (by omega) hg11)
        replace ho10 := Aside.mk ho11
        clear ho11 hg11 hs11 hn11 hni11 hby1 hby3
        have hby4 : Aside (((args.take k ++ a1).length + (args.drop (k + 1)).length) * 80 ≤ 140737488355328 ∧ (args.take k ++ a1).length + (args.drop (k + 1)).length ≤ maxLen) := ⟨by rw [List.length_append, HA.out.2.2.1, HA.out.2.2.2.1]; have := HA.out.2.1; have := hz.out; omega, by rw [List.length_append, HA.out.2.2.1, HA.out.2.2.2.1]; have := HA.out.2.1; have := hz.out; unfold maxLen; omega⟩
        go_wp2_with fail
        have HS2 := Aside.mk (fun w' (hb : Sat w' H1) => show w'.cell? ⟨w.heap.size, 0, none⟩ = some (.int .i64 4) ∧ w'.cell? ⟨w.heap.size, 2, none⟩ = some (.slice (some ⟨b, off, none⟩) args.length c2) from (by have q := at6 hb Br.out; simp only [Nat.add_zero, Nat.zero_add] at q; exact ⟨q.1, q.2.2.1⟩))
        go_region_held3 (fun w' => w'.cell? ⟨w.heap.size, 0, none⟩ = some (.int .i64 4) ∧ w'.cell? ⟨w.heap.size, 2, none⟩ = some (.slice (some ⟨b, off, none⟩) args.length c2))
          (first | with_reducible exact HS2.out _ hx.out.sat | with_reducible exact HS2.out _ hx.out.sat.drew | with_reducible exact HS2.out _ hs12 | exact HS2.out _ ((((((hs12.setCell nz.out _ _).setCell nz.out _ _).setCell nz.out _ _).setCell nz.out _ _).setCell nz.out _ _).setCell nz.out _ _))
          ((first
          | (go_must (refine step_appS kRe (by rfl) (.tmp 48) (.tmp 53) 23 (by rfl) 25 Try.underlying23 info25 rfl ho10.out.drew hx.out.sat.drew hF.out (by rfl) (by rfl) hby4.out.1 hby4.out.2 hsz11 ?_); intro v12 w12 ho12 hg12 hs12 hn12; obtain ⟨A12, c12, e12, -, -, -, -⟩ := ho12.form; generalize (args.take k ++ a1 ++ args.drop (k + 1)).length = l12 at e12; subst e12; have kz12 := boxG (w := w11.drew) kz.out hg12 (fun e => by have h1 := (ho10.out.blk e).1; omega); have hzl := boxL kz12; obtain ⟨⟨x0, x1, x2, x3, x4, x5⟩, y0, y1, y2, y3, y4, y5⟩ := kb6 kz12)))
        clear x0 x1 x2 x3 x4 x5 y0 y1 y2 y3 y4 y5 hzl kz12
        have kz_ : w11.drew.heap[w.heap.size + 1]? = some (.cells #[.int .i64 0, .slice none 0 0, .slice none 0 0, .int .i64 0, .int .i64 0, .bool false] 25) := kz.out
        replace ho10 := Aside.mk (ho10.out.drew)
        replace hx := Aside.mk ((hx.out.drew))
        generalize w11.drew = W3 at *
        replace kz := Aside.mk kz_
        clear kz_
        replace kz := Aside.mk (boxG kz.out hg12 (fun e => by have h1 := (ho10.out.blk e).1; omega))
        replace hx := Aside.mk (ho10.out.extG hx.out (by omega) hg12)
        replace ho10 := Aside.mk ho12
        clear ho12 hg12 hs12 hn12 hby4
        have kz_ : ((((((w12.setCell ⟨w.heap.size + 1, 0, none⟩ (.int .i64 4)).setCell ⟨w.heap.size + 1, 1, none⟩ (.slice none 0 0)).setCell ⟨w.heap.size + 1, 2, none⟩ (.slice A12 l12 c12)).setCell ⟨w.heap.size + 1, 3, none⟩ (.int .i64 0)).setCell ⟨w.heap.size + 1, 4, none⟩ (.int .i64 0)).setCell ⟨w.heap.size + 1, 5, none⟩ (.bool false)).heap[w.heap.size + 1]? = some (.cells #[.int .i64 4, .slice none 0 0, .slice A12 l12 c12, .int .i64 0, .int .i64 0, .bool false] 25) := (boxS (boxS (boxS (boxS (boxS (boxS kz.out 0 (.int .i64 4)) 1 (.slice none 0 0)) 2 (.slice A12 l12 c12)) 3 (.int .i64 0)) 4 (.int .i64 0)) 5 (.bool false))
        replace ho10 := Aside.mk ((((((ho10.out.grown (grownBy_setCell _ (w.heap.size + 1) 0 (.int .i64 4)) (Or.inr (fun e => by have h1 := (ho10.out.blk e).1; omega))).grown (grownBy_setCell _ (w.heap.size + 1) 1 (.slice none 0 0)) (Or.inr (fun e => by have h1 := (ho10.out.blk e).1; omega))).grown (grownBy_setCell _ (w.heap.size + 1) 2 (.slice A12 l12 c12)) (Or.inr (fun e => by have h1 := (ho10.out.blk e).1; omega))).grown (grownBy_setCell _ (w.heap.size + 1) 3 (.int .i64 0)) (Or.inr (fun e => by have h1 := (ho10.out.blk e).1; omega))).grown (grownBy_setCell _ (w.heap.size + 1) 4 (.int .i64 0)) (Or.inr (fun e => by have h1 := (ho10.out.blk e).1; omega))).grown (grownBy_setCell _ (w.heap.size + 1) 5 (.bool false)) (Or.inr (fun e => by have h1 := (ho10.out.blk e).1; omega)))
        replace hx := Aside.mk (((((((hx.out.setCell (b := w.heap.size + 1) (o := 0) (by first | omega | (simp; omega)) nz.out (.int .i64 4)).setCell (b := w.heap.size + 1) (o := 1) (by first | omega | (simp; omega)) nz.out (.slice none 0 0)).setCell (b := w.heap.size + 1) (o := 2) (by first | omega | (simp; omega)) nz.out (.slice A12 l12 c12)).setCell (b := w.heap.size + 1) (o := 3) (by first | omega | (simp; omega)) nz.out (.int .i64 0)).setCell (b := w.heap.size + 1) (o := 4) (by first | omega | (simp; omega)) nz.out (.int .i64 0)).setCell (b := w.heap.size + 1) (o := 5) (by first | omega | (simp; omega)) nz.out (.bool false)))
        generalize ((((((w12.setCell ⟨w.heap.size + 1, 0, none⟩ (.int .i64 4)).setCell ⟨w.heap.size + 1, 1, none⟩ (.slice none 0 0)).setCell ⟨w.heap.size + 1, 2, none⟩ (.slice A12 l12 c12)).setCell ⟨w.heap.size + 1, 3, none⟩ (.int .i64 0)).setCell ⟨w.heap.size + 1, 4, none⟩ (.int .i64 0)).setCell ⟨w.heap.size + 1, 5, none⟩ (.bool false)) = W4 at *
        replace kz := Aside.mk kz_
        clear kz_
        go_wp2_with fail
        obtain ⟨H9, hx9, hle9, ⟨A13, c13, e13, hsl⟩, hold9⟩ := ho10.out.freezeE hx.out (by omega) (by rw [List.length_append, List.length_append, HA.out.2.2.1, HA.out.2.2.2.1]; have := HA.out.2.1; have := hz.out; omega)
        simp only [List.cons.injEq, Value.slice.injEq, and_true] at e13
        obtain ⟨rfl, e14, rfl⟩ := e13
        rw [← e14] at hsl
        refine bodyPost_ret (resC2 rfl _ _ _ rfl (run_loadVar_row _ _ _ _ _ (0, 0) _ kz.out Try.underlying25 rfl (by kernel_rfl))) rfl ?_
        rw [HR.out]
        exact ⟨_, _, rfl, RdRe.shut (SlR.nil _ _) hsl, hx9⟩
      case neg =>
        have q1b : (k1 == 4) = false := by simpa using q1
        have q3 := q1
        by_cases q4 : k1 = 0
        case pos =>
          subst q4
          clear q1 q1b q3
          have lqz : w.heap.size + 1 < wo.heap.size := boxL kz.out
          obtain ⟨⟨cz0, cz1, cz2, cz3, cz4, cz5⟩, fz0, fz1, fz2, fz3, fz4, fz5⟩ := kb6 kz.out
          have lqr : w.heap.size < wo.heap.size := hx.out.sat.lt (Br.out 0 _ rfl)
          obtain ⟨cr0, cr1, cr2, cr3, cr4, cr5⟩ := hb6 hx.out.sat Br.out
          go_wp2_with fail
          clear lqz cz0 cz1 cz2 cz3 cz4 cz5 fz0 fz1 fz2 fz3 fz4 fz5 lqr cr0 cr1 cr2 cr3 cr4 cr5 g0 g1_ g2 g3 g4 g5
          have hszwo := hx.out.size
          have habzwo := boxL kz.out
          have kz_ : (wo.alloc (.cells #[.int .i64 0, .slice P1 s1.length d1, .slice P2 a1.length d2, .int .i64 u1, .int .i64 v1, .bool g1] 25)).heap[w.heap.size + 1]? = some (.cells #[.int .i64 0, .slice none 0 0, .slice none 0 0, .int .i64 0, .int .i64 0, .bool false] 25) := (boxA kz.out (.cells #[.int .i64 0, .slice P1 s1.length d1, .slice P2 a1.length d2, .int .i64 u1, .int .i64 v1, .bool g1] 25))
          have ke_ : (wo.alloc (.cells #[.int .i64 0, .slice P1 s1.length d1, .slice P2 a1.length d2, .int .i64 u1, .int .i64 v1, .bool g1] 25)).heap[wo.heap.size]? = some (.cells #[.int .i64 0, .slice P1 s1.length d1, .slice P2 a1.length d2, .int .i64 u1, .int .i64 v1, .bool g1] 25) := (heap_alloc_new _ _)
          have ne := Aside.mk (fun o => hx.out.sat.new (b := wo.heap.size) (show wo.heap.size ≤ _ by omega) o)
          replace hx := Aside.mk ((hx.out.alloc (.cells #[.int .i64 0, .slice P1 s1.length d1, .slice P2 a1.length d2, .int .i64 u1, .int .i64 v1, .bool g1] 25)))
          generalize (wo.alloc (.cells #[.int .i64 0, .slice P1 s1.length d1, .slice P2 a1.length d2, .int .i64 u1, .int .i64 v1, .bool g1] 25)) = W5 at *
          replace kz := Aside.mk kz_
          clear kz_
          have ke := Aside.mk ke_
          clear ke_
          obtain ⟨H1, hx2, hle, Be, hold⟩ := box_freeze hx.out (by omega) ke.out ne.out
          replace hr := Aside.mk (hr.out.mono hle)
          replace h2 := Aside.mk (h2.out.mono hle)
          replace hT := Aside.mk (hT.out.mono hle)
          replace hF := Aside.mk (hF.out.mono hle)
          replace hrd0 := Aside.mk (hrd0.out.mono hle)
          replace hra := Aside.mk (hra.out.mono hle)
          replace Br := Aside.mk (Br.out.mono hle)
          replace nz := Aside.mk (fun o => (hold _ o (by omega)).trans (nz.out o))
          replace hx := Aside.mk hx2
          replace Be := Aside.mk Be
          clear hle hold hx2 ke ne
          have hwx := hx.out.size
          have HS2 := Aside.mk (fun w' (hb : Sat w' H1) => show w'.cell? ⟨w.heap.size, 2, none⟩ = some (.slice (some ⟨b, off, none⟩) args.length c2) from (by have q := at6 hb Br.out; simp only [Nat.add_zero, Nat.zero_add] at q; exact q.2.2.1))
          have hbase0 : w.heap.size + 1 + 1 ≤ W5.heap.size := boxL kz.out
          have hlt48 : ((args.take k).length + 0) * 80 ≤ 140737488355328 := by rw [HA.out.2.2.1]; omega
          have hby1 : Aside ((([] : List Re).length + (args.take k).length) * 80 ≤ 140737488355328 ∧ ([] : List Re).length + (args.take k).length ≤ maxLen) := ⟨by rw [HA.out.2.2.1]; simp; omega, by rw [HA.out.2.2.1]; unfold maxLen; simp; omega⟩
          have hby2 : Aside ((([] ++ args.take k : List Re).length + (args.drop (k + 1)).length) * 80 ≤ 140737488355328 ∧ ([] ++ args.take k : List Re).length + (args.drop (k + 1)).length ≤ maxLen) := ⟨by rw [List.nil_append, HA.out.2.2.1, HA.out.2.2.2.1]; omega, by rw [List.nil_append, HA.out.2.2.1, HA.out.2.2.2.1]; unfold maxLen; omega⟩
          clear hlt48
          have hlit := Aside.mk (Own.lit (k := kRe) (e := 25) (xs := []) (base := W5.heap.size) hx.out.sat.drew #[] (Nat.le_refl _) rfl (by unfold maxLen; simp))
          go_region_held3 (fun w' => w'.cell? ⟨w.heap.size, 2, none⟩ = some (.slice (some ⟨b, off, none⟩) args.length c2))
            (first | exact HS2.out _ hx.out.sat | exact HS2.out _ hx.out.sat.drew | exact HS2.out _ (hx.out.sat.drew.alloc _) | exact HS2.out _ (hx.out.sat.alloc _).drew | exact HS2.out _ hs8 | exact HS2.out _ hs9)
            ((first
            | (have _t := ho8; go_must (refine step_appS kRe (by rfl) (.tmp 24) (.tmp 29) 23 (by rfl) 25 Try.underlying23 info25 rfl ho8 hs8 hF.out (by rfl) (by rfl) hby2.out.1 hby2.out.2 (by have := hg8.size; simp at this; omega) ?_); intro v9 w9 ho9 hg9 hs9 hn9)
            | (go_must (refine step_appS kRe (by rfl) (.tmp 19) (.tmp 23) 23 (by rfl) 25 Try.underlying23 info25 rfl hlit.out (hx.out.sat.drew.alloc _) hT.out (by rfl) (by rfl) hby1.out.1 hby1.out.2 (by simp) ?_); intro v8 w8 ho8 hg8 hs8 hn8)))
          have hb8 : Below W5.heap.size W5 w8 := (bD (bA (Below.refl _ _) _)).grown hg8 (bD (bA (Below.refl _ _) _)).size (fun b hb => by simp [Value.ownBlock] at hb; omega)
          have hb9 : Below W5.heap.size W5 w9 := hb8.grown hg9 hb8.size (fun b hb => (ho8.blk hb).1)
          simp only [List.nil_append] at ho9
          obtain ⟨A9, c9, e9, -, -, -, -⟩ := ho9.form
          generalize (args.take k ++ args.drop (k + 1)).length = l9 at e9
          subst e9
          clear hlit ho8 hg8 hs8 hn8 hg9 hs9 hn9 hb8 hby2 HS2
          replace kz := Aside.mk (box_below kz.out hb9)
          replace hx := Aside.mk (hx.out.then_below hb9)
          clear hb9
          replace ho9 := Aside.mk ho9
          have lqz : w.heap.size + 1 < w9.heap.size := boxL kz.out
          obtain ⟨⟨cz0, cz1, cz2, cz3, cz4, cz5⟩, fz0, fz1, fz2, fz3, fz4, fz5⟩ := kb6 kz.out
          have lqr : w.heap.size < w9.heap.size := hx.out.sat.lt (Br.out 0 _ rfl)
          obtain ⟨cr0, cr1, cr2, cr3, cr4, cr5⟩ := hb6 hx.out.sat Br.out
          have lqe : wo.heap.size < w9.heap.size := hx.out.sat.lt (Be.out 0 _ rfl)
          obtain ⟨ce0, ce1, ce2, ce3, ce4, ce5⟩ := hb6 hx.out.sat Be.out
          go_wp2_with fail
          clear lqz cz0 cz1 cz2 cz3 cz4 cz5 fz0 fz1 fz2 fz3 fz4 fz5 lqr cr0 cr1 cr2 cr3 cr4 cr5 lqe ce0 ce1 ce2 ce3 ce4 ce5
          go_loopw [8, 83] (fun s8 i wr => ∃ (j : Nat) (Hq : PH), j ≤ k ∧ i = .int .i64 j ∧ s8 = .bool true ∧ Aside (Ext H Hq w wr) ∧ Aside (RdRe Hq (Re.mk 4 s args mn mx ng) [.int .i64 4, .slice A1 s.length c1, .slice (some ⟨b, off, none⟩) args.length c2, .int .i64 mn, .int .i64 mx, .bool ng]) ∧ Aside (SlR kRe Hq (some ⟨b, off, none⟩) args.length c2 args) ∧ Aside (SlR kRe Hq (some ⟨b, off, none⟩) k c2 (args.take k)) ∧ Aside (SlR kRe Hq QA (args.length - (k + 1)) (c2 - (k + 1)) (args.drop (k + 1))) ∧ Aside (RdRe Hq (Re.mk 0 s1 a1 u1 v1 g1) [.int .i64 0, .slice P1 s1.length d1, .slice P2 a1.length d2, .int .i64 u1, .int .i64 v1, .bool g1]) ∧ Aside (SlR kRe Hq P2 a1.length d2 a1) ∧ Aside (BoxH Hq (w.heap.size) [.int .i64 4, .slice A1 s.length c1, .slice (some ⟨b, off, none⟩) args.length c2, .int .i64 mn, .int .i64 mx, .bool ng]) ∧ Aside (BoxH Hq (wo.heap.size) [.int .i64 0, .slice P1 s1.length d1, .slice P2 a1.length d2, .int .i64 u1, .int .i64 v1, .bool g1]) ∧ Aside (wr.heap[w.heap.size + 1]? = some (.cells #[.int .i64 0, .slice none 0 0, .slice none 0 0, .int .i64 0, .int .i64 0, .bool false] 25)) ∧ Aside (∀ o, Hq (w.heap.size + 1) o = none) ∧ Aside (Own kRe 25 wr (W5.heap.size) Hq (.slice A9 l9 c9) (args.take k ++ args.drop (k + 1)))) (fun _ i _ => k - (intOf i).toNat)
          case atStart => exact ⟨0, _, by omega, rfl, rfl, hx, hr, h2, hT, hF, hrd0, hra, Br, Be, kz, nz, ⟨by simpa using ho9.out⟩⟩
          case round =>
            clear hx hr h2 hT hF hrd0 hra Br Be kz nz ho9
            obtain ⟨j, Hq, hj, rfl, rfl, hx, hr, h2, hT, hF, hrd0, hra, Br, Be, kz, nz, ho9⟩ := hrel
            by_cases hjk : j < k
            case pos =>
              have hjl : j < (args.take k).length := by rw [HA.out.2.2.1]; exact hjk
              obtain ⟨b', off', k4, s4, a4, u4, v4, g4, R1, r1, R2, r2, e0, q9, hrd2, z0, z1, z2, z3, z4, z5⟩ := cell_elem hT.out hx.out.sat j hjl
              simp only [Option.some.injEq, Addr.mk.injEq, and_true] at e0
              obtain ⟨rfl, rfl⟩ := e0
              have htj : (args.take k).take (j + 1) = (args.take k).take j ++ [(args.take k)[j]] := List.take_succ_eq_append_getElem hjl
              rw [q9] at htj
              replace htj := Aside.mk htj
              replace hrd2 := Aside.mk hrd2
              clear q9 hjl
              have hjk2 := Aside.mk hjk
              have hbzq : b < wr.heap.size := World.block_lt_of_cell? wr _ z0
              have lqz : w.heap.size + 1 < wr.heap.size := boxL kz.out
              obtain ⟨⟨cz0, cz1, cz2, cz3, cz4, cz5⟩, fz0, fz1, fz2, fz3, fz4, fz5⟩ := kb6 kz.out
              have lqr : w.heap.size < wr.heap.size := hx.out.sat.lt (Br.out 0 _ rfl)
              obtain ⟨cr0, cr1, cr2, cr3, cr4, cr5⟩ := hb6 hx.out.sat Br.out
              have lqe : wo.heap.size < wr.heap.size := hx.out.sat.lt (Be.out 0 _ rfl)
              obtain ⟨ce0, ce1, ce2, ce3, ce4, ce5⟩ := hb6 hx.out.sat Be.out
              go_wp2_with fail
              clear lqz cz0 cz1 cz2 cz3 cz4 cz5 fz0 fz1 fz2 fz3 fz4 fz5 lqr cr0 cr1 cr2 cr3 cr4 cr5 lqe ce0 ce1 ce2 ce3 ce4 ce5 z0 z1 z2 z3 z4 z5
              have kz_ : (wr.alloc (.cells #[.int .i64 k4, .slice R1 s4.length r1, .slice R2 a4.length r2, .int .i64 u4, .int .i64 v4, .bool g4] 25)).heap[w.heap.size + 1]? = some (.cells #[.int .i64 0, .slice none 0 0, .slice none 0 0, .int .i64 0, .int .i64 0, .bool false] 25) := (boxA kz.out (.cells #[.int .i64 k4, .slice R1 s4.length r1, .slice R2 a4.length r2, .int .i64 u4, .int .i64 v4, .bool g4] 25))
              replace ho9 := Aside.mk (ho9.out.alloc (hx.out).sat (.cells #[.int .i64 k4, .slice R1 s4.length r1, .slice R2 a4.length r2, .int .i64 u4, .int .i64 v4, .bool g4] 25))
              replace hx := Aside.mk ((hx.out.alloc (.cells #[.int .i64 k4, .slice R1 s4.length r1, .slice R2 a4.length r2, .int .i64 u4, .int .i64 v4, .bool g4] 25)))
              generalize (wr.alloc (.cells #[.int .i64 k4, .slice R1 s4.length r1, .slice R2 a4.length r2, .int .i64 u4, .int .i64 v4, .bool g4] 25)) = W6 at *
              replace kz := Aside.mk kz_
              clear kz_
              clear hrd2 htj
              go_roundw
              case rel => exact ⟨j + 1, _, hjk2.out, by go_num, rfl, hx, hr, h2, hT, hF, hrd0, hra, Br, Be, kz, nz, ho9⟩
              case measure => (have := hjk2.out; simp [intOf]; omega)
            case neg =>
              obtain rfl : j = k := by omega
              have HR := Aside.mk (show manyF 4 args = some (leftF 4 (args.take j ++ args.drop (j + 1))) from by unfold manyF; rw [hM.out, HA.out.1]; simp [Re.kind, Re.args])
              obtain ⟨H31, hx31, hle31, ⟨A30, c30, e30, hs30⟩, hold31⟩ := ho9.out.freezeE hx.out (by omega) (by rw [List.length_append, HA.out.2.2.1, HA.out.2.2.2.1]; omega)
              simp only [List.cons.injEq, Value.slice.injEq, and_true] at e30
              obtain ⟨rfl, e31, rfl⟩ := e30
              rw [← e31] at hs30
              replace Br := Aside.mk (Br.out.mono hle31)
              replace nz := Aside.mk (fun o => (hold31 _ o (fun e => by have h1 := (ho9.out.blk e).1; omega)).trans (nz.out o))
              replace hx := Aside.mk hx31
              replace hs30 := Aside.mk hs30
              clear e31 ho9 hold31 hle31 hx31 hr h2 hT hF hrd0 hra Be
              have lqz : w.heap.size + 1 < wr.heap.size := boxL kz.out
              obtain ⟨⟨cz0, cz1, cz2, cz3, cz4, cz5⟩, fz0, fz1, fz2, fz3, fz4, fz5⟩ := kb6 kz.out
              have lqr : w.heap.size < wr.heap.size := hx.out.sat.lt (Br.out 0 _ rfl)
              obtain ⟨cr0, cr1, cr2, cr3, cr4, cr5⟩ := hb6 hx.out.sat Br.out
              go_wp2_with fail
              clear lqz cz0 cz1 cz2 cz3 cz4 cz5 fz0 fz1 fz2 fz3 fz4 fz5 lqr cr0 cr1 cr2 cr3 cr4 cr5
              refine (left_any _ 4 _ _ _ _ _ hs30.out hx.out.sat).mono ?_
              rintro e w32 ⟨H32, cs32, rfl, hr32, hz32⟩
              have hle := hz32.le
              replace hs30 := Aside.mk (hs30.out.mono hle)
              replace Br := Aside.mk (Br.out.mono hle)
              replace nz := Aside.mk (fun o => (hz32.old _ o (boxL kz.out)).trans (nz.out o))
              replace kz := Aside.mk (box_below kz.out hz32.below)
              replace hx := Aside.mk (hx.out.trans hz32)
              clear hle hz32
              generalize leftF 4 (args.take j ++ args.drop (j + 1)) = lf at *
              have hr33 := Aside.mk hr32
              obtain ⟨k7, s7, a7, u7, v7, g7, rfl⟩ : ∃ a b c d e f, lf = Re.mk a b c d e f := (by cases lf; exact ⟨_, _, _, _, _, _, rfl⟩)
              obtain ⟨Q1, q1_, Q2, q2_, rfl, -, -⟩ := hr32.open
              clear hr32
              have lqz : w.heap.size + 1 < w32.heap.size := boxL kz.out
              obtain ⟨⟨cz0, cz1, cz2, cz3, cz4, cz5⟩, fz0, fz1, fz2, fz3, fz4, fz5⟩ := kb6 kz.out
              have lqr : w.heap.size < w32.heap.size := hx.out.sat.lt (Br.out 0 _ rfl)
              obtain ⟨cr0, cr1, cr2, cr3, cr4, cr5⟩ := hb6 hx.out.sat Br.out
              go_wp2_with fail
              clear lqz cz0 cz1 cz2 cz3 cz4 cz5 fz0 fz1 fz2 fz3 fz4 fz5 lqr cr0 cr1 cr2 cr3 cr4 cr5
              have kz_ : ((((((w32.setCell ⟨w.heap.size + 1, 0, none⟩ (.int .i64 k7)).setCell ⟨w.heap.size + 1, 1, none⟩ (.slice Q1 s7.length q1_)).setCell ⟨w.heap.size + 1, 2, none⟩ (.slice Q2 a7.length q2_)).setCell ⟨w.heap.size + 1, 3, none⟩ (.int .i64 u7)).setCell ⟨w.heap.size + 1, 4, none⟩ (.int .i64 v7)).setCell ⟨w.heap.size + 1, 5, none⟩ (.bool g7)).heap[w.heap.size + 1]? = some (.cells #[.int .i64 k7, .slice Q1 s7.length q1_, .slice Q2 a7.length q2_, .int .i64 u7, .int .i64 v7, .bool g7] 25) := (boxS (boxS (boxS (boxS (boxS (boxS kz.out 0 (.int .i64 k7)) 1 (.slice Q1 s7.length q1_)) 2 (.slice Q2 a7.length q2_)) 3 (.int .i64 u7)) 4 (.int .i64 v7)) 5 (.bool g7))
              replace hx := Aside.mk (((((((hx.out.setCell (b := w.heap.size + 1) (o := 0) (by first | omega | (simp; omega)) nz.out (.int .i64 k7)).setCell (b := w.heap.size + 1) (o := 1) (by first | omega | (simp; omega)) nz.out (.slice Q1 s7.length q1_)).setCell (b := w.heap.size + 1) (o := 2) (by first | omega | (simp; omega)) nz.out (.slice Q2 a7.length q2_)).setCell (b := w.heap.size + 1) (o := 3) (by first | omega | (simp; omega)) nz.out (.int .i64 u7)).setCell (b := w.heap.size + 1) (o := 4) (by first | omega | (simp; omega)) nz.out (.int .i64 v7)).setCell (b := w.heap.size + 1) (o := 5) (by first | omega | (simp; omega)) nz.out (.bool g7)))
              generalize ((((((w32.setCell ⟨w.heap.size + 1, 0, none⟩ (.int .i64 k7)).setCell ⟨w.heap.size + 1, 1, none⟩ (.slice Q1 s7.length q1_)).setCell ⟨w.heap.size + 1, 2, none⟩ (.slice Q2 a7.length q2_)).setCell ⟨w.heap.size + 1, 3, none⟩ (.int .i64 u7)).setCell ⟨w.heap.size + 1, 4, none⟩ (.int .i64 v7)).setCell ⟨w.heap.size + 1, 5, none⟩ (.bool g7)) = W7 at *
              replace kz := Aside.mk kz_
              clear kz_
              refine bodyPost_ret (resC2 rfl _ _ _ rfl (run_loadVar_row _ _ _ _ _ (0, 0) _ kz.out Try.underlying25 rfl (by kernel_rfl))) rfl ?_
              rw [HR.out]
              exact ⟨_, _, rfl, hr33.out, hx.out⟩
        case neg =>
          have q4b : (k1 == 0) = false := by simpa using q4
          have QA_ := Aside.mk (And.intro q1 q4)
          clear q1 q3 q4
          by_cases q5 : k1 = 1
          case pos =>
            subst q5
            clear q1b q4b
            have lqz : w.heap.size + 1 < wo.heap.size := boxL kz.out
            obtain ⟨⟨cz0, cz1, cz2, cz3, cz4, cz5⟩, fz0, fz1, fz2, fz3, fz4, fz5⟩ := kb6 kz.out
            have lqr : w.heap.size < wo.heap.size := hx.out.sat.lt (Br.out 0 _ rfl)
            obtain ⟨cr0, cr1, cr2, cr3, cr4, cr5⟩ := hb6 hx.out.sat Br.out
            go_wp2_with fail
            clear lqz cz0 cz1 cz2 cz3 cz4 cz5 fz0 fz1 fz2 fz3 fz4 fz5 lqr cr0 cr1 cr2 cr3 cr4 cr5 g0 g1_ g2 g3 g4 g5
            have hszwo := hx.out.size
            have habzwo := boxL kz.out
            have kz_ : (wo.alloc (.cells #[.int .i64 1, .slice P1 s1.length d1, .slice P2 a1.length d2, .int .i64 u1, .int .i64 v1, .bool g1] 25)).heap[w.heap.size + 1]? = some (.cells #[.int .i64 0, .slice none 0 0, .slice none 0 0, .int .i64 0, .int .i64 0, .bool false] 25) := (boxA kz.out (.cells #[.int .i64 1, .slice P1 s1.length d1, .slice P2 a1.length d2, .int .i64 u1, .int .i64 v1, .bool g1] 25))
            have ke_ : (wo.alloc (.cells #[.int .i64 1, .slice P1 s1.length d1, .slice P2 a1.length d2, .int .i64 u1, .int .i64 v1, .bool g1] 25)).heap[wo.heap.size]? = some (.cells #[.int .i64 1, .slice P1 s1.length d1, .slice P2 a1.length d2, .int .i64 u1, .int .i64 v1, .bool g1] 25) := (heap_alloc_new _ _)
            have ne := Aside.mk (fun o => hx.out.sat.new (b := wo.heap.size) (show wo.heap.size ≤ _ by omega) o)
            replace hx := Aside.mk ((hx.out.alloc (.cells #[.int .i64 1, .slice P1 s1.length d1, .slice P2 a1.length d2, .int .i64 u1, .int .i64 v1, .bool g1] 25)))
            generalize (wo.alloc (.cells #[.int .i64 1, .slice P1 s1.length d1, .slice P2 a1.length d2, .int .i64 u1, .int .i64 v1, .bool g1] 25)) = W8 at *
            replace kz := Aside.mk kz_
            clear kz_
            have ke := Aside.mk ke_
            clear ke_
            obtain ⟨H1, hx2, hle, Be, hold⟩ := box_freeze hx.out (by omega) ke.out ne.out
            replace hr := Aside.mk (hr.out.mono hle)
            replace h2 := Aside.mk (h2.out.mono hle)
            replace hT := Aside.mk (hT.out.mono hle)
            replace hF := Aside.mk (hF.out.mono hle)
            replace hrd0 := Aside.mk (hrd0.out.mono hle)
            replace hra := Aside.mk (hra.out.mono hle)
            replace Br := Aside.mk (Br.out.mono hle)
            replace nz := Aside.mk (fun o => (hold _ o (by omega)).trans (nz.out o))
            replace hx := Aside.mk hx2
            replace Be := Aside.mk Be
            clear hle hold hx2 ke ne
            have hwx := hx.out.size
            have HS2 := Aside.mk (fun w' (hb : Sat w' H1) => show w'.cell? ⟨w.heap.size, 2, none⟩ = some (.slice (some ⟨b, off, none⟩) args.length c2) from (by have q := at6 hb Br.out; simp only [Nat.add_zero, Nat.zero_add] at q; exact q.2.2.1))
            have hbase0 : w.heap.size + 1 + 1 ≤ W8.heap.size := boxL kz.out
            have hlt48 : ((args.take k).length + 0) * 80 ≤ 140737488355328 := by rw [HA.out.2.2.1]; omega
            have hby1 : Aside ((([] : List Re).length + (args.take k).length) * 80 ≤ 140737488355328 ∧ ([] : List Re).length + (args.take k).length ≤ maxLen) := ⟨by rw [HA.out.2.2.1]; simp; omega, by rw [HA.out.2.2.1]; unfold maxLen; simp; omega⟩
            have hby2 : Aside ((([] ++ args.take k : List Re).length + (args.drop (k + 1)).length) * 80 ≤ 140737488355328 ∧ ([] ++ args.take k : List Re).length + (args.drop (k + 1)).length ≤ maxLen) := ⟨by rw [List.nil_append, HA.out.2.2.1, HA.out.2.2.2.1]; omega, by rw [List.nil_append, HA.out.2.2.1, HA.out.2.2.2.1]; unfold maxLen; omega⟩
            clear hlt48
            have hlit := Aside.mk (Own.lit (k := kRe) (e := 25) (xs := []) (base := W8.heap.size) hx.out.sat.drew #[] (Nat.le_refl _) rfl (by unfold maxLen; simp))
            go_region_held3 (fun w' => w'.cell? ⟨w.heap.size, 2, none⟩ = some (.slice (some ⟨b, off, none⟩) args.length c2))
              (first | exact HS2.out _ hx.out.sat | exact HS2.out _ hx.out.sat.drew | exact HS2.out _ (hx.out.sat.drew.alloc _) | exact HS2.out _ (hx.out.sat.alloc _).drew | exact HS2.out _ hs8 | exact HS2.out _ hs9)
              ((first
              | (have _t := ho8; go_must (refine step_appS kRe (by rfl) (.tmp 24) (.tmp 29) 23 (by rfl) 25 Try.underlying23 info25 rfl ho8 hs8 hF.out (by rfl) (by rfl) hby2.out.1 hby2.out.2 (by have := hg8.size; simp at this; omega) ?_); intro v9 w9 ho9 hg9 hs9 hn9)
              | (go_must (refine step_appS kRe (by rfl) (.tmp 19) (.tmp 23) 23 (by rfl) 25 Try.underlying23 info25 rfl hlit.out (hx.out.sat.drew.alloc _) hT.out (by rfl) (by rfl) hby1.out.1 hby1.out.2 (by simp) ?_); intro v8 w8 ho8 hg8 hs8 hn8)))
            have hb8 : Below W8.heap.size W8 w8 := (bD (bA (Below.refl _ _) _)).grown hg8 (bD (bA (Below.refl _ _) _)).size (fun b hb => by simp [Value.ownBlock] at hb; omega)
            have hb9 : Below W8.heap.size W8 w9 := hb8.grown hg9 hb8.size (fun b hb => (ho8.blk hb).1)
            simp only [List.nil_append] at ho9
            obtain ⟨A9, c9, e9, -, -, -, -⟩ := ho9.form
            generalize (args.take k ++ args.drop (k + 1)).length = l9 at e9
            subst e9
            clear hlit ho8 hg8 hs8 hn8 hg9 hs9 hn9 hb8 hby2 HS2
            replace kz := Aside.mk (box_below kz.out hb9)
            replace hx := Aside.mk (hx.out.then_below hb9)
            clear hb9
            replace ho9 := Aside.mk ho9
            have lqz : w.heap.size + 1 < w9.heap.size := boxL kz.out
            obtain ⟨⟨cz0, cz1, cz2, cz3, cz4, cz5⟩, fz0, fz1, fz2, fz3, fz4, fz5⟩ := kb6 kz.out
            have lqr : w.heap.size < w9.heap.size := hx.out.sat.lt (Br.out 0 _ rfl)
            obtain ⟨cr0, cr1, cr2, cr3, cr4, cr5⟩ := hb6 hx.out.sat Br.out
            have lqe : wo.heap.size < w9.heap.size := hx.out.sat.lt (Be.out 0 _ rfl)
            obtain ⟨ce0, ce1, ce2, ce3, ce4, ce5⟩ := hb6 hx.out.sat Be.out
            go_wp2_with fail
            clear lqz cz0 cz1 cz2 cz3 cz4 cz5 fz0 fz1 fz2 fz3 fz4 fz5 lqr cr0 cr1 cr2 cr3 cr4 cr5 lqe ce0 ce1 ce2 ce3 ce4 ce5
            go_loopw [8, 83] (fun s8 i wr => ∃ (j : Nat) (B : Bool) (Hq : PH), j ≤ k ∧ i = .int .i64 j ∧ s8 = .bool B ∧ Aside (B = true ↔ Re.mk 1 s1 a1 u1 v1 g1 ∈ (args.take k).take j) ∧ Aside (Ext H Hq w wr) ∧ Aside (RdRe Hq (Re.mk 4 s args mn mx ng) [.int .i64 4, .slice A1 s.length c1, .slice (some ⟨b, off, none⟩) args.length c2, .int .i64 mn, .int .i64 mx, .bool ng]) ∧ Aside (SlR kRe Hq (some ⟨b, off, none⟩) args.length c2 args) ∧ Aside (SlR kRe Hq (some ⟨b, off, none⟩) k c2 (args.take k)) ∧ Aside (SlR kRe Hq QA (args.length - (k + 1)) (c2 - (k + 1)) (args.drop (k + 1))) ∧ Aside (RdRe Hq (Re.mk 1 s1 a1 u1 v1 g1) [.int .i64 1, .slice P1 s1.length d1, .slice P2 a1.length d2, .int .i64 u1, .int .i64 v1, .bool g1]) ∧ Aside (SlR kRe Hq P2 a1.length d2 a1) ∧ Aside (BoxH Hq (w.heap.size) [.int .i64 4, .slice A1 s.length c1, .slice (some ⟨b, off, none⟩) args.length c2, .int .i64 mn, .int .i64 mx, .bool ng]) ∧ Aside (BoxH Hq (wo.heap.size) [.int .i64 1, .slice P1 s1.length d1, .slice P2 a1.length d2, .int .i64 u1, .int .i64 v1, .bool g1]) ∧ Aside (wr.heap[w.heap.size + 1]? = some (.cells #[.int .i64 0, .slice none 0 0, .slice none 0 0, .int .i64 0, .int .i64 0, .bool false] 25)) ∧ Aside (∀ o, Hq (w.heap.size + 1) o = none) ∧ Aside (Own kRe 25 wr (W8.heap.size) Hq (.slice A9 l9 c9) (args.take k ++ args.drop (k + 1)))) (fun _ i _ => k - (intOf i).toNat)
            case atStart => exact ⟨0, false, _, by omega, rfl, rfl, ⟨by simp⟩, hx, hr, h2, hT, hF, hrd0, hra, Br, Be, kz, nz, ⟨by simpa using ho9.out⟩⟩
            case round =>
              clear hx hr h2 hT hF hrd0 hra Br Be kz nz ho9
              obtain ⟨j, B, Hq, hj, rfl, rfl, hB, hx, hr, h2, hT, hF, hrd0, hra, Br, Be, kz, nz, ho9⟩ := hrel
              by_cases hjk : j < k
              case pos =>
                have hjl : j < (args.take k).length := by rw [HA.out.2.2.1]; exact hjk
                obtain ⟨b', off', k4, s4, a4, u4, v4, g4, R1, r1, R2, r2, e0, q9, hrd2, z0, z1, z2, z3, z4, z5⟩ := cell_elem hT.out hx.out.sat j hjl
                simp only [Option.some.injEq, Addr.mk.injEq, and_true] at e0
                obtain ⟨rfl, rfl⟩ := e0
                have htj : (args.take k).take (j + 1) = (args.take k).take j ++ [(args.take k)[j]] := List.take_succ_eq_append_getElem hjl
                rw [q9] at htj
                replace htj := Aside.mk htj
                replace hrd2 := Aside.mk hrd2
                clear q9 hjl
                have hjk2 := Aside.mk hjk
                have hbzq : b < wr.heap.size := World.block_lt_of_cell? wr _ z0
                cases B
                case true =>
                  have lqz : w.heap.size + 1 < wr.heap.size := boxL kz.out
                  obtain ⟨⟨cz0, cz1, cz2, cz3, cz4, cz5⟩, fz0, fz1, fz2, fz3, fz4, fz5⟩ := kb6 kz.out
                  have lqr : w.heap.size < wr.heap.size := hx.out.sat.lt (Br.out 0 _ rfl)
                  obtain ⟨cr0, cr1, cr2, cr3, cr4, cr5⟩ := hb6 hx.out.sat Br.out
                  have lqe : wo.heap.size < wr.heap.size := hx.out.sat.lt (Be.out 0 _ rfl)
                  obtain ⟨ce0, ce1, ce2, ce3, ce4, ce5⟩ := hb6 hx.out.sat Be.out
                  go_wp2_with fail
                  clear lqz cz0 cz1 cz2 cz3 cz4 cz5 fz0 fz1 fz2 fz3 fz4 fz5 lqr cr0 cr1 cr2 cr3 cr4 cr5 lqe ce0 ce1 ce2 ce3 ce4 ce5 z0 z1 z2 z3 z4 z5
                  have kz_ : (wr.alloc (.cells #[.int .i64 k4, .slice R1 s4.length r1, .slice R2 a4.length r2, .int .i64 u4, .int .i64 v4, .bool g4] 25)).heap[w.heap.size + 1]? = some (.cells #[.int .i64 0, .slice none 0 0, .slice none 0 0, .int .i64 0, .int .i64 0, .bool false] 25) := (boxA kz.out (.cells #[.int .i64 k4, .slice R1 s4.length r1, .slice R2 a4.length r2, .int .i64 u4, .int .i64 v4, .bool g4] 25))
                  replace ho9 := Aside.mk (ho9.out.alloc (hx.out).sat (.cells #[.int .i64 k4, .slice R1 s4.length r1, .slice R2 a4.length r2, .int .i64 u4, .int .i64 v4, .bool g4] 25))
                  replace hx := Aside.mk ((hx.out.alloc (.cells #[.int .i64 k4, .slice R1 s4.length r1, .slice R2 a4.length r2, .int .i64 u4, .int .i64 v4, .bool g4] 25)))
                  generalize (wr.alloc (.cells #[.int .i64 k4, .slice R1 s4.length r1, .slice R2 a4.length r2, .int .i64 u4, .int .i64 v4, .bool g4] 25)) = W9 at *
                  replace kz := Aside.mk kz_
                  clear kz_
                  go_roundw
                  case rel => exact ⟨j + 1, true, _, hjk2.out, by go_num, rfl, ⟨iff_of_true rfl (by rw [htj.out]; exact List.mem_append_left _ (hB.out.1 rfl))⟩, hx, hr, h2, hT, hF, hrd0, hra, Br, Be, kz, nz, ho9⟩
                  case measure => (have := hjk2.out; simp [intOf]; omega)
                case false =>
                  have lqz : w.heap.size + 1 < wr.heap.size := boxL kz.out
                  obtain ⟨⟨cz0, cz1, cz2, cz3, cz4, cz5⟩, fz0, fz1, fz2, fz3, fz4, fz5⟩ := kb6 kz.out
                  have lqr : w.heap.size < wr.heap.size := hx.out.sat.lt (Br.out 0 _ rfl)
                  obtain ⟨cr0, cr1, cr2, cr3, cr4, cr5⟩ := hb6 hx.out.sat Br.out
                  have lqe : wo.heap.size < wr.heap.size := hx.out.sat.lt (Be.out 0 _ rfl)
                  obtain ⟨ce0, ce1, ce2, ce3, ce4, ce5⟩ := hb6 hx.out.sat Be.out
                  go_wp2_with fail
                  clear lqz cz0 cz1 cz2 cz3 cz4 cz5 fz0 fz1 fz2 fz3 fz4 fz5 lqr cr0 cr1 cr2 cr3 cr4 cr5 lqe ce0 ce1 ce2 ce3 ce4 ce5 z0 z1 z2 z3 z4 z5
                  have kz_ : (wr.alloc (.cells #[.int .i64 k4, .slice R1 s4.length r1, .slice R2 a4.length r2, .int .i64 u4, .int .i64 v4, .bool g4] 25)).heap[w.heap.size + 1]? = some (.cells #[.int .i64 0, .slice none 0 0, .slice none 0 0, .int .i64 0, .int .i64 0, .bool false] 25) := (boxA kz.out (.cells #[.int .i64 k4, .slice R1 s4.length r1, .slice R2 a4.length r2, .int .i64 u4, .int .i64 v4, .bool g4] 25))
                  replace ho9 := Aside.mk (ho9.out.alloc (hx.out).sat (.cells #[.int .i64 k4, .slice R1 s4.length r1, .slice R2 a4.length r2, .int .i64 u4, .int .i64 v4, .bool g4] 25))
                  replace hx := Aside.mk ((hx.out.alloc (.cells #[.int .i64 k4, .slice R1 s4.length r1, .slice R2 a4.length r2, .int .i64 u4, .int .i64 v4, .bool g4] 25)))
                  generalize (wr.alloc (.cells #[.int .i64 k4, .slice R1 s4.length r1, .slice R2 a4.length r2, .int .i64 u4, .int .i64 v4, .bool g4] 25)) = W10 at *
                  replace kz := Aside.mk kz_
                  clear kz_
                  refine (reEq_any (Re.mk 1 s1 a1 u1 v1 g1) _ (Re.mk k4 s4 a4 u4 v4 g4) _ _ _ hrd0.out hrd2.out hx.out.sat).mono ?_
                  rintro e w21 ⟨he, hb21⟩
                  replace kz := Aside.mk (box_below kz.out hb21)
                  replace ho9 := Aside.mk (ho9.out.below hx.out.sat hb21)
                  replace hx := Aside.mk (hx.out.then_below hb21)
                  clear hb21
                  clear hrd2
                  by_cases hqe : Re.mk 1 s1 a1 u1 v1 g1 = Re.mk k4 s4 a4 u4 v4 g4
                  case pos =>
                    obtain rfl : e = .returned (.bool true) := he.trans (retT hqe)
                    replace hqe := Aside.mk hqe
                    have lqz : w.heap.size + 1 < w21.heap.size := boxL kz.out
                    obtain ⟨⟨cz0, cz1, cz2, cz3, cz4, cz5⟩, fz0, fz1, fz2, fz3, fz4, fz5⟩ := kb6 kz.out
                    have lqr : w.heap.size < w21.heap.size := hx.out.sat.lt (Br.out 0 _ rfl)
                    obtain ⟨cr0, cr1, cr2, cr3, cr4, cr5⟩ := hb6 hx.out.sat Br.out
                    have lqe : wo.heap.size < w21.heap.size := hx.out.sat.lt (Be.out 0 _ rfl)
                    obtain ⟨ce0, ce1, ce2, ce3, ce4, ce5⟩ := hb6 hx.out.sat Be.out
                    go_wp2_with fail
                    clear lqz cz0 cz1 cz2 cz3 cz4 cz5 fz0 fz1 fz2 fz3 fz4 fz5 lqr cr0 cr1 cr2 cr3 cr4 cr5 lqe ce0 ce1 ce2 ce3 ce4 ce5
                    go_roundw
                    case rel => exact ⟨j + 1, true, _, hjk2.out, by go_num, rfl, ⟨iff_of_true rfl (by rw [htj.out, hqe.out]; simp)⟩, hx, hr, h2, hT, hF, hrd0, hra, Br, Be, kz, nz, ho9⟩
                    case measure => (have := hjk2.out; simp [intOf]; omega)
                  case neg =>
                    obtain rfl : e = .returned (.bool false) := he.trans (retF hqe)
                    replace hqe := Aside.mk hqe
                    have lqz : w.heap.size + 1 < w21.heap.size := boxL kz.out
                    obtain ⟨⟨cz0, cz1, cz2, cz3, cz4, cz5⟩, fz0, fz1, fz2, fz3, fz4, fz5⟩ := kb6 kz.out
                    have lqr : w.heap.size < w21.heap.size := hx.out.sat.lt (Br.out 0 _ rfl)
                    obtain ⟨cr0, cr1, cr2, cr3, cr4, cr5⟩ := hb6 hx.out.sat Br.out
                    have lqe : wo.heap.size < w21.heap.size := hx.out.sat.lt (Be.out 0 _ rfl)
                    obtain ⟨ce0, ce1, ce2, ce3, ce4, ce5⟩ := hb6 hx.out.sat Be.out
                    go_wp2_with fail
                    clear lqz cz0 cz1 cz2 cz3 cz4 cz5 fz0 fz1 fz2 fz3 fz4 fz5 lqr cr0 cr1 cr2 cr3 cr4 cr5 lqe ce0 ce1 ce2 ce3 ce4 ce5
                    go_roundw
                    case rel => exact ⟨j + 1, false, _, hjk2.out, by go_num, rfl, ⟨iff_of_false (by simp) (by rw [htj.out]; intro hm; rcases List.mem_append.1 hm with hm | hm; exact absurd (hB.out.2 hm) (by simp); exact hqe.out (List.mem_singleton.1 hm))⟩, hx, hr, h2, hT, hF, hrd0, hra, Br, Be, kz, nz, ho9⟩
                    case measure => (have := hjk2.out; simp [intOf]; omega)
              case neg =>
                obtain rfl : j = k := by omega
                have hB2 : B = true ↔ Re.mk 1 s1 a1 u1 v1 g1 ∈ args.take j := by have h9 := hB.out; rw [List.take_take, Nat.min_self] at h9; exact h9
                replace hB := Aside.mk hB2
                clear hB2
                cases B
                case true =>
                  have hin := hB.out.1 rfl
                  replace hin := Aside.mk hin
                  have HR := Aside.mk (show manyF 4 args = some (leftF 4 (args.take j ++ args.drop (j + 1))) from by unfold manyF; rw [hM.out, HA.out.1]; simp [Re.kind, Re.args, hin.out])
                  obtain ⟨H31, hx31, hle31, ⟨A30, c30, e30, hs30⟩, hold31⟩ := ho9.out.freezeE hx.out (by omega) (by rw [List.length_append, HA.out.2.2.1, HA.out.2.2.2.1]; omega)
                  simp only [List.cons.injEq, Value.slice.injEq, and_true] at e30
                  obtain ⟨rfl, e31, rfl⟩ := e30
                  rw [← e31] at hs30
                  replace Br := Aside.mk (Br.out.mono hle31)
                  replace nz := Aside.mk (fun o => (hold31 _ o (fun e => by have h1 := (ho9.out.blk e).1; omega)).trans (nz.out o))
                  replace hx := Aside.mk hx31
                  replace hs30 := Aside.mk hs30
                  clear e31 ho9 hold31 hle31 hx31 hr h2 hT hF hrd0 hra Be
                  have lqz : w.heap.size + 1 < wr.heap.size := boxL kz.out
                  obtain ⟨⟨cz0, cz1, cz2, cz3, cz4, cz5⟩, fz0, fz1, fz2, fz3, fz4, fz5⟩ := kb6 kz.out
                  have lqr : w.heap.size < wr.heap.size := hx.out.sat.lt (Br.out 0 _ rfl)
                  obtain ⟨cr0, cr1, cr2, cr3, cr4, cr5⟩ := hb6 hx.out.sat Br.out
                  go_wp2_with fail
                  clear lqz cz0 cz1 cz2 cz3 cz4 cz5 fz0 fz1 fz2 fz3 fz4 fz5 lqr cr0 cr1 cr2 cr3 cr4 cr5
                  refine (left_any _ 4 _ _ _ _ _ hs30.out hx.out.sat).mono ?_
                  rintro e w32 ⟨H32, cs32, rfl, hr32, hz32⟩
                  have hle := hz32.le
                  replace hs30 := Aside.mk (hs30.out.mono hle)
                  replace Br := Aside.mk (Br.out.mono hle)
                  replace nz := Aside.mk (fun o => (hz32.old _ o (boxL kz.out)).trans (nz.out o))
                  replace kz := Aside.mk (box_below kz.out hz32.below)
                  replace hx := Aside.mk (hx.out.trans hz32)
                  clear hle hz32
                  generalize leftF 4 (args.take j ++ args.drop (j + 1)) = lf at *
                  have hr33 := Aside.mk hr32
                  obtain ⟨k7, s7, a7, u7, v7, g7, rfl⟩ : ∃ a b c d e f, lf = Re.mk a b c d e f := (by cases lf; exact ⟨_, _, _, _, _, _, rfl⟩)
                  obtain ⟨Q1, q1_, Q2, q2_, rfl, -, -⟩ := hr32.open
                  clear hr32
                  have lqz : w.heap.size + 1 < w32.heap.size := boxL kz.out
                  obtain ⟨⟨cz0, cz1, cz2, cz3, cz4, cz5⟩, fz0, fz1, fz2, fz3, fz4, fz5⟩ := kb6 kz.out
                  have lqr : w.heap.size < w32.heap.size := hx.out.sat.lt (Br.out 0 _ rfl)
                  obtain ⟨cr0, cr1, cr2, cr3, cr4, cr5⟩ := hb6 hx.out.sat Br.out
                  go_wp2_with fail
                  clear lqz cz0 cz1 cz2 cz3 cz4 cz5 fz0 fz1 fz2 fz3 fz4 fz5 lqr cr0 cr1 cr2 cr3 cr4 cr5
                  have kz_ : ((((((w32.setCell ⟨w.heap.size + 1, 0, none⟩ (.int .i64 k7)).setCell ⟨w.heap.size + 1, 1, none⟩ (.slice Q1 s7.length q1_)).setCell ⟨w.heap.size + 1, 2, none⟩ (.slice Q2 a7.length q2_)).setCell ⟨w.heap.size + 1, 3, none⟩ (.int .i64 u7)).setCell ⟨w.heap.size + 1, 4, none⟩ (.int .i64 v7)).setCell ⟨w.heap.size + 1, 5, none⟩ (.bool g7)).heap[w.heap.size + 1]? = some (.cells #[.int .i64 k7, .slice Q1 s7.length q1_, .slice Q2 a7.length q2_, .int .i64 u7, .int .i64 v7, .bool g7] 25) := (boxS (boxS (boxS (boxS (boxS (boxS kz.out 0 (.int .i64 k7)) 1 (.slice Q1 s7.length q1_)) 2 (.slice Q2 a7.length q2_)) 3 (.int .i64 u7)) 4 (.int .i64 v7)) 5 (.bool g7))
                  replace hx := Aside.mk (((((((hx.out.setCell (b := w.heap.size + 1) (o := 0) (by first | omega | (simp; omega)) nz.out (.int .i64 k7)).setCell (b := w.heap.size + 1) (o := 1) (by first | omega | (simp; omega)) nz.out (.slice Q1 s7.length q1_)).setCell (b := w.heap.size + 1) (o := 2) (by first | omega | (simp; omega)) nz.out (.slice Q2 a7.length q2_)).setCell (b := w.heap.size + 1) (o := 3) (by first | omega | (simp; omega)) nz.out (.int .i64 u7)).setCell (b := w.heap.size + 1) (o := 4) (by first | omega | (simp; omega)) nz.out (.int .i64 v7)).setCell (b := w.heap.size + 1) (o := 5) (by first | omega | (simp; omega)) nz.out (.bool g7)))
                  generalize ((((((w32.setCell ⟨w.heap.size + 1, 0, none⟩ (.int .i64 k7)).setCell ⟨w.heap.size + 1, 1, none⟩ (.slice Q1 s7.length q1_)).setCell ⟨w.heap.size + 1, 2, none⟩ (.slice Q2 a7.length q2_)).setCell ⟨w.heap.size + 1, 3, none⟩ (.int .i64 u7)).setCell ⟨w.heap.size + 1, 4, none⟩ (.int .i64 v7)).setCell ⟨w.heap.size + 1, 5, none⟩ (.bool g7)) = W11 at *
                  replace kz := Aside.mk kz_
                  clear kz_
                  refine bodyPost_ret (resC2 rfl _ _ _ rfl (run_loadVar_row _ _ _ _ _ (0, 0) _ kz.out Try.underlying25 rfl (by kernel_rfl))) rfl ?_
                  rw [HR.out]
                  exact ⟨_, _, rfl, hr33.out, hx.out⟩
                case false =>
                  have hin : ¬ Re.mk 1 s1 a1 u1 v1 g1 ∈ args.take j := fun h => by have := hB.out.2 h; cases this
                  replace hin := Aside.mk hin
                  have hN : manyGo 4 [] args = manyGo 4 (args.take (j + 1)) (args.drop (j + 1)) := by rw [hM.out, HA.out.1]; simp [Re.kind, hin.out]
                  replace hM := Aside.mk hN
                  clear hN ho9
                  clear Be
                  clear hT hF hrd0 hra
                  have lqz : w.heap.size + 1 < wr.heap.size := boxL kz.out
                  obtain ⟨⟨cz0, cz1, cz2, cz3, cz4, cz5⟩, fz0, fz1, fz2, fz3, fz4, fz5⟩ := kb6 kz.out
                  have lqr : w.heap.size < wr.heap.size := hx.out.sat.lt (Br.out 0 _ rfl)
                  obtain ⟨cr0, cr1, cr2, cr3, cr4, cr5⟩ := hb6 hx.out.sat Br.out
                  go_wp2_with fail
                  clear lqz cz0 cz1 cz2 cz3 cz4 cz5 fz0 fz1 fz2 fz3 fz4 fz5 lqr cr0 cr1 cr2 cr3 cr4 cr5
                  go_roundw
                  case rel => exact ⟨j + 1, _, HA.out.2.2.2.2.2, by go_num, hM, hx, hr, h2, Br, kz, nz⟩
                  case measure => (have := HA.out.2.2.2.2.2; simp [intOf]; omega)
          case neg =>
            have q5b : (k1 == 1) = false := by simpa using q5
            have QB_ := Aside.mk q5
            clear q5
            have lqz : w.heap.size + 1 < wo.heap.size := boxL kz.out
            obtain ⟨⟨cz0, cz1, cz2, cz3, cz4, cz5⟩, fz0, fz1, fz2, fz3, fz4, fz5⟩ := kb6 kz.out
            have lqr : w.heap.size < wo.heap.size := hx.out.sat.lt (Br.out 0 _ rfl)
            obtain ⟨cr0, cr1, cr2, cr3, cr4, cr5⟩ := hb6 hx.out.sat Br.out
            go_wp2_with fail
            clear lqz cz0 cz1 cz2 cz3 cz4 cz5 fz0 fz1 fz2 fz3 fz4 fz5 lqr cr0 cr1 cr2 cr3 cr4 cr5 g0 g1_ g2 g3 g4 g5
            have hszwo := hx.out.size
            have habzwo := boxL kz.out
            have kz_ : (wo.alloc (.cells #[.int .i64 k1, .slice P1 s1.length d1, .slice P2 a1.length d2, .int .i64 u1, .int .i64 v1, .bool g1] 25)).heap[w.heap.size + 1]? = some (.cells #[.int .i64 0, .slice none 0 0, .slice none 0 0, .int .i64 0, .int .i64 0, .bool false] 25) := (boxA kz.out (.cells #[.int .i64 k1, .slice P1 s1.length d1, .slice P2 a1.length d2, .int .i64 u1, .int .i64 v1, .bool g1] 25))
            have ke_ : (wo.alloc (.cells #[.int .i64 k1, .slice P1 s1.length d1, .slice P2 a1.length d2, .int .i64 u1, .int .i64 v1, .bool g1] 25)).heap[wo.heap.size]? = some (.cells #[.int .i64 k1, .slice P1 s1.length d1, .slice P2 a1.length d2, .int .i64 u1, .int .i64 v1, .bool g1] 25) := (heap_alloc_new _ _)
            have ne := Aside.mk (fun o => hx.out.sat.new (b := wo.heap.size) (show wo.heap.size ≤ _ by omega) o)
            replace hx := Aside.mk ((hx.out.alloc (.cells #[.int .i64 k1, .slice P1 s1.length d1, .slice P2 a1.length d2, .int .i64 u1, .int .i64 v1, .bool g1] 25)))
            generalize (wo.alloc (.cells #[.int .i64 k1, .slice P1 s1.length d1, .slice P2 a1.length d2, .int .i64 u1, .int .i64 v1, .bool g1] 25)) = W12 at *
            replace kz := Aside.mk kz_
            clear kz_
            have ke := Aside.mk ke_
            clear ke_
            obtain ⟨H1, hx2, hle, Be, hold⟩ := box_freeze hx.out (by omega) ke.out ne.out
            replace hr := Aside.mk (hr.out.mono hle)
            replace h2 := Aside.mk (h2.out.mono hle)
            replace hT := Aside.mk (hT.out.mono hle)
            replace hF := Aside.mk (hF.out.mono hle)
            replace hrd0 := Aside.mk (hrd0.out.mono hle)
            replace hra := Aside.mk (hra.out.mono hle)
            replace Br := Aside.mk (Br.out.mono hle)
            replace nz := Aside.mk (fun o => (hold _ o (by omega)).trans (nz.out o))
            replace hx := Aside.mk hx2
            replace Be := Aside.mk Be
            clear hle hold hx2 ke ne
            have hwx := hx.out.size
            have HS2 := Aside.mk (fun w' (hb : Sat w' H1) => show w'.cell? ⟨w.heap.size, 2, none⟩ = some (.slice (some ⟨b, off, none⟩) args.length c2) from (by have q := at6 hb Br.out; simp only [Nat.add_zero, Nat.zero_add] at q; exact q.2.2.1))
            have hbase0 : w.heap.size + 1 + 1 ≤ W12.heap.size := boxL kz.out
            have hlt48 : ((args.take k).length + 0) * 80 ≤ 140737488355328 := by rw [HA.out.2.2.1]; omega
            have hby1 : Aside ((([] : List Re).length + (args.take k).length) * 80 ≤ 140737488355328 ∧ ([] : List Re).length + (args.take k).length ≤ maxLen) := ⟨by rw [HA.out.2.2.1]; simp; omega, by rw [HA.out.2.2.1]; unfold maxLen; simp; omega⟩
            have hby2 : Aside ((([] ++ args.take k : List Re).length + (args.drop (k + 1)).length) * 80 ≤ 140737488355328 ∧ ([] ++ args.take k : List Re).length + (args.drop (k + 1)).length ≤ maxLen) := ⟨by rw [List.nil_append, HA.out.2.2.1, HA.out.2.2.2.1]; omega, by rw [List.nil_append, HA.out.2.2.1, HA.out.2.2.2.1]; unfold maxLen; omega⟩
            clear hlt48
            have hlit := Aside.mk (Own.lit (k := kRe) (e := 25) (xs := []) (base := W12.heap.size) hx.out.sat.drew #[] (Nat.le_refl _) rfl (by unfold maxLen; simp))
            go_region_held3 (fun w' => w'.cell? ⟨w.heap.size, 2, none⟩ = some (.slice (some ⟨b, off, none⟩) args.length c2))
              (first | exact HS2.out _ hx.out.sat | exact HS2.out _ hx.out.sat.drew | exact HS2.out _ (hx.out.sat.drew.alloc _) | exact HS2.out _ (hx.out.sat.alloc _).drew | exact HS2.out _ hs8 | exact HS2.out _ hs9)
              ((first
              | (have _t := ho8; go_must (refine step_appS kRe (by rfl) (.tmp 24) (.tmp 29) 23 (by rfl) 25 Try.underlying23 info25 rfl ho8 hs8 hF.out (by rfl) (by rfl) hby2.out.1 hby2.out.2 (by have := hg8.size; simp at this; omega) ?_); intro v9 w9 ho9 hg9 hs9 hn9)
              | (go_must (refine step_appS kRe (by rfl) (.tmp 19) (.tmp 23) 23 (by rfl) 25 Try.underlying23 info25 rfl hlit.out (hx.out.sat.drew.alloc _) hT.out (by rfl) (by rfl) hby1.out.1 hby1.out.2 (by simp) ?_); intro v8 w8 ho8 hg8 hs8 hn8)))
            have hb8 : Below W12.heap.size W12 w8 := (bD (bA (Below.refl _ _) _)).grown hg8 (bD (bA (Below.refl _ _) _)).size (fun b hb => by simp [Value.ownBlock] at hb; omega)
            have hb9 : Below W12.heap.size W12 w9 := hb8.grown hg9 hb8.size (fun b hb => (ho8.blk hb).1)
            simp only [List.nil_append] at ho9
            obtain ⟨A9, c9, e9, -, -, -, -⟩ := ho9.form
            generalize (args.take k ++ args.drop (k + 1)).length = l9 at e9
            subst e9
            clear hlit ho8 hg8 hs8 hn8 hg9 hs9 hn9 hb8 hby2 HS2
            replace kz := Aside.mk (box_below kz.out hb9)
            replace hx := Aside.mk (hx.out.then_below hb9)
            clear hb9
            replace ho9 := Aside.mk ho9
            have lqz : w.heap.size + 1 < w9.heap.size := boxL kz.out
            obtain ⟨⟨cz0, cz1, cz2, cz3, cz4, cz5⟩, fz0, fz1, fz2, fz3, fz4, fz5⟩ := kb6 kz.out
            have lqr : w.heap.size < w9.heap.size := hx.out.sat.lt (Br.out 0 _ rfl)
            obtain ⟨cr0, cr1, cr2, cr3, cr4, cr5⟩ := hb6 hx.out.sat Br.out
            have lqe : wo.heap.size < w9.heap.size := hx.out.sat.lt (Be.out 0 _ rfl)
            obtain ⟨ce0, ce1, ce2, ce3, ce4, ce5⟩ := hb6 hx.out.sat Be.out
            go_wp2_with fail
            clear lqz cz0 cz1 cz2 cz3 cz4 cz5 fz0 fz1 fz2 fz3 fz4 fz5 lqr cr0 cr1 cr2 cr3 cr4 cr5 lqe ce0 ce1 ce2 ce3 ce4 ce5
            go_loopw [8, 83] (fun s8 i wr => ∃ (j : Nat) (B : Bool) (Hq : PH), j ≤ k ∧ i = .int .i64 j ∧ s8 = .bool B ∧ Aside (B = true ↔ Re.mk k1 s1 a1 u1 v1 g1 ∈ (args.take k).take j) ∧ Aside (Ext H Hq w wr) ∧ Aside (RdRe Hq (Re.mk 4 s args mn mx ng) [.int .i64 4, .slice A1 s.length c1, .slice (some ⟨b, off, none⟩) args.length c2, .int .i64 mn, .int .i64 mx, .bool ng]) ∧ Aside (SlR kRe Hq (some ⟨b, off, none⟩) args.length c2 args) ∧ Aside (SlR kRe Hq (some ⟨b, off, none⟩) k c2 (args.take k)) ∧ Aside (SlR kRe Hq QA (args.length - (k + 1)) (c2 - (k + 1)) (args.drop (k + 1))) ∧ Aside (RdRe Hq (Re.mk k1 s1 a1 u1 v1 g1) [.int .i64 k1, .slice P1 s1.length d1, .slice P2 a1.length d2, .int .i64 u1, .int .i64 v1, .bool g1]) ∧ Aside (SlR kRe Hq P2 a1.length d2 a1) ∧ Aside (BoxH Hq (w.heap.size) [.int .i64 4, .slice A1 s.length c1, .slice (some ⟨b, off, none⟩) args.length c2, .int .i64 mn, .int .i64 mx, .bool ng]) ∧ Aside (BoxH Hq (wo.heap.size) [.int .i64 k1, .slice P1 s1.length d1, .slice P2 a1.length d2, .int .i64 u1, .int .i64 v1, .bool g1]) ∧ Aside (wr.heap[w.heap.size + 1]? = some (.cells #[.int .i64 0, .slice none 0 0, .slice none 0 0, .int .i64 0, .int .i64 0, .bool false] 25)) ∧ Aside (∀ o, Hq (w.heap.size + 1) o = none) ∧ Aside (Own kRe 25 wr (W12.heap.size) Hq (.slice A9 l9 c9) (args.take k ++ args.drop (k + 1)))) (fun _ i _ => k - (intOf i).toNat)
            case atStart => exact ⟨0, false, _, by omega, rfl, rfl, ⟨by simp⟩, hx, hr, h2, hT, hF, hrd0, hra, Br, Be, kz, nz, ⟨by simpa using ho9.out⟩⟩
            case round =>
              clear hx hr h2 hT hF hrd0 hra Br Be kz nz ho9
              obtain ⟨j, B, Hq, hj, rfl, rfl, hB, hx, hr, h2, hT, hF, hrd0, hra, Br, Be, kz, nz, ho9⟩ := hrel
              by_cases hjk : j < k
              case pos =>
                have hjl : j < (args.take k).length := by rw [HA.out.2.2.1]; exact hjk
                obtain ⟨b', off', k4, s4, a4, u4, v4, g4, R1, r1, R2, r2, e0, q9, hrd2, z0, z1, z2, z3, z4, z5⟩ := cell_elem hT.out hx.out.sat j hjl
                simp only [Option.some.injEq, Addr.mk.injEq, and_true] at e0
                obtain ⟨rfl, rfl⟩ := e0
                have htj : (args.take k).take (j + 1) = (args.take k).take j ++ [(args.take k)[j]] := List.take_succ_eq_append_getElem hjl
                rw [q9] at htj
                replace htj := Aside.mk htj
                replace hrd2 := Aside.mk hrd2
                clear q9 hjl
                have hjk2 := Aside.mk hjk
                have hbzq : b < wr.heap.size := World.block_lt_of_cell? wr _ z0
                cases B
                case true =>
                  have lqz : w.heap.size + 1 < wr.heap.size := boxL kz.out
                  obtain ⟨⟨cz0, cz1, cz2, cz3, cz4, cz5⟩, fz0, fz1, fz2, fz3, fz4, fz5⟩ := kb6 kz.out
                  have lqr : w.heap.size < wr.heap.size := hx.out.sat.lt (Br.out 0 _ rfl)
                  obtain ⟨cr0, cr1, cr2, cr3, cr4, cr5⟩ := hb6 hx.out.sat Br.out
                  have lqe : wo.heap.size < wr.heap.size := hx.out.sat.lt (Be.out 0 _ rfl)
                  obtain ⟨ce0, ce1, ce2, ce3, ce4, ce5⟩ := hb6 hx.out.sat Be.out
                  go_wp2_with fail
                  clear lqz cz0 cz1 cz2 cz3 cz4 cz5 fz0 fz1 fz2 fz3 fz4 fz5 lqr cr0 cr1 cr2 cr3 cr4 cr5 lqe ce0 ce1 ce2 ce3 ce4 ce5 z0 z1 z2 z3 z4 z5
                  have kz_ : (wr.alloc (.cells #[.int .i64 k4, .slice R1 s4.length r1, .slice R2 a4.length r2, .int .i64 u4, .int .i64 v4, .bool g4] 25)).heap[w.heap.size + 1]? = some (.cells #[.int .i64 0, .slice none 0 0, .slice none 0 0, .int .i64 0, .int .i64 0, .bool false] 25) := (boxA kz.out (.cells #[.int .i64 k4, .slice R1 s4.length r1, .slice R2 a4.length r2, .int .i64 u4, .int .i64 v4, .bool g4] 25))
                  replace ho9 := Aside.mk (ho9.out.alloc (hx.out).sat (.cells #[.int .i64 k4, .slice R1 s4.length r1, .slice R2 a4.length r2, .int .i64 u4, .int .i64 v4, .bool g4] 25))
                  replace hx := Aside.mk ((hx.out.alloc (.cells #[.int .i64 k4, .slice R1 s4.length r1, .slice R2 a4.length r2, .int .i64 u4, .int .i64 v4, .bool g4] 25)))
                  generalize (wr.alloc (.cells #[.int .i64 k4, .slice R1 s4.length r1, .slice R2 a4.length r2, .int .i64 u4, .int .i64 v4, .bool g4] 25)) = W13 at *
                  replace kz := Aside.mk kz_
                  clear kz_
                  go_roundw
                  case rel => exact ⟨j + 1, true, _, hjk2.out, by go_num, rfl, ⟨iff_of_true rfl (by rw [htj.out]; exact List.mem_append_left _ (hB.out.1 rfl))⟩, hx, hr, h2, hT, hF, hrd0, hra, Br, Be, kz, nz, ho9⟩
                  case measure => (have := hjk2.out; simp [intOf]; omega)
                case false =>
                  have lqz : w.heap.size + 1 < wr.heap.size := boxL kz.out
                  obtain ⟨⟨cz0, cz1, cz2, cz3, cz4, cz5⟩, fz0, fz1, fz2, fz3, fz4, fz5⟩ := kb6 kz.out
                  have lqr : w.heap.size < wr.heap.size := hx.out.sat.lt (Br.out 0 _ rfl)
                  obtain ⟨cr0, cr1, cr2, cr3, cr4, cr5⟩ := hb6 hx.out.sat Br.out
                  have lqe : wo.heap.size < wr.heap.size := hx.out.sat.lt (Be.out 0 _ rfl)
                  obtain ⟨ce0, ce1, ce2, ce3, ce4, ce5⟩ := hb6 hx.out.sat Be.out
                  go_wp2_with fail
                  clear lqz cz0 cz1 cz2 cz3 cz4 cz5 fz0 fz1 fz2 fz3 fz4 fz5 lqr cr0 cr1 cr2 cr3 cr4 cr5 lqe ce0 ce1 ce2 ce3 ce4 ce5 z0 z1 z2 z3 z4 z5
                  have kz_ : (wr.alloc (.cells #[.int .i64 k4, .slice R1 s4.length r1, .slice R2 a4.length r2, .int .i64 u4, .int .i64 v4, .bool g4] 25)).heap[w.heap.size + 1]? = some (.cells #[.int .i64 0, .slice none 0 0, .slice none 0 0, .int .i64 0, .int .i64 0, .bool false] 25) := (boxA kz.out (.cells #[.int .i64 k4, .slice R1 s4.length r1, .slice R2 a4.length r2, .int .i64 u4, .int .i64 v4, .bool g4] 25))
                  replace ho9 := Aside.mk (ho9.out.alloc (hx.out).sat (.cells #[.int .i64 k4, .slice R1 s4.length r1, .slice R2 a4.length r2, .int .i64 u4, .int .i64 v4, .bool g4] 25))
                  replace hx := Aside.mk ((hx.out.alloc (.cells #[.int .i64 k4, .slice R1 s4.length r1, .slice R2 a4.length r2, .int .i64 u4, .int .i64 v4, .bool g4] 25)))
                  generalize (wr.alloc (.cells #[.int .i64 k4, .slice R1 s4.length r1, .slice R2 a4.length r2, .int .i64 u4, .int .i64 v4, .bool g4] 25)) = W14 at *
                  replace kz := Aside.mk kz_
                  clear kz_
                  refine (reEq_any (Re.mk k1 s1 a1 u1 v1 g1) _ (Re.mk k4 s4 a4 u4 v4 g4) _ _ _ hrd0.out hrd2.out hx.out.sat).mono ?_
                  rintro e w21 ⟨he, hb21⟩
                  replace kz := Aside.mk (box_below kz.out hb21)
                  replace ho9 := Aside.mk (ho9.out.below hx.out.sat hb21)
                  replace hx := Aside.mk (hx.out.then_below hb21)
                  clear hb21
                  clear hrd2
                  by_cases hqe : Re.mk k1 s1 a1 u1 v1 g1 = Re.mk k4 s4 a4 u4 v4 g4
                  case pos =>
                    obtain rfl : e = .returned (.bool true) := he.trans (retT hqe)
                    replace hqe := Aside.mk hqe
                    have lqz : w.heap.size + 1 < w21.heap.size := boxL kz.out
                    obtain ⟨⟨cz0, cz1, cz2, cz3, cz4, cz5⟩, fz0, fz1, fz2, fz3, fz4, fz5⟩ := kb6 kz.out
                    have lqr : w.heap.size < w21.heap.size := hx.out.sat.lt (Br.out 0 _ rfl)
                    obtain ⟨cr0, cr1, cr2, cr3, cr4, cr5⟩ := hb6 hx.out.sat Br.out
                    have lqe : wo.heap.size < w21.heap.size := hx.out.sat.lt (Be.out 0 _ rfl)
                    obtain ⟨ce0, ce1, ce2, ce3, ce4, ce5⟩ := hb6 hx.out.sat Be.out
                    go_wp2_with fail
                    clear lqz cz0 cz1 cz2 cz3 cz4 cz5 fz0 fz1 fz2 fz3 fz4 fz5 lqr cr0 cr1 cr2 cr3 cr4 cr5 lqe ce0 ce1 ce2 ce3 ce4 ce5
                    go_roundw
                    case rel => exact ⟨j + 1, true, _, hjk2.out, by go_num, rfl, ⟨iff_of_true rfl (by rw [htj.out, hqe.out]; simp)⟩, hx, hr, h2, hT, hF, hrd0, hra, Br, Be, kz, nz, ho9⟩
                    case measure => (have := hjk2.out; simp [intOf]; omega)
                  case neg =>
                    obtain rfl : e = .returned (.bool false) := he.trans (retF hqe)
                    replace hqe := Aside.mk hqe
                    have lqz : w.heap.size + 1 < w21.heap.size := boxL kz.out
                    obtain ⟨⟨cz0, cz1, cz2, cz3, cz4, cz5⟩, fz0, fz1, fz2, fz3, fz4, fz5⟩ := kb6 kz.out
                    have lqr : w.heap.size < w21.heap.size := hx.out.sat.lt (Br.out 0 _ rfl)
                    obtain ⟨cr0, cr1, cr2, cr3, cr4, cr5⟩ := hb6 hx.out.sat Br.out
                    have lqe : wo.heap.size < w21.heap.size := hx.out.sat.lt (Be.out 0 _ rfl)
                    obtain ⟨ce0, ce1, ce2, ce3, ce4, ce5⟩ := hb6 hx.out.sat Be.out
                    go_wp2_with fail
                    clear lqz cz0 cz1 cz2 cz3 cz4 cz5 fz0 fz1 fz2 fz3 fz4 fz5 lqr cr0 cr1 cr2 cr3 cr4 cr5 lqe ce0 ce1 ce2 ce3 ce4 ce5
                    go_roundw
                    case rel => exact ⟨j + 1, false, _, hjk2.out, by go_num, rfl, ⟨iff_of_false (by simp) (by rw [htj.out]; intro hm; rcases List.mem_append.1 hm with hm | hm; exact absurd (hB.out.2 hm) (by simp); exact hqe.out (List.mem_singleton.1 hm))⟩, hx, hr, h2, hT, hF, hrd0, hra, Br, Be, kz, nz, ho9⟩
                    case measure => (have := hjk2.out; simp [intOf]; omega)
              case neg =>
                obtain rfl : j = k := by omega
                have hB2 : B = true ↔ Re.mk k1 s1 a1 u1 v1 g1 ∈ args.take j := by have h9 := hB.out; rw [List.take_take, Nat.min_self] at h9; exact h9
                replace hB := Aside.mk hB2
                clear hB2
                cases B
                case true =>
                  have hin := hB.out.1 rfl
                  replace hin := Aside.mk hin
                  have HR := Aside.mk (show manyF 4 args = some (leftF 4 (args.take j ++ args.drop (j + 1))) from by unfold manyF; rw [hM.out, HA.out.1]; simp [Re.kind, Re.args, QA_.out.1, QA_.out.2, QB_.out, hin.out])
                  obtain ⟨H31, hx31, hle31, ⟨A30, c30, e30, hs30⟩, hold31⟩ := ho9.out.freezeE hx.out (by omega) (by rw [List.length_append, HA.out.2.2.1, HA.out.2.2.2.1]; omega)
                  simp only [List.cons.injEq, Value.slice.injEq, and_true] at e30
                  obtain ⟨rfl, e31, rfl⟩ := e30
                  rw [← e31] at hs30
                  replace Br := Aside.mk (Br.out.mono hle31)
                  replace nz := Aside.mk (fun o => (hold31 _ o (fun e => by have h1 := (ho9.out.blk e).1; omega)).trans (nz.out o))
                  replace hx := Aside.mk hx31
                  replace hs30 := Aside.mk hs30
                  clear e31 ho9 hold31 hle31 hx31 hr h2 hT hF hrd0 hra Be
                  have lqz : w.heap.size + 1 < wr.heap.size := boxL kz.out
                  obtain ⟨⟨cz0, cz1, cz2, cz3, cz4, cz5⟩, fz0, fz1, fz2, fz3, fz4, fz5⟩ := kb6 kz.out
                  have lqr : w.heap.size < wr.heap.size := hx.out.sat.lt (Br.out 0 _ rfl)
                  obtain ⟨cr0, cr1, cr2, cr3, cr4, cr5⟩ := hb6 hx.out.sat Br.out
                  go_wp2_with fail
                  clear lqz cz0 cz1 cz2 cz3 cz4 cz5 fz0 fz1 fz2 fz3 fz4 fz5 lqr cr0 cr1 cr2 cr3 cr4 cr5
                  refine (left_any _ 4 _ _ _ _ _ hs30.out hx.out.sat).mono ?_
                  rintro e w32 ⟨H32, cs32, rfl, hr32, hz32⟩
                  have hle := hz32.le
                  replace hs30 := Aside.mk (hs30.out.mono hle)
                  replace Br := Aside.mk (Br.out.mono hle)
                  replace nz := Aside.mk (fun o => (hz32.old _ o (boxL kz.out)).trans (nz.out o))
                  replace kz := Aside.mk (box_below kz.out hz32.below)
                  replace hx := Aside.mk (hx.out.trans hz32)
                  clear hle hz32
                  generalize leftF 4 (args.take j ++ args.drop (j + 1)) = lf at *
                  have hr33 := Aside.mk hr32
                  obtain ⟨k7, s7, a7, u7, v7, g7, rfl⟩ : ∃ a b c d e f, lf = Re.mk a b c d e f := (by cases lf; exact ⟨_, _, _, _, _, _, rfl⟩)
                  obtain ⟨Q1, q1_, Q2, q2_, rfl, -, -⟩ := hr32.open
                  clear hr32
                  have lqz : w.heap.size + 1 < w32.heap.size := boxL kz.out
                  obtain ⟨⟨cz0, cz1, cz2, cz3, cz4, cz5⟩, fz0, fz1, fz2, fz3, fz4, fz5⟩ := kb6 kz.out
                  have lqr : w.heap.size < w32.heap.size := hx.out.sat.lt (Br.out 0 _ rfl)
                  obtain ⟨cr0, cr1, cr2, cr3, cr4, cr5⟩ := hb6 hx.out.sat Br.out
                  go_wp2_with fail
                  clear lqz cz0 cz1 cz2 cz3 cz4 cz5 fz0 fz1 fz2 fz3 fz4 fz5 lqr cr0 cr1 cr2 cr3 cr4 cr5
                  have kz_ : ((((((w32.setCell ⟨w.heap.size + 1, 0, none⟩ (.int .i64 k7)).setCell ⟨w.heap.size + 1, 1, none⟩ (.slice Q1 s7.length q1_)).setCell ⟨w.heap.size + 1, 2, none⟩ (.slice Q2 a7.length q2_)).setCell ⟨w.heap.size + 1, 3, none⟩ (.int .i64 u7)).setCell ⟨w.heap.size + 1, 4, none⟩ (.int .i64 v7)).setCell ⟨w.heap.size + 1, 5, none⟩ (.bool g7)).heap[w.heap.size + 1]? = some (.cells #[.int .i64 k7, .slice Q1 s7.length q1_, .slice Q2 a7.length q2_, .int .i64 u7, .int .i64 v7, .bool g7] 25) := (boxS (boxS (boxS (boxS (boxS (boxS kz.out 0 (.int .i64 k7)) 1 (.slice Q1 s7.length q1_)) 2 (.slice Q2 a7.length q2_)) 3 (.int .i64 u7)) 4 (.int .i64 v7)) 5 (.bool g7))
                  replace hx := Aside.mk (((((((hx.out.setCell (b := w.heap.size + 1) (o := 0) (by first | omega | (simp; omega)) nz.out (.int .i64 k7)).setCell (b := w.heap.size + 1) (o := 1) (by first | omega | (simp; omega)) nz.out (.slice Q1 s7.length q1_)).setCell (b := w.heap.size + 1) (o := 2) (by first | omega | (simp; omega)) nz.out (.slice Q2 a7.length q2_)).setCell (b := w.heap.size + 1) (o := 3) (by first | omega | (simp; omega)) nz.out (.int .i64 u7)).setCell (b := w.heap.size + 1) (o := 4) (by first | omega | (simp; omega)) nz.out (.int .i64 v7)).setCell (b := w.heap.size + 1) (o := 5) (by first | omega | (simp; omega)) nz.out (.bool g7)))
                  generalize ((((((w32.setCell ⟨w.heap.size + 1, 0, none⟩ (.int .i64 k7)).setCell ⟨w.heap.size + 1, 1, none⟩ (.slice Q1 s7.length q1_)).setCell ⟨w.heap.size + 1, 2, none⟩ (.slice Q2 a7.length q2_)).setCell ⟨w.heap.size + 1, 3, none⟩ (.int .i64 u7)).setCell ⟨w.heap.size + 1, 4, none⟩ (.int .i64 v7)).setCell ⟨w.heap.size + 1, 5, none⟩ (.bool g7)) = W15 at *
                  replace kz := Aside.mk kz_
                  clear kz_
                  refine bodyPost_ret (resC2 rfl _ _ _ rfl (run_loadVar_row _ _ _ _ _ (0, 0) _ kz.out Try.underlying25 rfl (by kernel_rfl))) rfl ?_
                  rw [HR.out]
                  exact ⟨_, _, rfl, hr33.out, hx.out⟩
                case false =>
                  have hin : ¬ Re.mk k1 s1 a1 u1 v1 g1 ∈ args.take j := fun h => by have := hB.out.2 h; cases this
                  replace hin := Aside.mk hin
                  have hN : manyGo 4 [] args = manyGo 4 (args.take (j + 1)) (args.drop (j + 1)) := by rw [hM.out, HA.out.1]; simp [Re.kind, QA_.out.1, QA_.out.2, QB_.out, hin.out]
                  replace hM := Aside.mk hN
                  clear hN ho9
                  clear Be
                  clear hT hF hrd0 hra
                  have lqz : w.heap.size + 1 < wr.heap.size := boxL kz.out
                  obtain ⟨⟨cz0, cz1, cz2, cz3, cz4, cz5⟩, fz0, fz1, fz2, fz3, fz4, fz5⟩ := kb6 kz.out
                  have lqr : w.heap.size < wr.heap.size := hx.out.sat.lt (Br.out 0 _ rfl)
                  obtain ⟨cr0, cr1, cr2, cr3, cr4, cr5⟩ := hb6 hx.out.sat Br.out
                  go_wp2_with fail
                  clear lqz cz0 cz1 cz2 cz3 cz4 cz5 fz0 fz1 fz2 fz3 fz4 fz5 lqr cr0 cr1 cr2 cr3 cr4 cr5
                  go_roundw
                  case rel => exact ⟨j + 1, _, HA.out.2.2.2.2.2, by go_num, hM, hx, hr, h2, Br, kz, nz⟩
                  case measure => (have := HA.out.2.2.2.2.2; simp [intOf]; omega)
    case neg =>
      obtain rfl : k = args.length := by omega
      have hN : manyGo 4 [] args = none := by rw [hM.out]; simp [manyGo]
      have hN2 : manyF 4 args = oneOf args := by unfold manyF; rw [hN]
      clear hN
      by_cases h1 : args.length = 1
      case pos =>
        obtain ⟨x, hx1⟩ := List.length_eq_one_iff.1 h1
        obtain ⟨b, off, k1, s1, a1, u1, v1, g1, P1, d1, P2, d2, e0, hq, hrd, g0, g1_, g2, g3, g4, g5⟩ := cell_elem h2.out hx.out.sat 0 (by omega)
        simp only [Nat.zero_mul, Nat.add_zero] at g0 g1_ g2 g3 g4 g5
        subst e0
        have HR := Aside.mk (show manyF 4 args = some (Re.mk k1 s1 a1 u1 v1 g1) from by rw [hN2, ← hq]; subst hx1; rfl)
        replace hrd := Aside.mk hrd
        have hbz : b < wo.heap.size := World.block_lt_of_cell? wo _ g0
        replace hx1 := Aside.mk hx1
        clear hq hN2
        have h1i : (args.length : Int) = 1 := by omega
        have h1l : (0 : Int) < (args.length : Int) := by omega
        have lqz : w.heap.size + 1 < wo.heap.size := boxL kz.out
        obtain ⟨⟨cz0, cz1, cz2, cz3, cz4, cz5⟩, fz0, fz1, fz2, fz3, fz4, fz5⟩ := kb6 kz.out
        have lqr : w.heap.size < wo.heap.size := hx.out.sat.lt (Br.out 0 _ rfl)
        obtain ⟨cr0, cr1, cr2, cr3, cr4, cr5⟩ := hb6 hx.out.sat Br.out
        go_wp2_with fail
        clear lqz cz0 cz1 cz2 cz3 cz4 cz5 fz0 fz1 fz2 fz3 fz4 fz5 lqr cr0 cr1 cr2 cr3 cr4 cr5 g0 g1_ g2 g3 g4 g5
        have kz_ : ((((((wo.setCell ⟨w.heap.size + 1, 0, none⟩ (.int .i64 k1)).setCell ⟨w.heap.size + 1, 1, none⟩ (.slice P1 s1.length d1)).setCell ⟨w.heap.size + 1, 2, none⟩ (.slice P2 a1.length d2)).setCell ⟨w.heap.size + 1, 3, none⟩ (.int .i64 u1)).setCell ⟨w.heap.size + 1, 4, none⟩ (.int .i64 v1)).setCell ⟨w.heap.size + 1, 5, none⟩ (.bool g1)).heap[w.heap.size + 1]? = some (.cells #[.int .i64 k1, .slice P1 s1.length d1, .slice P2 a1.length d2, .int .i64 u1, .int .i64 v1, .bool g1] 25) := (boxS (boxS (boxS (boxS (boxS (boxS kz.out 0 (.int .i64 k1)) 1 (.slice P1 s1.length d1)) 2 (.slice P2 a1.length d2)) 3 (.int .i64 u1)) 4 (.int .i64 v1)) 5 (.bool g1))
        replace hx := Aside.mk (((((((hx.out.setCell (b := w.heap.size + 1) (o := 0) (by first | omega | (simp; omega)) nz.out (.int .i64 k1)).setCell (b := w.heap.size + 1) (o := 1) (by first | omega | (simp; omega)) nz.out (.slice P1 s1.length d1)).setCell (b := w.heap.size + 1) (o := 2) (by first | omega | (simp; omega)) nz.out (.slice P2 a1.length d2)).setCell (b := w.heap.size + 1) (o := 3) (by first | omega | (simp; omega)) nz.out (.int .i64 u1)).setCell (b := w.heap.size + 1) (o := 4) (by first | omega | (simp; omega)) nz.out (.int .i64 v1)).setCell (b := w.heap.size + 1) (o := 5) (by first | omega | (simp; omega)) nz.out (.bool g1)))
        generalize ((((((wo.setCell ⟨w.heap.size + 1, 0, none⟩ (.int .i64 k1)).setCell ⟨w.heap.size + 1, 1, none⟩ (.slice P1 s1.length d1)).setCell ⟨w.heap.size + 1, 2, none⟩ (.slice P2 a1.length d2)).setCell ⟨w.heap.size + 1, 3, none⟩ (.int .i64 u1)).setCell ⟨w.heap.size + 1, 4, none⟩ (.int .i64 v1)).setCell ⟨w.heap.size + 1, 5, none⟩ (.bool g1)) = W16 at *
        replace kz := Aside.mk kz_
        clear kz_
        refine bodyPost_ret (resC2 rfl _ _ _ rfl (run_loadVar_row _ _ _ _ _ (0, 0) _ kz.out Try.underlying25 rfl (by kernel_rfl))) rfl ?_
        rw [HR.out]
        exact ⟨_, _, rfl, hrd.out, hx.out⟩
      case neg =>
        have HR := Aside.mk (show manyF 4 args = none from by rw [hN2]; cases args with | nil => rfl | cons a l => cases l with | nil => exact absurd rfl h1 | cons b l => rfl)
        have h1i : ¬ (args.length : Int) = 1 := by omega
        have h1j : ((args.length : Int) == 1) = false := by simp; omega
        clear hN2 h1
        have lqz : w.heap.size + 1 < wo.heap.size := boxL kz.out
        obtain ⟨⟨cz0, cz1, cz2, cz3, cz4, cz5⟩, fz0, fz1, fz2, fz3, fz4, fz5⟩ := kb6 kz.out
        have lqr : w.heap.size < wo.heap.size := hx.out.sat.lt (Br.out 0 _ rfl)
        obtain ⟨cr0, cr1, cr2, cr3, cr4, cr5⟩ := hb6 hx.out.sat Br.out
        go_wp2_with fail
        clear lqz cz0 cz1 cz2 cz3 cz4 cz5 fz0 fz1 fz2 fz3 fz4 fz5 lqr cr0 cr1 cr2 cr3 cr4 cr5
        have kz_ : ((((((wo.setCell ⟨w.heap.size + 1, 0, none⟩ (.int .i64 4)).setCell ⟨w.heap.size + 1, 1, none⟩ (.slice A1 s.length c1)).setCell ⟨w.heap.size + 1, 2, none⟩ (.slice A2 args.length c2)).setCell ⟨w.heap.size + 1, 3, none⟩ (.int .i64 mn)).setCell ⟨w.heap.size + 1, 4, none⟩ (.int .i64 mx)).setCell ⟨w.heap.size + 1, 5, none⟩ (.bool ng)).heap[w.heap.size + 1]? = some (.cells #[.int .i64 4, .slice A1 s.length c1, .slice A2 args.length c2, .int .i64 mn, .int .i64 mx, .bool ng] 25) := (boxS (boxS (boxS (boxS (boxS (boxS kz.out 0 (.int .i64 4)) 1 (.slice A1 s.length c1)) 2 (.slice A2 args.length c2)) 3 (.int .i64 mn)) 4 (.int .i64 mx)) 5 (.bool ng))
        replace hx := Aside.mk (((((((hx.out.setCell (b := w.heap.size + 1) (o := 0) (by first | omega | (simp; omega)) nz.out (.int .i64 4)).setCell (b := w.heap.size + 1) (o := 1) (by first | omega | (simp; omega)) nz.out (.slice A1 s.length c1)).setCell (b := w.heap.size + 1) (o := 2) (by first | omega | (simp; omega)) nz.out (.slice A2 args.length c2)).setCell (b := w.heap.size + 1) (o := 3) (by first | omega | (simp; omega)) nz.out (.int .i64 mn)).setCell (b := w.heap.size + 1) (o := 4) (by first | omega | (simp; omega)) nz.out (.int .i64 mx)).setCell (b := w.heap.size + 1) (o := 5) (by first | omega | (simp; omega)) nz.out (.bool ng)))
        generalize ((((((wo.setCell ⟨w.heap.size + 1, 0, none⟩ (.int .i64 4)).setCell ⟨w.heap.size + 1, 1, none⟩ (.slice A1 s.length c1)).setCell ⟨w.heap.size + 1, 2, none⟩ (.slice A2 args.length c2)).setCell ⟨w.heap.size + 1, 3, none⟩ (.int .i64 mn)).setCell ⟨w.heap.size + 1, 4, none⟩ (.int .i64 mx)).setCell ⟨w.heap.size + 1, 5, none⟩ (.bool ng)) = W17 at *
        replace kz := Aside.mk kz_
        clear kz_
        refine bodyPost_ret (resC2 rfl _ _ _ rfl (run_loadVar_row _ _ _ _ _ (0, 0) _ kz.out Try.underlying25 rfl (by kernel_rfl))) rfl ?_
        rw [HR.out]
        exact ⟨_, _, rfl, hr.out, hx.out⟩

end Go.Proofs.Ytbnahmeaeakhhaa.B

namespace Go.Proofs.Ytbnahmeaeakhhaa.B
set_option linter.unusedVariables false
set_option linter.unusedSimpArgs false
open Go Go.RowKit Classical

set_option maxRecDepth 100000 in
set_option maxHeartbeats 32000000 in
theorem ruleMany7 (H : PH) (s : List Span) (args : List Re) (mn mx : Int) (ng : Bool) (cs : List Value) (w : World) (hr : RdRe H (.mk 7 s args mn mx ng) cs) (hs : Sat w H) (hz : args.length + szL args ≤ 1048576) :
    Calls Try.prog 147 #[.agg cs.toArray] w (RuleR H w (.mk 7 s args mn mx ng) (manyF 7 args)) := by
  have hr_ := hr
  obtain ⟨A1, c1, A2, c2, rfl, -, h2⟩ := hr_.open
  clear hr_
  replace hz := Aside.mk hz
  have hc2 := h2.2.1
  have hc3 := h2.2.2.1
  have hl48 : args.length ≤ 1048576 := by have := hz.out; omega
  have hzz := sizeRe
  have hx := Aside.mk (Ext.refl hs)
  replace hr := Aside.mk hr
  replace h2 := Aside.mk h2
  go_enter Try.func147, Try.ntmps147
  go_wp2_with fail
  have hszw := hx.out.size
  have kr_ : ((w.alloc (.cells #[.int .i64 7, .slice A1 s.length c1, .slice A2 args.length c2, .int .i64 mn, .int .i64 mx, .bool ng] 25)).alloc (.cells #[.int .i64 0, .slice none 0 0, .slice none 0 0, .int .i64 0, .int .i64 0, .bool false] 25)).heap[w.heap.size]? = some (.cells #[.int .i64 7, .slice A1 s.length c1, .slice A2 args.length c2, .int .i64 mn, .int .i64 mx, .bool ng] 25) := (boxA (heap_alloc_new _ _) (.cells #[.int .i64 0, .slice none 0 0, .slice none 0 0, .int .i64 0, .int .i64 0, .bool false] 25))
  have kz_ : ((w.alloc (.cells #[.int .i64 7, .slice A1 s.length c1, .slice A2 args.length c2, .int .i64 mn, .int .i64 mx, .bool ng] 25)).alloc (.cells #[.int .i64 0, .slice none 0 0, .slice none 0 0, .int .i64 0, .int .i64 0, .bool false] 25)).heap[w.heap.size + 1]? = some (.cells #[.int .i64 0, .slice none 0 0, .slice none 0 0, .int .i64 0, .int .i64 0, .bool false] 25) := (by rw [show w.heap.size + 1 = ((w.alloc (.cells #[.int .i64 7, .slice A1 s.length c1, .slice A2 args.length c2, .int .i64 mn, .int .i64 mx, .bool ng] 25))).heap.size by simp]; exact heap_alloc_new _ _)
  have nr := Aside.mk (fun o => hx.out.sat.new (b := w.heap.size) (show w.heap.size ≤ _ by omega) o)
  have nz := Aside.mk (fun o => hx.out.sat.new (b := w.heap.size + 1) (show w.heap.size ≤ _ by omega) o)
  replace hx := Aside.mk (((hx.out.alloc (.cells #[.int .i64 7, .slice A1 s.length c1, .slice A2 args.length c2, .int .i64 mn, .int .i64 mx, .bool ng] 25)).alloc (.cells #[.int .i64 0, .slice none 0 0, .slice none 0 0, .int .i64 0, .int .i64 0, .bool false] 25)))
  generalize ((w.alloc (.cells #[.int .i64 7, .slice A1 s.length c1, .slice A2 args.length c2, .int .i64 mn, .int .i64 mx, .bool ng] 25)).alloc (.cells #[.int .i64 0, .slice none 0 0, .slice none 0 0, .int .i64 0, .int .i64 0, .bool false] 25)) = W1 at *
  have kr := Aside.mk kr_
  clear kr_
  have kz := Aside.mk kz_
  clear kz_
  obtain ⟨H1, hx2, hle, Br, hold⟩ := box_freeze hx.out (by omega) kr.out nr.out
  replace hr := Aside.mk (hr.out.mono hle)
  replace h2 := Aside.mk (h2.out.mono hle)
  replace nz := Aside.mk (fun o => (hold _ o (by omega)).trans (nz.out o))
  replace hx := Aside.mk hx2
  replace Br := Aside.mk Br
  clear hle hold hx2 kr nr
  go_loopw [14] (fun i wr => ∃ (k : Nat) (Hk : PH), k ≤ args.length ∧ i = .int .i64 k ∧ Aside (manyGo 7 [] args = manyGo 7 (args.take k) (args.drop k)) ∧ Aside (Ext H Hk w wr) ∧ Aside (RdRe Hk (Re.mk 7 s args mn mx ng) [.int .i64 7, .slice A1 s.length c1, .slice A2 args.length c2, .int .i64 mn, .int .i64 mx, .bool ng]) ∧ Aside (SlR kRe Hk A2 args.length c2 args) ∧ Aside (BoxH Hk (w.heap.size) [.int .i64 7, .slice A1 s.length c1, .slice A2 args.length c2, .int .i64 mn, .int .i64 mx, .bool ng]) ∧ Aside (wr.heap[w.heap.size + 1]? = some (.cells #[.int .i64 0, .slice none 0 0, .slice none 0 0, .int .i64 0, .int .i64 0, .bool false] 25)) ∧ Aside (∀ o, Hk (w.heap.size + 1) o = none)) (fun i _ => args.length - (intOf i).toNat)
  case atStart => exact ⟨0, _, by omega, rfl, ⟨by simp⟩, hx, hr, h2, Br, kz, nz⟩
  case round =>
    clear hx hr h2 Br kz nz
    obtain ⟨k, Hk, hk, rfl, hM, hx, hr, h2, Br, kz, nz⟩ := hrel
    obtain ⟨wo, rfl⟩ : ∃ wo : World, wo = wr := ⟨_, rfl⟩
    by_cases hlt : k < args.length
    case pos =>
      have hto := fun W => run_to (P := Try.prog) 23 25 6 Try.underlying23 sizeRe A2 args.length c2 k (by omega) (k : Int) rfl W
      have hfr := fun W => run_from (P := Try.prog) 23 25 6 Try.underlying23 sizeRe A2 args.length c2 (k + 1) (by omega) ((k : Int) + 1) (by omega) W
      have hT := Aside.mk (h2.out.to k (by omega))
      have hF := Aside.mk (h2.out.from (k + 1) (by omega))
      obtain ⟨b, off, k1, s1, a1, u1, v1, g1, P1, d1, P2, d2, e0, hq, hrd, g0, g1_, g2, g3, g4, g5⟩ := cell_elem h2.out hx.out.sat k hlt
      have hhM := manyGo_at (K := 7) hlt hq
      have hal : a1.length ≤ szL args := args_le hlt hq
      generalize hQA : fromA A2 c2 (k + 1) 6 = QA at *
      have hF2 : SlR kRe Hk QA (args.length - (k + 1)) (c2 - (k + 1)) (args.drop (k + 1)) := by rw [← hQA]; exact hF.out
      replace hF := Aside.mk hF2
      clear hF2
      replace hQA := Aside.mk hQA
      subst e0
      have hlen1 : (args.take k).length = k := by simp; omega
      have hlen2 : (args.drop (k + 1)).length = args.length - (k + 1) := by simp
      have hrd0 := Aside.mk hrd
      obtain ⟨_, _, _, _, e9, -, hra⟩ := hrd.open
      simp only [List.cons.injEq, Value.slice.injEq, true_and, and_true] at e9
      obtain ⟨⟨rfl, rfl⟩, rfl, rfl⟩ := e9
      clear hrd
      replace hra := Aside.mk hra
      have hzo := hz.out
      have hbz : b < wo.heap.size := World.block_lt_of_cell? wo _ g0
      have hik : (0 : Int) ≤ (k : Int) := by omega
      have hik2 : (k : Int) < (args.length : Int) := by omega
      have hwk : IntKind.i64.wrap ((k : Int) + 1) = (k : Int) + 1 := IntWalk.i64_in _ (by omega)
      have HA := Aside.mk (And.intro hhM (And.intro hal (And.intro hlen1 (And.intro hlen2 (And.intro hq hlt)))))
      have hlt2 := hlt
      clear hhM hal hlen1 hlen2 hq hzo
      by_cases q1 : k1 = 7
      case pos =>
        subst q1
        have HR := Aside.mk (show manyF 7 args = some (Re.mk 7 [] (args.take k ++ a1 ++ args.drop (k + 1)) 0 0 false) from by unfold manyF; rw [hM.out, HA.out.1]; simp [Re.kind, Re.args])
        have lqz : w.heap.size + 1 < wo.heap.size := boxL kz.out
        obtain ⟨⟨cz0, cz1, cz2, cz3, cz4, cz5⟩, fz0, fz1, fz2, fz3, fz4, fz5⟩ := kb6 kz.out
        have lqr : w.heap.size < wo.heap.size := hx.out.sat.lt (Br.out 0 _ rfl)
        obtain ⟨cr0, cr1, cr2, cr3, cr4, cr5⟩ := hb6 hx.out.sat Br.out
        go_wp2_with fail
        clear lqz cz0 cz1 cz2 cz3 cz4 cz5 fz0 fz1 fz2 fz3 fz4 fz5 lqr cr0 cr1 cr2 cr3 cr4 cr5 g0 g1_ g2 g3 g4 g5
        have hszwo := hx.out.size
        have habzwo := boxL kz.out
        have kz_ : (wo.alloc (.cells #[.int .i64 7, .slice P1 s1.length d1, .slice P2 a1.length d2, .int .i64 u1, .int .i64 v1, .bool g1] 25)).heap[w.heap.size + 1]? = some (.cells #[.int .i64 0, .slice none 0 0, .slice none 0 0, .int .i64 0, .int .i64 0, .bool false] 25) := (boxA kz.out (.cells #[.int .i64 7, .slice P1 s1.length d1, .slice P2 a1.length d2, .int .i64 u1, .int .i64 v1, .bool g1] 25))
        have ke_ : (wo.alloc (.cells #[.int .i64 7, .slice P1 s1.length d1, .slice P2 a1.length d2, .int .i64 u1, .int .i64 v1, .bool g1] 25)).heap[wo.heap.size]? = some (.cells #[.int .i64 7, .slice P1 s1.length d1, .slice P2 a1.length d2, .int .i64 u1, .int .i64 v1, .bool g1] 25) := (heap_alloc_new _ _)
        have ne := Aside.mk (fun o => hx.out.sat.new (b := wo.heap.size) (show wo.heap.size ≤ _ by omega) o)
        replace hx := Aside.mk ((hx.out.alloc (.cells #[.int .i64 7, .slice P1 s1.length d1, .slice P2 a1.length d2, .int .i64 u1, .int .i64 v1, .bool g1] 25)))
        generalize (wo.alloc (.cells #[.int .i64 7, .slice P1 s1.length d1, .slice P2 a1.length d2, .int .i64 u1, .int .i64 v1, .bool g1] 25)) = W2 at *
        replace kz := Aside.mk kz_
        clear kz_
        have ke := Aside.mk ke_
        clear ke_
        obtain ⟨H1, hx2, hle, Be, hold⟩ := box_freeze hx.out (by omega) ke.out ne.out
        replace hr := Aside.mk (hr.out.mono hle)
        replace h2 := Aside.mk (h2.out.mono hle)
        replace hT := Aside.mk (hT.out.mono hle)
        replace hF := Aside.mk (hF.out.mono hle)
        replace hrd0 := Aside.mk (hrd0.out.mono hle)
        replace hra := Aside.mk (hra.out.mono hle)
        replace Br := Aside.mk (Br.out.mono hle)
        replace nz := Aside.mk (fun o => (hold _ o (by omega)).trans (nz.out o))
        replace hx := Aside.mk hx2
        replace Be := Aside.mk Be
        clear hle hold hx2 ke ne
        have hwx := hx.out.size
        have HS2 := Aside.mk (fun w' (hb : Sat w' H1) => show w'.cell? ⟨w.heap.size, 2, none⟩ = some (.slice (some ⟨b, off, none⟩) args.length c2) from (by have q := at6 hb Br.out; simp only [Nat.add_zero, Nat.zero_add] at q; exact q.2.2.1))
        have hbase0 : w.heap.size + 1 + 1 ≤ W2.heap.size := boxL kz.out
        have hlt48 : ((args.take k).length + 0) * 80 ≤ 140737488355328 := by rw [HA.out.2.2.1]; omega
        have hby1 : Aside ((([] : List Re).length + (args.take k).length) * 80 ≤ 140737488355328 ∧ ([] : List Re).length + (args.take k).length ≤ maxLen) := ⟨by rw [HA.out.2.2.1]; simp; omega, by rw [HA.out.2.2.1]; unfold maxLen; simp; omega⟩
        have hby2 : Aside ((([] ++ args.take k : List Re).length + (args.drop (k + 1)).length) * 80 ≤ 140737488355328 ∧ ([] ++ args.take k : List Re).length + (args.drop (k + 1)).length ≤ maxLen) := ⟨by rw [List.nil_append, HA.out.2.2.1, HA.out.2.2.2.1]; omega, by rw [List.nil_append, HA.out.2.2.1, HA.out.2.2.2.1]; unfold maxLen; omega⟩
        clear hlt48
        have hlit := Aside.mk (Own.lit (k := kRe) (e := 25) (xs := []) (base := W2.heap.size) hx.out.sat.drew #[] (Nat.le_refl _) rfl (by unfold maxLen; simp))
        go_region_held3 (fun w' => w'.cell? ⟨w.heap.size, 2, none⟩ = some (.slice (some ⟨b, off, none⟩) args.length c2))
          (first | exact HS2.out _ hx.out.sat | exact HS2.out _ hx.out.sat.drew | exact HS2.out _ (hx.out.sat.drew.alloc _) | exact HS2.out _ (hx.out.sat.alloc _).drew | exact HS2.out _ hs8 | exact HS2.out _ hs9)
          ((first
          | (have _t := ho8; go_must (refine step_appS kRe (by rfl) (.tmp 24) (.tmp 29) 23 (by rfl) 25 Try.underlying23 info25 rfl ho8 hs8 hF.out (by rfl) (by rfl) hby2.out.1 hby2.out.2 (by have := hg8.size; simp at this; omega) ?_); intro v9 w9 ho9 hg9 hs9 hn9)
          | (go_must (refine step_appS kRe (by rfl) (.tmp 19) (.tmp 23) 23 (by rfl) 25 Try.underlying23 info25 rfl hlit.out (hx.out.sat.drew.alloc _) hT.out (by rfl) (by rfl) hby1.out.1 hby1.out.2 (by simp) ?_); intro v8 w8 ho8 hg8 hs8 hn8)))
        have hb8 : Below W2.heap.size W2 w8 := (bD (bA (Below.refl _ _) _)).grown hg8 (bD (bA (Below.refl _ _) _)).size (fun b hb => by simp [Value.ownBlock] at hb; omega)
        have hb9 : Below W2.heap.size W2 w9 := hb8.grown hg9 hb8.size (fun b hb => (ho8.blk hb).1)
        simp only [List.nil_append] at ho9
        obtain ⟨A9, c9, e9, -, -, -, -⟩ := ho9.form
        generalize (args.take k ++ args.drop (k + 1)).length = l9 at e9
        subst e9
        clear hlit ho8 hg8 hs8 hn8 hg9 hs9 hn9 hb8 hby2 HS2
        replace kz := Aside.mk (box_below kz.out hb9)
        replace hx := Aside.mk (hx.out.then_below hb9)
        clear hb9
        replace ho9 := Aside.mk ho9
        clear ho9
        have hlit := Aside.mk (Own.lit (k := kRe) (e := 25) (xs := []) (base := w9.heap.size) hx.out.sat #[] (Nat.le_refl _) rfl (by unfold maxLen; simp))
        have hwx0 := hx.out.size
        have hwx1 := boxL kz.out
        have lqz : w.heap.size + 1 < w9.heap.size := boxL kz.out
        obtain ⟨⟨cz0, cz1, cz2, cz3, cz4, cz5⟩, fz0, fz1, fz2, fz3, fz4, fz5⟩ := kb6 kz.out
        have lqr : w.heap.size < w9.heap.size := hx.out.sat.lt (Br.out 0 _ rfl)
        obtain ⟨cr0, cr1, cr2, cr3, cr4, cr5⟩ := hb6 hx.out.sat Br.out
        have lqe : wo.heap.size < w9.heap.size := hx.out.sat.lt (Be.out 0 _ rfl)
        obtain ⟨ce0, ce1, ce2, ce3, ce4, ce5⟩ := hb6 hx.out.sat Be.out
        go_upto_region 7 with (at_builtin; go_must (refine wpList_appS kRe rfl (.tmp 36) (.tmp 40) 23 rfl 25 Try.underlying23 info25 rfl hlit.out (hx.out.sat.alloc _) hT.out rfl rfl hby1.out.1 hby1.out.2 (by simp) ?_); intro v10 w10 ho10 hg10 hs10 hn10 hni10)
        clear lqz cz0 cz1 cz2 cz3 cz4 cz5 fz0 fz1 fz2 fz3 fz4 fz5 lqr cr0 cr1 cr2 cr3 cr4 cr5 lqe ce0 ce1 ce2 ce3 ce4 ce5
        have hb10 : Below w9.heap.size w9 w10 := (bA (Below.refl _ _) _).grown hg10 (bA (Below.refl _ _) _).size (fun b hb => by simp [Value.ownBlock] at hb; omega)
        simp only [List.nil_append] at ho10
        obtain ⟨A10, c10, e10, -, -, -, -⟩ := ho10.form
        generalize (args.take k).length = l10 at e10
        subst e10
        clear hlit hg10 hs10 hn10 hni10
        have hsz10 : w9.heap.size ≤ w10.heap.size := hb10.size
        replace kz := Aside.mk (box_below kz.out hb10)
        replace hx := Aside.mk (hx.out.then_below hb10)
        clear hb10
        replace ho10 := Aside.mk ho10
        have hby3 : Aside (((args.take k).length + a1.length) * 80 ≤ 140737488355328 ∧ (args.take k).length + a1.length ≤ maxLen) := ⟨by rw [HA.out.2.2.1]; have := HA.out.2.1; have := hz.out; omega, by rw [HA.out.2.2.1]; have := HA.out.2.1; have := hz.out; unfold maxLen; omega⟩
        have hwx := hx.out.size
        have lqz : w.heap.size + 1 < w10.heap.size := boxL kz.out
        obtain ⟨⟨cz0, cz1, cz2, cz3, cz4, cz5⟩, fz0, fz1, fz2, fz3, fz4, fz5⟩ := kb6 kz.out
        have lqr : w.heap.size < w10.heap.size := hx.out.sat.lt (Br.out 0 _ rfl)
        obtain ⟨cr0, cr1, cr2, cr3, cr4, cr5⟩ := hb6 hx.out.sat Br.out
        have lqe : wo.heap.size < w10.heap.size := hx.out.sat.lt (Be.out 0 _ rfl)
        obtain ⟨ce0, ce1, ce2, ce3, ce4, ce5⟩ := hb6 hx.out.sat Be.out
        go_upto_region 8 with (at_builtin; go_must (refine wpList_appS kRe rfl (.tmp 42) (.tmp 44) 23 rfl 25 Try.underlying23 info25 rfl ho10.out hx.out.sat hra.out rfl rfl hby3.out.1 hby3.out.2 hsz10 ?_); intro v11 w11 ho11 hg11 hs11 hn11 hni11)
        clear lqz cz0 cz1 cz2 cz3 cz4 cz5 fz0 fz1 fz2 fz3 fz4 fz5 lqr cr0 cr1 cr2 cr3 cr4 cr5 lqe ce0 ce1 ce2 ce3 ce4 ce5
        obtain ⟨A11, c11, e11, -, -, -, -⟩ := ho11.form
        generalize (args.take k ++ a1).length = l11 at e11
        subst e11
        have hsz11 : w9.heap.size ≤ w11.heap.size := Nat.le_trans hsz10 hg11.size
        have hwbase : w.heap.size ≤ w9.heap.size := hwx0
        replace kz := Aside.mk (boxG kz.out hg11 (fun e => by have h1 := (ho10.out.blk e).1; omega))
        replace hx := Aside.mk (ho10.out.extG hx.out (by omega) hg11)
        replace ho10 := Aside.mk ho11
        clear ho11 hg11 hs11 hn11 hni11 hby1 hby3
        have hby4 : Aside (((args.take k ++ a1).length + (args.drop (k + 1)).length) * 80 ≤ 140737488355328 ∧ (args.take k ++ a1).length + (args.drop (k + 1)).length ≤ maxLen) := ⟨by rw [List.length_append, HA.out.2.2.1, HA.out.2.2.2.1]; have := HA.out.2.1; have := hz.out; omega, by rw [List.length_append, HA.out.2.2.1, HA.out.2.2.2.1]; have := HA.out.2.1; have := hz.out; unfold maxLen; omega⟩
        go_wp2_with fail
        have HS2 := Aside.mk (fun w' (hb : Sat w' H1) => show w'.cell? ⟨w.heap.size, 0, none⟩ = some (.int .i64 7) ∧ w'.cell? ⟨w.heap.size, 2, none⟩ = some (.slice (some ⟨b, off, none⟩) args.length c2) from (by have q := at6 hb Br.out; simp only [Nat.add_zero, Nat.zero_add] at q; exact ⟨q.1, q.2.2.1⟩))
        go_region_held3 (fun w' => w'.cell? ⟨w.heap.size, 0, none⟩ = some (.int .i64 7) ∧ w'.cell? ⟨w.heap.size, 2, none⟩ = some (.slice (some ⟨b, off, none⟩) args.length c2))
          (first | with_reducible exact HS2.out _ hx.out.sat | with_reducible exact HS2.out _ hx.out.sat.drew | with_reducible exact HS2.out _ hs12 | exact HS2.out _ ((((((hs12.setCell nz.out _ _).setCell nz.out _ _).setCell nz.out _ _).setCell nz.out _ _).setCell nz.out _ _).setCell nz.out _ _))
          ((first
          | (go_must (refine step_appS kRe (by rfl) (.tmp 48) (.tmp 53) 23 (by rfl) 25 Try.underlying23 info25 rfl ho10.out.drew hx.out.sat.drew hF.out (by rfl) (by rfl) hby4.out.1 hby4.out.2 hsz11 ?_); intro v12 w12 ho12 hg12 hs12 hn12; obtain ⟨A12, c12, e12, -, -, -, -⟩ := ho12.form; generalize (args.take k ++ a1 ++ args.drop (k + 1)).length = l12 at e12; subst e12; have kz12 := boxG (w := w11.drew) kz.out hg12 (fun e => by have h1 := (ho10.out.blk e).1; omega); have hzl := boxL kz12; obtain ⟨⟨x0, x1, x2, x3, x4, x5⟩, y0, y1, y2, y3, y4, y5⟩ := kb6 kz12)))
        clear x0 x1 x2 x3 x4 x5 y0 y1 y2 y3 y4 y5 hzl kz12
        have kz_ : w11.drew.heap[w.heap.size + 1]? = some (.cells #[.int .i64 0, .slice none 0 0, .slice none 0 0, .int .i64 0, .int .i64 0, .bool false] 25) := kz.out
        replace ho10 := Aside.mk (ho10.out.drew)
        replace hx := Aside.mk ((hx.out.drew))
        generalize w11.drew = W3 at *
        replace kz := Aside.mk kz_
        clear kz_
        replace kz := Aside.mk (boxG kz.out hg12 (fun e => by have h1 := (ho10.out.blk e).1; omega))
        replace hx := Aside.mk (ho10.out.extG hx.out (by omega) hg12)
        replace ho10 := Aside.mk ho12
        clear ho12 hg12 hs12 hn12 hby4
        have kz_ : ((((((w12.setCell ⟨w.heap.size + 1, 0, none⟩ (.int .i64 7)).setCell ⟨w.heap.size + 1, 1, none⟩ (.slice none 0 0)).setCell ⟨w.heap.size + 1, 2, none⟩ (.slice A12 l12 c12)).setCell ⟨w.heap.size + 1, 3, none⟩ (.int .i64 0)).setCell ⟨w.heap.size + 1, 4, none⟩ (.int .i64 0)).setCell ⟨w.heap.size + 1, 5, none⟩ (.bool false)).heap[w.heap.size + 1]? = some (.cells #[.int .i64 7, .slice none 0 0, .slice A12 l12 c12, .int .i64 0, .int .i64 0, .bool false] 25) := (boxS (boxS (boxS (boxS (boxS (boxS kz.out 0 (.int .i64 7)) 1 (.slice none 0 0)) 2 (.slice A12 l12 c12)) 3 (.int .i64 0)) 4 (.int .i64 0)) 5 (.bool false))
        replace ho10 := Aside.mk ((((((ho10.out.grown (grownBy_setCell _ (w.heap.size + 1) 0 (.int .i64 7)) (Or.inr (fun e => by have h1 := (ho10.out.blk e).1; omega))).grown (grownBy_setCell _ (w.heap.size + 1) 1 (.slice none 0 0)) (Or.inr (fun e => by have h1 := (ho10.out.blk e).1; omega))).grown (grownBy_setCell _ (w.heap.size + 1) 2 (.slice A12 l12 c12)) (Or.inr (fun e => by have h1 := (ho10.out.blk e).1; omega))).grown (grownBy_setCell _ (w.heap.size + 1) 3 (.int .i64 0)) (Or.inr (fun e => by have h1 := (ho10.out.blk e).1; omega))).grown (grownBy_setCell _ (w.heap.size + 1) 4 (.int .i64 0)) (Or.inr (fun e => by have h1 := (ho10.out.blk e).1; omega))).grown (grownBy_setCell _ (w.heap.size + 1) 5 (.bool false)) (Or.inr (fun e => by have h1 := (ho10.out.blk e).1; omega)))
        replace hx := Aside.mk (((((((hx.out.setCell (b := w.heap.size + 1) (o := 0) (by first | omega | (simp; omega)) nz.out (.int .i64 7)).setCell (b := w.heap.size + 1) (o := 1) (by first | omega | (simp; omega)) nz.out (.slice none 0 0)).setCell (b := w.heap.size + 1) (o := 2) (by first | omega | (simp; omega)) nz.out (.slice A12 l12 c12)).setCell (b := w.heap.size + 1) (o := 3) (by first | omega | (simp; omega)) nz.out (.int .i64 0)).setCell (b := w.heap.size + 1) (o := 4) (by first | omega | (simp; omega)) nz.out (.int .i64 0)).setCell (b := w.heap.size + 1) (o := 5) (by first | omega | (simp; omega)) nz.out (.bool false)))
        generalize ((((((w12.setCell ⟨w.heap.size + 1, 0, none⟩ (.int .i64 7)).setCell ⟨w.heap.size + 1, 1, none⟩ (.slice none 0 0)).setCell ⟨w.heap.size + 1, 2, none⟩ (.slice A12 l12 c12)).setCell ⟨w.heap.size + 1, 3, none⟩ (.int .i64 0)).setCell ⟨w.heap.size + 1, 4, none⟩ (.int .i64 0)).setCell ⟨w.heap.size + 1, 5, none⟩ (.bool false)) = W4 at *
        replace kz := Aside.mk kz_
        clear kz_
        go_wp2_with fail
        obtain ⟨H9, hx9, hle9, ⟨A13, c13, e13, hsl⟩, hold9⟩ := ho10.out.freezeE hx.out (by omega) (by rw [List.length_append, List.length_append, HA.out.2.2.1, HA.out.2.2.2.1]; have := HA.out.2.1; have := hz.out; omega)
        simp only [List.cons.injEq, Value.slice.injEq, and_true] at e13
        obtain ⟨rfl, e14, rfl⟩ := e13
        rw [← e14] at hsl
        refine bodyPost_ret (resC2 rfl _ _ _ rfl (run_loadVar_row _ _ _ _ _ (0, 0) _ kz.out Try.underlying25 rfl (by kernel_rfl))) rfl ?_
        rw [HR.out]
        exact ⟨_, _, rfl, RdRe.shut (SlR.nil _ _) hsl, hx9⟩
      case neg =>
        have q1b : (k1 == 7) = false := by simpa using q1
        by_cases q2 : k1 = 0
        case pos =>
          subst q2
          have HR := Aside.mk (show manyF 7 args = some (noneRe) from by unfold manyF; rw [hM.out, HA.out.1]; simp [Re.kind, Re.args])
          clear q1 q1b
          have lqz : w.heap.size + 1 < wo.heap.size := boxL kz.out
          obtain ⟨⟨cz0, cz1, cz2, cz3, cz4, cz5⟩, fz0, fz1, fz2, fz3, fz4, fz5⟩ := kb6 kz.out
          have lqr : w.heap.size < wo.heap.size := hx.out.sat.lt (Br.out 0 _ rfl)
          obtain ⟨cr0, cr1, cr2, cr3, cr4, cr5⟩ := hb6 hx.out.sat Br.out
          go_wp2_with fail
          clear lqz cz0 cz1 cz2 cz3 cz4 cz5 fz0 fz1 fz2 fz3 fz4 fz5 lqr cr0 cr1 cr2 cr3 cr4 cr5 g0 g1_ g2 g3 g4 g5
          have hszwo := hx.out.size
          have habzwo := boxL kz.out
          have kz_ : (wo.alloc (.cells #[.int .i64 0, .slice P1 s1.length d1, .slice P2 a1.length d2, .int .i64 u1, .int .i64 v1, .bool g1] 25)).heap[w.heap.size + 1]? = some (.cells #[.int .i64 0, .slice none 0 0, .slice none 0 0, .int .i64 0, .int .i64 0, .bool false] 25) := (boxA kz.out (.cells #[.int .i64 0, .slice P1 s1.length d1, .slice P2 a1.length d2, .int .i64 u1, .int .i64 v1, .bool g1] 25))
          have ke_ : (wo.alloc (.cells #[.int .i64 0, .slice P1 s1.length d1, .slice P2 a1.length d2, .int .i64 u1, .int .i64 v1, .bool g1] 25)).heap[wo.heap.size]? = some (.cells #[.int .i64 0, .slice P1 s1.length d1, .slice P2 a1.length d2, .int .i64 u1, .int .i64 v1, .bool g1] 25) := (heap_alloc_new _ _)
          have ne := Aside.mk (fun o => hx.out.sat.new (b := wo.heap.size) (show wo.heap.size ≤ _ by omega) o)
          replace hx := Aside.mk ((hx.out.alloc (.cells #[.int .i64 0, .slice P1 s1.length d1, .slice P2 a1.length d2, .int .i64 u1, .int .i64 v1, .bool g1] 25)))
          generalize (wo.alloc (.cells #[.int .i64 0, .slice P1 s1.length d1, .slice P2 a1.length d2, .int .i64 u1, .int .i64 v1, .bool g1] 25)) = W5 at *
          replace kz := Aside.mk kz_
          clear kz_
          have ke := Aside.mk ke_
          clear ke_
          obtain ⟨H1, hx2, hle, Be, hold⟩ := box_freeze hx.out (by omega) ke.out ne.out
          replace hr := Aside.mk (hr.out.mono hle)
          replace h2 := Aside.mk (h2.out.mono hle)
          replace hT := Aside.mk (hT.out.mono hle)
          replace hF := Aside.mk (hF.out.mono hle)
          replace hrd0 := Aside.mk (hrd0.out.mono hle)
          replace hra := Aside.mk (hra.out.mono hle)
          replace Br := Aside.mk (Br.out.mono hle)
          replace nz := Aside.mk (fun o => (hold _ o (by omega)).trans (nz.out o))
          replace hx := Aside.mk hx2
          replace Be := Aside.mk Be
          clear hle hold hx2 ke ne
          have hwx := hx.out.size
          have HS2 := Aside.mk (fun w' (hb : Sat w' H1) => show w'.cell? ⟨w.heap.size, 2, none⟩ = some (.slice (some ⟨b, off, none⟩) args.length c2) from (by have q := at6 hb Br.out; simp only [Nat.add_zero, Nat.zero_add] at q; exact q.2.2.1))
          have hbase0 : w.heap.size + 1 + 1 ≤ W5.heap.size := boxL kz.out
          have hlt48 : ((args.take k).length + 0) * 80 ≤ 140737488355328 := by rw [HA.out.2.2.1]; omega
          have hby1 : Aside ((([] : List Re).length + (args.take k).length) * 80 ≤ 140737488355328 ∧ ([] : List Re).length + (args.take k).length ≤ maxLen) := ⟨by rw [HA.out.2.2.1]; simp; omega, by rw [HA.out.2.2.1]; unfold maxLen; simp; omega⟩
          have hby2 : Aside ((([] ++ args.take k : List Re).length + (args.drop (k + 1)).length) * 80 ≤ 140737488355328 ∧ ([] ++ args.take k : List Re).length + (args.drop (k + 1)).length ≤ maxLen) := ⟨by rw [List.nil_append, HA.out.2.2.1, HA.out.2.2.2.1]; omega, by rw [List.nil_append, HA.out.2.2.1, HA.out.2.2.2.1]; unfold maxLen; omega⟩
          clear hlt48
          have hlit := Aside.mk (Own.lit (k := kRe) (e := 25) (xs := []) (base := W5.heap.size) hx.out.sat.drew #[] (Nat.le_refl _) rfl (by unfold maxLen; simp))
          go_region_held3 (fun w' => w'.cell? ⟨w.heap.size, 2, none⟩ = some (.slice (some ⟨b, off, none⟩) args.length c2))
            (first | exact HS2.out _ hx.out.sat | exact HS2.out _ hx.out.sat.drew | exact HS2.out _ (hx.out.sat.drew.alloc _) | exact HS2.out _ (hx.out.sat.alloc _).drew | exact HS2.out _ hs8 | exact HS2.out _ hs9)
            ((first
            | (have _t := ho8; go_must (refine step_appS kRe (by rfl) (.tmp 24) (.tmp 29) 23 (by rfl) 25 Try.underlying23 info25 rfl ho8 hs8 hF.out (by rfl) (by rfl) hby2.out.1 hby2.out.2 (by have := hg8.size; simp at this; omega) ?_); intro v9 w9 ho9 hg9 hs9 hn9)
            | (go_must (refine step_appS kRe (by rfl) (.tmp 19) (.tmp 23) 23 (by rfl) 25 Try.underlying23 info25 rfl hlit.out (hx.out.sat.drew.alloc _) hT.out (by rfl) (by rfl) hby1.out.1 hby1.out.2 (by simp) ?_); intro v8 w8 ho8 hg8 hs8 hn8)))
          have hb8 : Below W5.heap.size W5 w8 := (bD (bA (Below.refl _ _) _)).grown hg8 (bD (bA (Below.refl _ _) _)).size (fun b hb => by simp [Value.ownBlock] at hb; omega)
          have hb9 : Below W5.heap.size W5 w9 := hb8.grown hg9 hb8.size (fun b hb => (ho8.blk hb).1)
          simp only [List.nil_append] at ho9
          obtain ⟨A9, c9, e9, -, -, -, -⟩ := ho9.form
          generalize (args.take k ++ args.drop (k + 1)).length = l9 at e9
          subst e9
          clear hlit ho8 hg8 hs8 hn8 hg9 hs9 hn9 hb8 hby2 HS2
          replace kz := Aside.mk (box_below kz.out hb9)
          replace hx := Aside.mk (hx.out.then_below hb9)
          clear hb9
          replace ho9 := Aside.mk ho9
          clear ho9
          have lqz : w.heap.size + 1 < w9.heap.size := boxL kz.out
          obtain ⟨⟨cz0, cz1, cz2, cz3, cz4, cz5⟩, fz0, fz1, fz2, fz3, fz4, fz5⟩ := kb6 kz.out
          have lqr : w.heap.size < w9.heap.size := hx.out.sat.lt (Br.out 0 _ rfl)
          obtain ⟨cr0, cr1, cr2, cr3, cr4, cr5⟩ := hb6 hx.out.sat Br.out
          have lqe : wo.heap.size < w9.heap.size := hx.out.sat.lt (Be.out 0 _ rfl)
          obtain ⟨ce0, ce1, ce2, ce3, ce4, ce5⟩ := hb6 hx.out.sat Be.out
          go_wp2_with fail
          clear lqz cz0 cz1 cz2 cz3 cz4 cz5 fz0 fz1 fz2 fz3 fz4 fz5 lqr cr0 cr1 cr2 cr3 cr4 cr5 lqe ce0 ce1 ce2 ce3 ce4 ce5
          refine (refNone_any _).mono ?_
          rintro e w20 ⟨rfl, hb20⟩
          replace kz := Aside.mk (box_below kz.out hb20)
          replace hx := Aside.mk (hx.out.then_below hb20)
          clear hb20
          have lqz : w.heap.size + 1 < w20.heap.size := boxL kz.out
          obtain ⟨⟨cz0, cz1, cz2, cz3, cz4, cz5⟩, fz0, fz1, fz2, fz3, fz4, fz5⟩ := kb6 kz.out
          have lqr : w.heap.size < w20.heap.size := hx.out.sat.lt (Br.out 0 _ rfl)
          obtain ⟨cr0, cr1, cr2, cr3, cr4, cr5⟩ := hb6 hx.out.sat Br.out
          have lqe : wo.heap.size < w20.heap.size := hx.out.sat.lt (Be.out 0 _ rfl)
          obtain ⟨ce0, ce1, ce2, ce3, ce4, ce5⟩ := hb6 hx.out.sat Be.out
          go_wp2_with fail
          clear lqz cz0 cz1 cz2 cz3 cz4 cz5 fz0 fz1 fz2 fz3 fz4 fz5 lqr cr0 cr1 cr2 cr3 cr4 cr5 lqe ce0 ce1 ce2 ce3 ce4 ce5
          have kz_ : ((((((w20.setCell ⟨w.heap.size + 1, 0, none⟩ (.int .i64 0)).setCell ⟨w.heap.size + 1, 1, none⟩ (.slice none 0 0)).setCell ⟨w.heap.size + 1, 2, none⟩ (.slice none 0 0)).setCell ⟨w.heap.size + 1, 3, none⟩ (.int .i64 0)).setCell ⟨w.heap.size + 1, 4, none⟩ (.int .i64 0)).setCell ⟨w.heap.size + 1, 5, none⟩ (.bool false)).heap[w.heap.size + 1]? = some (.cells #[.int .i64 0, .slice none 0 0, .slice none 0 0, .int .i64 0, .int .i64 0, .bool false] 25) := (boxS (boxS (boxS (boxS (boxS (boxS kz.out 0 (.int .i64 0)) 1 (.slice none 0 0)) 2 (.slice none 0 0)) 3 (.int .i64 0)) 4 (.int .i64 0)) 5 (.bool false))
          replace hx := Aside.mk (((((((hx.out.setCell (b := w.heap.size + 1) (o := 0) (by first | omega | (simp; omega)) nz.out (.int .i64 0)).setCell (b := w.heap.size + 1) (o := 1) (by first | omega | (simp; omega)) nz.out (.slice none 0 0)).setCell (b := w.heap.size + 1) (o := 2) (by first | omega | (simp; omega)) nz.out (.slice none 0 0)).setCell (b := w.heap.size + 1) (o := 3) (by first | omega | (simp; omega)) nz.out (.int .i64 0)).setCell (b := w.heap.size + 1) (o := 4) (by first | omega | (simp; omega)) nz.out (.int .i64 0)).setCell (b := w.heap.size + 1) (o := 5) (by first | omega | (simp; omega)) nz.out (.bool false)))
          generalize ((((((w20.setCell ⟨w.heap.size + 1, 0, none⟩ (.int .i64 0)).setCell ⟨w.heap.size + 1, 1, none⟩ (.slice none 0 0)).setCell ⟨w.heap.size + 1, 2, none⟩ (.slice none 0 0)).setCell ⟨w.heap.size + 1, 3, none⟩ (.int .i64 0)).setCell ⟨w.heap.size + 1, 4, none⟩ (.int .i64 0)).setCell ⟨w.heap.size + 1, 5, none⟩ (.bool false)) = W6 at *
          replace kz := Aside.mk kz_
          clear kz_
          refine bodyPost_ret (resC2 rfl _ _ _ rfl (run_loadVar_row _ _ _ _ _ (0, 0) _ kz.out Try.underlying25 rfl (by kernel_rfl))) rfl ?_
          rw [HR.out]
          exact ⟨_, _, rfl, rd_none _, hx.out⟩
        case neg =>
          have q2b : (k1 == 0) = false := by simpa using q2
          have q3 := q1
          have QA_ := Aside.mk (And.intro q1 q2)
          clear q1 q2 q3
          by_cases q5 : k1 = 1
          case pos =>
            subst q5
            clear q1b q2b
            have lqz : w.heap.size + 1 < wo.heap.size := boxL kz.out
            obtain ⟨⟨cz0, cz1, cz2, cz3, cz4, cz5⟩, fz0, fz1, fz2, fz3, fz4, fz5⟩ := kb6 kz.out
            have lqr : w.heap.size < wo.heap.size := hx.out.sat.lt (Br.out 0 _ rfl)
            obtain ⟨cr0, cr1, cr2, cr3, cr4, cr5⟩ := hb6 hx.out.sat Br.out
            go_wp2_with fail
            clear lqz cz0 cz1 cz2 cz3 cz4 cz5 fz0 fz1 fz2 fz3 fz4 fz5 lqr cr0 cr1 cr2 cr3 cr4 cr5 g0 g1_ g2 g3 g4 g5
            have hszwo := hx.out.size
            have habzwo := boxL kz.out
            have kz_ : (wo.alloc (.cells #[.int .i64 1, .slice P1 s1.length d1, .slice P2 a1.length d2, .int .i64 u1, .int .i64 v1, .bool g1] 25)).heap[w.heap.size + 1]? = some (.cells #[.int .i64 0, .slice none 0 0, .slice none 0 0, .int .i64 0, .int .i64 0, .bool false] 25) := (boxA kz.out (.cells #[.int .i64 1, .slice P1 s1.length d1, .slice P2 a1.length d2, .int .i64 u1, .int .i64 v1, .bool g1] 25))
            have ke_ : (wo.alloc (.cells #[.int .i64 1, .slice P1 s1.length d1, .slice P2 a1.length d2, .int .i64 u1, .int .i64 v1, .bool g1] 25)).heap[wo.heap.size]? = some (.cells #[.int .i64 1, .slice P1 s1.length d1, .slice P2 a1.length d2, .int .i64 u1, .int .i64 v1, .bool g1] 25) := (heap_alloc_new _ _)
            have ne := Aside.mk (fun o => hx.out.sat.new (b := wo.heap.size) (show wo.heap.size ≤ _ by omega) o)
            replace hx := Aside.mk ((hx.out.alloc (.cells #[.int .i64 1, .slice P1 s1.length d1, .slice P2 a1.length d2, .int .i64 u1, .int .i64 v1, .bool g1] 25)))
            generalize (wo.alloc (.cells #[.int .i64 1, .slice P1 s1.length d1, .slice P2 a1.length d2, .int .i64 u1, .int .i64 v1, .bool g1] 25)) = W7 at *
            replace kz := Aside.mk kz_
            clear kz_
            have ke := Aside.mk ke_
            clear ke_
            obtain ⟨H1, hx2, hle, Be, hold⟩ := box_freeze hx.out (by omega) ke.out ne.out
            replace hr := Aside.mk (hr.out.mono hle)
            replace h2 := Aside.mk (h2.out.mono hle)
            replace hT := Aside.mk (hT.out.mono hle)
            replace hF := Aside.mk (hF.out.mono hle)
            replace hrd0 := Aside.mk (hrd0.out.mono hle)
            replace hra := Aside.mk (hra.out.mono hle)
            replace Br := Aside.mk (Br.out.mono hle)
            replace nz := Aside.mk (fun o => (hold _ o (by omega)).trans (nz.out o))
            replace hx := Aside.mk hx2
            replace Be := Aside.mk Be
            clear hle hold hx2 ke ne
            have hwx := hx.out.size
            have HS2 := Aside.mk (fun w' (hb : Sat w' H1) => show w'.cell? ⟨w.heap.size, 2, none⟩ = some (.slice (some ⟨b, off, none⟩) args.length c2) from (by have q := at6 hb Br.out; simp only [Nat.add_zero, Nat.zero_add] at q; exact q.2.2.1))
            have hbase0 : w.heap.size + 1 + 1 ≤ W7.heap.size := boxL kz.out
            have hlt48 : ((args.take k).length + 0) * 80 ≤ 140737488355328 := by rw [HA.out.2.2.1]; omega
            have hby1 : Aside ((([] : List Re).length + (args.take k).length) * 80 ≤ 140737488355328 ∧ ([] : List Re).length + (args.take k).length ≤ maxLen) := ⟨by rw [HA.out.2.2.1]; simp; omega, by rw [HA.out.2.2.1]; unfold maxLen; simp; omega⟩
            have hby2 : Aside ((([] ++ args.take k : List Re).length + (args.drop (k + 1)).length) * 80 ≤ 140737488355328 ∧ ([] ++ args.take k : List Re).length + (args.drop (k + 1)).length ≤ maxLen) := ⟨by rw [List.nil_append, HA.out.2.2.1, HA.out.2.2.2.1]; omega, by rw [List.nil_append, HA.out.2.2.1, HA.out.2.2.2.1]; unfold maxLen; omega⟩
            clear hlt48
            have hlit := Aside.mk (Own.lit (k := kRe) (e := 25) (xs := []) (base := W7.heap.size) hx.out.sat.drew #[] (Nat.le_refl _) rfl (by unfold maxLen; simp))
            go_region_held3 (fun w' => w'.cell? ⟨w.heap.size, 2, none⟩ = some (.slice (some ⟨b, off, none⟩) args.length c2))
              (first | exact HS2.out _ hx.out.sat | exact HS2.out _ hx.out.sat.drew | exact HS2.out _ (hx.out.sat.drew.alloc _) | exact HS2.out _ (hx.out.sat.alloc _).drew | exact HS2.out _ hs8 | exact HS2.out _ hs9)
              ((first
              | (have _t := ho8; go_must (refine step_appS kRe (by rfl) (.tmp 24) (.tmp 29) 23 (by rfl) 25 Try.underlying23 info25 rfl ho8 hs8 hF.out (by rfl) (by rfl) hby2.out.1 hby2.out.2 (by have := hg8.size; simp at this; omega) ?_); intro v9 w9 ho9 hg9 hs9 hn9)
              | (go_must (refine step_appS kRe (by rfl) (.tmp 19) (.tmp 23) 23 (by rfl) 25 Try.underlying23 info25 rfl hlit.out (hx.out.sat.drew.alloc _) hT.out (by rfl) (by rfl) hby1.out.1 hby1.out.2 (by simp) ?_); intro v8 w8 ho8 hg8 hs8 hn8)))
            have hb8 : Below W7.heap.size W7 w8 := (bD (bA (Below.refl _ _) _)).grown hg8 (bD (bA (Below.refl _ _) _)).size (fun b hb => by simp [Value.ownBlock] at hb; omega)
            have hb9 : Below W7.heap.size W7 w9 := hb8.grown hg9 hb8.size (fun b hb => (ho8.blk hb).1)
            simp only [List.nil_append] at ho9
            obtain ⟨A9, c9, e9, -, -, -, -⟩ := ho9.form
            generalize (args.take k ++ args.drop (k + 1)).length = l9 at e9
            subst e9
            clear hlit ho8 hg8 hs8 hn8 hg9 hs9 hn9 hb8 hby2 HS2
            replace kz := Aside.mk (box_below kz.out hb9)
            replace hx := Aside.mk (hx.out.then_below hb9)
            clear hb9
            replace ho9 := Aside.mk ho9
            have lqz : w.heap.size + 1 < w9.heap.size := boxL kz.out
            obtain ⟨⟨cz0, cz1, cz2, cz3, cz4, cz5⟩, fz0, fz1, fz2, fz3, fz4, fz5⟩ := kb6 kz.out
            have lqr : w.heap.size < w9.heap.size := hx.out.sat.lt (Br.out 0 _ rfl)
            obtain ⟨cr0, cr1, cr2, cr3, cr4, cr5⟩ := hb6 hx.out.sat Br.out
            have lqe : wo.heap.size < w9.heap.size := hx.out.sat.lt (Be.out 0 _ rfl)
            obtain ⟨ce0, ce1, ce2, ce3, ce4, ce5⟩ := hb6 hx.out.sat Be.out
            go_wp2_with fail
            clear lqz cz0 cz1 cz2 cz3 cz4 cz5 fz0 fz1 fz2 fz3 fz4 fz5 lqr cr0 cr1 cr2 cr3 cr4 cr5 lqe ce0 ce1 ce2 ce3 ce4 ce5
            go_loopw [8, 83] (fun s8 i wr => ∃ (j : Nat) (B : Bool) (Hq : PH), j ≤ k ∧ i = .int .i64 j ∧ s8 = .bool B ∧ Aside (B = true ↔ Re.mk 1 s1 a1 u1 v1 g1 ∈ (args.take k).take j) ∧ Aside (Ext H Hq w wr) ∧ Aside (RdRe Hq (Re.mk 7 s args mn mx ng) [.int .i64 7, .slice A1 s.length c1, .slice (some ⟨b, off, none⟩) args.length c2, .int .i64 mn, .int .i64 mx, .bool ng]) ∧ Aside (SlR kRe Hq (some ⟨b, off, none⟩) args.length c2 args) ∧ Aside (SlR kRe Hq (some ⟨b, off, none⟩) k c2 (args.take k)) ∧ Aside (SlR kRe Hq QA (args.length - (k + 1)) (c2 - (k + 1)) (args.drop (k + 1))) ∧ Aside (RdRe Hq (Re.mk 1 s1 a1 u1 v1 g1) [.int .i64 1, .slice P1 s1.length d1, .slice P2 a1.length d2, .int .i64 u1, .int .i64 v1, .bool g1]) ∧ Aside (SlR kRe Hq P2 a1.length d2 a1) ∧ Aside (BoxH Hq (w.heap.size) [.int .i64 7, .slice A1 s.length c1, .slice (some ⟨b, off, none⟩) args.length c2, .int .i64 mn, .int .i64 mx, .bool ng]) ∧ Aside (BoxH Hq (wo.heap.size) [.int .i64 1, .slice P1 s1.length d1, .slice P2 a1.length d2, .int .i64 u1, .int .i64 v1, .bool g1]) ∧ Aside (wr.heap[w.heap.size + 1]? = some (.cells #[.int .i64 0, .slice none 0 0, .slice none 0 0, .int .i64 0, .int .i64 0, .bool false] 25)) ∧ Aside (∀ o, Hq (w.heap.size + 1) o = none) ∧ Aside (Own kRe 25 wr (W7.heap.size) Hq (.slice A9 l9 c9) (args.take k ++ args.drop (k + 1)))) (fun _ i _ => k - (intOf i).toNat)
            case atStart => exact ⟨0, false, _, by omega, rfl, rfl, ⟨by simp⟩, hx, hr, h2, hT, hF, hrd0, hra, Br, Be, kz, nz, ⟨by simpa using ho9.out⟩⟩
            case round =>
              clear hx hr h2 hT hF hrd0 hra Br Be kz nz ho9
              obtain ⟨j, B, Hq, hj, rfl, rfl, hB, hx, hr, h2, hT, hF, hrd0, hra, Br, Be, kz, nz, ho9⟩ := hrel
              by_cases hjk : j < k
              case pos =>
                have hjl : j < (args.take k).length := by rw [HA.out.2.2.1]; exact hjk
                obtain ⟨b', off', k4, s4, a4, u4, v4, g4, R1, r1, R2, r2, e0, q9, hrd2, z0, z1, z2, z3, z4, z5⟩ := cell_elem hT.out hx.out.sat j hjl
                simp only [Option.some.injEq, Addr.mk.injEq, and_true] at e0
                obtain ⟨rfl, rfl⟩ := e0
                have htj : (args.take k).take (j + 1) = (args.take k).take j ++ [(args.take k)[j]] := List.take_succ_eq_append_getElem hjl
                rw [q9] at htj
                replace htj := Aside.mk htj
                replace hrd2 := Aside.mk hrd2
                clear q9 hjl
                have hjk2 := Aside.mk hjk
                have hbzq : b < wr.heap.size := World.block_lt_of_cell? wr _ z0
                cases B
                case true =>
                  have lqz : w.heap.size + 1 < wr.heap.size := boxL kz.out
                  obtain ⟨⟨cz0, cz1, cz2, cz3, cz4, cz5⟩, fz0, fz1, fz2, fz3, fz4, fz5⟩ := kb6 kz.out
                  have lqr : w.heap.size < wr.heap.size := hx.out.sat.lt (Br.out 0 _ rfl)
                  obtain ⟨cr0, cr1, cr2, cr3, cr4, cr5⟩ := hb6 hx.out.sat Br.out
                  have lqe : wo.heap.size < wr.heap.size := hx.out.sat.lt (Be.out 0 _ rfl)
                  obtain ⟨ce0, ce1, ce2, ce3, ce4, ce5⟩ := hb6 hx.out.sat Be.out
                  go_wp2_with fail
                  clear lqz cz0 cz1 cz2 cz3 cz4 cz5 fz0 fz1 fz2 fz3 fz4 fz5 lqr cr0 cr1 cr2 cr3 cr4 cr5 lqe ce0 ce1 ce2 ce3 ce4 ce5 z0 z1 z2 z3 z4 z5
                  have kz_ : (wr.alloc (.cells #[.int .i64 k4, .slice R1 s4.length r1, .slice R2 a4.length r2, .int .i64 u4, .int .i64 v4, .bool g4] 25)).heap[w.heap.size + 1]? = some (.cells #[.int .i64 0, .slice none 0 0, .slice none 0 0, .int .i64 0, .int .i64 0, .bool false] 25) := (boxA kz.out (.cells #[.int .i64 k4, .slice R1 s4.length r1, .slice R2 a4.length r2, .int .i64 u4, .int .i64 v4, .bool g4] 25))
                  replace ho9 := Aside.mk (ho9.out.alloc (hx.out).sat (.cells #[.int .i64 k4, .slice R1 s4.length r1, .slice R2 a4.length r2, .int .i64 u4, .int .i64 v4, .bool g4] 25))
                  replace hx := Aside.mk ((hx.out.alloc (.cells #[.int .i64 k4, .slice R1 s4.length r1, .slice R2 a4.length r2, .int .i64 u4, .int .i64 v4, .bool g4] 25)))
                  generalize (wr.alloc (.cells #[.int .i64 k4, .slice R1 s4.length r1, .slice R2 a4.length r2, .int .i64 u4, .int .i64 v4, .bool g4] 25)) = W8 at *
                  replace kz := Aside.mk kz_
                  clear kz_
                  go_roundw
                  case rel => exact ⟨j + 1, true, _, hjk2.out, by go_num, rfl, ⟨iff_of_true rfl (by rw [htj.out]; exact List.mem_append_left _ (hB.out.1 rfl))⟩, hx, hr, h2, hT, hF, hrd0, hra, Br, Be, kz, nz, ho9⟩
                  case measure => (have := hjk2.out; simp [intOf]; omega)
                case false =>
                  have lqz : w.heap.size + 1 < wr.heap.size := boxL kz.out
                  obtain ⟨⟨cz0, cz1, cz2, cz3, cz4, cz5⟩, fz0, fz1, fz2, fz3, fz4, fz5⟩ := kb6 kz.out
                  have lqr : w.heap.size < wr.heap.size := hx.out.sat.lt (Br.out 0 _ rfl)
                  obtain ⟨cr0, cr1, cr2, cr3, cr4, cr5⟩ := hb6 hx.out.sat Br.out
                  have lqe : wo.heap.size < wr.heap.size := hx.out.sat.lt (Be.out 0 _ rfl)
                  obtain ⟨ce0, ce1, ce2, ce3, ce4, ce5⟩ := hb6 hx.out.sat Be.out
                  go_wp2_with fail
                  clear lqz cz0 cz1 cz2 cz3 cz4 cz5 fz0 fz1 fz2 fz3 fz4 fz5 lqr cr0 cr1 cr2 cr3 cr4 cr5 lqe ce0 ce1 ce2 ce3 ce4 ce5 z0 z1 z2 z3 z4 z5
                  have kz_ : (wr.alloc (.cells #[.int .i64 k4, .slice R1 s4.length r1, .slice R2 a4.length r2, .int .i64 u4, .int .i64 v4, .bool g4] 25)).heap[w.heap.size + 1]? = some (.cells #[.int .i64 0, .slice none 0 0, .slice none 0 0, .int .i64 0, .int .i64 0, .bool false] 25) := (boxA kz.out (.cells #[.int .i64 k4, .slice R1 s4.length r1, .slice R2 a4.length r2, .int .i64 u4, .int .i64 v4, .bool g4] 25))
                  replace ho9 := Aside.mk (ho9.out.alloc (hx.out).sat (.cells #[.int .i64 k4, .slice R1 s4.length r1, .slice R2 a4.length r2, .int .i64 u4, .int .i64 v4, .bool g4] 25))
                  replace hx := Aside.mk ((hx.out.alloc (.cells #[.int .i64 k4, .slice R1 s4.length r1, .slice R2 a4.length r2, .int .i64 u4, .int .i64 v4, .bool g4] 25)))
                  generalize (wr.alloc (.cells #[.int .i64 k4, .slice R1 s4.length r1, .slice R2 a4.length r2, .int .i64 u4, .int .i64 v4, .bool g4] 25)) = W9 at *
                  replace kz := Aside.mk kz_
                  clear kz_
                  refine (reEq_any (Re.mk 1 s1 a1 u1 v1 g1) _ (Re.mk k4 s4 a4 u4 v4 g4) _ _ _ hrd0.out hrd2.out hx.out.sat).mono ?_
                  rintro e w21 ⟨he, hb21⟩
                  replace kz := Aside.mk (box_below kz.out hb21)
                  replace ho9 := Aside.mk (ho9.out.below hx.out.sat hb21)
                  replace hx := Aside.mk (hx.out.then_below hb21)
                  clear hb21
                  clear hrd2
                  by_cases hqe : Re.mk 1 s1 a1 u1 v1 g1 = Re.mk k4 s4 a4 u4 v4 g4
                  case pos =>
                    obtain rfl : e = .returned (.bool true) := he.trans (retT hqe)
                    replace hqe := Aside.mk hqe
                    have lqz : w.heap.size + 1 < w21.heap.size := boxL kz.out
                    obtain ⟨⟨cz0, cz1, cz2, cz3, cz4, cz5⟩, fz0, fz1, fz2, fz3, fz4, fz5⟩ := kb6 kz.out
                    have lqr : w.heap.size < w21.heap.size := hx.out.sat.lt (Br.out 0 _ rfl)
                    obtain ⟨cr0, cr1, cr2, cr3, cr4, cr5⟩ := hb6 hx.out.sat Br.out
                    have lqe : wo.heap.size < w21.heap.size := hx.out.sat.lt (Be.out 0 _ rfl)
                    obtain ⟨ce0, ce1, ce2, ce3, ce4, ce5⟩ := hb6 hx.out.sat Be.out
                    go_wp2_with fail
                    clear lqz cz0 cz1 cz2 cz3 cz4 cz5 fz0 fz1 fz2 fz3 fz4 fz5 lqr cr0 cr1 cr2 cr3 cr4 cr5 lqe ce0 ce1 ce2 ce3 ce4 ce5
                    go_roundw
                    case rel => exact ⟨j + 1, true, _, hjk2.out, by go_num, rfl, ⟨iff_of_true rfl (by rw [htj.out, hqe.out]; simp)⟩, hx, hr, h2, hT, hF, hrd0, hra, Br, Be, kz, nz, ho9⟩
                    case measure => (have := hjk2.out; simp [intOf]; omega)
                  case neg =>
                    obtain rfl : e = .returned (.bool false) := he.trans (retF hqe)
                    replace hqe := Aside.mk hqe
                    have lqz : w.heap.size + 1 < w21.heap.size := boxL kz.out
                    obtain ⟨⟨cz0, cz1, cz2, cz3, cz4, cz5⟩, fz0, fz1, fz2, fz3, fz4, fz5⟩ := kb6 kz.out
                    have lqr : w.heap.size < w21.heap.size := hx.out.sat.lt (Br.out 0 _ rfl)
                    obtain ⟨cr0, cr1, cr2, cr3, cr4, cr5⟩ := hb6 hx.out.sat Br.out
                    have lqe : wo.heap.size < w21.heap.size := hx.out.sat.lt (Be.out 0 _ rfl)
                    obtain ⟨ce0, ce1, ce2, ce3, ce4, ce5⟩ := hb6 hx.out.sat Be.out
                    go_wp2_with fail
                    clear lqz cz0 cz1 cz2 cz3 cz4 cz5 fz0 fz1 fz2 fz3 fz4 fz5 lqr cr0 cr1 cr2 cr3 cr4 cr5 lqe ce0 ce1 ce2 ce3 ce4 ce5
                    go_roundw
                    case rel => exact ⟨j + 1, false, _, hjk2.out, by go_num, rfl, ⟨iff_of_false (by simp) (by rw [htj.out]; intro hm; rcases List.mem_append.1 hm with hm | hm; exact absurd (hB.out.2 hm) (by simp); exact hqe.out (List.mem_singleton.1 hm))⟩, hx, hr, h2, hT, hF, hrd0, hra, Br, Be, kz, nz, ho9⟩
                    case measure => (have := hjk2.out; simp [intOf]; omega)
              case neg =>
                obtain rfl : j = k := by omega
                have hB2 : B = true ↔ Re.mk 1 s1 a1 u1 v1 g1 ∈ args.take j := by have h9 := hB.out; rw [List.take_take, Nat.min_self] at h9; exact h9
                replace hB := Aside.mk hB2
                clear hB2
                cases B
                case true =>
                  have hin := hB.out.1 rfl
                  replace hin := Aside.mk hin
                  have HR := Aside.mk (show manyF 7 args = some (leftF 7 (args.take j ++ args.drop (j + 1))) from by unfold manyF; rw [hM.out, HA.out.1]; simp [Re.kind, Re.args, hin.out])
                  obtain ⟨H31, hx31, hle31, ⟨A30, c30, e30, hs30⟩, hold31⟩ := ho9.out.freezeE hx.out (by omega) (by rw [List.length_append, HA.out.2.2.1, HA.out.2.2.2.1]; omega)
                  simp only [List.cons.injEq, Value.slice.injEq, and_true] at e30
                  obtain ⟨rfl, e31, rfl⟩ := e30
                  rw [← e31] at hs30
                  replace Br := Aside.mk (Br.out.mono hle31)
                  replace nz := Aside.mk (fun o => (hold31 _ o (fun e => by have h1 := (ho9.out.blk e).1; omega)).trans (nz.out o))
                  replace hx := Aside.mk hx31
                  replace hs30 := Aside.mk hs30
                  clear e31 ho9 hold31 hle31 hx31 hr h2 hT hF hrd0 hra Be
                  have lqz : w.heap.size + 1 < wr.heap.size := boxL kz.out
                  obtain ⟨⟨cz0, cz1, cz2, cz3, cz4, cz5⟩, fz0, fz1, fz2, fz3, fz4, fz5⟩ := kb6 kz.out
                  have lqr : w.heap.size < wr.heap.size := hx.out.sat.lt (Br.out 0 _ rfl)
                  obtain ⟨cr0, cr1, cr2, cr3, cr4, cr5⟩ := hb6 hx.out.sat Br.out
                  go_wp2_with fail
                  clear lqz cz0 cz1 cz2 cz3 cz4 cz5 fz0 fz1 fz2 fz3 fz4 fz5 lqr cr0 cr1 cr2 cr3 cr4 cr5
                  refine (left_any _ 7 _ _ _ _ _ hs30.out hx.out.sat).mono ?_
                  rintro e w32 ⟨H32, cs32, rfl, hr32, hz32⟩
                  have hle := hz32.le
                  replace hs30 := Aside.mk (hs30.out.mono hle)
                  replace Br := Aside.mk (Br.out.mono hle)
                  replace nz := Aside.mk (fun o => (hz32.old _ o (boxL kz.out)).trans (nz.out o))
                  replace kz := Aside.mk (box_below kz.out hz32.below)
                  replace hx := Aside.mk (hx.out.trans hz32)
                  clear hle hz32
                  generalize leftF 7 (args.take j ++ args.drop (j + 1)) = lf at *
                  have hr33 := Aside.mk hr32
                  obtain ⟨k7, s7, a7, u7, v7, g7, rfl⟩ : ∃ a b c d e f, lf = Re.mk a b c d e f := (by cases lf; exact ⟨_, _, _, _, _, _, rfl⟩)
                  obtain ⟨Q1, q1_, Q2, q2_, rfl, -, -⟩ := hr32.open
                  clear hr32
                  have lqz : w.heap.size + 1 < w32.heap.size := boxL kz.out
                  obtain ⟨⟨cz0, cz1, cz2, cz3, cz4, cz5⟩, fz0, fz1, fz2, fz3, fz4, fz5⟩ := kb6 kz.out
                  have lqr : w.heap.size < w32.heap.size := hx.out.sat.lt (Br.out 0 _ rfl)
                  obtain ⟨cr0, cr1, cr2, cr3, cr4, cr5⟩ := hb6 hx.out.sat Br.out
                  go_wp2_with fail
                  clear lqz cz0 cz1 cz2 cz3 cz4 cz5 fz0 fz1 fz2 fz3 fz4 fz5 lqr cr0 cr1 cr2 cr3 cr4 cr5
                  have kz_ : ((((((w32.setCell ⟨w.heap.size + 1, 0, none⟩ (.int .i64 k7)).setCell ⟨w.heap.size + 1, 1, none⟩ (.slice Q1 s7.length q1_)).setCell ⟨w.heap.size + 1, 2, none⟩ (.slice Q2 a7.length q2_)).setCell ⟨w.heap.size + 1, 3, none⟩ (.int .i64 u7)).setCell ⟨w.heap.size + 1, 4, none⟩ (.int .i64 v7)).setCell ⟨w.heap.size + 1, 5, none⟩ (.bool g7)).heap[w.heap.size + 1]? = some (.cells #[.int .i64 k7, .slice Q1 s7.length q1_, .slice Q2 a7.length q2_, .int .i64 u7, .int .i64 v7, .bool g7] 25) := (boxS (boxS (boxS (boxS (boxS (boxS kz.out 0 (.int .i64 k7)) 1 (.slice Q1 s7.length q1_)) 2 (.slice Q2 a7.length q2_)) 3 (.int .i64 u7)) 4 (.int .i64 v7)) 5 (.bool g7))
                  replace hx := Aside.mk (((((((hx.out.setCell (b := w.heap.size + 1) (o := 0) (by first | omega | (simp; omega)) nz.out (.int .i64 k7)).setCell (b := w.heap.size + 1) (o := 1) (by first | omega | (simp; omega)) nz.out (.slice Q1 s7.length q1_)).setCell (b := w.heap.size + 1) (o := 2) (by first | omega | (simp; omega)) nz.out (.slice Q2 a7.length q2_)).setCell (b := w.heap.size + 1) (o := 3) (by first | omega | (simp; omega)) nz.out (.int .i64 u7)).setCell (b := w.heap.size + 1) (o := 4) (by first | omega | (simp; omega)) nz.out (.int .i64 v7)).setCell (b := w.heap.size + 1) (o := 5) (by first | omega | (simp; omega)) nz.out (.bool g7)))
                  generalize ((((((w32.setCell ⟨w.heap.size + 1, 0, none⟩ (.int .i64 k7)).setCell ⟨w.heap.size + 1, 1, none⟩ (.slice Q1 s7.length q1_)).setCell ⟨w.heap.size + 1, 2, none⟩ (.slice Q2 a7.length q2_)).setCell ⟨w.heap.size + 1, 3, none⟩ (.int .i64 u7)).setCell ⟨w.heap.size + 1, 4, none⟩ (.int .i64 v7)).setCell ⟨w.heap.size + 1, 5, none⟩ (.bool g7)) = W10 at *
                  replace kz := Aside.mk kz_
                  clear kz_
                  refine bodyPost_ret (resC2 rfl _ _ _ rfl (run_loadVar_row _ _ _ _ _ (0, 0) _ kz.out Try.underlying25 rfl (by kernel_rfl))) rfl ?_
                  rw [HR.out]
                  exact ⟨_, _, rfl, hr33.out, hx.out⟩
                case false =>
                  have hin : ¬ Re.mk 1 s1 a1 u1 v1 g1 ∈ args.take j := fun h => by have := hB.out.2 h; cases this
                  replace hin := Aside.mk hin
                  have hN : manyGo 7 [] args = manyGo 7 (args.take (j + 1)) (args.drop (j + 1)) := by rw [hM.out, HA.out.1]; simp [Re.kind, hin.out]
                  replace hM := Aside.mk hN
                  clear hN ho9
                  clear Be
                  clear hT hF hrd0 hra
                  have lqz : w.heap.size + 1 < wr.heap.size := boxL kz.out
                  obtain ⟨⟨cz0, cz1, cz2, cz3, cz4, cz5⟩, fz0, fz1, fz2, fz3, fz4, fz5⟩ := kb6 kz.out
                  have lqr : w.heap.size < wr.heap.size := hx.out.sat.lt (Br.out 0 _ rfl)
                  obtain ⟨cr0, cr1, cr2, cr3, cr4, cr5⟩ := hb6 hx.out.sat Br.out
                  go_wp2_with fail
                  clear lqz cz0 cz1 cz2 cz3 cz4 cz5 fz0 fz1 fz2 fz3 fz4 fz5 lqr cr0 cr1 cr2 cr3 cr4 cr5
                  go_roundw
                  case rel => exact ⟨j + 1, _, HA.out.2.2.2.2.2, by go_num, hM, hx, hr, h2, Br, kz, nz⟩
                  case measure => (have := HA.out.2.2.2.2.2; simp [intOf]; omega)
          case neg =>
            have q5b : (k1 == 1) = false := by simpa using q5
            have QB_ := Aside.mk q5
            clear q5
            have lqz : w.heap.size + 1 < wo.heap.size := boxL kz.out
            obtain ⟨⟨cz0, cz1, cz2, cz3, cz4, cz5⟩, fz0, fz1, fz2, fz3, fz4, fz5⟩ := kb6 kz.out
            have lqr : w.heap.size < wo.heap.size := hx.out.sat.lt (Br.out 0 _ rfl)
            obtain ⟨cr0, cr1, cr2, cr3, cr4, cr5⟩ := hb6 hx.out.sat Br.out
            go_wp2_with fail
            clear lqz cz0 cz1 cz2 cz3 cz4 cz5 fz0 fz1 fz2 fz3 fz4 fz5 lqr cr0 cr1 cr2 cr3 cr4 cr5 g0 g1_ g2 g3 g4 g5
            have hszwo := hx.out.size
            have habzwo := boxL kz.out
            have kz_ : (wo.alloc (.cells #[.int .i64 k1, .slice P1 s1.length d1, .slice P2 a1.length d2, .int .i64 u1, .int .i64 v1, .bool g1] 25)).heap[w.heap.size + 1]? = some (.cells #[.int .i64 0, .slice none 0 0, .slice none 0 0, .int .i64 0, .int .i64 0, .bool false] 25) := (boxA kz.out (.cells #[.int .i64 k1, .slice P1 s1.length d1, .slice P2 a1.length d2, .int .i64 u1, .int .i64 v1, .bool g1] 25))
            have ke_ : (wo.alloc (.cells #[.int .i64 k1, .slice P1 s1.length d1, .slice P2 a1.length d2, .int .i64 u1, .int .i64 v1, .bool g1] 25)).heap[wo.heap.size]? = some (.cells #[.int .i64 k1, .slice P1 s1.length d1, .slice P2 a1.length d2, .int .i64 u1, .int .i64 v1, .bool g1] 25) := (heap_alloc_new _ _)
            have ne := Aside.mk (fun o => hx.out.sat.new (b := wo.heap.size) (show wo.heap.size ≤ _ by omega) o)
            replace hx := Aside.mk ((hx.out.alloc (.cells #[.int .i64 k1, .slice P1 s1.length d1, .slice P2 a1.length d2, .int .i64 u1, .int .i64 v1, .bool g1] 25)))
            generalize (wo.alloc (.cells #[.int .i64 k1, .slice P1 s1.length d1, .slice P2 a1.length d2, .int .i64 u1, .int .i64 v1, .bool g1] 25)) = W11 at *
            replace kz := Aside.mk kz_
            clear kz_
            have ke := Aside.mk ke_
            clear ke_
            obtain ⟨H1, hx2, hle, Be, hold⟩ := box_freeze hx.out (by omega) ke.out ne.out
            replace hr := Aside.mk (hr.out.mono hle)
            replace h2 := Aside.mk (h2.out.mono hle)
            replace hT := Aside.mk (hT.out.mono hle)
            replace hF := Aside.mk (hF.out.mono hle)
            replace hrd0 := Aside.mk (hrd0.out.mono hle)
            replace hra := Aside.mk (hra.out.mono hle)
            replace Br := Aside.mk (Br.out.mono hle)
            replace nz := Aside.mk (fun o => (hold _ o (by omega)).trans (nz.out o))
            replace hx := Aside.mk hx2
            replace Be := Aside.mk Be
            clear hle hold hx2 ke ne
            have hwx := hx.out.size
            have HS2 := Aside.mk (fun w' (hb : Sat w' H1) => show w'.cell? ⟨w.heap.size, 2, none⟩ = some (.slice (some ⟨b, off, none⟩) args.length c2) from (by have q := at6 hb Br.out; simp only [Nat.add_zero, Nat.zero_add] at q; exact q.2.2.1))
            have hbase0 : w.heap.size + 1 + 1 ≤ W11.heap.size := boxL kz.out
            have hlt48 : ((args.take k).length + 0) * 80 ≤ 140737488355328 := by rw [HA.out.2.2.1]; omega
            have hby1 : Aside ((([] : List Re).length + (args.take k).length) * 80 ≤ 140737488355328 ∧ ([] : List Re).length + (args.take k).length ≤ maxLen) := ⟨by rw [HA.out.2.2.1]; simp; omega, by rw [HA.out.2.2.1]; unfold maxLen; simp; omega⟩
            have hby2 : Aside ((([] ++ args.take k : List Re).length + (args.drop (k + 1)).length) * 80 ≤ 140737488355328 ∧ ([] ++ args.take k : List Re).length + (args.drop (k + 1)).length ≤ maxLen) := ⟨by rw [List.nil_append, HA.out.2.2.1, HA.out.2.2.2.1]; omega, by rw [List.nil_append, HA.out.2.2.1, HA.out.2.2.2.1]; unfold maxLen; omega⟩
            clear hlt48
            have hlit := Aside.mk (Own.lit (k := kRe) (e := 25) (xs := []) (base := W11.heap.size) hx.out.sat.drew #[] (Nat.le_refl _) rfl (by unfold maxLen; simp))
            go_region_held3 (fun w' => w'.cell? ⟨w.heap.size, 2, none⟩ = some (.slice (some ⟨b, off, none⟩) args.length c2))
              (first | exact HS2.out _ hx.out.sat | exact HS2.out _ hx.out.sat.drew | exact HS2.out _ (hx.out.sat.drew.alloc _) | exact HS2.out _ (hx.out.sat.alloc _).drew | exact HS2.out _ hs8 | exact HS2.out _ hs9)
              ((first
              | (have _t := ho8; go_must (refine step_appS kRe (by rfl) (.tmp 24) (.tmp 29) 23 (by rfl) 25 Try.underlying23 info25 rfl ho8 hs8 hF.out (by rfl) (by rfl) hby2.out.1 hby2.out.2 (by have := hg8.size; simp at this; omega) ?_); intro v9 w9 ho9 hg9 hs9 hn9)
              | (go_must (refine step_appS kRe (by rfl) (.tmp 19) (.tmp 23) 23 (by rfl) 25 Try.underlying23 info25 rfl hlit.out (hx.out.sat.drew.alloc _) hT.out (by rfl) (by rfl) hby1.out.1 hby1.out.2 (by simp) ?_); intro v8 w8 ho8 hg8 hs8 hn8)))
            have hb8 : Below W11.heap.size W11 w8 := (bD (bA (Below.refl _ _) _)).grown hg8 (bD (bA (Below.refl _ _) _)).size (fun b hb => by simp [Value.ownBlock] at hb; omega)
            have hb9 : Below W11.heap.size W11 w9 := hb8.grown hg9 hb8.size (fun b hb => (ho8.blk hb).1)
            simp only [List.nil_append] at ho9
            obtain ⟨A9, c9, e9, -, -, -, -⟩ := ho9.form
            generalize (args.take k ++ args.drop (k + 1)).length = l9 at e9
            subst e9
            clear hlit ho8 hg8 hs8 hn8 hg9 hs9 hn9 hb8 hby2 HS2
            replace kz := Aside.mk (box_below kz.out hb9)
            replace hx := Aside.mk (hx.out.then_below hb9)
            clear hb9
            replace ho9 := Aside.mk ho9
            have lqz : w.heap.size + 1 < w9.heap.size := boxL kz.out
            obtain ⟨⟨cz0, cz1, cz2, cz3, cz4, cz5⟩, fz0, fz1, fz2, fz3, fz4, fz5⟩ := kb6 kz.out
            have lqr : w.heap.size < w9.heap.size := hx.out.sat.lt (Br.out 0 _ rfl)
            obtain ⟨cr0, cr1, cr2, cr3, cr4, cr5⟩ := hb6 hx.out.sat Br.out
            have lqe : wo.heap.size < w9.heap.size := hx.out.sat.lt (Be.out 0 _ rfl)
            obtain ⟨ce0, ce1, ce2, ce3, ce4, ce5⟩ := hb6 hx.out.sat Be.out
            go_wp2_with fail
            clear lqz cz0 cz1 cz2 cz3 cz4 cz5 fz0 fz1 fz2 fz3 fz4 fz5 lqr cr0 cr1 cr2 cr3 cr4 cr5 lqe ce0 ce1 ce2 ce3 ce4 ce5
            go_loopw [8, 83] (fun s8 i wr => ∃ (j : Nat) (B : Bool) (Hq : PH), j ≤ k ∧ i = .int .i64 j ∧ s8 = .bool B ∧ Aside (B = true ↔ Re.mk k1 s1 a1 u1 v1 g1 ∈ (args.take k).take j) ∧ Aside (Ext H Hq w wr) ∧ Aside (RdRe Hq (Re.mk 7 s args mn mx ng) [.int .i64 7, .slice A1 s.length c1, .slice (some ⟨b, off, none⟩) args.length c2, .int .i64 mn, .int .i64 mx, .bool ng]) ∧ Aside (SlR kRe Hq (some ⟨b, off, none⟩) args.length c2 args) ∧ Aside (SlR kRe Hq (some ⟨b, off, none⟩) k c2 (args.take k)) ∧ Aside (SlR kRe Hq QA (args.length - (k + 1)) (c2 - (k + 1)) (args.drop (k + 1))) ∧ Aside (RdRe Hq (Re.mk k1 s1 a1 u1 v1 g1) [.int .i64 k1, .slice P1 s1.length d1, .slice P2 a1.length d2, .int .i64 u1, .int .i64 v1, .bool g1]) ∧ Aside (SlR kRe Hq P2 a1.length d2 a1) ∧ Aside (BoxH Hq (w.heap.size) [.int .i64 7, .slice A1 s.length c1, .slice (some ⟨b, off, none⟩) args.length c2, .int .i64 mn, .int .i64 mx, .bool ng]) ∧ Aside (BoxH Hq (wo.heap.size) [.int .i64 k1, .slice P1 s1.length d1, .slice P2 a1.length d2, .int .i64 u1, .int .i64 v1, .bool g1]) ∧ Aside (wr.heap[w.heap.size + 1]? = some (.cells #[.int .i64 0, .slice none 0 0, .slice none 0 0, .int .i64 0, .int .i64 0, .bool false] 25)) ∧ Aside (∀ o, Hq (w.heap.size + 1) o = none) ∧ Aside (Own kRe 25 wr (W11.heap.size) Hq (.slice A9 l9 c9) (args.take k ++ args.drop (k + 1)))) (fun _ i _ => k - (intOf i).toNat)
            case atStart => exact ⟨0, false, _, by omega, rfl, rfl, ⟨by simp⟩, hx, hr, h2, hT, hF, hrd0, hra, Br, Be, kz, nz, ⟨by simpa using ho9.out⟩⟩
            case round =>
              clear hx hr h2 hT hF hrd0 hra Br Be kz nz ho9
              obtain ⟨j, B, Hq, hj, rfl, rfl, hB, hx, hr, h2, hT, hF, hrd0, hra, Br, Be, kz, nz, ho9⟩ := hrel
              by_cases hjk : j < k
              case pos =>
                have hjl : j < (args.take k).length := by rw [HA.out.2.2.1]; exact hjk
                obtain ⟨b', off', k4, s4, a4, u4, v4, g4, R1, r1, R2, r2, e0, q9, hrd2, z0, z1, z2, z3, z4, z5⟩ := cell_elem hT.out hx.out.sat j hjl
                simp only [Option.some.injEq, Addr.mk.injEq, and_true] at e0
                obtain ⟨rfl, rfl⟩ := e0
                have htj : (args.take k).take (j + 1) = (args.take k).take j ++ [(args.take k)[j]] := List.take_succ_eq_append_getElem hjl
                rw [q9] at htj
                replace htj := Aside.mk htj
                replace hrd2 := Aside.mk hrd2
                clear q9 hjl
                have hjk2 := Aside.mk hjk
                have hbzq : b < wr.heap.size := World.block_lt_of_cell? wr _ z0
                cases B
                case true =>
                  have lqz : w.heap.size + 1 < wr.heap.size := boxL kz.out
                  obtain ⟨⟨cz0, cz1, cz2, cz3, cz4, cz5⟩, fz0, fz1, fz2, fz3, fz4, fz5⟩ := kb6 kz.out
                  have lqr : w.heap.size < wr.heap.size := hx.out.sat.lt (Br.out 0 _ rfl)
                  obtain ⟨cr0, cr1, cr2, cr3, cr4, cr5⟩ := hb6 hx.out.sat Br.out
                  have lqe : wo.heap.size < wr.heap.size := hx.out.sat.lt (Be.out 0 _ rfl)
                  obtain ⟨ce0, ce1, ce2, ce3, ce4, ce5⟩ := hb6 hx.out.sat Be.out
                  go_wp2_with fail
                  clear lqz cz0 cz1 cz2 cz3 cz4 cz5 fz0 fz1 fz2 fz3 fz4 fz5 lqr cr0 cr1 cr2 cr3 cr4 cr5 lqe ce0 ce1 ce2 ce3 ce4 ce5 z0 z1 z2 z3 z4 z5
                  have kz_ : (wr.alloc (.cells #[.int .i64 k4, .slice R1 s4.length r1, .slice R2 a4.length r2, .int .i64 u4, .int .i64 v4, .bool g4] 25)).heap[w.heap.size + 1]? = some (.cells #[.int .i64 0, .slice none 0 0, .slice none 0 0, .int .i64 0, .int .i64 0, .bool false] 25) := (boxA kz.out (.cells #[.int .i64 k4, .slice R1 s4.length r1, .slice R2 a4.length r2, .int .i64 u4, .int .i64 v4, .bool g4] 25))
                  replace ho9 := Aside.mk (ho9.out.alloc (hx.out).sat (.cells #[.int .i64 k4, .slice R1 s4.length r1, .slice R2 a4.length r2, .int .i64 u4, .int .i64 v4, .bool g4] 25))
                  replace hx := Aside.mk ((hx.out.alloc (.cells #[.int .i64 k4, .slice R1 s4.length r1, .slice R2 a4.length r2, .int .i64 u4, .int .i64 v4, .bool g4] 25)))
                  generalize (wr.alloc (.cells #[.int .i64 k4, .slice R1 s4.length r1, .slice R2 a4.length r2, .int .i64 u4, .int .i64 v4, .bool g4] 25)) = W12 at *
                  replace kz := Aside.mk kz_
                  clear kz_
                  go_roundw
                  case rel => exact ⟨j + 1, true, _, hjk2.out, by go_num, rfl, ⟨iff_of_true rfl (by rw [htj.out]; exact List.mem_append_left _ (hB.out.1 rfl))⟩, hx, hr, h2, hT, hF, hrd0, hra, Br, Be, kz, nz, ho9⟩
                  case measure => (have := hjk2.out; simp [intOf]; omega)
                case false =>
                  have lqz : w.heap.size + 1 < wr.heap.size := boxL kz.out
                  obtain ⟨⟨cz0, cz1, cz2, cz3, cz4, cz5⟩, fz0, fz1, fz2, fz3, fz4, fz5⟩ := kb6 kz.out
                  have lqr : w.heap.size < wr.heap.size := hx.out.sat.lt (Br.out 0 _ rfl)
                  obtain ⟨cr0, cr1, cr2, cr3, cr4, cr5⟩ := hb6 hx.out.sat Br.out
                  have lqe : wo.heap.size < wr.heap.size := hx.out.sat.lt (Be.out 0 _ rfl)
                  obtain ⟨ce0, ce1, ce2, ce3, ce4, ce5⟩ := hb6 hx.out.sat Be.out
                  go_wp2_with fail
                  clear lqz cz0 cz1 cz2 cz3 cz4 cz5 fz0 fz1 fz2 fz3 fz4 fz5 lqr cr0 cr1 cr2 cr3 cr4 cr5 lqe ce0 ce1 ce2 ce3 ce4 ce5 z0 z1 z2 z3 z4 z5
                  have kz_ : (wr.alloc (.cells #[.int .i64 k4, .slice R1 s4.length r1, .slice R2 a4.length r2, .int .i64 u4, .int .i64 v4, .bool g4] 25)).heap[w.heap.size + 1]? = some (.cells #[.int .i64 0, .slice none 0 0, .slice none 0 0, .int .i64 0, .int .i64 0, .bool false] 25) := (boxA kz.out (.cells #[.int .i64 k4, .slice R1 s4.length r1, .slice R2 a4.length r2, .int .i64 u4, .int .i64 v4, .bool g4] 25))
                  replace ho9 := Aside.mk (ho9.out.alloc (hx.out).sat (.cells #[.int .i64 k4, .slice R1 s4.length r1, .slice R2 a4.length r2, .int .i64 u4, .int .i64 v4, .bool g4] 25))
                  replace hx := Aside.mk ((hx.out.alloc (.cells #[.int .i64 k4, .slice R1 s4.length r1, .slice R2 a4.length r2, .int .i64 u4, .int .i64 v4, .bool g4] 25)))
                  generalize (wr.alloc (.cells #[.int .i64 k4, .slice R1 s4.length r1, .slice R2 a4.length r2, .int .i64 u4, .int .i64 v4, .bool g4] 25)) = W13 at *
                  replace kz := Aside.mk kz_
                  clear kz_
                  refine (reEq_any (Re.mk k1 s1 a1 u1 v1 g1) _ (Re.mk k4 s4 a4 u4 v4 g4) _ _ _ hrd0.out hrd2.out hx.out.sat).mono ?_
                  rintro e w21 ⟨he, hb21⟩
                  replace kz := Aside.mk (box_below kz.out hb21)
                  replace ho9 := Aside.mk (ho9.out.below hx.out.sat hb21)
                  replace hx := Aside.mk (hx.out.then_below hb21)
                  clear hb21
                  clear hrd2
                  by_cases hqe : Re.mk k1 s1 a1 u1 v1 g1 = Re.mk k4 s4 a4 u4 v4 g4
                  case pos =>
                    obtain rfl : e = .returned (.bool true) := he.trans (retT hqe)
                    replace hqe := Aside.mk hqe
                    have lqz : w.heap.size + 1 < w21.heap.size := boxL kz.out
                    obtain ⟨⟨cz0, cz1, cz2, cz3, cz4, cz5⟩, fz0, fz1, fz2, fz3, fz4, fz5⟩ := kb6 kz.out
                    have lqr : w.heap.size < w21.heap.size := hx.out.sat.lt (Br.out 0 _ rfl)
                    obtain ⟨cr0, cr1, cr2, cr3, cr4, cr5⟩ := hb6 hx.out.sat Br.out
                    have lqe : wo.heap.size < w21.heap.size := hx.out.sat.lt (Be.out 0 _ rfl)
                    obtain ⟨ce0, ce1, ce2, ce3, ce4, ce5⟩ := hb6 hx.out.sat Be.out
                    go_wp2_with fail
                    clear lqz cz0 cz1 cz2 cz3 cz4 cz5 fz0 fz1 fz2 fz3 fz4 fz5 lqr cr0 cr1 cr2 cr3 cr4 cr5 lqe ce0 ce1 ce2 ce3 ce4 ce5
                    go_roundw
                    case rel => exact ⟨j + 1, true, _, hjk2.out, by go_num, rfl, ⟨iff_of_true rfl (by rw [htj.out, hqe.out]; simp)⟩, hx, hr, h2, hT, hF, hrd0, hra, Br, Be, kz, nz, ho9⟩
                    case measure => (have := hjk2.out; simp [intOf]; omega)
                  case neg =>
                    obtain rfl : e = .returned (.bool false) := he.trans (retF hqe)
                    replace hqe := Aside.mk hqe
                    have lqz : w.heap.size + 1 < w21.heap.size := boxL kz.out
                    obtain ⟨⟨cz0, cz1, cz2, cz3, cz4, cz5⟩, fz0, fz1, fz2, fz3, fz4, fz5⟩ := kb6 kz.out
                    have lqr : w.heap.size < w21.heap.size := hx.out.sat.lt (Br.out 0 _ rfl)
                    obtain ⟨cr0, cr1, cr2, cr3, cr4, cr5⟩ := hb6 hx.out.sat Br.out
                    have lqe : wo.heap.size < w21.heap.size := hx.out.sat.lt (Be.out 0 _ rfl)
                    obtain ⟨ce0, ce1, ce2, ce3, ce4, ce5⟩ := hb6 hx.out.sat Be.out
                    go_wp2_with fail
                    clear lqz cz0 cz1 cz2 cz3 cz4 cz5 fz0 fz1 fz2 fz3 fz4 fz5 lqr cr0 cr1 cr2 cr3 cr4 cr5 lqe ce0 ce1 ce2 ce3 ce4 ce5
                    go_roundw
                    case rel => exact ⟨j + 1, false, _, hjk2.out, by go_num, rfl, ⟨iff_of_false (by simp) (by rw [htj.out]; intro hm; rcases List.mem_append.1 hm with hm | hm; exact absurd (hB.out.2 hm) (by simp); exact hqe.out (List.mem_singleton.1 hm))⟩, hx, hr, h2, hT, hF, hrd0, hra, Br, Be, kz, nz, ho9⟩
                    case measure => (have := hjk2.out; simp [intOf]; omega)
              case neg =>
                obtain rfl : j = k := by omega
                have hB2 : B = true ↔ Re.mk k1 s1 a1 u1 v1 g1 ∈ args.take j := by have h9 := hB.out; rw [List.take_take, Nat.min_self] at h9; exact h9
                replace hB := Aside.mk hB2
                clear hB2
                cases B
                case true =>
                  have hin := hB.out.1 rfl
                  replace hin := Aside.mk hin
                  have HR := Aside.mk (show manyF 7 args = some (leftF 7 (args.take j ++ args.drop (j + 1))) from by unfold manyF; rw [hM.out, HA.out.1]; simp [Re.kind, Re.args, QA_.out.1, QA_.out.2, QB_.out, hin.out])
                  obtain ⟨H31, hx31, hle31, ⟨A30, c30, e30, hs30⟩, hold31⟩ := ho9.out.freezeE hx.out (by omega) (by rw [List.length_append, HA.out.2.2.1, HA.out.2.2.2.1]; omega)
                  simp only [List.cons.injEq, Value.slice.injEq, and_true] at e30
                  obtain ⟨rfl, e31, rfl⟩ := e30
                  rw [← e31] at hs30
                  replace Br := Aside.mk (Br.out.mono hle31)
                  replace nz := Aside.mk (fun o => (hold31 _ o (fun e => by have h1 := (ho9.out.blk e).1; omega)).trans (nz.out o))
                  replace hx := Aside.mk hx31
                  replace hs30 := Aside.mk hs30
                  clear e31 ho9 hold31 hle31 hx31 hr h2 hT hF hrd0 hra Be
                  have lqz : w.heap.size + 1 < wr.heap.size := boxL kz.out
                  obtain ⟨⟨cz0, cz1, cz2, cz3, cz4, cz5⟩, fz0, fz1, fz2, fz3, fz4, fz5⟩ := kb6 kz.out
                  have lqr : w.heap.size < wr.heap.size := hx.out.sat.lt (Br.out 0 _ rfl)
                  obtain ⟨cr0, cr1, cr2, cr3, cr4, cr5⟩ := hb6 hx.out.sat Br.out
                  go_wp2_with fail
                  clear lqz cz0 cz1 cz2 cz3 cz4 cz5 fz0 fz1 fz2 fz3 fz4 fz5 lqr cr0 cr1 cr2 cr3 cr4 cr5
                  refine (left_any _ 7 _ _ _ _ _ hs30.out hx.out.sat).mono ?_
                  rintro e w32 ⟨H32, cs32, rfl, hr32, hz32⟩
                  have hle := hz32.le
                  replace hs30 := Aside.mk (hs30.out.mono hle)
                  replace Br := Aside.mk (Br.out.mono hle)
                  replace nz := Aside.mk (fun o => (hz32.old _ o (boxL kz.out)).trans (nz.out o))
                  replace kz := Aside.mk (box_below kz.out hz32.below)
                  replace hx := Aside.mk (hx.out.trans hz32)
                  clear hle hz32
                  generalize leftF 7 (args.take j ++ args.drop (j + 1)) = lf at *
                  have hr33 := Aside.mk hr32
                  obtain ⟨k7, s7, a7, u7, v7, g7, rfl⟩ : ∃ a b c d e f, lf = Re.mk a b c d e f := (by cases lf; exact ⟨_, _, _, _, _, _, rfl⟩)
                  obtain ⟨Q1, q1_, Q2, q2_, rfl, -, -⟩ := hr32.open
                  clear hr32
                  have lqz : w.heap.size + 1 < w32.heap.size := boxL kz.out
                  obtain ⟨⟨cz0, cz1, cz2, cz3, cz4, cz5⟩, fz0, fz1, fz2, fz3, fz4, fz5⟩ := kb6 kz.out
                  have lqr : w.heap.size < w32.heap.size := hx.out.sat.lt (Br.out 0 _ rfl)
                  obtain ⟨cr0, cr1, cr2, cr3, cr4, cr5⟩ := hb6 hx.out.sat Br.out
                  go_wp2_with fail
                  clear lqz cz0 cz1 cz2 cz3 cz4 cz5 fz0 fz1 fz2 fz3 fz4 fz5 lqr cr0 cr1 cr2 cr3 cr4 cr5
                  have kz_ : ((((((w32.setCell ⟨w.heap.size + 1, 0, none⟩ (.int .i64 k7)).setCell ⟨w.heap.size + 1, 1, none⟩ (.slice Q1 s7.length q1_)).setCell ⟨w.heap.size + 1, 2, none⟩ (.slice Q2 a7.length q2_)).setCell ⟨w.heap.size + 1, 3, none⟩ (.int .i64 u7)).setCell ⟨w.heap.size + 1, 4, none⟩ (.int .i64 v7)).setCell ⟨w.heap.size + 1, 5, none⟩ (.bool g7)).heap[w.heap.size + 1]? = some (.cells #[.int .i64 k7, .slice Q1 s7.length q1_, .slice Q2 a7.length q2_, .int .i64 u7, .int .i64 v7, .bool g7] 25) := (boxS (boxS (boxS (boxS (boxS (boxS kz.out 0 (.int .i64 k7)) 1 (.slice Q1 s7.length q1_)) 2 (.slice Q2 a7.length q2_)) 3 (.int .i64 u7)) 4 (.int .i64 v7)) 5 (.bool g7))
                  replace hx := Aside.mk (((((((hx.out.setCell (b := w.heap.size + 1) (o := 0) (by first | omega | (simp; omega)) nz.out (.int .i64 k7)).setCell (b := w.heap.size + 1) (o := 1) (by first | omega | (simp; omega)) nz.out (.slice Q1 s7.length q1_)).setCell (b := w.heap.size + 1) (o := 2) (by first | omega | (simp; omega)) nz.out (.slice Q2 a7.length q2_)).setCell (b := w.heap.size + 1) (o := 3) (by first | omega | (simp; omega)) nz.out (.int .i64 u7)).setCell (b := w.heap.size + 1) (o := 4) (by first | omega | (simp; omega)) nz.out (.int .i64 v7)).setCell (b := w.heap.size + 1) (o := 5) (by first | omega | (simp; omega)) nz.out (.bool g7)))
                  generalize ((((((w32.setCell ⟨w.heap.size + 1, 0, none⟩ (.int .i64 k7)).setCell ⟨w.heap.size + 1, 1, none⟩ (.slice Q1 s7.length q1_)).setCell ⟨w.heap.size + 1, 2, none⟩ (.slice Q2 a7.length q2_)).setCell ⟨w.heap.size + 1, 3, none⟩ (.int .i64 u7)).setCell ⟨w.heap.size + 1, 4, none⟩ (.int .i64 v7)).setCell ⟨w.heap.size + 1, 5, none⟩ (.bool g7)) = W14 at *
                  replace kz := Aside.mk kz_
                  clear kz_
                  refine bodyPost_ret (resC2 rfl _ _ _ rfl (run_loadVar_row _ _ _ _ _ (0, 0) _ kz.out Try.underlying25 rfl (by kernel_rfl))) rfl ?_
                  rw [HR.out]
                  exact ⟨_, _, rfl, hr33.out, hx.out⟩
                case false =>
                  have hin : ¬ Re.mk k1 s1 a1 u1 v1 g1 ∈ args.take j := fun h => by have := hB.out.2 h; cases this
                  replace hin := Aside.mk hin
                  have hN : manyGo 7 [] args = manyGo 7 (args.take (j + 1)) (args.drop (j + 1)) := by rw [hM.out, HA.out.1]; simp [Re.kind, QA_.out.1, QA_.out.2, QB_.out, hin.out]
                  replace hM := Aside.mk hN
                  clear hN ho9
                  clear Be
                  clear hT hF hrd0 hra
                  have lqz : w.heap.size + 1 < wr.heap.size := boxL kz.out
                  obtain ⟨⟨cz0, cz1, cz2, cz3, cz4, cz5⟩, fz0, fz1, fz2, fz3, fz4, fz5⟩ := kb6 kz.out
                  have lqr : w.heap.size < wr.heap.size := hx.out.sat.lt (Br.out 0 _ rfl)
                  obtain ⟨cr0, cr1, cr2, cr3, cr4, cr5⟩ := hb6 hx.out.sat Br.out
                  go_wp2_with fail
                  clear lqz cz0 cz1 cz2 cz3 cz4 cz5 fz0 fz1 fz2 fz3 fz4 fz5 lqr cr0 cr1 cr2 cr3 cr4 cr5
                  go_roundw
                  case rel => exact ⟨j + 1, _, HA.out.2.2.2.2.2, by go_num, hM, hx, hr, h2, Br, kz, nz⟩
                  case measure => (have := HA.out.2.2.2.2.2; simp [intOf]; omega)
    case neg =>
      obtain rfl : k = args.length := by omega
      have hN : manyGo 7 [] args = none := by rw [hM.out]; simp [manyGo]
      have hN2 : manyF 7 args = oneOf args := by unfold manyF; rw [hN]
      clear hN
      by_cases h1 : args.length = 1
      case pos =>
        obtain ⟨x, hx1⟩ := List.length_eq_one_iff.1 h1
        obtain ⟨b, off, k1, s1, a1, u1, v1, g1, P1, d1, P2, d2, e0, hq, hrd, g0, g1_, g2, g3, g4, g5⟩ := cell_elem h2.out hx.out.sat 0 (by omega)
        simp only [Nat.zero_mul, Nat.add_zero] at g0 g1_ g2 g3 g4 g5
        subst e0
        have HR := Aside.mk (show manyF 7 args = some (Re.mk k1 s1 a1 u1 v1 g1) from by rw [hN2, ← hq]; subst hx1; rfl)
        replace hrd := Aside.mk hrd
        have hbz : b < wo.heap.size := World.block_lt_of_cell? wo _ g0
        replace hx1 := Aside.mk hx1
        clear hq hN2
        have h1i : (args.length : Int) = 1 := by omega
        have h1l : (0 : Int) < (args.length : Int) := by omega
        have lqz : w.heap.size + 1 < wo.heap.size := boxL kz.out
        obtain ⟨⟨cz0, cz1, cz2, cz3, cz4, cz5⟩, fz0, fz1, fz2, fz3, fz4, fz5⟩ := kb6 kz.out
        have lqr : w.heap.size < wo.heap.size := hx.out.sat.lt (Br.out 0 _ rfl)
        obtain ⟨cr0, cr1, cr2, cr3, cr4, cr5⟩ := hb6 hx.out.sat Br.out
        go_wp2_with fail
        clear lqz cz0 cz1 cz2 cz3 cz4 cz5 fz0 fz1 fz2 fz3 fz4 fz5 lqr cr0 cr1 cr2 cr3 cr4 cr5 g0 g1_ g2 g3 g4 g5
        have kz_ : ((((((wo.setCell ⟨w.heap.size + 1, 0, none⟩ (.int .i64 k1)).setCell ⟨w.heap.size + 1, 1, none⟩ (.slice P1 s1.length d1)).setCell ⟨w.heap.size + 1, 2, none⟩ (.slice P2 a1.length d2)).setCell ⟨w.heap.size + 1, 3, none⟩ (.int .i64 u1)).setCell ⟨w.heap.size + 1, 4, none⟩ (.int .i64 v1)).setCell ⟨w.heap.size + 1, 5, none⟩ (.bool g1)).heap[w.heap.size + 1]? = some (.cells #[.int .i64 k1, .slice P1 s1.length d1, .slice P2 a1.length d2, .int .i64 u1, .int .i64 v1, .bool g1] 25) := (boxS (boxS (boxS (boxS (boxS (boxS kz.out 0 (.int .i64 k1)) 1 (.slice P1 s1.length d1)) 2 (.slice P2 a1.length d2)) 3 (.int .i64 u1)) 4 (.int .i64 v1)) 5 (.bool g1))
        replace hx := Aside.mk (((((((hx.out.setCell (b := w.heap.size + 1) (o := 0) (by first | omega | (simp; omega)) nz.out (.int .i64 k1)).setCell (b := w.heap.size + 1) (o := 1) (by first | omega | (simp; omega)) nz.out (.slice P1 s1.length d1)).setCell (b := w.heap.size + 1) (o := 2) (by first | omega | (simp; omega)) nz.out (.slice P2 a1.length d2)).setCell (b := w.heap.size + 1) (o := 3) (by first | omega | (simp; omega)) nz.out (.int .i64 u1)).setCell (b := w.heap.size + 1) (o := 4) (by first | omega | (simp; omega)) nz.out (.int .i64 v1)).setCell (b := w.heap.size + 1) (o := 5) (by first | omega | (simp; omega)) nz.out (.bool g1)))
        generalize ((((((wo.setCell ⟨w.heap.size + 1, 0, none⟩ (.int .i64 k1)).setCell ⟨w.heap.size + 1, 1, none⟩ (.slice P1 s1.length d1)).setCell ⟨w.heap.size + 1, 2, none⟩ (.slice P2 a1.length d2)).setCell ⟨w.heap.size + 1, 3, none⟩ (.int .i64 u1)).setCell ⟨w.heap.size + 1, 4, none⟩ (.int .i64 v1)).setCell ⟨w.heap.size + 1, 5, none⟩ (.bool g1)) = W15 at *
        replace kz := Aside.mk kz_
        clear kz_
        refine bodyPost_ret (resC2 rfl _ _ _ rfl (run_loadVar_row _ _ _ _ _ (0, 0) _ kz.out Try.underlying25 rfl (by kernel_rfl))) rfl ?_
        rw [HR.out]
        exact ⟨_, _, rfl, hrd.out, hx.out⟩
      case neg =>
        have HR := Aside.mk (show manyF 7 args = none from by rw [hN2]; cases args with | nil => rfl | cons a l => cases l with | nil => exact absurd rfl h1 | cons b l => rfl)
        have h1i : ¬ (args.length : Int) = 1 := by omega
        have h1j : ((args.length : Int) == 1) = false := by simp; omega
        clear hN2 h1
        have lqz : w.heap.size + 1 < wo.heap.size := boxL kz.out
        obtain ⟨⟨cz0, cz1, cz2, cz3, cz4, cz5⟩, fz0, fz1, fz2, fz3, fz4, fz5⟩ := kb6 kz.out
        have lqr : w.heap.size < wo.heap.size := hx.out.sat.lt (Br.out 0 _ rfl)
        obtain ⟨cr0, cr1, cr2, cr3, cr4, cr5⟩ := hb6 hx.out.sat Br.out
        go_wp2_with fail
        clear lqz cz0 cz1 cz2 cz3 cz4 cz5 fz0 fz1 fz2 fz3 fz4 fz5 lqr cr0 cr1 cr2 cr3 cr4 cr5
        have kz_ : ((((((wo.setCell ⟨w.heap.size + 1, 0, none⟩ (.int .i64 7)).setCell ⟨w.heap.size + 1, 1, none⟩ (.slice A1 s.length c1)).setCell ⟨w.heap.size + 1, 2, none⟩ (.slice A2 args.length c2)).setCell ⟨w.heap.size + 1, 3, none⟩ (.int .i64 mn)).setCell ⟨w.heap.size + 1, 4, none⟩ (.int .i64 mx)).setCell ⟨w.heap.size + 1, 5, none⟩ (.bool ng)).heap[w.heap.size + 1]? = some (.cells #[.int .i64 7, .slice A1 s.length c1, .slice A2 args.length c2, .int .i64 mn, .int .i64 mx, .bool ng] 25) := (boxS (boxS (boxS (boxS (boxS (boxS kz.out 0 (.int .i64 7)) 1 (.slice A1 s.length c1)) 2 (.slice A2 args.length c2)) 3 (.int .i64 mn)) 4 (.int .i64 mx)) 5 (.bool ng))
        replace hx := Aside.mk (((((((hx.out.setCell (b := w.heap.size + 1) (o := 0) (by first | omega | (simp; omega)) nz.out (.int .i64 7)).setCell (b := w.heap.size + 1) (o := 1) (by first | omega | (simp; omega)) nz.out (.slice A1 s.length c1)).setCell (b := w.heap.size + 1) (o := 2) (by first | omega | (simp; omega)) nz.out (.slice A2 args.length c2)).setCell (b := w.heap.size + 1) (o := 3) (by first | omega | (simp; omega)) nz.out (.int .i64 mn)).setCell (b := w.heap.size + 1) (o := 4) (by first | omega | (simp; omega)) nz.out (.int .i64 mx)).setCell (b := w.heap.size + 1) (o := 5) (by first | omega | (simp; omega)) nz.out (.bool ng)))
        generalize ((((((wo.setCell ⟨w.heap.size + 1, 0, none⟩ (.int .i64 7)).setCell ⟨w.heap.size + 1, 1, none⟩ (.slice A1 s.length c1)).setCell ⟨w.heap.size + 1, 2, none⟩ (.slice A2 args.length c2)).setCell ⟨w.heap.size + 1, 3, none⟩ (.int .i64 mn)).setCell ⟨w.heap.size + 1, 4, none⟩ (.int .i64 mx)).setCell ⟨w.heap.size + 1, 5, none⟩ (.bool ng)) = W16 at *
        replace kz := Aside.mk kz_
        clear kz_
        refine bodyPost_ret (resC2 rfl _ _ _ rfl (run_loadVar_row _ _ _ _ _ (0, 0) _ kz.out Try.underlying25 rfl (by kernel_rfl))) rfl ?_
        rw [HR.out]
        exact ⟨_, _, rfl, hr.out, hx.out⟩

end Go.Proofs.Ytbnahmeaeakhhaa.B

namespace Go.Proofs.Ytbnahmeaeakhhaa.B
set_option linter.unusedVariables false
set_option linter.unusedSimpArgs false
open Go Go.RowKit Classical

theorem ruleMany_any (H : PH) (K : Int) (s : List Span) (args : List Re) (mn mx : Int) (ng : Bool) (cs : List Value) (w : World) (hr : RdRe H (.mk K s args mn mx ng) cs) (hs : Sat w H) (hK : K = 3 ∨ K = 4 ∨ K = 7) (hz : args.length + szL args ≤ 1048576) :
    Calls Try.prog 147 #[.agg cs.toArray] w (RuleR H w (.mk K s args mn mx ng) (manyF K args)) := by
  rcases hK with rfl | rfl | rfl
  · exact ruleMany3 H s args mn mx ng cs w hr hs hz
  · exact ruleMany4 H s args mn mx ng cs w hr hs hz
  · exact ruleMany7 H s args mn mx ng cs w hr hs hz

end Go.Proofs.Ytbnahmeaeakhhaa.B
