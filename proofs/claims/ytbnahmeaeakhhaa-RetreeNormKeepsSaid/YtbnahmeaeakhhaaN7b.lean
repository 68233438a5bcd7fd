/- Contracts: retree.several. -/
import Derived.Test.YtbnahmeaeakhhaaN7a
namespace Go.Proofs.Ytbnahmeaeakhhaa.B
set_option linter.unusedVariables false
set_option linter.unusedSimpArgs false
open Go Go.RowKit Classical

set_option maxRecDepth 100000 in
set_option maxHeartbeats 16000000 in
theorem several4 (H : PH) (set : List Span) (args : List Re) (mn mx : Int) (neg : Bool) (cs : List Value) (w : World) (hr : RdRe H (.mk 4 set args mn mx neg) cs) (hs : Sat w H) (hb : (sevL 4 args).length ≤ 1048576) (hb2 : args.length ≤ 1048576) :
    Calls Try.prog 139 #[.agg cs.toArray] w (ReR H w (sevF 4 args)) := by
  obtain ⟨A1, c1, A2, c2, rfl, -, h2⟩ := hr.open
  clear hr
  replace hb := Aside.mk hb
  have hx := Aside.mk (Ext.refl hs)
  replace h2 := Aside.mk h2
  go_enter Try.func139, Try.ntmps139
  go_wp2_with fail
  have hszw := hx.out.size
  have kr_ : ((w.alloc (.cells #[.int .i64 4, .slice A1 set.length c1, .slice A2 args.length c2, .int .i64 mn, .int .i64 mx, .bool neg] 25)).alloc (.cells #[.int .i64 0, .slice none 0 0, .slice none 0 0, .int .i64 0, .int .i64 0, .bool false] 25)).heap[w.heap.size]? = some (.cells #[.int .i64 4, .slice A1 set.length c1, .slice A2 args.length c2, .int .i64 mn, .int .i64 mx, .bool neg] 25) := (boxA (heap_alloc_new _ _) (.cells #[.int .i64 0, .slice none 0 0, .slice none 0 0, .int .i64 0, .int .i64 0, .bool false] 25))
  have kz_ : ((w.alloc (.cells #[.int .i64 4, .slice A1 set.length c1, .slice A2 args.length c2, .int .i64 mn, .int .i64 mx, .bool neg] 25)).alloc (.cells #[.int .i64 0, .slice none 0 0, .slice none 0 0, .int .i64 0, .int .i64 0, .bool false] 25)).heap[w.heap.size + 1]? = some (.cells #[.int .i64 0, .slice none 0 0, .slice none 0 0, .int .i64 0, .int .i64 0, .bool false] 25) := (by rw [show w.heap.size + 1 = ((w.alloc (.cells #[.int .i64 4, .slice A1 set.length c1, .slice A2 args.length c2, .int .i64 mn, .int .i64 mx, .bool neg] 25))).heap.size by simp]; exact heap_alloc_new _ _)
  have nr := Aside.mk (fun o => hx.out.sat.new (b := w.heap.size) (show w.heap.size ≤ _ by omega) o)
  have nz := Aside.mk (fun o => hx.out.sat.new (b := w.heap.size + 1) (show w.heap.size ≤ _ by omega) o)
  replace hx := Aside.mk (((hx.out.alloc (.cells #[.int .i64 4, .slice A1 set.length c1, .slice A2 args.length c2, .int .i64 mn, .int .i64 mx, .bool neg] 25)).alloc (.cells #[.int .i64 0, .slice none 0 0, .slice none 0 0, .int .i64 0, .int .i64 0, .bool false] 25)))
  generalize ((w.alloc (.cells #[.int .i64 4, .slice A1 set.length c1, .slice A2 args.length c2, .int .i64 mn, .int .i64 mx, .bool neg] 25)).alloc (.cells #[.int .i64 0, .slice none 0 0, .slice none 0 0, .int .i64 0, .int .i64 0, .bool false] 25)) = W1 at *
  have kr := Aside.mk kr_
  clear kr_
  have kz := Aside.mk kz_
  clear kz_
  obtain ⟨H1, hx2, hle, Br, hold⟩ := box_freeze hx.out (by omega) kr.out nr.out
  replace h2 := Aside.mk (h2.out.mono hle)
  replace nz := Aside.mk (fun o => (hold _ o (by omega)).trans (nz.out o))
  replace hx := Aside.mk hx2
  replace Br := Aside.mk Br
  clear hle hold hx2 kr nr
  go_loopw [3, 9] (fun o i wr => ∃ (k : Nat) (A5 : Option Addr) (l5 c5 : Nat) (Hk : PH), k ≤ args.length ∧ i = .int .i64 k ∧ o = .slice A5 l5 c5 ∧ Aside (Ext H Hk w wr) ∧ Aside (SlR kRe Hk A2 args.length c2 args) ∧ Aside (BoxH Hk (w.heap.size) [.int .i64 4, .slice A1 set.length c1, .slice A2 args.length c2, .int .i64 mn, .int .i64 mx, .bool neg]) ∧ Aside (wr.heap[w.heap.size + 1]? = some (.cells #[.int .i64 0, .slice none 0 0, .slice none 0 0, .int .i64 0, .int .i64 0, .bool false] 25)) ∧ Aside (∀ o, Hk (w.heap.size + 1) o = none) ∧ Aside (Own kRe 25 wr (w.heap.size + 1 + 1) Hk (.slice A5 l5 c5) (sevL 4 (args.take k)))) (fun _ i _ => args.length - (intOf i).toNat)
  case atStart => exact ⟨0, none, 0, 0, _, by omega, rfl, rfl, hx, h2, Br, kz, nz, ⟨by simpa [sevL] using Own.nil _ _ _ _ _⟩⟩
  case round =>
    clear hx h2 Br kz nz
    obtain ⟨k, A5, l5, c5, Hk, hk, rfl, rfl, hx, h2, Br, kz, nz, ho⟩ := hrel
    by_cases hlt : k < args.length
    case pos =>
      obtain ⟨b, off, k1, s1, a1, u1, v1, g1, P1, d1, P2, d2, rfl, hq, hrd, g0, g1_, g2, g3, g4, g5⟩ := cell_elem h2.out hx.out.sat k hlt
      have htk := sevL_take 4 args k hlt
      have hlq := sevL_le 4 args k hlt
      rw [hq] at htk hlq
      have hlt2 := Aside.mk hlt
      have hb3 := hb.out
      have hbz : b < wr.heap.size := World.block_lt_of_cell? wr _ g0
      have hrd0 := Aside.mk hrd
      obtain ⟨_, _, _, _, e9, -, hra⟩ := hrd.open
      simp only [List.cons.injEq, Value.slice.injEq, true_and, and_true] at e9
      obtain ⟨⟨rfl, rfl⟩, rfl, rfl⟩ := e9
      clear hrd hq
      replace hra := Aside.mk hra
      by_cases q1 : k1 = 4
      case pos =>
        subst q1
        have hfl : flat1 4 (Re.mk 4 s1 a1 u1 v1 g1) = a1 := by simp [flat1, Re.kind, Re.args]
        rw [hfl] at hlq
        have HF := Aside.mk hfl
        replace htk := Aside.mk htk
        have hby : Aside ((((sevL 4 (args.take k)).length + a1.length) * 80 ≤ 140737488355328) ∧ (sevL 4 (args.take k)).length + a1.length ≤ maxLen) := ⟨by omega, by unfold maxLen; omega⟩
        clear hfl hlq hb3
        have hoe := ho.out.alloc hx.out.sat (.cells #[.int .i64 4, .slice P1 s1.length d1, .slice P2 a1.length d2, .int .i64 u1, .int .i64 v1, .bool g1] 25)
        have hse := hx.out.sat.alloc (.cells #[.int .i64 4, .slice P1 s1.length d1, .slice P2 a1.length d2, .int .i64 u1, .int .i64 v1, .bool g1] 25)
        have hwx := hx.out.size
        have hzz := boxL kz.out
        have lqz : w.heap.size + 1 < wr.heap.size := boxL kz.out
        obtain ⟨⟨cz0, cz1, cz2, cz3, cz4, cz5⟩, fz0, fz1, fz2, fz3, fz4, fz5⟩ := kb6 kz.out
        have lqr : w.heap.size < wr.heap.size := hx.out.sat.lt (Br.out 0 _ rfl)
        obtain ⟨cr0, cr1, cr2, cr3, cr4, cr5⟩ := hb6 hx.out.sat Br.out
        go_upto_region 10 with (at_builtin; go_must (refine wpList_appS kRe rfl (.tmp 23) (.tmp 25) 23 rfl 25 Try.underlying23 info25 rfl hoe hse hra.out rfl rfl hby.out.1 hby.out.2 (by simp; omega) ?_); intro v9 w9 ho9 hg9 hs9 hn9 hni9)
        clear g0 g1_ g2 g3 g4 g5
        clear lqz cz0 cz1 cz2 cz3 cz4 cz5 fz0 fz1 fz2 fz3 fz4 fz5 lqr cr0 cr1 cr2 cr3 cr4 cr5
        clear hoe hse
        obtain ⟨A9, c9, rfl, -, -, -, -⟩ := ho9.form
        have kz_ : (wr.alloc (.cells #[.int .i64 4, .slice P1 s1.length d1, .slice P2 a1.length d2, .int .i64 u1, .int .i64 v1, .bool g1] 25)).heap[w.heap.size + 1]? = some (.cells #[.int .i64 0, .slice none 0 0, .slice none 0 0, .int .i64 0, .int .i64 0, .bool false] 25) := (boxA kz.out (.cells #[.int .i64 4, .slice P1 s1.length d1, .slice P2 a1.length d2, .int .i64 u1, .int .i64 v1, .bool g1] 25))
        replace ho := Aside.mk (ho.out.alloc (hx.out).sat (.cells #[.int .i64 4, .slice P1 s1.length d1, .slice P2 a1.length d2, .int .i64 u1, .int .i64 v1, .bool g1] 25))
        replace hx := Aside.mk ((hx.out.alloc (.cells #[.int .i64 4, .slice P1 s1.length d1, .slice P2 a1.length d2, .int .i64 u1, .int .i64 v1, .bool g1] 25)))
        generalize (wr.alloc (.cells #[.int .i64 4, .slice P1 s1.length d1, .slice P2 a1.length d2, .int .i64 u1, .int .i64 v1, .bool g1] 25)) = W2 at *
        replace kz := Aside.mk kz_
        clear kz_
        replace kz := Aside.mk (boxG kz.out hg9 (fun e => by have h1 := (ho.out.blk e).1; omega))
        replace hx := Aside.mk (ho.out.extG hx.out (by omega) hg9)
        replace ho := Aside.mk ho9
        clear ho9 hg9 hs9 hn9 hni9
        clear hrd0 hra
        have lqz : w.heap.size + 1 < w9.heap.size := boxL kz.out
        obtain ⟨⟨cz0, cz1, cz2, cz3, cz4, cz5⟩, fz0, fz1, fz2, fz3, fz4, fz5⟩ := kb6 kz.out
        have lqr : w.heap.size < w9.heap.size := hx.out.sat.lt (Br.out 0 _ rfl)
        obtain ⟨cr0, cr1, cr2, cr3, cr4, cr5⟩ := hb6 hx.out.sat Br.out
        go_wp2_with fail
        clear lqz cz0 cz1 cz2 cz3 cz4 cz5 fz0 fz1 fz2 fz3 fz4 fz5 lqr cr0 cr1 cr2 cr3 cr4 cr5
        go_roundw
        case rel => exact ⟨k + 1, _, _, _, _, hlt2.out, by go_num, rfl, hx, h2, Br, kz, nz, ⟨by rw [htk.out, HF.out]; exact ho.out⟩⟩
        case measure => (have := hlt2.out; simp [intOf]; omega)
      by_cases q2 : k1 = 0
      case pos =>
        subst q2
        have hfl : flat1 4 (Re.mk 0 s1 a1 u1 v1 g1) = [] := by simp [flat1, Re.kind]
        have HF := Aside.mk hfl
        replace htk := Aside.mk htk
        clear hfl hlq hb3 q1
        have lqz : w.heap.size + 1 < wr.heap.size := boxL kz.out
        obtain ⟨⟨cz0, cz1, cz2, cz3, cz4, cz5⟩, fz0, fz1, fz2, fz3, fz4, fz5⟩ := kb6 kz.out
        have lqr : w.heap.size < wr.heap.size := hx.out.sat.lt (Br.out 0 _ rfl)
        obtain ⟨cr0, cr1, cr2, cr3, cr4, cr5⟩ := hb6 hx.out.sat Br.out
        go_wp2_with fail
        clear lqz cz0 cz1 cz2 cz3 cz4 cz5 fz0 fz1 fz2 fz3 fz4 fz5 lqr cr0 cr1 cr2 cr3 cr4 cr5 g0 g1_ g2 g3 g4 g5
        have kz_ : (wr.alloc (.cells #[.int .i64 0, .slice P1 s1.length d1, .slice P2 a1.length d2, .int .i64 u1, .int .i64 v1, .bool g1] 25)).heap[w.heap.size + 1]? = some (.cells #[.int .i64 0, .slice none 0 0, .slice none 0 0, .int .i64 0, .int .i64 0, .bool false] 25) := (boxA kz.out (.cells #[.int .i64 0, .slice P1 s1.length d1, .slice P2 a1.length d2, .int .i64 u1, .int .i64 v1, .bool g1] 25))
        replace ho := Aside.mk (ho.out.alloc (hx.out).sat (.cells #[.int .i64 0, .slice P1 s1.length d1, .slice P2 a1.length d2, .int .i64 u1, .int .i64 v1, .bool g1] 25))
        replace hx := Aside.mk ((hx.out.alloc (.cells #[.int .i64 0, .slice P1 s1.length d1, .slice P2 a1.length d2, .int .i64 u1, .int .i64 v1, .bool g1] 25)))
        generalize (wr.alloc (.cells #[.int .i64 0, .slice P1 s1.length d1, .slice P2 a1.length d2, .int .i64 u1, .int .i64 v1, .bool g1] 25)) = W3 at *
        replace kz := Aside.mk kz_
        clear kz_
        clear hrd0 hra
        go_roundw
        case rel => exact ⟨k + 1, _, _, _, _, hlt2.out, by go_num, rfl, hx, h2, Br, kz, nz, ⟨by rw [htk.out, HF.out, List.append_nil]; exact ho.out⟩⟩
        case measure => (have := hlt2.out; simp [intOf]; omega)
      by_cases r0 : k1 = 1
      case pos =>
        subst r0
        have hfl : flat1 4 (Re.mk 1 s1 a1 u1 v1 g1) = [Re.mk 1 s1 a1 u1 v1 g1] := by simp [flat1, Re.kind]
        rw [hfl] at hlq
        simp only [List.length_cons, List.length_nil] at hlq
        have HF := Aside.mk hfl
        replace htk := Aside.mk htk
        have hby : Aside ((((sevL 4 (args.take k)).length + 1) * 80 ≤ 140737488355328) ∧ (sevL 4 (args.take k)).length + 1 ≤ maxLen) := ⟨by omega, by unfold maxLen; omega⟩
        clear hfl hlq hb3
        have hoe := ho.out.alloc hx.out.sat (.cells #[.int .i64 1, .slice P1 s1.length d1, .slice P2 a1.length d2, .int .i64 u1, .int .i64 v1, .bool g1] 25)
        have hse := hx.out.sat.alloc (.cells #[.int .i64 1, .slice P1 s1.length d1, .slice P2 a1.length d2, .int .i64 u1, .int .i64 v1, .bool g1] 25)
        have hwx := hx.out.size
        have hrd1 := hrd0.out
        have lqz : w.heap.size + 1 < wr.heap.size := boxL kz.out
        obtain ⟨⟨cz0, cz1, cz2, cz3, cz4, cz5⟩, fz0, fz1, fz2, fz3, fz4, fz5⟩ := kb6 kz.out
        have lqr : w.heap.size < wr.heap.size := hx.out.sat.lt (Br.out 0 _ rfl)
        obtain ⟨cr0, cr1, cr2, cr3, cr4, cr5⟩ := hb6 hx.out.sat Br.out
        go_upto_region 10 with (at_builtin; go_must (refine wpList_app1 kRe rfl (.tmp 13) (.tmp 15) 23 rfl 25 Try.underlying23 info25 rfl hoe hse rfl (by simp) rfl hrd1 hby.out.1 hby.out.2 (by simp; omega) ?_); intro v9 w9 ho9 hg9 hs9 hn9)
        clear g0 g1_ g2 g3 g4 g5
        clear lqz cz0 cz1 cz2 cz3 cz4 cz5 fz0 fz1 fz2 fz3 fz4 fz5 lqr cr0 cr1 cr2 cr3 cr4 cr5
        clear hoe hse hrd1
        obtain ⟨A9, c9, rfl, -, -, -, -⟩ := ho9.form
        have kz_ : (wr.alloc (.cells #[.int .i64 1, .slice P1 s1.length d1, .slice P2 a1.length d2, .int .i64 u1, .int .i64 v1, .bool g1] 25)).heap[w.heap.size + 1]? = some (.cells #[.int .i64 0, .slice none 0 0, .slice none 0 0, .int .i64 0, .int .i64 0, .bool false] 25) := (boxA kz.out (.cells #[.int .i64 1, .slice P1 s1.length d1, .slice P2 a1.length d2, .int .i64 u1, .int .i64 v1, .bool g1] 25))
        replace ho := Aside.mk (ho.out.alloc (hx.out).sat (.cells #[.int .i64 1, .slice P1 s1.length d1, .slice P2 a1.length d2, .int .i64 u1, .int .i64 v1, .bool g1] 25))
        replace hx := Aside.mk ((hx.out.alloc (.cells #[.int .i64 1, .slice P1 s1.length d1, .slice P2 a1.length d2, .int .i64 u1, .int .i64 v1, .bool g1] 25)))
        generalize (wr.alloc (.cells #[.int .i64 1, .slice P1 s1.length d1, .slice P2 a1.length d2, .int .i64 u1, .int .i64 v1, .bool g1] 25)) = W4 at *
        replace kz := Aside.mk kz_
        clear kz_
        replace kz := Aside.mk (boxG kz.out hg9 (fun e => by have h1 := (ho.out.blk e).1; omega))
        replace hx := Aside.mk (ho.out.extG hx.out (by omega) hg9)
        replace ho := Aside.mk ho9
        clear ho9 hg9 hs9 hn9
        clear hrd0 hra
        have lqz : w.heap.size + 1 < w9.heap.size := boxL kz.out
        obtain ⟨⟨cz0, cz1, cz2, cz3, cz4, cz5⟩, fz0, fz1, fz2, fz3, fz4, fz5⟩ := kb6 kz.out
        have lqr : w.heap.size < w9.heap.size := hx.out.sat.lt (Br.out 0 _ rfl)
        obtain ⟨cr0, cr1, cr2, cr3, cr4, cr5⟩ := hb6 hx.out.sat Br.out
        go_wp2_with fail
        clear lqz cz0 cz1 cz2 cz3 cz4 cz5 fz0 fz1 fz2 fz3 fz4 fz5 lqr cr0 cr1 cr2 cr3 cr4 cr5
        go_roundw
        case rel => exact ⟨k + 1, _, _, _, _, hlt2.out, by go_num, rfl, hx, h2, Br, kz, nz, ⟨by rw [htk.out, HF.out]; exact ho.out⟩⟩
        case measure => (have := hlt2.out; simp [intOf]; omega)
      have hfl : flat1 4 (Re.mk k1 s1 a1 u1 v1 g1) = [Re.mk k1 s1 a1 u1 v1 g1] := by simp [flat1, Re.kind, q1, q2, r0]
      rw [hfl] at hlq
      simp only [List.length_cons, List.length_nil] at hlq
      have HF := Aside.mk hfl
      replace htk := Aside.mk htk
      have hby : Aside ((((sevL 4 (args.take k)).length + 1) * 80 ≤ 140737488355328) ∧ (sevL 4 (args.take k)).length + 1 ≤ maxLen) := ⟨by omega, by unfold maxLen; omega⟩
      clear hfl hlq hb3
      have hoe := ho.out.alloc hx.out.sat (.cells #[.int .i64 k1, .slice P1 s1.length d1, .slice P2 a1.length d2, .int .i64 u1, .int .i64 v1, .bool g1] 25)
      have hse := hx.out.sat.alloc (.cells #[.int .i64 k1, .slice P1 s1.length d1, .slice P2 a1.length d2, .int .i64 u1, .int .i64 v1, .bool g1] 25)
      have hwx := hx.out.size
      have hrd1 := hrd0.out
      have lqz : w.heap.size + 1 < wr.heap.size := boxL kz.out
      obtain ⟨⟨cz0, cz1, cz2, cz3, cz4, cz5⟩, fz0, fz1, fz2, fz3, fz4, fz5⟩ := kb6 kz.out
      have lqr : w.heap.size < wr.heap.size := hx.out.sat.lt (Br.out 0 _ rfl)
      obtain ⟨cr0, cr1, cr2, cr3, cr4, cr5⟩ := hb6 hx.out.sat Br.out
      go_upto_region 10 with (at_builtin; go_must (refine wpList_app1 kRe rfl (.tmp 13) (.tmp 15) 23 rfl 25 Try.underlying23 info25 rfl hoe hse rfl (by simp) rfl hrd1 hby.out.1 hby.out.2 (by simp; omega) ?_); intro v9 w9 ho9 hg9 hs9 hn9)
      clear g0 g1_ g2 g3 g4 g5
      clear lqz cz0 cz1 cz2 cz3 cz4 cz5 fz0 fz1 fz2 fz3 fz4 fz5 lqr cr0 cr1 cr2 cr3 cr4 cr5
      clear hoe hse hrd1
      obtain ⟨A9, c9, rfl, -, -, -, -⟩ := ho9.form
      have kz_ : (wr.alloc (.cells #[.int .i64 k1, .slice P1 s1.length d1, .slice P2 a1.length d2, .int .i64 u1, .int .i64 v1, .bool g1] 25)).heap[w.heap.size + 1]? = some (.cells #[.int .i64 0, .slice none 0 0, .slice none 0 0, .int .i64 0, .int .i64 0, .bool false] 25) := (boxA kz.out (.cells #[.int .i64 k1, .slice P1 s1.length d1, .slice P2 a1.length d2, .int .i64 u1, .int .i64 v1, .bool g1] 25))
      replace ho := Aside.mk (ho.out.alloc (hx.out).sat (.cells #[.int .i64 k1, .slice P1 s1.length d1, .slice P2 a1.length d2, .int .i64 u1, .int .i64 v1, .bool g1] 25))
      replace hx := Aside.mk ((hx.out.alloc (.cells #[.int .i64 k1, .slice P1 s1.length d1, .slice P2 a1.length d2, .int .i64 u1, .int .i64 v1, .bool g1] 25)))
      generalize (wr.alloc (.cells #[.int .i64 k1, .slice P1 s1.length d1, .slice P2 a1.length d2, .int .i64 u1, .int .i64 v1, .bool g1] 25)) = W5 at *
      replace kz := Aside.mk kz_
      clear kz_
      replace kz := Aside.mk (boxG kz.out hg9 (fun e => by have h1 := (ho.out.blk e).1; omega))
      replace hx := Aside.mk (ho.out.extG hx.out (by omega) hg9)
      replace ho := Aside.mk ho9
      clear ho9 hg9 hs9 hn9
      clear hrd0 hra
      have lqz : w.heap.size + 1 < w9.heap.size := boxL kz.out
      obtain ⟨⟨cz0, cz1, cz2, cz3, cz4, cz5⟩, fz0, fz1, fz2, fz3, fz4, fz5⟩ := kb6 kz.out
      have lqr : w.heap.size < w9.heap.size := hx.out.sat.lt (Br.out 0 _ rfl)
      obtain ⟨cr0, cr1, cr2, cr3, cr4, cr5⟩ := hb6 hx.out.sat Br.out
      go_wp2_with fail
      clear lqz cz0 cz1 cz2 cz3 cz4 cz5 fz0 fz1 fz2 fz3 fz4 fz5 lqr cr0 cr1 cr2 cr3 cr4 cr5
      go_roundw
      case rel => exact ⟨k + 1, _, _, _, _, hlt2.out, by go_num, rfl, hx, h2, Br, kz, nz, ⟨by rw [htk.out, HF.out]; exact ho.out⟩⟩
      case measure => (have := hlt2.out; simp [intOf]; omega)
    obtain rfl : k = args.length := by omega
    replace ho := Aside.mk (show Own kRe 25 wr (w.heap.size + 1 + 1) Hk (.slice A5 l5 c5) (sevL 4 args) from by have h9 := ho.out; rw [List.take_of_length_le (Nat.le_refl _)] at h9; exact h9)
    have hl6 : l5 = (sevL 4 args).length := by obtain ⟨A6, c6, e6, -, -, -, -⟩ := ho.out.form; injection e6
    subst hl6
    have hb3 := hb.out
    have HE : Aside (sevF 4 args = if (False ∧ ∃ a ∈ sevL 4 args, a.kind = 0) then noneRe else sevEnd 4 (onceL (sevL 4 args))) := ⟨by unfold sevF; simp⟩
    generalize sevL 4 args = ll at *
    replace HE := Aside.mk (HE.out.trans (if_neg (fun h => h.1)))
    have hsz := hx.out.size
    obtain ⟨H1, hx2, hle, ⟨A7, c7, e1, hsl⟩, hold⟩ := ho.out.freezeE hx.out (by omega) (by omega)
    cases e1
    replace nz := Aside.mk (fun o => (hold _ o (fun e => by have h1 := (ho.out.blk e).1; omega)).trans (nz.out o))
    replace h2 := Aside.mk (h2.out.mono hle)
    replace Br := Aside.mk (Br.out.mono hle)
    replace hx := Aside.mk hx2
    replace hsl := Aside.mk hsl
    clear hle hold hx2 ho
    have lqz : w.heap.size + 1 < wr.heap.size := boxL kz.out
    obtain ⟨⟨cz0, cz1, cz2, cz3, cz4, cz5⟩, fz0, fz1, fz2, fz3, fz4, fz5⟩ := kb6 kz.out
    have lqr : w.heap.size < wr.heap.size := hx.out.sat.lt (Br.out 0 _ rfl)
    obtain ⟨cr0, cr1, cr2, cr3, cr4, cr5⟩ := hb6 hx.out.sat Br.out
    go_wp2_with fail
    clear lqz cz0 cz1 cz2 cz3 cz4 cz5 fz0 fz1 fz2 fz3 fz4 fz5 lqr cr0 cr1 cr2 cr3 cr4 cr5
    have hadrz := boxL kz.out
    have hsz := hx.out.size
    have hlzo := boxL kz.out
    have hszo := hx.out.size
    refine (once_any _ ll _ _ _ _ hsl.out hx.out.sat hb3).mono ?_
    rintro e w3 ⟨v3, rfl, ho, hb4⟩
    replace kz := Aside.mk (box_below kz.out hb4)
    replace hx := Aside.mk (hx.out.then_below hb4)
    clear hb4
    have hb5 := onceL_len ll
    generalize onceL ll = lm at *
    clear hadrz hsz
    have hlz := boxL kz.out
    obtain ⟨A8, c8, e8, -, -, -, -⟩ := ho.form
    subst e8
    obtain ⟨H1, hx2, hle, ⟨A7_, c7_, e1, hsm⟩, hold⟩ := ho.freezeE hx.out hszo (by omega)
    cases e1
    replace nz := Aside.mk (fun o => (hold _ o (fun e => by have h1 := (ho.blk e).1; omega)).trans (nz.out o))
    replace h2 := Aside.mk (h2.out.mono hle)
    replace Br := Aside.mk (Br.out.mono hle)
    replace hx := Aside.mk hx2
    replace hsm := Aside.mk hsm
    clear hle hold hx2 ho
    rcases lm with _ | ⟨x0, lt⟩
    case nil =>
      simp only [List.length_nil] at hsm ⊢
      have lqz : w.heap.size + 1 < w3.heap.size := boxL kz.out
      obtain ⟨⟨cz0, cz1, cz2, cz3, cz4, cz5⟩, fz0, fz1, fz2, fz3, fz4, fz5⟩ := kb6 kz.out
      have lqr : w.heap.size < w3.heap.size := hx.out.sat.lt (Br.out 0 _ rfl)
      obtain ⟨cr0, cr1, cr2, cr3, cr4, cr5⟩ := hb6 hx.out.sat Br.out
      go_wp2_with fail
      clear lqz cz0 cz1 cz2 cz3 cz4 cz5 fz0 fz1 fz2 fz3 fz4 fz5 lqr cr0 cr1 cr2 cr3 cr4 cr5
      have kz_ : ((((((w3.setCell ⟨w.heap.size + 1, 0, none⟩ (.int .i64 0)).setCell ⟨w.heap.size + 1, 1, none⟩ (.slice none 0 0)).setCell ⟨w.heap.size + 1, 2, none⟩ (.slice none 0 0)).setCell ⟨w.heap.size + 1, 3, none⟩ (.int .i64 0)).setCell ⟨w.heap.size + 1, 4, none⟩ (.int .i64 0)).setCell ⟨w.heap.size + 1, 5, none⟩ (.bool false)).heap[w.heap.size + 1]? = some (.cells #[.int .i64 0, .slice none 0 0, .slice none 0 0, .int .i64 0, .int .i64 0, .bool false] 25) := (boxS (boxS (boxS (boxS (boxS (boxS kz.out 0 (.int .i64 0)) 1 (.slice none 0 0)) 2 (.slice none 0 0)) 3 (.int .i64 0)) 4 (.int .i64 0)) 5 (.bool false))
      replace hx := Aside.mk (((((((hx.out.setCell (b := w.heap.size + 1) (o := 0) (by first | omega | (simp; omega)) nz.out (.int .i64 0)).setCell (b := w.heap.size + 1) (o := 1) (by first | omega | (simp; omega)) nz.out (.slice none 0 0)).setCell (b := w.heap.size + 1) (o := 2) (by first | omega | (simp; omega)) nz.out (.slice none 0 0)).setCell (b := w.heap.size + 1) (o := 3) (by first | omega | (simp; omega)) nz.out (.int .i64 0)).setCell (b := w.heap.size + 1) (o := 4) (by first | omega | (simp; omega)) nz.out (.int .i64 0)).setCell (b := w.heap.size + 1) (o := 5) (by first | omega | (simp; omega)) nz.out (.bool false)))
      generalize ((((((w3.setCell ⟨w.heap.size + 1, 0, none⟩ (.int .i64 0)).setCell ⟨w.heap.size + 1, 1, none⟩ (.slice none 0 0)).setCell ⟨w.heap.size + 1, 2, none⟩ (.slice none 0 0)).setCell ⟨w.heap.size + 1, 3, none⟩ (.int .i64 0)).setCell ⟨w.heap.size + 1, 4, none⟩ (.int .i64 0)).setCell ⟨w.heap.size + 1, 5, none⟩ (.bool false)) = W6 at *
      replace kz := Aside.mk kz_
      clear kz_
      refine bodyPost_ret (resC rfl _ _ _ rfl (run_loadVar_row _ _ _ _ _ (0, 0) _ kz.out Try.underlying25 rfl (by kernel_rfl))) rfl ?_
      rw [HE.out]
      exact ⟨_, _, rfl, rd_none _, hx.out⟩
    rcases lt with _ | ⟨x1, lt⟩
    case cons.nil =>
      obtain ⟨b, off, k1, s1, a1, u1, v1, g1, P1, d1, P2, d2, rfl, hq, hrd, g0, g1_, g2, g3, g4, g5⟩ := cell_elem hsm.out hx.out.sat 0 (by simp)
      simp only [List.getElem_cons_zero, Nat.zero_mul, Nat.add_zero, List.length_cons, List.length_nil, Nat.zero_add] at hq g0 g1_ g2 g3 g4 g5 hsm ⊢
      subst hq
      have hbz := World.block_lt_of_cell? _ _ g0
      replace hrd := Aside.mk hrd
      have lqz : w.heap.size + 1 < w3.heap.size := boxL kz.out
      obtain ⟨⟨cz0, cz1, cz2, cz3, cz4, cz5⟩, fz0, fz1, fz2, fz3, fz4, fz5⟩ := kb6 kz.out
      have lqr : w.heap.size < w3.heap.size := hx.out.sat.lt (Br.out 0 _ rfl)
      obtain ⟨cr0, cr1, cr2, cr3, cr4, cr5⟩ := hb6 hx.out.sat Br.out
      go_wp2_with fail
      clear lqz cz0 cz1 cz2 cz3 cz4 cz5 fz0 fz1 fz2 fz3 fz4 fz5 lqr cr0 cr1 cr2 cr3 cr4 cr5 g0 g1_ g2 g3 g4 g5
      have kz_ : ((((((w3.setCell ⟨w.heap.size + 1, 0, none⟩ (.int .i64 k1)).setCell ⟨w.heap.size + 1, 1, none⟩ (.slice P1 s1.length d1)).setCell ⟨w.heap.size + 1, 2, none⟩ (.slice P2 a1.length d2)).setCell ⟨w.heap.size + 1, 3, none⟩ (.int .i64 u1)).setCell ⟨w.heap.size + 1, 4, none⟩ (.int .i64 v1)).setCell ⟨w.heap.size + 1, 5, none⟩ (.bool g1)).heap[w.heap.size + 1]? = some (.cells #[.int .i64 k1, .slice P1 s1.length d1, .slice P2 a1.length d2, .int .i64 u1, .int .i64 v1, .bool g1] 25) := (boxS (boxS (boxS (boxS (boxS (boxS kz.out 0 (.int .i64 k1)) 1 (.slice P1 s1.length d1)) 2 (.slice P2 a1.length d2)) 3 (.int .i64 u1)) 4 (.int .i64 v1)) 5 (.bool g1))
      replace hx := Aside.mk (((((((hx.out.setCell (b := w.heap.size + 1) (o := 0) (by first | omega | (simp; omega)) nz.out (.int .i64 k1)).setCell (b := w.heap.size + 1) (o := 1) (by first | omega | (simp; omega)) nz.out (.slice P1 s1.length d1)).setCell (b := w.heap.size + 1) (o := 2) (by first | omega | (simp; omega)) nz.out (.slice P2 a1.length d2)).setCell (b := w.heap.size + 1) (o := 3) (by first | omega | (simp; omega)) nz.out (.int .i64 u1)).setCell (b := w.heap.size + 1) (o := 4) (by first | omega | (simp; omega)) nz.out (.int .i64 v1)).setCell (b := w.heap.size + 1) (o := 5) (by first | omega | (simp; omega)) nz.out (.bool g1)))
      generalize ((((((w3.setCell ⟨w.heap.size + 1, 0, none⟩ (.int .i64 k1)).setCell ⟨w.heap.size + 1, 1, none⟩ (.slice P1 s1.length d1)).setCell ⟨w.heap.size + 1, 2, none⟩ (.slice P2 a1.length d2)).setCell ⟨w.heap.size + 1, 3, none⟩ (.int .i64 u1)).setCell ⟨w.heap.size + 1, 4, none⟩ (.int .i64 v1)).setCell ⟨w.heap.size + 1, 5, none⟩ (.bool g1)) = W7 at *
      replace kz := Aside.mk kz_
      clear kz_
      refine bodyPost_ret (resC rfl _ _ _ rfl (run_loadVar_row _ _ _ _ _ (0, 0) _ kz.out Try.underlying25 rfl (by kernel_rfl))) rfl ?_
      rw [HE.out]
      exact ⟨_, _, rfl, hrd.out, hx.out⟩
    simp only [List.length_cons] at hsm hb5 ⊢
    have hl2 : (2 : Int) ≤ (lt.length : Int) + 1 + 1 := by omega
    generalize hnn : lt.length + 1 + 1 = nn at *
    have hn2 : 2 ≤ nn := by omega
    have hn3 : ((nn : Int) == 1) = false := by simp; omega
    have hn4 : ((nn : Int) == 0) = false := by simp; omega
    replace hnn := Aside.mk hnn
    clear hl2
    have lqz : w.heap.size + 1 < w3.heap.size := boxL kz.out
    obtain ⟨⟨cz0, cz1, cz2, cz3, cz4, cz5⟩, fz0, fz1, fz2, fz3, fz4, fz5⟩ := kb6 kz.out
    have lqr : w.heap.size < w3.heap.size := hx.out.sat.lt (Br.out 0 _ rfl)
    obtain ⟨cr0, cr1, cr2, cr3, cr4, cr5⟩ := hb6 hx.out.sat Br.out
    go_wp2_with fail
    clear lqz cz0 cz1 cz2 cz3 cz4 cz5 fz0 fz1 fz2 fz3 fz4 fz5 lqr cr0 cr1 cr2 cr3 cr4 cr5
    have kz_ : ((((((w3.setCell ⟨w.heap.size + 1, 0, none⟩ (.int .i64 4)).setCell ⟨w.heap.size + 1, 1, none⟩ (.slice none 0 0)).setCell ⟨w.heap.size + 1, 2, none⟩ (.slice A8 nn c8)).setCell ⟨w.heap.size + 1, 3, none⟩ (.int .i64 0)).setCell ⟨w.heap.size + 1, 4, none⟩ (.int .i64 0)).setCell ⟨w.heap.size + 1, 5, none⟩ (.bool false)).heap[w.heap.size + 1]? = some (.cells #[.int .i64 4, .slice none 0 0, .slice A8 nn c8, .int .i64 0, .int .i64 0, .bool false] 25) := (boxS (boxS (boxS (boxS (boxS (boxS kz.out 0 (.int .i64 4)) 1 (.slice none 0 0)) 2 (.slice A8 nn c8)) 3 (.int .i64 0)) 4 (.int .i64 0)) 5 (.bool false))
    replace hx := Aside.mk (((((((hx.out.setCell (b := w.heap.size + 1) (o := 0) (by first | omega | (simp; omega)) nz.out (.int .i64 4)).setCell (b := w.heap.size + 1) (o := 1) (by first | omega | (simp; omega)) nz.out (.slice none 0 0)).setCell (b := w.heap.size + 1) (o := 2) (by first | omega | (simp; omega)) nz.out (.slice A8 nn c8)).setCell (b := w.heap.size + 1) (o := 3) (by first | omega | (simp; omega)) nz.out (.int .i64 0)).setCell (b := w.heap.size + 1) (o := 4) (by first | omega | (simp; omega)) nz.out (.int .i64 0)).setCell (b := w.heap.size + 1) (o := 5) (by first | omega | (simp; omega)) nz.out (.bool false)))
    generalize ((((((w3.setCell ⟨w.heap.size + 1, 0, none⟩ (.int .i64 4)).setCell ⟨w.heap.size + 1, 1, none⟩ (.slice none 0 0)).setCell ⟨w.heap.size + 1, 2, none⟩ (.slice A8 nn c8)).setCell ⟨w.heap.size + 1, 3, none⟩ (.int .i64 0)).setCell ⟨w.heap.size + 1, 4, none⟩ (.int .i64 0)).setCell ⟨w.heap.size + 1, 5, none⟩ (.bool false)) = W8 at *
    replace kz := Aside.mk kz_
    clear kz_
    have hrd9 := Aside.mk (RdRe.shut (kind := 4) (mn := 0) (mx := 0) (neg := false) (SlR.nil kSpan _) hsm.out)
    have he9 : sevEnd 4 (x0 :: x1 :: lt) = Re.mk 4 [] (x0 :: x1 :: lt) 0 0 false := rfl
    refine bodyPost_ret (resC rfl _ _ _ rfl (run_loadVar_row _ _ _ _ _ (0, 0) _ kz.out Try.underlying25 rfl (by kernel_rfl))) rfl ?_
    rw [HE.out, he9]
    exact ⟨_, _, rfl, hrd9.out, hx.out⟩
end Go.Proofs.Ytbnahmeaeakhhaa.B
