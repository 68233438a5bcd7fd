/- Contract: retree.each with rev; the arguments' row is the call's own. slices.Reverse over ints, on a row that the caller owns. slices.Reverse over expressions, on a row that the caller owns. -/
import Derived.Test.YtbnahmeaeakhhaaN2
import Derived.Test.YtbnahmeaeakhhaaNu
namespace Go.Proofs.Ytbnahmeaeakhhaa.B
set_option linter.unusedVariables false
set_option linter.unusedSimpArgs false
open Go Go.RowKit

def EachO (H : PH) (w : World) (kind : Int) (set : List Span) (l : List Re) (mn mx : Int) (neg : Bool) (e : Ending) (w' : World) : Prop :=
  ∃ H' A3 c3 A4 c4, e = .returned (.agg #[.int .i64 kind, .slice A3 set.length c3, .slice A4 l.length c4, .int .i64 mn, .int .i64 mx, .bool neg]) ∧ SlR kSpan H' A3 set.length c3 set ∧ Own kRe 25 w' w.heap.size H' (.slice A4 l.length c4) l ∧ Ext H H' w w'

set_option maxRecDepth 100000 in
set_option maxHeartbeats 8000000 in
theorem eachO_rev (g : Re → Re) (H : PH) (kind : Int) (set : List Span) (args : List Re) (mn mx : Int) (neg : Bool) (cs : List Value) (w : World) (hr : RdRe H (.mk kind set args mn mx neg) cs) (hs : Sat w H) (hb : set.length ≤ 1048576) (hb2 : args.length ≤ 1048576)
    (hf : ∀ a ∈ args, ∀ (H' : PH) (cs' : List Value) (w' : World), RdRe H' a cs' → Sat w' H' → Calls Try.prog 124 #[.agg cs'.toArray] w' (ReR H' w' (g a))) :
    Calls Try.prog 138 #[.agg cs.toArray, .func (.func 124) #[] #[]] w (EachO H w kind set (args.map g) mn mx neg) := by
  obtain ⟨A1, c1, A2, c2, rfl, h1, h2⟩ := hr.open
  clear hr
  have hx := Aside.mk (Ext.refl hs)
  replace h1 := Aside.mk h1
  replace h2 := Aside.mk h2
  replace hf := Aside.mk hf
  go_enter Try.func138, Try.ntmps138
  go_wp2_with fail
  have hszw := hx.out.size
  have kr_ : (((w.alloc (.cells #[.int .i64 kind, .slice A1 set.length c1, .slice A2 args.length c2, .int .i64 mn, .int .i64 mx, .bool neg] 25)).alloc (.cells #[.int .i64 0, .slice none 0 0, .slice none 0 0, .int .i64 0, .int .i64 0, .bool false] 25)).alloc (.cells #[.int .i64 kind, .slice A1 set.length c1, .slice A2 args.length c2, .int .i64 mn, .int .i64 mx, .bool neg] 25)).heap[w.heap.size]? = some (.cells #[.int .i64 kind, .slice A1 set.length c1, .slice A2 args.length c2, .int .i64 mn, .int .i64 mx, .bool neg] 25) := (boxA (boxA (heap_alloc_new _ _) (.cells #[.int .i64 0, .slice none 0 0, .slice none 0 0, .int .i64 0, .int .i64 0, .bool false] 25)) (.cells #[.int .i64 kind, .slice A1 set.length c1, .slice A2 args.length c2, .int .i64 mn, .int .i64 mx, .bool neg] 25))
  have kz_ : (((w.alloc (.cells #[.int .i64 kind, .slice A1 set.length c1, .slice A2 args.length c2, .int .i64 mn, .int .i64 mx, .bool neg] 25)).alloc (.cells #[.int .i64 0, .slice none 0 0, .slice none 0 0, .int .i64 0, .int .i64 0, .bool false] 25)).alloc (.cells #[.int .i64 kind, .slice A1 set.length c1, .slice A2 args.length c2, .int .i64 mn, .int .i64 mx, .bool neg] 25)).heap[w.heap.size + 1]? = some (.cells #[.int .i64 0, .slice none 0 0, .slice none 0 0, .int .i64 0, .int .i64 0, .bool false] 25) := (boxA (by rw [show w.heap.size + 1 = ((w.alloc (.cells #[.int .i64 kind, .slice A1 set.length c1, .slice A2 args.length c2, .int .i64 mn, .int .i64 mx, .bool neg] 25))).heap.size by simp]; exact heap_alloc_new _ _) (.cells #[.int .i64 kind, .slice A1 set.length c1, .slice A2 args.length c2, .int .i64 mn, .int .i64 mx, .bool neg] 25))
  have ko_ : (((w.alloc (.cells #[.int .i64 kind, .slice A1 set.length c1, .slice A2 args.length c2, .int .i64 mn, .int .i64 mx, .bool neg] 25)).alloc (.cells #[.int .i64 0, .slice none 0 0, .slice none 0 0, .int .i64 0, .int .i64 0, .bool false] 25)).alloc (.cells #[.int .i64 kind, .slice A1 set.length c1, .slice A2 args.length c2, .int .i64 mn, .int .i64 mx, .bool neg] 25)).heap[w.heap.size + 1 + 1]? = some (.cells #[.int .i64 kind, .slice A1 set.length c1, .slice A2 args.length c2, .int .i64 mn, .int .i64 mx, .bool neg] 25) := (by rw [show w.heap.size + 1 + 1 = (((w.alloc (.cells #[.int .i64 kind, .slice A1 set.length c1, .slice A2 args.length c2, .int .i64 mn, .int .i64 mx, .bool neg] 25)).alloc (.cells #[.int .i64 0, .slice none 0 0, .slice none 0 0, .int .i64 0, .int .i64 0, .bool false] 25))).heap.size by simp]; exact heap_alloc_new _ _)
  have nr := Aside.mk (fun o => hx.out.sat.new (b := w.heap.size) (show w.heap.size ≤ _ by omega) o)
  have nz := Aside.mk (fun o => hx.out.sat.new (b := w.heap.size + 1) (show w.heap.size ≤ _ by omega) o)
  have no := Aside.mk (fun o => hx.out.sat.new (b := w.heap.size + 1 + 1) (show w.heap.size ≤ _ by omega) o)
  replace hx := Aside.mk ((((hx.out.alloc (.cells #[.int .i64 kind, .slice A1 set.length c1, .slice A2 args.length c2, .int .i64 mn, .int .i64 mx, .bool neg] 25)).alloc (.cells #[.int .i64 0, .slice none 0 0, .slice none 0 0, .int .i64 0, .int .i64 0, .bool false] 25)).alloc (.cells #[.int .i64 kind, .slice A1 set.length c1, .slice A2 args.length c2, .int .i64 mn, .int .i64 mx, .bool neg] 25)))
  generalize (((w.alloc (.cells #[.int .i64 kind, .slice A1 set.length c1, .slice A2 args.length c2, .int .i64 mn, .int .i64 mx, .bool neg] 25)).alloc (.cells #[.int .i64 0, .slice none 0 0, .slice none 0 0, .int .i64 0, .int .i64 0, .bool false] 25)).alloc (.cells #[.int .i64 kind, .slice A1 set.length c1, .slice A2 args.length c2, .int .i64 mn, .int .i64 mx, .bool neg] 25)) = W1 at *
  have kr := Aside.mk kr_
  clear kr_
  have kz := Aside.mk kz_
  clear kz_
  have ko := Aside.mk ko_
  clear ko_
  obtain ⟨H1, hx2, hle, Br, hold⟩ := box_freeze hx.out (by omega) kr.out nr.out
  replace h1 := Aside.mk (h1.out.mono hle)
  replace h2 := Aside.mk (h2.out.mono hle)
  replace nz := Aside.mk (fun o => (hold _ o (by omega)).trans (nz.out o))
  replace no := Aside.mk (fun o => (hold _ o (by omega)).trans (no.out o))
  replace hx := Aside.mk hx2
  replace Br := Aside.mk Br
  clear hle hold hx2 kr nr
  have hadrz := boxL kz.out
  have hadro := boxL ko.out
  have hsz := hx.out.size
  refine (cloneSpan_any _ set A1 set.length c1 _ h1.out hx.out.sat hb).mono ?_
  rintro e w1 ⟨v1, rfl, ho1, hb1⟩
  replace kz := Aside.mk (box_below kz.out hb1)
  replace ko := Aside.mk (box_below ko.out hb1)
  replace hx := Aside.mk (hx.out.then_below hb1)
  clear hb1
  obtain ⟨H1, hx2, hle, ⟨A3, c3, e1, hs3⟩, hold⟩ := ho1.freezeE hx.out hsz (by omega)
  cases e1
  replace h1 := Aside.mk (h1.out.mono hle)
  replace h2 := Aside.mk (h2.out.mono hle)
  replace Br := Aside.mk (Br.out.mono hle)
  replace nz := Aside.mk (fun o => (hold _ o (fun e => by have h1 := (ho1.blk e).1; omega)).trans (nz.out o))
  replace no := Aside.mk (fun o => (hold _ o (fun e => by have h1 := (ho1.blk e).1; omega)).trans (no.out o))
  replace hx := Aside.mk hx2
  replace hs3 := Aside.mk hs3
  clear hle hold hx2
  clear hsz hadrz hadro
  clear ho1
  clear h1
  have lqz : w.heap.size + 1 < w1.heap.size := boxL kz.out
  have cz0 : w1.cell? ⟨w.heap.size + 1, 0, none⟩ = some (.int .i64 0) := (boxC kz.out 0).1
  have fz0 : w1.frozen? ⟨w.heap.size + 1, 0, none⟩ = false := (boxC kz.out 0).2
  have cz1 : w1.cell? ⟨w.heap.size + 1, 1, none⟩ = some (.slice none 0 0) := (boxC kz.out 1).1
  have fz1 : w1.frozen? ⟨w.heap.size + 1, 1, none⟩ = false := (boxC kz.out 1).2
  have cz2 : w1.cell? ⟨w.heap.size + 1, 2, none⟩ = some (.slice none 0 0) := (boxC kz.out 2).1
  have fz2 : w1.frozen? ⟨w.heap.size + 1, 2, none⟩ = false := (boxC kz.out 2).2
  have cz3 : w1.cell? ⟨w.heap.size + 1, 3, none⟩ = some (.int .i64 0) := (boxC kz.out 3).1
  have fz3 : w1.frozen? ⟨w.heap.size + 1, 3, none⟩ = false := (boxC kz.out 3).2
  have cz4 : w1.cell? ⟨w.heap.size + 1, 4, none⟩ = some (.int .i64 0) := (boxC kz.out 4).1
  have fz4 : w1.frozen? ⟨w.heap.size + 1, 4, none⟩ = false := (boxC kz.out 4).2
  have cz5 : w1.cell? ⟨w.heap.size + 1, 5, none⟩ = some (.bool false) := (boxC kz.out 5).1
  have fz5 : w1.frozen? ⟨w.heap.size + 1, 5, none⟩ = false := (boxC kz.out 5).2
  have lqo : w.heap.size + 1 + 1 < w1.heap.size := boxL ko.out
  have co0 : w1.cell? ⟨w.heap.size + 1 + 1, 0, none⟩ = some (.int .i64 kind) := (boxC ko.out 0).1
  have fo0 : w1.frozen? ⟨w.heap.size + 1 + 1, 0, none⟩ = false := (boxC ko.out 0).2
  have co1 : w1.cell? ⟨w.heap.size + 1 + 1, 1, none⟩ = some (.slice A1 set.length c1) := (boxC ko.out 1).1
  have fo1 : w1.frozen? ⟨w.heap.size + 1 + 1, 1, none⟩ = false := (boxC ko.out 1).2
  have co2 : w1.cell? ⟨w.heap.size + 1 + 1, 2, none⟩ = some (.slice A2 args.length c2) := (boxC ko.out 2).1
  have fo2 : w1.frozen? ⟨w.heap.size + 1 + 1, 2, none⟩ = false := (boxC ko.out 2).2
  have co3 : w1.cell? ⟨w.heap.size + 1 + 1, 3, none⟩ = some (.int .i64 mn) := (boxC ko.out 3).1
  have fo3 : w1.frozen? ⟨w.heap.size + 1 + 1, 3, none⟩ = false := (boxC ko.out 3).2
  have co4 : w1.cell? ⟨w.heap.size + 1 + 1, 4, none⟩ = some (.int .i64 mx) := (boxC ko.out 4).1
  have fo4 : w1.frozen? ⟨w.heap.size + 1 + 1, 4, none⟩ = false := (boxC ko.out 4).2
  have co5 : w1.cell? ⟨w.heap.size + 1 + 1, 5, none⟩ = some (.bool neg) := (boxC ko.out 5).1
  have fo5 : w1.frozen? ⟨w.heap.size + 1 + 1, 5, none⟩ = false := (boxC ko.out 5).2
  have lqr : w.heap.size < w1.heap.size := hx.out.sat.lt (Br.out 0 _ rfl)
  have cr0 : w1.cell? ⟨w.heap.size, 0, none⟩ = some (.int .i64 kind) := hx.out.sat _ _ _ (Br.out 0 _ rfl)
  have cr1 : w1.cell? ⟨w.heap.size, 1, none⟩ = some (.slice A1 set.length c1) := hx.out.sat _ _ _ (Br.out 1 _ rfl)
  have cr2 : w1.cell? ⟨w.heap.size, 2, none⟩ = some (.slice A2 args.length c2) := hx.out.sat _ _ _ (Br.out 2 _ rfl)
  have cr3 : w1.cell? ⟨w.heap.size, 3, none⟩ = some (.int .i64 mn) := hx.out.sat _ _ _ (Br.out 3 _ rfl)
  have cr4 : w1.cell? ⟨w.heap.size, 4, none⟩ = some (.int .i64 mx) := hx.out.sat _ _ _ (Br.out 4 _ rfl)
  have cr5 : w1.cell? ⟨w.heap.size, 5, none⟩ = some (.bool neg) := hx.out.sat _ _ _ (Br.out 5 _ rfl)
  go_wp2_with fail
  clear lqz cz0 fz0 cz1 fz1 cz2 fz2 cz3 fz3 cz4 fz4 cz5 fz5 lqo co0 fo0 co1 fo1 co2 fo2 co3 fo3 co4 fo4 co5 fo5 lqr cr0 cr1 cr2 cr3 cr4 cr5
  have kz_ : ((w1.setCell ⟨w.heap.size + 1 + 1, 1, none⟩ (.slice A3 set.length c3)).setCell ⟨w.heap.size + 1 + 1, 2, none⟩ (.slice none 0 0)).heap[w.heap.size + 1]? = some (.cells #[.int .i64 0, .slice none 0 0, .slice none 0 0, .int .i64 0, .int .i64 0, .bool false] 25) := (boxS_ne (boxS_ne kz.out (by first | omega | (simp; omega)) 1 (.slice A3 set.length c3)) (by first | omega | (simp; omega)) 2 (.slice none 0 0))
  have ko_ : ((w1.setCell ⟨w.heap.size + 1 + 1, 1, none⟩ (.slice A3 set.length c3)).setCell ⟨w.heap.size + 1 + 1, 2, none⟩ (.slice none 0 0)).heap[w.heap.size + 1 + 1]? = some (.cells #[.int .i64 kind, .slice A3 set.length c3, .slice none 0 0, .int .i64 mn, .int .i64 mx, .bool neg] 25) := (boxS (boxS ko.out 1 (.slice A3 set.length c3)) 2 (.slice none 0 0))
  replace hx := Aside.mk (((hx.out.setCell (b := w.heap.size + 1 + 1) (o := 1) (by first | omega | (simp; omega)) no.out (.slice A3 set.length c3)).setCell (b := w.heap.size + 1 + 1) (o := 2) (by first | omega | (simp; omega)) no.out (.slice none 0 0)))
  generalize ((w1.setCell ⟨w.heap.size + 1 + 1, 1, none⟩ (.slice A3 set.length c3)).setCell ⟨w.heap.size + 1 + 1, 2, none⟩ (.slice none 0 0)) = W2 at *
  replace kz := Aside.mk kz_
  clear kz_
  replace ko := Aside.mk ko_
  clear ko_
  have hzo := boxL ko.out
  go_loopw [17] (fun i wr => ∃ (k : Nat) (A5 : Option Addr) (l5 c5 : Nat) (Hk : PH), k ≤ args.length ∧ i = .int .i64 k ∧ Aside (Ext H Hk w wr) ∧ Aside (SlR kRe Hk A2 args.length c2 args) ∧ Aside (SlR kSpan Hk A3 set.length c3 set) ∧ Aside (BoxH Hk (w.heap.size) [.int .i64 kind, .slice A1 set.length c1, .slice A2 args.length c2, .int .i64 mn, .int .i64 mx, .bool neg]) ∧ Aside (wr.heap[w.heap.size + 1]? = some (.cells #[.int .i64 0, .slice none 0 0, .slice none 0 0, .int .i64 0, .int .i64 0, .bool false] 25)) ∧ Aside (∀ o, Hk (w.heap.size + 1) o = none) ∧ Aside (wr.heap[w.heap.size + 1 + 1]? = some (.cells #[.int .i64 kind, .slice A3 set.length c3, .slice A5 l5 c5, .int .i64 mn, .int .i64 mx, .bool neg] 25)) ∧ Aside (∀ o, Hk (w.heap.size + 1 + 1) o = none) ∧ Aside (Own kRe 25 wr (w.heap.size + 1 + 1 + 1) Hk (.slice A5 l5 c5) ((args.take k).map g))) (fun i _ => args.length - (intOf i).toNat)
  case atStart => exact ⟨0, none, 0, 0, _, by omega, rfl, hx, h2, hs3, Br, kz, nz, ko, no, ⟨by simpa using Own.nil _ _ _ _ _⟩⟩
  case round =>
    clear hx h2 hs3 Br kz nz ko no
    obtain ⟨k, A5, l5, c5, Hk, hk, rfl, hx, h2, hs3, Br, kz, nz, ko, no, ho⟩ := hrel
    by_cases hlt : k < args.length
    · obtain ⟨b, off, k1, s1, a1, u1, v1, g1, P1, d1, P2, d2, rfl, hq, hrd, g0, g1_, g2, g3, g4, g5⟩ := cell_elem h2.out hx.out.sat k hlt
      have hmem : args[k] ∈ args := List.getElem_mem hlt
      have htk : (args.take (k + 1)).map g = (args.take k).map g ++ [g args[k]] := by rw [List.take_succ_eq_append_getElem hlt, List.map_append]; rfl
      have hlt2 := Aside.mk hlt
      rw [hq] at hmem htk
      have hcall := hf.out _ hmem
      have hln : ((args.take k).map g).length ≤ 1048576 := by simp; omega
      generalize g (Re.mk k1 s1 a1 u1 v1 g1) = gr at *
      replace htk := Aside.mk htk
      replace hrd := Aside.mk hrd
      replace hcall := Aside.mk hcall
      have hbz : b < wr.heap.size := World.block_lt_of_cell? wr _ g0
      have hby : Aside ((((args.take k).map g).length + 1) * 80 ≤ 140737488355328 ∧ ((args.take k).map g).length + 1 ≤ maxLen) := ⟨by omega, by unfold maxLen; omega⟩
      clear hmem hq hln
      have lqz : w.heap.size + 1 < wr.heap.size := boxL kz.out
      have cz0 : wr.cell? ⟨w.heap.size + 1, 0, none⟩ = some (.int .i64 0) := (boxC kz.out 0).1
      have fz0 : wr.frozen? ⟨w.heap.size + 1, 0, none⟩ = false := (boxC kz.out 0).2
      have cz1 : wr.cell? ⟨w.heap.size + 1, 1, none⟩ = some (.slice none 0 0) := (boxC kz.out 1).1
      have fz1 : wr.frozen? ⟨w.heap.size + 1, 1, none⟩ = false := (boxC kz.out 1).2
      have cz2 : wr.cell? ⟨w.heap.size + 1, 2, none⟩ = some (.slice none 0 0) := (boxC kz.out 2).1
      have fz2 : wr.frozen? ⟨w.heap.size + 1, 2, none⟩ = false := (boxC kz.out 2).2
      have cz3 : wr.cell? ⟨w.heap.size + 1, 3, none⟩ = some (.int .i64 0) := (boxC kz.out 3).1
      have fz3 : wr.frozen? ⟨w.heap.size + 1, 3, none⟩ = false := (boxC kz.out 3).2
      have cz4 : wr.cell? ⟨w.heap.size + 1, 4, none⟩ = some (.int .i64 0) := (boxC kz.out 4).1
      have fz4 : wr.frozen? ⟨w.heap.size + 1, 4, none⟩ = false := (boxC kz.out 4).2
      have cz5 : wr.cell? ⟨w.heap.size + 1, 5, none⟩ = some (.bool false) := (boxC kz.out 5).1
      have fz5 : wr.frozen? ⟨w.heap.size + 1, 5, none⟩ = false := (boxC kz.out 5).2
      have lqo : w.heap.size + 1 + 1 < wr.heap.size := boxL ko.out
      have co0 : wr.cell? ⟨w.heap.size + 1 + 1, 0, none⟩ = some (.int .i64 kind) := (boxC ko.out 0).1
      have fo0 : wr.frozen? ⟨w.heap.size + 1 + 1, 0, none⟩ = false := (boxC ko.out 0).2
      have co1 : wr.cell? ⟨w.heap.size + 1 + 1, 1, none⟩ = some (.slice A3 set.length c3) := (boxC ko.out 1).1
      have fo1 : wr.frozen? ⟨w.heap.size + 1 + 1, 1, none⟩ = false := (boxC ko.out 1).2
      have co2 : wr.cell? ⟨w.heap.size + 1 + 1, 2, none⟩ = some (.slice A5 l5 c5) := (boxC ko.out 2).1
      have fo2 : wr.frozen? ⟨w.heap.size + 1 + 1, 2, none⟩ = false := (boxC ko.out 2).2
      have co3 : wr.cell? ⟨w.heap.size + 1 + 1, 3, none⟩ = some (.int .i64 mn) := (boxC ko.out 3).1
      have fo3 : wr.frozen? ⟨w.heap.size + 1 + 1, 3, none⟩ = false := (boxC ko.out 3).2
      have co4 : wr.cell? ⟨w.heap.size + 1 + 1, 4, none⟩ = some (.int .i64 mx) := (boxC ko.out 4).1
      have fo4 : wr.frozen? ⟨w.heap.size + 1 + 1, 4, none⟩ = false := (boxC ko.out 4).2
      have co5 : wr.cell? ⟨w.heap.size + 1 + 1, 5, none⟩ = some (.bool neg) := (boxC ko.out 5).1
      have fo5 : wr.frozen? ⟨w.heap.size + 1 + 1, 5, none⟩ = false := (boxC ko.out 5).2
      have lqr : w.heap.size < wr.heap.size := hx.out.sat.lt (Br.out 0 _ rfl)
      have cr0 : wr.cell? ⟨w.heap.size, 0, none⟩ = some (.int .i64 kind) := hx.out.sat _ _ _ (Br.out 0 _ rfl)
      have cr1 : wr.cell? ⟨w.heap.size, 1, none⟩ = some (.slice A1 set.length c1) := hx.out.sat _ _ _ (Br.out 1 _ rfl)
      have cr2 : wr.cell? ⟨w.heap.size, 2, none⟩ = some (.slice (some ⟨b, off, none⟩) args.length c2) := hx.out.sat _ _ _ (Br.out 2 _ rfl)
      have cr3 : wr.cell? ⟨w.heap.size, 3, none⟩ = some (.int .i64 mn) := hx.out.sat _ _ _ (Br.out 3 _ rfl)
      have cr4 : wr.cell? ⟨w.heap.size, 4, none⟩ = some (.int .i64 mx) := hx.out.sat _ _ _ (Br.out 4 _ rfl)
      have cr5 : wr.cell? ⟨w.heap.size, 5, none⟩ = some (.bool neg) := hx.out.sat _ _ _ (Br.out 5 _ rfl)
      go_wp2_with fail
      clear lqz cz0 fz0 cz1 fz1 cz2 fz2 cz3 fz3 cz4 fz4 cz5 fz5 lqo co0 fo0 co1 fo1 co2 fo2 co3 fo3 co4 fo4 co5 fo5 lqr cr0 cr1 cr2 cr3 cr4 cr5 g0 g1_ g2 g3 g4 g5
      have hszwr := hx.out.size
      have habzwr := boxL kz.out
      have habowr := boxL ko.out
      have nq_q_e := Aside.mk (fun bb (hb : (.slice A5 l5 c5 : Value).ownBlock = some bb) => (show bb ≠ wr.heap.size from by have h1 := (ho.out.blk hb).2.1; omega))
      have kz_ : (wr.alloc (.cells #[.int .i64 k1, .slice P1 s1.length d1, .slice P2 a1.length d2, .int .i64 u1, .int .i64 v1, .bool g1] 25)).heap[w.heap.size + 1]? = some (.cells #[.int .i64 0, .slice none 0 0, .slice none 0 0, .int .i64 0, .int .i64 0, .bool false] 25) := (boxA kz.out (.cells #[.int .i64 k1, .slice P1 s1.length d1, .slice P2 a1.length d2, .int .i64 u1, .int .i64 v1, .bool g1] 25))
      have ko_ : (wr.alloc (.cells #[.int .i64 k1, .slice P1 s1.length d1, .slice P2 a1.length d2, .int .i64 u1, .int .i64 v1, .bool g1] 25)).heap[w.heap.size + 1 + 1]? = some (.cells #[.int .i64 kind, .slice A3 set.length c3, .slice A5 l5 c5, .int .i64 mn, .int .i64 mx, .bool neg] 25) := (boxA ko.out (.cells #[.int .i64 k1, .slice P1 s1.length d1, .slice P2 a1.length d2, .int .i64 u1, .int .i64 v1, .bool g1] 25))
      have ke_ : (wr.alloc (.cells #[.int .i64 k1, .slice P1 s1.length d1, .slice P2 a1.length d2, .int .i64 u1, .int .i64 v1, .bool g1] 25)).heap[wr.heap.size]? = some (.cells #[.int .i64 k1, .slice P1 s1.length d1, .slice P2 a1.length d2, .int .i64 u1, .int .i64 v1, .bool g1] 25) := (heap_alloc_new _ _)
      have ne := Aside.mk (fun o => hx.out.sat.new (b := wr.heap.size) (show wr.heap.size ≤ _ by omega) o)
      replace ho := Aside.mk (ho.out.alloc (hx.out).sat (.cells #[.int .i64 k1, .slice P1 s1.length d1, .slice P2 a1.length d2, .int .i64 u1, .int .i64 v1, .bool g1] 25))
      replace hx := Aside.mk ((hx.out.alloc (.cells #[.int .i64 k1, .slice P1 s1.length d1, .slice P2 a1.length d2, .int .i64 u1, .int .i64 v1, .bool g1] 25)))
      generalize (wr.alloc (.cells #[.int .i64 k1, .slice P1 s1.length d1, .slice P2 a1.length d2, .int .i64 u1, .int .i64 v1, .bool g1] 25)) = W3 at *
      replace kz := Aside.mk kz_
      clear kz_
      replace ko := Aside.mk ko_
      clear ko_
      have ke := Aside.mk ke_
      clear ke_
      obtain ⟨H1, hx2, hle, Be, hold⟩ := box_freeze hx.out (by omega) ke.out ne.out
      replace h2 := Aside.mk (h2.out.mono hle)
      replace hs3 := Aside.mk (hs3.out.mono hle)
      replace hrd := Aside.mk (hrd.out.mono hle)
      replace Br := Aside.mk (Br.out.mono hle)
      replace nz := Aside.mk (fun o => (hold _ o (by omega)).trans (nz.out o))
      replace no := Aside.mk (fun o => (hold _ o (by omega)).trans (no.out o))
      replace ho := Aside.mk (ho.out.keep hle fun bb hb => ⟨rfl, fun o => (hold bb o (nq_q_e.out bb hb)).trans ((ho.out.blk hb).2.2 o)⟩)
      replace hx := Aside.mk hx2
      replace Be := Aside.mk Be
      clear hle hold hx2 ke ne
      have hzo := boxL ko.out
      have hle5 := ho.out.form
      have lqz : w.heap.size + 1 < W3.heap.size := boxL kz.out
      have cz0 : W3.cell? ⟨w.heap.size + 1, 0, none⟩ = some (.int .i64 0) := (boxC kz.out 0).1
      have fz0 : W3.frozen? ⟨w.heap.size + 1, 0, none⟩ = false := (boxC kz.out 0).2
      have cz1 : W3.cell? ⟨w.heap.size + 1, 1, none⟩ = some (.slice none 0 0) := (boxC kz.out 1).1
      have fz1 : W3.frozen? ⟨w.heap.size + 1, 1, none⟩ = false := (boxC kz.out 1).2
      have cz2 : W3.cell? ⟨w.heap.size + 1, 2, none⟩ = some (.slice none 0 0) := (boxC kz.out 2).1
      have fz2 : W3.frozen? ⟨w.heap.size + 1, 2, none⟩ = false := (boxC kz.out 2).2
      have cz3 : W3.cell? ⟨w.heap.size + 1, 3, none⟩ = some (.int .i64 0) := (boxC kz.out 3).1
      have fz3 : W3.frozen? ⟨w.heap.size + 1, 3, none⟩ = false := (boxC kz.out 3).2
      have cz4 : W3.cell? ⟨w.heap.size + 1, 4, none⟩ = some (.int .i64 0) := (boxC kz.out 4).1
      have fz4 : W3.frozen? ⟨w.heap.size + 1, 4, none⟩ = false := (boxC kz.out 4).2
      have cz5 : W3.cell? ⟨w.heap.size + 1, 5, none⟩ = some (.bool false) := (boxC kz.out 5).1
      have fz5 : W3.frozen? ⟨w.heap.size + 1, 5, none⟩ = false := (boxC kz.out 5).2
      have lqo : w.heap.size + 1 + 1 < W3.heap.size := boxL ko.out
      have co0 : W3.cell? ⟨w.heap.size + 1 + 1, 0, none⟩ = some (.int .i64 kind) := (boxC ko.out 0).1
      have fo0 : W3.frozen? ⟨w.heap.size + 1 + 1, 0, none⟩ = false := (boxC ko.out 0).2
      have co1 : W3.cell? ⟨w.heap.size + 1 + 1, 1, none⟩ = some (.slice A3 set.length c3) := (boxC ko.out 1).1
      have fo1 : W3.frozen? ⟨w.heap.size + 1 + 1, 1, none⟩ = false := (boxC ko.out 1).2
      have co2 : W3.cell? ⟨w.heap.size + 1 + 1, 2, none⟩ = some (.slice A5 l5 c5) := (boxC ko.out 2).1
      have fo2 : W3.frozen? ⟨w.heap.size + 1 + 1, 2, none⟩ = false := (boxC ko.out 2).2
      have co3 : W3.cell? ⟨w.heap.size + 1 + 1, 3, none⟩ = some (.int .i64 mn) := (boxC ko.out 3).1
      have fo3 : W3.frozen? ⟨w.heap.size + 1 + 1, 3, none⟩ = false := (boxC ko.out 3).2
      have co4 : W3.cell? ⟨w.heap.size + 1 + 1, 4, none⟩ = some (.int .i64 mx) := (boxC ko.out 4).1
      have fo4 : W3.frozen? ⟨w.heap.size + 1 + 1, 4, none⟩ = false := (boxC ko.out 4).2
      have co5 : W3.cell? ⟨w.heap.size + 1 + 1, 5, none⟩ = some (.bool neg) := (boxC ko.out 5).1
      have fo5 : W3.frozen? ⟨w.heap.size + 1 + 1, 5, none⟩ = false := (boxC ko.out 5).2
      have lqr : w.heap.size < W3.heap.size := hx.out.sat.lt (Br.out 0 _ rfl)
      have cr0 : W3.cell? ⟨w.heap.size, 0, none⟩ = some (.int .i64 kind) := hx.out.sat _ _ _ (Br.out 0 _ rfl)
      have cr1 : W3.cell? ⟨w.heap.size, 1, none⟩ = some (.slice A1 set.length c1) := hx.out.sat _ _ _ (Br.out 1 _ rfl)
      have cr2 : W3.cell? ⟨w.heap.size, 2, none⟩ = some (.slice (some ⟨b, off, none⟩) args.length c2) := hx.out.sat _ _ _ (Br.out 2 _ rfl)
      have cr3 : W3.cell? ⟨w.heap.size, 3, none⟩ = some (.int .i64 mn) := hx.out.sat _ _ _ (Br.out 3 _ rfl)
      have cr4 : W3.cell? ⟨w.heap.size, 4, none⟩ = some (.int .i64 mx) := hx.out.sat _ _ _ (Br.out 4 _ rfl)
      have cr5 : W3.cell? ⟨w.heap.size, 5, none⟩ = some (.bool neg) := hx.out.sat _ _ _ (Br.out 5 _ rfl)
      have lqe : wr.heap.size < W3.heap.size := hx.out.sat.lt (Be.out 0 _ rfl)
      have ce0 : W3.cell? ⟨wr.heap.size, 0, none⟩ = some (.int .i64 k1) := hx.out.sat _ _ _ (Be.out 0 _ rfl)
      have ce1 : W3.cell? ⟨wr.heap.size, 1, none⟩ = some (.slice P1 s1.length d1) := hx.out.sat _ _ _ (Be.out 1 _ rfl)
      have ce2 : W3.cell? ⟨wr.heap.size, 2, none⟩ = some (.slice P2 a1.length d2) := hx.out.sat _ _ _ (Be.out 2 _ rfl)
      have ce3 : W3.cell? ⟨wr.heap.size, 3, none⟩ = some (.int .i64 u1) := hx.out.sat _ _ _ (Be.out 3 _ rfl)
      have ce4 : W3.cell? ⟨wr.heap.size, 4, none⟩ = some (.int .i64 v1) := hx.out.sat _ _ _ (Be.out 4 _ rfl)
      have ce5 : W3.cell? ⟨wr.heap.size, 5, none⟩ = some (.bool g1) := hx.out.sat _ _ _ (Be.out 5 _ rfl)
      go_region_law ((first
        | (have _t := hr2; go_must (refine step_app1 kRe rfl (.tmp 22) (.tmp 26) 23 rfl 25 Try.underlying23 info25 rfl (ho.out.drew.ext hx2) hx2.sat rfl rfl rfl hr2 hby.out.1 hby.out.2 hsz2 ?_); intro v9 w9 ho9 hg9 hs9 hn9; obtain ⟨A9, c9, rfl, -, -, -, -⟩ := ho9.form; have k9 := boxG k2 hg9 (fun e => by have h1 := ((ho.out.drew.ext hx2).blk e).1; omega); have co9 := (boxC k9 2).1; have fo9 := (boxC k9 2).2; have hz9 := boxL k9)
        | (go_simp; go_at_call 124; refine (hcall.out _ _ _ hrd.out hx.out.drew.sat).mono ?_; rintro e w2 ⟨H2, cs2, rfl, hr2, hx2⟩; obtain ⟨k7, s7, a7, u7, v7, g7, e7⟩ : ∃ a b c d e f, gr = Re.mk a b c d e f := (by cases gr; exact ⟨_, _, _, _, _, _, rfl⟩); rw [e7] at hr2; obtain ⟨Q1, q1, Q2, q2, rfl, -, -⟩ := hr2.open; have k2 := box_below (w := W3.drew) ko.out hx2.below; have co22 := (boxC k2 2).1; have hz22 := boxL k2; have hsz2 : w.heap.size + 1 + 1 + 1 ≤ w2.heap.size := hz22)))
      all_goals
        clear lqz cz0 fz0 cz1 fz1 cz2 fz2 cz3 fz3 cz4 fz4 cz5 fz5 lqo co0 fo0 co1 fo1 co2 fo2 co3 fo3 co4 fo4 co5 fo5 lqr cr0 cr1 cr2 cr3 cr4 cr5 lqe ce0 ce1 ce2 ce3 ce4 ce5
        have hl9 : ((args.take k).map g ++ [Re.mk k7 s7 a7 u7 v7 g7]).length = k + 1 := by have := hlt2.out; simp; omega
        rw [hl9] at ho9
        clear hl9
        have kz_ : W3.drew.heap[w.heap.size + 1]? = some (.cells #[.int .i64 0, .slice none 0 0, .slice none 0 0, .int .i64 0, .int .i64 0, .bool false] 25) := kz.out
        have ko_ : W3.drew.heap[w.heap.size + 1 + 1]? = some (.cells #[.int .i64 kind, .slice A3 set.length c3, .slice A5 l5 c5, .int .i64 mn, .int .i64 mx, .bool neg] 25) := ko.out
        replace ho := Aside.mk (ho.out.drew)
        replace hx := Aside.mk ((hx.out.drew))
        generalize W3.drew = W4 at *
        replace kz := Aside.mk kz_
        clear kz_
        replace ko := Aside.mk ko_
        clear ko_
        have hle := hx2.le
        replace h2 := Aside.mk (h2.out.mono hle)
        replace hs3 := Aside.mk (hs3.out.mono hle)
        replace hrd := Aside.mk (hrd.out.mono hle)
        replace Br := Aside.mk (Br.out.mono hle)
        replace Be := Aside.mk (Be.out.mono hle)
        replace nz := Aside.mk (fun o => (hx2.old _ o (boxL kz.out)).trans (nz.out o))
        replace no := Aside.mk (fun o => (hx2.old _ o (boxL ko.out)).trans (no.out o))
        replace kz := Aside.mk (box_below kz.out hx2.below)
        replace ko := Aside.mk (box_below ko.out hx2.below)
        replace ho := Aside.mk (ho.out.ext hx2)
        replace hx := Aside.mk (hx.out.trans hx2)
        clear hle hx2
        replace kz := Aside.mk (boxG kz.out hg9 (fun e => by have h1 := (ho.out.blk e).1; omega))
        replace ko := Aside.mk (boxG ko.out hg9 (fun e => by have h1 := (ho.out.blk e).1; omega))
        replace hx := Aside.mk (ho.out.extG hx.out (by omega) hg9)
        replace ho := Aside.mk ho9
        have kz_ : (w9.setCell ⟨w.heap.size + 1 + 1, 2, none⟩ (.slice A9 (k + 1) c9)).heap[w.heap.size + 1]? = some (.cells #[.int .i64 0, .slice none 0 0, .slice none 0 0, .int .i64 0, .int .i64 0, .bool false] 25) := (boxS_ne kz.out (by first | omega | (simp; omega)) 2 (.slice A9 (k + 1) c9))
        have ko_ : (w9.setCell ⟨w.heap.size + 1 + 1, 2, none⟩ (.slice A9 (k + 1) c9)).heap[w.heap.size + 1 + 1]? = some (.cells #[.int .i64 kind, .slice A3 set.length c3, .slice A9 (k + 1) c9, .int .i64 mn, .int .i64 mx, .bool neg] 25) := (boxS ko.out 2 (.slice A9 (k + 1) c9))
        replace ho := Aside.mk (ho.out.grown (grownBy_setCell _ (w.heap.size + 1 + 1) 2 (.slice A9 (k + 1) c9)) (Or.inr (fun e => by have h1 := (ho.out.blk e).1; omega)))
        replace hx := Aside.mk ((hx.out.setCell (b := w.heap.size + 1 + 1) (o := 2) (by first | omega | (simp; omega)) no.out (.slice A9 (k + 1) c9)))
        generalize (w9.setCell ⟨w.heap.size + 1 + 1, 2, none⟩ (.slice A9 (k + 1) c9)) = W5 at *
        replace kz := Aside.mk kz_
        clear kz_
        replace ko := Aside.mk ko_
        clear ko_
        clear hrd
        clear Be
        clear co22 co9 fo9 k2 k9 hs9 hn9 hr2 hcall hby ho9 hg9 hz22 hz9 hsz2
        have lqz : w.heap.size + 1 < W5.heap.size := boxL kz.out
        have cz0 : W5.cell? ⟨w.heap.size + 1, 0, none⟩ = some (.int .i64 0) := (boxC kz.out 0).1
        have fz0 : W5.frozen? ⟨w.heap.size + 1, 0, none⟩ = false := (boxC kz.out 0).2
        have cz1 : W5.cell? ⟨w.heap.size + 1, 1, none⟩ = some (.slice none 0 0) := (boxC kz.out 1).1
        have fz1 : W5.frozen? ⟨w.heap.size + 1, 1, none⟩ = false := (boxC kz.out 1).2
        have cz2 : W5.cell? ⟨w.heap.size + 1, 2, none⟩ = some (.slice none 0 0) := (boxC kz.out 2).1
        have fz2 : W5.frozen? ⟨w.heap.size + 1, 2, none⟩ = false := (boxC kz.out 2).2
        have cz3 : W5.cell? ⟨w.heap.size + 1, 3, none⟩ = some (.int .i64 0) := (boxC kz.out 3).1
        have fz3 : W5.frozen? ⟨w.heap.size + 1, 3, none⟩ = false := (boxC kz.out 3).2
        have cz4 : W5.cell? ⟨w.heap.size + 1, 4, none⟩ = some (.int .i64 0) := (boxC kz.out 4).1
        have fz4 : W5.frozen? ⟨w.heap.size + 1, 4, none⟩ = false := (boxC kz.out 4).2
        have cz5 : W5.cell? ⟨w.heap.size + 1, 5, none⟩ = some (.bool false) := (boxC kz.out 5).1
        have fz5 : W5.frozen? ⟨w.heap.size + 1, 5, none⟩ = false := (boxC kz.out 5).2
        have lqo : w.heap.size + 1 + 1 < W5.heap.size := boxL ko.out
        have co0 : W5.cell? ⟨w.heap.size + 1 + 1, 0, none⟩ = some (.int .i64 kind) := (boxC ko.out 0).1
        have fo0 : W5.frozen? ⟨w.heap.size + 1 + 1, 0, none⟩ = false := (boxC ko.out 0).2
        have co1 : W5.cell? ⟨w.heap.size + 1 + 1, 1, none⟩ = some (.slice A3 set.length c3) := (boxC ko.out 1).1
        have fo1 : W5.frozen? ⟨w.heap.size + 1 + 1, 1, none⟩ = false := (boxC ko.out 1).2
        have co2 : W5.cell? ⟨w.heap.size + 1 + 1, 2, none⟩ = some (.slice A9 (k + 1) c9) := (boxC ko.out 2).1
        have fo2 : W5.frozen? ⟨w.heap.size + 1 + 1, 2, none⟩ = false := (boxC ko.out 2).2
        have co3 : W5.cell? ⟨w.heap.size + 1 + 1, 3, none⟩ = some (.int .i64 mn) := (boxC ko.out 3).1
        have fo3 : W5.frozen? ⟨w.heap.size + 1 + 1, 3, none⟩ = false := (boxC ko.out 3).2
        have co4 : W5.cell? ⟨w.heap.size + 1 + 1, 4, none⟩ = some (.int .i64 mx) := (boxC ko.out 4).1
        have fo4 : W5.frozen? ⟨w.heap.size + 1 + 1, 4, none⟩ = false := (boxC ko.out 4).2
        have co5 : W5.cell? ⟨w.heap.size + 1 + 1, 5, none⟩ = some (.bool neg) := (boxC ko.out 5).1
        have fo5 : W5.frozen? ⟨w.heap.size + 1 + 1, 5, none⟩ = false := (boxC ko.out 5).2
        have lqr : w.heap.size < W5.heap.size := hx.out.sat.lt (Br.out 0 _ rfl)
        have cr0 : W5.cell? ⟨w.heap.size, 0, none⟩ = some (.int .i64 kind) := hx.out.sat _ _ _ (Br.out 0 _ rfl)
        have cr1 : W5.cell? ⟨w.heap.size, 1, none⟩ = some (.slice A1 set.length c1) := hx.out.sat _ _ _ (Br.out 1 _ rfl)
        have cr2 : W5.cell? ⟨w.heap.size, 2, none⟩ = some (.slice (some ⟨b, off, none⟩) args.length c2) := hx.out.sat _ _ _ (Br.out 2 _ rfl)
        have cr3 : W5.cell? ⟨w.heap.size, 3, none⟩ = some (.int .i64 mn) := hx.out.sat _ _ _ (Br.out 3 _ rfl)
        have cr4 : W5.cell? ⟨w.heap.size, 4, none⟩ = some (.int .i64 mx) := hx.out.sat _ _ _ (Br.out 4 _ rfl)
        have cr5 : W5.cell? ⟨w.heap.size, 5, none⟩ = some (.bool neg) := hx.out.sat _ _ _ (Br.out 5 _ rfl)
        go_wp2_with fail
        clear lqz cz0 fz0 cz1 fz1 cz2 fz2 cz3 fz3 cz4 fz4 cz5 fz5 lqo co0 fo0 co1 fo1 co2 fo2 co3 fo3 co4 fo4 co5 fo5 lqr cr0 cr1 cr2 cr3 cr4 cr5
        go_roundw
        case rel => exact ⟨k + 1, A9, (k + 1), c9, _, hlt2.out, by go_num, hx, h2, hs3, Br, kz, nz, ko, no, ⟨by rw [htk.out, e7]; exact ho.out⟩⟩
        case measure => (have := hlt2.out; simp [intOf]; omega)
    · obtain rfl : k = args.length := by omega
      have lqz : w.heap.size + 1 < wr.heap.size := boxL kz.out
      have cz0 : wr.cell? ⟨w.heap.size + 1, 0, none⟩ = some (.int .i64 0) := (boxC kz.out 0).1
      have fz0 : wr.frozen? ⟨w.heap.size + 1, 0, none⟩ = false := (boxC kz.out 0).2
      have cz1 : wr.cell? ⟨w.heap.size + 1, 1, none⟩ = some (.slice none 0 0) := (boxC kz.out 1).1
      have fz1 : wr.frozen? ⟨w.heap.size + 1, 1, none⟩ = false := (boxC kz.out 1).2
      have cz2 : wr.cell? ⟨w.heap.size + 1, 2, none⟩ = some (.slice none 0 0) := (boxC kz.out 2).1
      have fz2 : wr.frozen? ⟨w.heap.size + 1, 2, none⟩ = false := (boxC kz.out 2).2
      have cz3 : wr.cell? ⟨w.heap.size + 1, 3, none⟩ = some (.int .i64 0) := (boxC kz.out 3).1
      have fz3 : wr.frozen? ⟨w.heap.size + 1, 3, none⟩ = false := (boxC kz.out 3).2
      have cz4 : wr.cell? ⟨w.heap.size + 1, 4, none⟩ = some (.int .i64 0) := (boxC kz.out 4).1
      have fz4 : wr.frozen? ⟨w.heap.size + 1, 4, none⟩ = false := (boxC kz.out 4).2
      have cz5 : wr.cell? ⟨w.heap.size + 1, 5, none⟩ = some (.bool false) := (boxC kz.out 5).1
      have fz5 : wr.frozen? ⟨w.heap.size + 1, 5, none⟩ = false := (boxC kz.out 5).2
      have lqo : w.heap.size + 1 + 1 < wr.heap.size := boxL ko.out
      have co0 : wr.cell? ⟨w.heap.size + 1 + 1, 0, none⟩ = some (.int .i64 kind) := (boxC ko.out 0).1
      have fo0 : wr.frozen? ⟨w.heap.size + 1 + 1, 0, none⟩ = false := (boxC ko.out 0).2
      have co1 : wr.cell? ⟨w.heap.size + 1 + 1, 1, none⟩ = some (.slice A3 set.length c3) := (boxC ko.out 1).1
      have fo1 : wr.frozen? ⟨w.heap.size + 1 + 1, 1, none⟩ = false := (boxC ko.out 1).2
      have co2 : wr.cell? ⟨w.heap.size + 1 + 1, 2, none⟩ = some (.slice A5 l5 c5) := (boxC ko.out 2).1
      have fo2 : wr.frozen? ⟨w.heap.size + 1 + 1, 2, none⟩ = false := (boxC ko.out 2).2
      have co3 : wr.cell? ⟨w.heap.size + 1 + 1, 3, none⟩ = some (.int .i64 mn) := (boxC ko.out 3).1
      have fo3 : wr.frozen? ⟨w.heap.size + 1 + 1, 3, none⟩ = false := (boxC ko.out 3).2
      have co4 : wr.cell? ⟨w.heap.size + 1 + 1, 4, none⟩ = some (.int .i64 mx) := (boxC ko.out 4).1
      have fo4 : wr.frozen? ⟨w.heap.size + 1 + 1, 4, none⟩ = false := (boxC ko.out 4).2
      have co5 : wr.cell? ⟨w.heap.size + 1 + 1, 5, none⟩ = some (.bool neg) := (boxC ko.out 5).1
      have fo5 : wr.frozen? ⟨w.heap.size + 1 + 1, 5, none⟩ = false := (boxC ko.out 5).2
      have lqr : w.heap.size < wr.heap.size := hx.out.sat.lt (Br.out 0 _ rfl)
      have cr0 : wr.cell? ⟨w.heap.size, 0, none⟩ = some (.int .i64 kind) := hx.out.sat _ _ _ (Br.out 0 _ rfl)
      have cr1 : wr.cell? ⟨w.heap.size, 1, none⟩ = some (.slice A1 set.length c1) := hx.out.sat _ _ _ (Br.out 1 _ rfl)
      have cr2 : wr.cell? ⟨w.heap.size, 2, none⟩ = some (.slice A2 args.length c2) := hx.out.sat _ _ _ (Br.out 2 _ rfl)
      have cr3 : wr.cell? ⟨w.heap.size, 3, none⟩ = some (.int .i64 mn) := hx.out.sat _ _ _ (Br.out 3 _ rfl)
      have cr4 : wr.cell? ⟨w.heap.size, 4, none⟩ = some (.int .i64 mx) := hx.out.sat _ _ _ (Br.out 4 _ rfl)
      have cr5 : wr.cell? ⟨w.heap.size, 5, none⟩ = some (.bool neg) := hx.out.sat _ _ _ (Br.out 5 _ rfl)
      go_wp2_with fail
      clear lqz cz0 fz0 cz1 fz1 cz2 fz2 cz3 fz3 cz4 fz4 cz5 fz5 lqo co0 fo0 co1 fo1 co2 fo2 co3 fo3 co4 fo4 co5 fo5 lqr cr0 cr1 cr2 cr3 cr4 cr5
      have kz_ : ((((((wr.setCell ⟨w.heap.size + 1, 0, none⟩ (.int .i64 kind)).setCell ⟨w.heap.size + 1, 1, none⟩ (.slice A3 set.length c3)).setCell ⟨w.heap.size + 1, 2, none⟩ (.slice A5 l5 c5)).setCell ⟨w.heap.size + 1, 3, none⟩ (.int .i64 mn)).setCell ⟨w.heap.size + 1, 4, none⟩ (.int .i64 mx)).setCell ⟨w.heap.size + 1, 5, none⟩ (.bool neg)).heap[w.heap.size + 1]? = some (.cells #[.int .i64 kind, .slice A3 set.length c3, .slice A5 l5 c5, .int .i64 mn, .int .i64 mx, .bool neg] 25) := (boxS (boxS (boxS (boxS (boxS (boxS kz.out 0 (.int .i64 kind)) 1 (.slice A3 set.length c3)) 2 (.slice A5 l5 c5)) 3 (.int .i64 mn)) 4 (.int .i64 mx)) 5 (.bool neg))
      have ko_ : ((((((wr.setCell ⟨w.heap.size + 1, 0, none⟩ (.int .i64 kind)).setCell ⟨w.heap.size + 1, 1, none⟩ (.slice A3 set.length c3)).setCell ⟨w.heap.size + 1, 2, none⟩ (.slice A5 l5 c5)).setCell ⟨w.heap.size + 1, 3, none⟩ (.int .i64 mn)).setCell ⟨w.heap.size + 1, 4, none⟩ (.int .i64 mx)).setCell ⟨w.heap.size + 1, 5, none⟩ (.bool neg)).heap[w.heap.size + 1 + 1]? = some (.cells #[.int .i64 kind, .slice A3 set.length c3, .slice A5 l5 c5, .int .i64 mn, .int .i64 mx, .bool neg] 25) := (boxS_ne (boxS_ne (boxS_ne (boxS_ne (boxS_ne (boxS_ne ko.out (by first | omega | (simp; omega)) 0 (.int .i64 kind)) (by first | omega | (simp; omega)) 1 (.slice A3 set.length c3)) (by first | omega | (simp; omega)) 2 (.slice A5 l5 c5)) (by first | omega | (simp; omega)) 3 (.int .i64 mn)) (by first | omega | (simp; omega)) 4 (.int .i64 mx)) (by first | omega | (simp; omega)) 5 (.bool neg))
      replace ho := Aside.mk ((((((ho.out.grown (grownBy_setCell _ (w.heap.size + 1) 0 (.int .i64 kind)) (Or.inr (fun e => by have h1 := (ho.out.blk e).1; omega))).grown (grownBy_setCell _ (w.heap.size + 1) 1 (.slice A3 set.length c3)) (Or.inr (fun e => by have h1 := (ho.out.blk e).1; omega))).grown (grownBy_setCell _ (w.heap.size + 1) 2 (.slice A5 l5 c5)) (Or.inr (fun e => by have h1 := (ho.out.blk e).1; omega))).grown (grownBy_setCell _ (w.heap.size + 1) 3 (.int .i64 mn)) (Or.inr (fun e => by have h1 := (ho.out.blk e).1; omega))).grown (grownBy_setCell _ (w.heap.size + 1) 4 (.int .i64 mx)) (Or.inr (fun e => by have h1 := (ho.out.blk e).1; omega))).grown (grownBy_setCell _ (w.heap.size + 1) 5 (.bool neg)) (Or.inr (fun e => by have h1 := (ho.out.blk e).1; omega)))
      replace hx := Aside.mk (((((((hx.out.setCell (b := w.heap.size + 1) (o := 0) (by first | omega | (simp; omega)) nz.out (.int .i64 kind)).setCell (b := w.heap.size + 1) (o := 1) (by first | omega | (simp; omega)) nz.out (.slice A3 set.length c3)).setCell (b := w.heap.size + 1) (o := 2) (by first | omega | (simp; omega)) nz.out (.slice A5 l5 c5)).setCell (b := w.heap.size + 1) (o := 3) (by first | omega | (simp; omega)) nz.out (.int .i64 mn)).setCell (b := w.heap.size + 1) (o := 4) (by first | omega | (simp; omega)) nz.out (.int .i64 mx)).setCell (b := w.heap.size + 1) (o := 5) (by first | omega | (simp; omega)) nz.out (.bool neg)))
      generalize ((((((wr.setCell ⟨w.heap.size + 1, 0, none⟩ (.int .i64 kind)).setCell ⟨w.heap.size + 1, 1, none⟩ (.slice A3 set.length c3)).setCell ⟨w.heap.size + 1, 2, none⟩ (.slice A5 l5 c5)).setCell ⟨w.heap.size + 1, 3, none⟩ (.int .i64 mn)).setCell ⟨w.heap.size + 1, 4, none⟩ (.int .i64 mx)).setCell ⟨w.heap.size + 1, 5, none⟩ (.bool neg)) = W6 at *
      replace kz := Aside.mk kz_
      clear kz_
      replace ko := Aside.mk ko_
      clear ko_
      refine bodyPost_ret (resC rfl _ _ _ rfl (run_loadVar_row _ _ _ _ _ (0, 0) _ kz.out Try.underlying25 rfl (by kernel_rfl))) rfl ?_
      have ho2 := ho.out
      rw [List.take_of_length_le (Nat.le_refl _)] at ho2
      have hl5 : l5 = (args.map g).length := by obtain ⟨A6, c6, e6, -, -, -, -⟩ := ho2.form; injection e6
      subst hl5
      exact ⟨_, _, _, _, _, rfl, hs3.out, ho2.rebase (by omega), hx.out⟩
end Go.Proofs.Ytbnahmeaeakhhaa.B

namespace Go.Proofs.Ytbnahmeaeakhhaa.B
set_option linter.unusedVariables false
set_option linter.unusedSimpArgs false
open Go Go.RowKit Classical

theorem grownBy_drew (w : World) (row : Option Nat) : w.grownBy w.drew row := ⟨rfl, rfl, rfl, Nat.le_refl _, fun _ _ _ => rfl⟩
/-- the row after k exchanges -/
def mid {α : Type} (xs : List α) (k : Nat) : List α := List.ofFn (n := xs.length) fun m => if m.val < k ∨ xs.length ≤ m.val + k then xs[xs.length - 1 - m.val]'(by omega) else xs[m.val]
theorem mid_len {α : Type} (xs : List α) (k : Nat) : (mid xs k).length = xs.length := by simp [mid]
theorem mid_get {α : Type} (xs : List α) (k m : Nat) (h : m < (mid xs k).length) : (mid xs k)[m] = if m < k ∨ xs.length ≤ m + k then xs[xs.length - 1 - m]'(by rw [mid_len] at h; omega) else xs[m]'(by rw [mid_len] at h; omega) := by
  simp [mid]
theorem mid_0 {α : Type} (xs : List α) : mid xs 0 = xs := by
  apply List.ext_getElem (mid_len xs 0)
  intro m h1 h2
  rw [mid_get, if_neg (by omega)]
theorem mid_rev {α : Type} (xs : List α) (k : Nat) (h : xs.length ≤ 2 * k + 1) : mid xs k = xs.reverse := by
  apply List.ext_getElem (by rw [mid_len, List.length_reverse])
  intro m h1 h2
  rw [mid_get, List.getElem_reverse]
  rw [mid_len] at h1
  split
  · rfl
  · congr 1; omega
theorem mid_step {α : Type} (xs : List α) (k : Nat) (h : 2 * k + 1 < xs.length) :
    ((mid xs k).set k (xs[xs.length - 1 - k]'(by omega))).set (xs.length - 1 - k) (xs[k]'(by omega)) = mid xs (k + 1) := by
  apply List.ext_getElem (by simp [mid_len])
  intro m h1 h2
  rw [mid_len] at h2
  rw [List.getElem_set, List.getElem_set, mid_get, mid_get]
  by_cases e1 : xs.length - 1 - k = m
  · rw [if_pos e1, if_pos (by omega)]
    congr 1; omega
  · rw [if_neg e1]
    by_cases e2 : k = m
    · rw [if_pos e2, if_pos (by omega)]
      congr 1; omega
    · rw [if_neg e2]
      by_cases e3 : m < k ∨ xs.length ≤ m + k
      · rw [if_pos e3, if_pos (by omega)]
      · rw [if_neg e3, if_neg (by omega)]

set_option maxRecDepth 100000 in
set_option maxHeartbeats 4000000 in
theorem revInt_any (e : TypeId) (base : Nat) (H : PH) (xs : List Int) (v : Value) (w : World) (ho : Own (kI .i64) e w base H v xs) (hm : xs.length ≤ 140737488355328) :
    Calls Try.prog 50 #[v] w fun r w' => r = .returned (.tuple #[]) ∧ Own (kI .i64) e w' base H v xs.reverse ∧ w.grownBy w' v.ownBlock := by
  obtain ⟨A, c, rfl, hn, hc, hA, hB⟩ := ho.form
  go_enter Try.func50, Try.ntmps50
  go_wp2_with fail
  go_loopw [2, 3] (fun s2 s3 wr => ∃ k : Nat, 2 * k ≤ xs.length + 1 ∧ s2 = .int .i64 k ∧ s3 = .int .i64 ((xs.length : Int) - 1 - k) ∧ Aside (Own (kI .i64) e wr base H (.slice A xs.length c) (mid xs k)) ∧ Aside (w.grownBy wr (Value.slice A xs.length c).ownBlock)) (fun s2 _ _ => xs.length - (intOf s2).toNat)
  case atStart => exact ⟨0, by omega, by go_num, by go_num, ⟨by rw [mid_0]; exact ho⟩, ⟨grownBy_refl _ _⟩⟩
  case round =>
    obtain ⟨k, hk, rfl, rfl, hO, hg⟩ := hrel
    by_cases hlt : (k : Int) < (xs.length : Int) - 1 - k
    · have hk1 : k < (mid xs k).length := by rw [mid_len]; omega
      have hk2 : xs.length - 1 - k < (mid xs k).length := by rw [mid_len]; omega
      obtain ⟨g, rfl⟩ : ∃ g, A = some ⟨g, 0, none⟩ := by
        obtain ⟨g, c1, cs1, e1, -⟩ := hO.out.cells k hk1
        injection e1 with e1
        exact ⟨g, e1⟩
      have ho1 := hO.out.drew
      obtain ⟨ci, ri, gi⟩ := ho1.at k hk1
      obtain ⟨cj, rj, gj⟩ := ho1.at (xs.length - 1 - k) hk2
      have vi : (mid xs k)[k] = xs[k]'(by omega) := by rw [mid_get, if_neg (by omega)]
      have vj : (mid xs k)[xs.length - 1 - k] = xs[xs.length - 1 - k]'(by omega) := by rw [mid_get, if_neg (by omega)]
      rw [vi] at ri; rw [vj] at rj
      obtain rfl : ci = [.int .i64 (xs[k]'(by omega))] := ri
      obtain rfl : cj = [.int .i64 (xs[xs.length - 1 - k]'(by omega))] := rj
      have G0 := gi 0 _ rfl
      have G1 := gj 0 _ rfl
      simp only [kI, Nat.mul_one, Nat.add_zero] at G0 G1
      have F0 := fun j => ho1.free (mid_len xs k).symm j
      have hst := mid_step xs k (by omega)
      obtain ⟨P1, Q1⟩ := hO.out.put1 (mid_len xs k).symm rfl hk1 (y := xs[xs.length - 1 - k]'(by omega)) (u := .int .i64 (xs[xs.length - 1 - k]'(by omega))) rfl
      obtain ⟨P2, Q2⟩ := P1.put1 (by rw [List.length_set, mid_len]) rfl (i := xs.length - 1 - k) (by rw [List.length_set, mid_len]; omega) (y := xs[k]'(by omega)) (u := .int .i64 (xs[k]'(by omega))) rfl
      rw [hst] at P2
      have F1 := fun j => P1.drew.free (by rw [List.length_set, mid_len]) j
      obtain ⟨cj2, rj2, gj2⟩ := P1.drew.at (xs.length - 1 - k) (by rw [List.length_set, mid_len]; omega)
      rw [List.getElem_set, if_neg (by omega), vj] at rj2
      obtain rfl : cj2 = [.int .i64 (xs[xs.length - 1 - k]'(by omega))] := rj2
      have G2 := gj2 0 _ rfl
      simp only [kI, Nat.mul_one, Nat.add_zero] at G2
      clear gj2
      clear vi vj gi gj
      generalize hzi : xs[k]'(by omega) = zi at *
      generalize hzj : xs[xs.length - 1 - k]'(by omega) = zj at *
      have hjn : ((xs.length - 1 - k : Nat) : Int) = (xs.length : Int) - 1 - k := by omega
      go_wp2_with fail
      go_region
      go_wp2_with fail
      go_roundw
      case rel => exact ⟨k + 1, by omega, by go_num, by (refine congrArg _ ?_; omega), ⟨P2.drew⟩, ⟨grownBy_trans hg.out (grownBy_trans (grownBy_trans Q1 Q2) (grownBy_drew _ _))⟩⟩
      case measure => simp [intOf]; omega
    · go_wp2_with fail
      go_end0
      have h9 := hO.out
      rw [mid_rev xs k (by omega)] at h9
      exact ⟨rfl, h9, hg.out⟩
end Go.Proofs.Ytbnahmeaeakhhaa.B

namespace Go.Proofs.Ytbnahmeaeakhhaa.B
set_option linter.unusedVariables false
set_option linter.unusedSimpArgs false
open Go Go.RowKit Classical

theorem set6 {α : Type} (u0 u1 u2 u3 u4 u5 : α) : ∀ (cs : List α) (j : Nat), j + 6 ≤ cs.length →
    (((((cs.set j u0).set (j + 1) u1).set (j + 2) u2).set (j + 3) u3).set (j + 4) u4).set (j + 5) u5 = cs.take j ++ [u0, u1, u2, u3, u4, u5] ++ cs.drop (j + 6)
  | [], j, h => absurd h (by simp)
  | x :: cs, j + 1, h => by
    have ih := set6 u0 u1 u2 u3 u4 u5 cs j (by simp at h; omega)
    exact congrArg (x :: ·) ih
  | _ :: _ :: _ :: _ :: _ :: _ :: b, 0, h => by simp
  | [_], 0, h => absurd h (by simp)
  | [_, _], 0, h => absurd h (by simp)
  | [_, _, _], 0, h => absurd h (by simp)
  | [_, _, _, _], 0, h => absurd h (by simp)
  | [_, _, _, _, _], 0, h => absurd h (by simp)

/-- the world after six stores -/
def put6 (w : World) (g j : Nat) (u0 u1 u2 u3 u4 u5 : Value) : World :=
  (((((w.setCell ⟨g, j, none⟩ u0).setCell ⟨g, j + 1, none⟩ u1).setCell ⟨g, j + 2, none⟩ u2).setCell ⟨g, j + 3, none⟩ u3).setCell ⟨g, j + 4, none⟩ u4).setCell ⟨g, j + 5, none⟩ u5

theorem Own.put6 {α : Type} {k : Kd α} {e : TypeId} {w : World} {base : Nat} {H : PH} {xs : List α} {g c n : Nat} (h : Own k e w base H (.slice (some ⟨g, 0, none⟩) n c) xs) (hn : n = xs.length) (hk : k.sz = 6) {i : Nat} (hi : i < xs.length) {y : α} {u0 u1 u2 u3 u4 u5 : Value} (hy : k.rd H y [u0, u1, u2, u3, u4, u5]) :
    Own k e (B.put6 w g (i * 6) u0 u1 u2 u3 u4 u5) base H (.slice (some ⟨g, 0, none⟩) n c) (xs.set i y) ∧ w.grownBy (B.put6 w g (i * 6) u0 u1 u2 u3 u4 u5) (some g) := by
  subst hn
  obtain ⟨cs, h1, h2, h3⟩ := h
  obtain ⟨a0, b0⟩ := World.ownsRow.stored h2 (i * 6) u0
  obtain ⟨a1, b1⟩ := World.ownsRow.stored a0 (i * 6 + 1) u1
  obtain ⟨a2, b2⟩ := World.ownsRow.stored a1 (i * 6 + 2) u2
  obtain ⟨a3, b3⟩ := World.ownsRow.stored a2 (i * 6 + 3) u3
  obtain ⟨a4, b4⟩ := World.ownsRow.stored a3 (i * 6 + 4) u4
  obtain ⟨a5, b5⟩ := World.ownsRow.stored a4 (i * 6 + 5) u5
  have h6 := h1.set i hi y _ hy
  have hl := h1.length
  rw [hk] at h6 hl
  rw [← set6 u0 u1 u2 u3 u4 u5 cs (i * 6) (by rw [hl]; have := Nat.mul_le_mul_right 6 hi; omega)] at h6
  exact ⟨⟨_, h6, by rw [List.length_set]; exact a5, h3⟩, grownBy_trans b0 (grownBy_trans b1 (grownBy_trans b2 (grownBy_trans b3 (grownBy_trans b4 b5))))⟩

/-- the cells of an element of an owned row of expressions -/
theorem Own.atRe {e : TypeId} {w : World} {base : Nat} {H : PH} {xs : List Re} {g c n : Nat} (h : Own kRe e w base H (.slice (some ⟨g, 0, none⟩) n c) xs) (i : Nat) (hi : i < xs.length) :
    ∃ z A1 n1 c1 A2 n2 c2 mn mx ng, RdRe H xs[i] [.int .i64 z, .slice A1 n1 c1, .slice A2 n2 c2, .int .i64 mn, .int .i64 mx, .bool ng] ∧ w.cell? ⟨g, i * 6, none⟩ = some (.int .i64 z) ∧ w.cell? ⟨g, i * 6 + 1, none⟩ = some (.slice A1 n1 c1) ∧ w.cell? ⟨g, i * 6 + 2, none⟩ = some (.slice A2 n2 c2) ∧ w.cell? ⟨g, i * 6 + 3, none⟩ = some (.int .i64 mn) ∧ w.cell? ⟨g, i * 6 + 4, none⟩ = some (.int .i64 mx) ∧ w.cell? ⟨g, i * 6 + 5, none⟩ = some (.bool ng) := by
  obtain ⟨cs, hrd, hc⟩ := h.at i hi
  have hrd : RdRe H xs[i] cs := hrd
  generalize xs[i] = x at *
  cases x with
  | mk k s a mn mx ng =>
    have hrd0 := hrd
    obtain ⟨A1, c1, A2, c2, rfl, -, -⟩ := hrd.open
    exact ⟨_, _, _, _, _, _, _, _, _, _, hrd0, hc 0 _ rfl, hc 1 _ rfl, hc 2 _ rfl, hc 3 _ rfl, hc 4 _ rfl, hc 5 _ rfl⟩

theorem run_put6 (P : Program) (w : World) (g j : Nat) (u0 u1 u2 u3 u4 u5 x0 x1 x2 x3 x4 x5 : Value) (p0 : w.cell? ⟨g, j, none⟩ = some x0) (p1 : w.cell? ⟨g, j + 1, none⟩ = some x1) (p2 : w.cell? ⟨g, j + 2, none⟩ = some x2) (p3 : w.cell? ⟨g, j + 3, none⟩ = some x3) (p4 : w.cell? ⟨g, j + 4, none⟩ = some x4) (p5 : w.cell? ⟨g, j + 5, none⟩ = some x5)
    (hf : ∀ j, w.frozen? ⟨g, j, none⟩ = false) (h1 : ∀ v ∈ [u0, u1, u2, u3, u4, u5], v.oneCell' = true) :
    (storeCells ⟨g, j, none⟩ [u0, u1, u2, u3, u4, u5] 0).run P w = .ok () (B.put6 w g j u0 u1 u2 u3 u4 u5) := by
  refine run_storeCells_cells g j [u0, u1, u2, u3, u4, u5] 0 w (fun i hi => ?_) (fun i _ => hf _) h1
  rw [Nat.add_zero]
  match i, hi with
  | 0, _ => rw [Nat.add_zero, p0]; rfl
  | 1, _ => rw [p1]; rfl
  | 2, _ => rw [p2]; rfl
  | 3, _ => rw [p3]; rfl
  | 4, _ => rw [p4]; rfl
  | 5, _ => rw [p5]; rfl
  | i + 6, hi => exact absurd hi (by simp)

theorem run_st6 (P : Program) (w W1 : World) (g j : Nat) (u0 u1 u2 u3 u4 u5 : Value) (ty : TypeId) (hi : (P.info? ty).map (·.size) = some 6) (h : (storeCells ⟨g, j, none⟩ [u0, u1, u2, u3, u4, u5] 0).run P w = .ok () W1) :
    (Instr.storeAt ty (.pointer (some ⟨g, j, none⟩)) (.agg #[u0, u1, u2, u3, u4, u5])).run P w = .ok () W1 ∧ (storeVar ty ⟨g, j, none⟩ (.agg #[u0, u1, u2, u3, u4, u5])).run P w = .ok () W1 := by
  cases hq : P.info? ty with
  | none => simp [hq] at hi
  | some i =>
    have hs : i.size = 6 := by simpa [hq] using hi
    have h1 : (storeVar ty ⟨g, j, none⟩ (.agg #[u0, u1, u2, u3, u4, u5])).run P w = .ok () W1 := by simp [storeVar, sizeOf, typeInfo, hq, Value.cells, hs, h]
    exact ⟨by simp only [Instr.storeAt, Instr.sureAddr, Sem.run_bind, Sem.run_pure, Result.andThen_ok, h1], h1⟩

theorem run_load6 (P : Program) (w : World) (g j : Nat) (x0 x1 x2 x3 x4 x5 : Value) (p0 : w.cell? ⟨g, j, none⟩ = some x0) (p1 : w.cell? ⟨g, j + 1, none⟩ = some x1) (p2 : w.cell? ⟨g, j + 2, none⟩ = some x2) (p3 : w.cell? ⟨g, j + 3, none⟩ = some x3) (p4 : w.cell? ⟨g, j + 4, none⟩ = some x4) (p5 : w.cell? ⟨g, j + 5, none⟩ = some x5) :
    (loadCellsFrom ⟨g, j, none⟩ 0 6 #[]).run P w = .ok [x0, x1, x2, x3, x4, x5].toArray w := by
  have h := run_loadCells_list (P := P) (w := w) ⟨g, j, none⟩ [x0, x1, x2, x3, x4, x5] (fun i v hi => ?_)
  · simpa [loadCells] using h
  match i, hi with
  | 0, hi => cases hi; exact p0
  | 1, hi => cases hi; exact p1
  | 2, hi => cases hi; exact p2
  | 3, hi => cases hi; exact p3
  | 4, hi => cases hi; exact p4
  | 5, hi => cases hi; exact p5
  | i + 6, hi => exact absurd hi (by simp)

set_option maxRecDepth 100000 in
set_option maxHeartbeats 4000000 in
theorem revRe_any (e : TypeId) (base : Nat) (H : PH) (xs : List Re) (v : Value) (w : World) (ho : Own kRe e w base H v xs) (hm : xs.length ≤ 1048576) :
    Calls Try.prog 165 #[v] w fun r w' => r = .returned (.tuple #[]) ∧ Own kRe e w' base H v xs.reverse ∧ w.grownBy w' v.ownBlock := by
  obtain ⟨A, c, rfl, hn, hc, hA, hB⟩ := ho.form
  go_enter Try.func165, Try.ntmps165
  go_wp2_with fail
  go_loopw [2, 3] (fun s2 s3 wr => ∃ k : Nat, 2 * k ≤ xs.length + 1 ∧ s2 = .int .i64 k ∧ s3 = .int .i64 ((xs.length : Int) - 1 - k) ∧ Aside (Own kRe e wr base H (.slice A xs.length c) (mid xs k)) ∧ Aside (w.grownBy wr (Value.slice A xs.length c).ownBlock)) (fun s2 _ _ => xs.length - (intOf s2).toNat)
  case atStart => exact ⟨0, by omega, by go_num, by go_num, ⟨by rw [mid_0]; exact ho⟩, ⟨grownBy_refl _ _⟩⟩
  case round =>
    obtain ⟨k, hk, rfl, rfl, hO, hg⟩ := hrel
    by_cases hlt : (k : Int) < (xs.length : Int) - 1 - k
    · have hk1 : k < (mid xs k).length := by rw [mid_len]; omega
      have hk2 : xs.length - 1 - k < (mid xs k).length := by rw [mid_len]; omega
      obtain ⟨g, rfl⟩ : ∃ g, A = some ⟨g, 0, none⟩ := by
        obtain ⟨g, c1, cs1, e1, -⟩ := hO.out.cells k hk1
        injection e1 with e1
        exact ⟨g, e1⟩
      have ho1 := hO.out.drew
      obtain ⟨z, A1, n1, c1, A2, n2, c2, mn, mx, ng, ri, p0, p1, p2, p3, p4, p5⟩ := ho1.atRe k hk1
      obtain ⟨z', A1', n1', c1', A2', n2', c2', mn', mx', ng', rj, q0, q1, q2, q3, q4, q5⟩ := ho1.atRe (xs.length - 1 - k) hk2
      have vi : (mid xs k)[k] = xs[k]'(by omega) := by rw [mid_get, if_neg (by omega)]
      have vj : (mid xs k)[xs.length - 1 - k] = xs[xs.length - 1 - k]'(by omega) := by rw [mid_get, if_neg (by omega)]
      rw [vi] at ri; rw [vj] at rj
      have F0 := fun j => ho1.free (mid_len xs k).symm j
      have hst := mid_step xs k (by omega)
      obtain ⟨P1, Q1⟩ := hO.out.put6 (mid_len xs k).symm rfl hk1 (y := xs[xs.length - 1 - k]'(by omega)) rj
      obtain ⟨P2, Q2⟩ := P1.put6 (by rw [List.length_set, mid_len]) rfl (i := xs.length - 1 - k) (by rw [List.length_set, mid_len]; omega) (y := xs[k]'(by omega)) ri
      rw [hst] at P2
      have F1 := fun j => P1.free (by rw [List.length_set, mid_len]) j
      obtain ⟨z2, A12, n12, c12, A22, n22, c22, mn2, mx2, ng2, -, r0, r1, r2, r3, r4, r5⟩ := P1.atRe (xs.length - 1 - k) (by rw [List.length_set, mid_len]; omega)
      have F1d : ∀ j, (B.put6 wr g (k * 6) (.int .i64 z') (.slice A1' n1' c1') (.slice A2' n2' c2') (.int .i64 mn') (.int .i64 mx') (.bool ng')).drew.frozen? ⟨g, j, none⟩ = false := fun j => P1.drew.free (by rw [List.length_set, mid_len]) j
      have rd0 : (B.put6 wr g (k * 6) (.int .i64 z') (.slice A1' n1' c1') (.slice A2' n2' c2') (.int .i64 mn') (.int .i64 mx') (.bool ng')).drew.cell? ⟨g, (xs.length - 1 - k) * 6, none⟩ = some (.int .i64 z2) := by simpa using r0
      have F0n := fun j => hO.out.free (mid_len xs k).symm j
      have pn0 := p0
      have pn1 := p1
      have pn2 := p2
      have pn3 := p3
      have pn4 := p4
      have pn5 := p5
      rw [World.cell?_drew] at pn0 pn1 pn2 pn3 pn4 pn5
      have HR := Aside.mk (And.intro P2 (And.intro Q1 Q2))
      clear P1 P2 Q1 Q2 vi vj ri rj hst
      simp only [B.put6] at F1 F1d rd0 r0 r1 r2 r3 r4 r5
      have hjn : ((xs.length - 1 - k : Nat) : Int) = (xs.length : Int) - 1 - k := by omega
      go_wp2_with fail
      have hb1 : (k : Int) ≤ (xs.length : Int) - 1 := by omega
      have hb2 : (xs.length : Int) - 1 - (k : Int) < (xs.length : Int) := by omega
      have hb4 : k < xs.length := by omega
      have hb3 : (0 : Int) ≤ (xs.length : Int) - 1 - (k : Int) := by omega
      go_region
      go_wp2_with fail
      go_roundw
      case rel => exact ⟨k + 1, by omega, by go_num, by (refine congrArg _ ?_; omega), ⟨HR.out.1.drew⟩, ⟨grownBy_trans hg.out (grownBy_trans (grownBy_trans HR.out.2.1 HR.out.2.2) (grownBy_drew _ _))⟩⟩
      case measure => simp [intOf]; omega
    · go_wp2_with fail
      go_end0
      have h9 := hO.out
      rw [mid_rev xs k (by omega)] at h9
      exact ⟨rfl, h9, hg.out⟩
end Go.Proofs.Ytbnahmeaeakhhaa.B
