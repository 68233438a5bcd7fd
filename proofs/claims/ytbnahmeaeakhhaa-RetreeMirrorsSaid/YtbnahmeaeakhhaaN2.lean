/- Contracts: slices.Clone over spans; retree.each. -/
import Derived.Test.YtbnahmeaeakhhaaBc
import Derived.Test.YtbnahmeaeakhhaaK2
import Derived.Deep.RegionLaw
namespace Go.Proofs.Ytbnahmeaeakhhaa.B
set_option linter.unusedVariables false
set_option linter.unusedSimpArgs false
open Go Go.RowKit

theorem info121 : (Try.prog.info? 121).map (fun i => (i.zero, i.size, i.bytes)) = some (some (.agg #[(.int .i64 0), (.int .i64 0)]), 2, 16) := by kernel_rfl

set_option maxRecDepth 100000 in
/-- slices.Clone, over spans -/
theorem cloneSpan_any (H : PH) (xs : List Span) (A : Option Addr) (n c : Nat) (w : World) (hl : SlR kSpan H A n c xs) (hs : Sat w H) (hb : n ≤ 1048576) :
    Calls Try.prog 103 #[.slice A n c] w fun e w' => ∃ v, e = .returned v ∧ Own kSpan 121 w' w.heap.size H v xs ∧ Below w.heap.size w w' := by
  have hl1 := hl.1
  cases A with
  | none =>
    obtain rfl : c = 0 := hl.2.2.2.2.1 rfl
    obtain rfl : n = 0 := Nat.le_zero.1 hl.2.1
    obtain rfl : xs = [] := List.eq_nil_of_length_eq_zero hl1.symm
    clear hl hl1
    have he := fun (w : World) (a : Option Addr) (l c n' c' : Nat) => Lib.run_eql_slice_nil (P := Try.prog) w 22 121 a l c n' c' Try.underlying22
    go_enter Try.func103, Try.ntmps103
    go_wp2_with fail
    go_ret
    exact ⟨_, rfl, Own.nil _ _ _ _ _, Below.refl _ _⟩
  | some a =>
    have ho := Own.lit (k := kSpan) (e := 121) (xs := []) (base := w.heap.size) hs #[] (Nat.le_refl _) rfl (by unfold maxLen; simp)
    have hs1 := hs.alloc (.cells #[] 121)
    have he := fun (w : World) (a : Option Addr) (l c n' c' : Nat) => Lib.run_eql_slice_nil (P := Try.prog) w 22 121 a l c n' c' Try.underlying22
    have HL := Aside.mk hl
    have HO := Aside.mk (And.intro ho hs1)
    clear hl ho hs1 hl1
    go_enter Try.func103, Try.ntmps103
    go_upto_region 2 with (at_builtin; go_must (refine wpList_appS kSpan rfl (.tmp 5) (.tmp 6) 22 rfl 121 Try.underlying22 info121 rfl HO.out.1 HO.out.2 HL.out rfl rfl (by rw [← HL.out.1]; simp; omega) (by rw [← HL.out.1]; unfold maxLen; simp; omega) (by simp) ?_); intro v8 w8 ho8 hg8 hs8 hn8 hnil8)
    go_wp2_with fail
    go_ret
    exact ⟨_, rfl, by simpa using ho8, below_grownBy (bA (Below.refl _ _) _) (Nat.le_refl _) (hg8)⟩

theorem k3 (w : World) (o1 o2 o3 : Obj) : (((w.alloc o1).alloc o2).alloc o3).heap[w.heap.size]? = some o1 ∧ (((w.alloc o1).alloc o2).alloc o3).heap[w.heap.size + 1]? = some o2 ∧ (((w.alloc o1).alloc o2).alloc o3).heap[w.heap.size + 1 + 1]? = some o3 := by
  have e1 : (w.alloc o1).heap.size = w.heap.size + 1 := by simp
  have e2 : ((w.alloc o1).alloc o2).heap.size = w.heap.size + 1 + 1 := by simp
  refine ⟨?_, ?_, ?_⟩
  · rw [heap_alloc_old _ _ (by omega), heap_alloc_old _ _ (by omega), heap_alloc_new]
  · rw [heap_alloc_old _ _ (by omega), ← e1, heap_alloc_new]
  · rw [← e2, heap_alloc_new]

/-- a call that gives an expression, laid anew -/
def ReR (H : PH) (w : World) (r : Re) (e : Ending) (w' : World) : Prop := ∃ H' cs, e = .returned (.agg cs.toArray) ∧ RdRe H' r cs ∧ Ext H H' w w'

set_option maxRecDepth 100000 in
set_option maxHeartbeats 8000000 in
theorem each_norm (g : Re → Re) (H : PH) (kind : Int) (set : List Span) (args : List Re) (mn mx : Int) (neg : Bool) (cs : List Value) (w : World) (hr : RdRe H (.mk kind set args mn mx neg) cs) (hs : Sat w H) (hb : set.length ≤ 1048576) (hb2 : args.length ≤ 1048576)
    (hf : ∀ a ∈ args, ∀ (H' : PH) (cs' : List Value) (w' : World), RdRe H' a cs' → Sat w' H' → Calls Try.prog 88 #[.agg cs'.toArray] w' (ReR H' w' (g a))) :
    Calls Try.prog 138 #[.agg cs.toArray, .func (.func 88) #[] #[]] w (ReR H w (.mk kind set (args.map g) mn mx neg)) := by
  obtain ⟨A1, c1, A2, c2, rfl, h1, h2⟩ := hr.open
  clear hr
  have hx := Aside.mk (Ext.refl hs)
  replace h1 := Aside.mk h1
  replace h2 := Aside.mk h2
  replace hf := Aside.mk hf
  go_enter Try.func138, Try.ntmps138
  go_wp2_with fail
  have hszw := hx.out.size
  have kr_ : (((w.alloc (.cells #[.int .i64 kind, .slice A1 set.length c1, .slice A2 args.length c2, .int .i64 mn, .int .i64 mx, .bool neg] 25)).alloc (.cells #[.int .i64 0, .slice none 0 0, .slice none 0 0, .int .i64 0, .int .i64 0, .bool false] 25)).alloc (.cells #[.int .i64 kind, .slice A1 set.length c1, .slice A2 args.length c2, .int .i64 mn, .int .i64 mx, .bool neg] 25)).heap[w.heap.size]? = some (.cells #[.int .i64 kind, .slice A1 set.length c1, .slice A2 args.length c2, .int .i64 mn, .int .i64 mx, .bool neg] 25) := (boxA (boxA (heap_alloc_new _ _) (.cells #[.int .i64 0, .slice none 0 0, .slice none 0 0, .int .i64 0, .int .i64 0, .bool false] 25)) (.cells #[.int .i64 kind, .slice A1 set.length c1, .slice A2 args.length c2, .int .i64 mn, .int .i64 mx, .bool neg] 25))
  have kz_ : (((w.alloc (.cells #[.int .i64 kind, .slice A1 set.length c1, .slice A2 args.length c2, .int .i64 mn, .int .i64 mx, .bool neg] 25)).alloc (.cells #[.int .i64 0, .slice none 0 0, .slice none 0 0, .int .i64 0, .int .i64 0, .bool false] 25)).alloc (.cells #[.int .i64 kind, .slice A1 set.length c1, .slice A2 args.length c2, .int .i64 mn, .int .i64 mx, .bool neg] 25)).heap[w.heap.size + 1]? = some (.cells #[.int .i64 0, .slice none 0 0, .slice none 0 0, .int .i64 0, .int .i64 0, .bool false] 25) := (boxA (by rw [show w.heap.size + 1 = ((w.alloc (.cells #[.int .i64 kind, .slice A1 set.length c1, .slice A2 args.length c2, .int .i64 mn, .int .i64 mx, .bool neg] 25))).heap.size by simp]; exact heap_alloc_new _ _) (.cells #[.int .i64 kind, .slice A1 set.length c1, .slice A2 args.length c2, .int .i64 mn, .int .i64 mx, .bool neg] 25))
  have ko_ : (((w.alloc (.cells #[.int .i64 kind, .slice A1 set.length c1, .slice A2 args.length c2, .int .i64 mn, .int .i64 mx, .bool neg] 25)).alloc (.cells #[.int .i64 0, .slice none 0 0, .slice none 0 0, .int .i64 0, .int .i64 0, .bool false] 25)).alloc (.cells #[.int .i64 kind, .slice A1 set.length c1, .slice A2 args.length c2, .int .i64 mn, .int .i64 mx, .bool neg] 25)).heap[w.heap.size + 1 + 1]? = some (.cells #[.int .i64 kind, .slice A1 set.length c1, .slice A2 args.length c2, .int .i64 mn, .int .i64 mx, .bool neg] 25) := (by rw [show w.heap.size + 1 + 1 = (((w.alloc (.cells #[.int .i64 kind, .slice A1 set.length c1, .slice A2 args.length c2, .int .i64 mn, .int .i64 mx, .bool neg] 25)).alloc (.cells #[.int .i64 0, .slice none 0 0, .slice none 0 0, .int .i64 0, .int .i64 0, .bool false] 25))).heap.size by simp]; exact heap_alloc_new _ _)
  have nr := Aside.mk (fun o => hx.out.sat.new (b := w.heap.size) (show w.heap.size ≤ _ by omega) o)
  have nz := Aside.mk (fun o => hx.out.sat.new (b := w.heap.size + 1) (show w.heap.size ≤ _ by omega) o)
  have no := Aside.mk (fun o => hx.out.sat.new (b := w.heap.size + 1 + 1) (show w.heap.size ≤ _ by omega) o)
  replace hx := Aside.mk ((((hx.out.alloc (.cells #[.int .i64 kind, .slice A1 set.length c1, .slice A2 args.length c2, .int .i64 mn, .int .i64 mx, .bool neg] 25)).alloc (.cells #[.int .i64 0, .slice none 0 0, .slice none 0 0, .int .i64 0, .int .i64 0, .bool false] 25)).alloc (.cells #[.int .i64 kind, .slice A1 set.length c1, .slice A2 args.length c2, .int .i64 mn, .int .i64 mx, .bool neg] 25)))
  generalize (((w.alloc (.cells #[.int .i64 kind, .slice A1 set.length c1, .slice A2 args.length c2, .int .i64 mn, .int .i64 mx, .bool neg] 25)).alloc (.cells #[.int .i64 0, .slice none 0 0, .slice none 0 0, .int .i64 0, .int .i64 0, .bool false] 25)).alloc (.cells #[.int .i64 kind, .slice A1 set.length c1, .slice A2 args.length c2, .int .i64 mn, .int .i64 mx, .bool neg] 25)) = W1 at *
  have kr := Aside.mk kr_
  clear kr_
  have kz := Aside.mk kz_
  clear kz_
  have ko := Aside.mk ko_
  clear ko_
  obtain ⟨H1, hx2, hle, Br, hold⟩ := box_freeze hx.out (by omega) kr.out nr.out
  replace h1 := Aside.mk (h1.out.mono hle)
  replace h2 := Aside.mk (h2.out.mono hle)
  replace nz := Aside.mk (fun o => (hold _ o (by omega)).trans (nz.out o))
  replace no := Aside.mk (fun o => (hold _ o (by omega)).trans (no.out o))
  replace hx := Aside.mk hx2
  replace Br := Aside.mk Br
  clear hle hold hx2 kr nr
  have hadrz := boxL kz.out
  have hadro := boxL ko.out
  have hsz := hx.out.size
  refine (cloneSpan_any _ set A1 set.length c1 _ h1.out hx.out.sat hb).mono ?_
  rintro e w1 ⟨v1, rfl, ho1, hb1⟩
  replace kz := Aside.mk (box_below kz.out hb1)
  replace ko := Aside.mk (box_below ko.out hb1)
  replace hx := Aside.mk (hx.out.then_below hb1)
  clear hb1
  obtain ⟨H1, hx2, hle, ⟨A3, c3, e1, hs3⟩, hold⟩ := ho1.freezeE hx.out hsz (by omega)
  cases e1
  replace h1 := Aside.mk (h1.out.mono hle)
  replace h2 := Aside.mk (h2.out.mono hle)
  replace Br := Aside.mk (Br.out.mono hle)
  replace nz := Aside.mk (fun o => (hold _ o (fun e => by have h1 := (ho1.blk e).1; omega)).trans (nz.out o))
  replace no := Aside.mk (fun o => (hold _ o (fun e => by have h1 := (ho1.blk e).1; omega)).trans (no.out o))
  replace hx := Aside.mk hx2
  replace hs3 := Aside.mk hs3
  clear hle hold hx2
  clear hsz hadrz hadro
  clear ho1
  clear h1
  have cz0 : w1.cell? ⟨w.heap.size + 1, 0, none⟩ = some (.int .i64 0) := (boxC kz.out 0).1
  have fz0 : w1.frozen? ⟨w.heap.size + 1, 0, none⟩ = false := (boxC kz.out 0).2
  have cz1 : w1.cell? ⟨w.heap.size + 1, 1, none⟩ = some (.slice none 0 0) := (boxC kz.out 1).1
  have fz1 : w1.frozen? ⟨w.heap.size + 1, 1, none⟩ = false := (boxC kz.out 1).2
  have cz2 : w1.cell? ⟨w.heap.size + 1, 2, none⟩ = some (.slice none 0 0) := (boxC kz.out 2).1
  have fz2 : w1.frozen? ⟨w.heap.size + 1, 2, none⟩ = false := (boxC kz.out 2).2
  have cz3 : w1.cell? ⟨w.heap.size + 1, 3, none⟩ = some (.int .i64 0) := (boxC kz.out 3).1
  have fz3 : w1.frozen? ⟨w.heap.size + 1, 3, none⟩ = false := (boxC kz.out 3).2
  have cz4 : w1.cell? ⟨w.heap.size + 1, 4, none⟩ = some (.int .i64 0) := (boxC kz.out 4).1
  have fz4 : w1.frozen? ⟨w.heap.size + 1, 4, none⟩ = false := (boxC kz.out 4).2
  have cz5 : w1.cell? ⟨w.heap.size + 1, 5, none⟩ = some (.bool false) := (boxC kz.out 5).1
  have fz5 : w1.frozen? ⟨w.heap.size + 1, 5, none⟩ = false := (boxC kz.out 5).2
  have co0 : w1.cell? ⟨w.heap.size + 1 + 1, 0, none⟩ = some (.int .i64 kind) := (boxC ko.out 0).1
  have fo0 : w1.frozen? ⟨w.heap.size + 1 + 1, 0, none⟩ = false := (boxC ko.out 0).2
  have co1 : w1.cell? ⟨w.heap.size + 1 + 1, 1, none⟩ = some (.slice A1 set.length c1) := (boxC ko.out 1).1
  have fo1 : w1.frozen? ⟨w.heap.size + 1 + 1, 1, none⟩ = false := (boxC ko.out 1).2
  have co2 : w1.cell? ⟨w.heap.size + 1 + 1, 2, none⟩ = some (.slice A2 args.length c2) := (boxC ko.out 2).1
  have fo2 : w1.frozen? ⟨w.heap.size + 1 + 1, 2, none⟩ = false := (boxC ko.out 2).2
  have co3 : w1.cell? ⟨w.heap.size + 1 + 1, 3, none⟩ = some (.int .i64 mn) := (boxC ko.out 3).1
  have fo3 : w1.frozen? ⟨w.heap.size + 1 + 1, 3, none⟩ = false := (boxC ko.out 3).2
  have co4 : w1.cell? ⟨w.heap.size + 1 + 1, 4, none⟩ = some (.int .i64 mx) := (boxC ko.out 4).1
  have fo4 : w1.frozen? ⟨w.heap.size + 1 + 1, 4, none⟩ = false := (boxC ko.out 4).2
  have co5 : w1.cell? ⟨w.heap.size + 1 + 1, 5, none⟩ = some (.bool neg) := (boxC ko.out 5).1
  have fo5 : w1.frozen? ⟨w.heap.size + 1 + 1, 5, none⟩ = false := (boxC ko.out 5).2
  have cr0 : w1.cell? ⟨w.heap.size, 0, none⟩ = some (.int .i64 kind) := hx.out.sat _ _ _ (Br.out 0 _ rfl)
  have cr1 : w1.cell? ⟨w.heap.size, 1, none⟩ = some (.slice A1 set.length c1) := hx.out.sat _ _ _ (Br.out 1 _ rfl)
  have cr2 : w1.cell? ⟨w.heap.size, 2, none⟩ = some (.slice A2 args.length c2) := hx.out.sat _ _ _ (Br.out 2 _ rfl)
  have cr3 : w1.cell? ⟨w.heap.size, 3, none⟩ = some (.int .i64 mn) := hx.out.sat _ _ _ (Br.out 3 _ rfl)
  have cr4 : w1.cell? ⟨w.heap.size, 4, none⟩ = some (.int .i64 mx) := hx.out.sat _ _ _ (Br.out 4 _ rfl)
  have cr5 : w1.cell? ⟨w.heap.size, 5, none⟩ = some (.bool neg) := hx.out.sat _ _ _ (Br.out 5 _ rfl)
  go_wp2_with fail
  clear cz0 fz0 cz1 fz1 cz2 fz2 cz3 fz3 cz4 fz4 cz5 fz5 co0 fo0 co1 fo1 co2 fo2 co3 fo3 co4 fo4 co5 fo5 cr0 cr1 cr2 cr3 cr4 cr5
  have kz_ : ((w1.setCell ⟨w.heap.size + 1 + 1, 1, none⟩ (.slice A3 set.length c3)).setCell ⟨w.heap.size + 1 + 1, 2, none⟩ (.slice none 0 0)).heap[w.heap.size + 1]? = some (.cells #[.int .i64 0, .slice none 0 0, .slice none 0 0, .int .i64 0, .int .i64 0, .bool false] 25) := (boxS_ne (boxS_ne kz.out (by first | omega | (simp; omega)) 1 (.slice A3 set.length c3)) (by first | omega | (simp; omega)) 2 (.slice none 0 0))
  have ko_ : ((w1.setCell ⟨w.heap.size + 1 + 1, 1, none⟩ (.slice A3 set.length c3)).setCell ⟨w.heap.size + 1 + 1, 2, none⟩ (.slice none 0 0)).heap[w.heap.size + 1 + 1]? = some (.cells #[.int .i64 kind, .slice A3 set.length c3, .slice none 0 0, .int .i64 mn, .int .i64 mx, .bool neg] 25) := (boxS (boxS ko.out 1 (.slice A3 set.length c3)) 2 (.slice none 0 0))
  replace hx := Aside.mk (((hx.out.setCell (b := w.heap.size + 1 + 1) (o := 1) (by first | omega | (simp; omega)) no.out (.slice A3 set.length c3)).setCell (b := w.heap.size + 1 + 1) (o := 2) (by first | omega | (simp; omega)) no.out (.slice none 0 0)))
  generalize ((w1.setCell ⟨w.heap.size + 1 + 1, 1, none⟩ (.slice A3 set.length c3)).setCell ⟨w.heap.size + 1 + 1, 2, none⟩ (.slice none 0 0)) = W2 at *
  replace kz := Aside.mk kz_
  clear kz_
  replace ko := Aside.mk ko_
  clear ko_
  have hzo := boxL ko.out
  go_loopw [17] (fun i wr => ∃ (k : Nat) (A5 : Option Addr) (l5 c5 : Nat) (Hk : PH), k ≤ args.length ∧ i = .int .i64 k ∧ Aside (Ext H Hk w wr) ∧ Aside (SlR kRe Hk A2 args.length c2 args) ∧ Aside (SlR kSpan Hk A3 set.length c3 set) ∧ Aside (BoxH Hk (w.heap.size) [.int .i64 kind, .slice A1 set.length c1, .slice A2 args.length c2, .int .i64 mn, .int .i64 mx, .bool neg]) ∧ Aside (wr.heap[w.heap.size + 1]? = some (.cells #[.int .i64 0, .slice none 0 0, .slice none 0 0, .int .i64 0, .int .i64 0, .bool false] 25)) ∧ Aside (∀ o, Hk (w.heap.size + 1) o = none) ∧ Aside (wr.heap[w.heap.size + 1 + 1]? = some (.cells #[.int .i64 kind, .slice A3 set.length c3, .slice A5 l5 c5, .int .i64 mn, .int .i64 mx, .bool neg] 25)) ∧ Aside (∀ o, Hk (w.heap.size + 1 + 1) o = none) ∧ Aside (Own kRe 25 wr (w.heap.size + 1 + 1 + 1) Hk (.slice A5 l5 c5) ((args.take k).map g))) (fun i _ => args.length - (intOf i).toNat)
  case atStart => exact ⟨0, none, 0, 0, _, by omega, rfl, hx, h2, hs3, Br, kz, nz, ko, no, ⟨by simpa using Own.nil _ _ _ _ _⟩⟩
  case round =>
    clear hx h2 hs3 Br kz nz ko no
    obtain ⟨k, A5, l5, c5, Hk, hk, rfl, hx, h2, hs3, Br, kz, nz, ko, no, ho⟩ := hrel
    by_cases hlt : k < args.length
    · obtain ⟨b, off, k1, s1, a1, u1, v1, g1, P1, d1, P2, d2, rfl, hq, hrd, g0, g1_, g2, g3, g4, g5⟩ := cell_elem h2.out hx.out.sat k hlt
      have hmem : args[k] ∈ args := List.getElem_mem hlt
      have htk : (args.take (k + 1)).map g = (args.take k).map g ++ [g args[k]] := by rw [List.take_succ_eq_append_getElem hlt, List.map_append]; rfl
      have hlt2 := Aside.mk hlt
      rw [hq] at hmem htk
      have hcall := hf.out _ hmem
      have hln : ((args.take k).map g).length ≤ 1048576 := by simp; omega
      generalize g (Re.mk k1 s1 a1 u1 v1 g1) = gr at *
      replace htk := Aside.mk htk
      replace hrd := Aside.mk hrd
      replace hcall := Aside.mk hcall
      have hbz : b < wr.heap.size := World.block_lt_of_cell? wr _ g0
      have hby : Aside ((((args.take k).map g).length + 1) * 80 ≤ 140737488355328 ∧ ((args.take k).map g).length + 1 ≤ maxLen) := ⟨by omega, by unfold maxLen; omega⟩
      clear hmem hq hln
      have cz0 : wr.cell? ⟨w.heap.size + 1, 0, none⟩ = some (.int .i64 0) := (boxC kz.out 0).1
      have fz0 : wr.frozen? ⟨w.heap.size + 1, 0, none⟩ = false := (boxC kz.out 0).2
      have cz1 : wr.cell? ⟨w.heap.size + 1, 1, none⟩ = some (.slice none 0 0) := (boxC kz.out 1).1
      have fz1 : wr.frozen? ⟨w.heap.size + 1, 1, none⟩ = false := (boxC kz.out 1).2
      have cz2 : wr.cell? ⟨w.heap.size + 1, 2, none⟩ = some (.slice none 0 0) := (boxC kz.out 2).1
      have fz2 : wr.frozen? ⟨w.heap.size + 1, 2, none⟩ = false := (boxC kz.out 2).2
      have cz3 : wr.cell? ⟨w.heap.size + 1, 3, none⟩ = some (.int .i64 0) := (boxC kz.out 3).1
      have fz3 : wr.frozen? ⟨w.heap.size + 1, 3, none⟩ = false := (boxC kz.out 3).2
      have cz4 : wr.cell? ⟨w.heap.size + 1, 4, none⟩ = some (.int .i64 0) := (boxC kz.out 4).1
      have fz4 : wr.frozen? ⟨w.heap.size + 1, 4, none⟩ = false := (boxC kz.out 4).2
      have cz5 : wr.cell? ⟨w.heap.size + 1, 5, none⟩ = some (.bool false) := (boxC kz.out 5).1
      have fz5 : wr.frozen? ⟨w.heap.size + 1, 5, none⟩ = false := (boxC kz.out 5).2
      have co0 : wr.cell? ⟨w.heap.size + 1 + 1, 0, none⟩ = some (.int .i64 kind) := (boxC ko.out 0).1
      have fo0 : wr.frozen? ⟨w.heap.size + 1 + 1, 0, none⟩ = false := (boxC ko.out 0).2
      have co1 : wr.cell? ⟨w.heap.size + 1 + 1, 1, none⟩ = some (.slice A3 set.length c3) := (boxC ko.out 1).1
      have fo1 : wr.frozen? ⟨w.heap.size + 1 + 1, 1, none⟩ = false := (boxC ko.out 1).2
      have co2 : wr.cell? ⟨w.heap.size + 1 + 1, 2, none⟩ = some (.slice A5 l5 c5) := (boxC ko.out 2).1
      have fo2 : wr.frozen? ⟨w.heap.size + 1 + 1, 2, none⟩ = false := (boxC ko.out 2).2
      have co3 : wr.cell? ⟨w.heap.size + 1 + 1, 3, none⟩ = some (.int .i64 mn) := (boxC ko.out 3).1
      have fo3 : wr.frozen? ⟨w.heap.size + 1 + 1, 3, none⟩ = false := (boxC ko.out 3).2
      have co4 : wr.cell? ⟨w.heap.size + 1 + 1, 4, none⟩ = some (.int .i64 mx) := (boxC ko.out 4).1
      have fo4 : wr.frozen? ⟨w.heap.size + 1 + 1, 4, none⟩ = false := (boxC ko.out 4).2
      have co5 : wr.cell? ⟨w.heap.size + 1 + 1, 5, none⟩ = some (.bool neg) := (boxC ko.out 5).1
      have fo5 : wr.frozen? ⟨w.heap.size + 1 + 1, 5, none⟩ = false := (boxC ko.out 5).2
      have cr0 : wr.cell? ⟨w.heap.size, 0, none⟩ = some (.int .i64 kind) := hx.out.sat _ _ _ (Br.out 0 _ rfl)
      have cr1 : wr.cell? ⟨w.heap.size, 1, none⟩ = some (.slice A1 set.length c1) := hx.out.sat _ _ _ (Br.out 1 _ rfl)
      have cr2 : wr.cell? ⟨w.heap.size, 2, none⟩ = some (.slice (some ⟨b, off, none⟩) args.length c2) := hx.out.sat _ _ _ (Br.out 2 _ rfl)
      have cr3 : wr.cell? ⟨w.heap.size, 3, none⟩ = some (.int .i64 mn) := hx.out.sat _ _ _ (Br.out 3 _ rfl)
      have cr4 : wr.cell? ⟨w.heap.size, 4, none⟩ = some (.int .i64 mx) := hx.out.sat _ _ _ (Br.out 4 _ rfl)
      have cr5 : wr.cell? ⟨w.heap.size, 5, none⟩ = some (.bool neg) := hx.out.sat _ _ _ (Br.out 5 _ rfl)
      go_wp2_with fail
      clear cz0 fz0 cz1 fz1 cz2 fz2 cz3 fz3 cz4 fz4 cz5 fz5 co0 fo0 co1 fo1 co2 fo2 co3 fo3 co4 fo4 co5 fo5 cr0 cr1 cr2 cr3 cr4 cr5 g0 g1_ g2 g3 g4 g5
      have hszwr := hx.out.size
      have habzwr := boxL kz.out
      have habowr := boxL ko.out
      have nq_q_e := Aside.mk (fun bb (hb : (.slice A5 l5 c5 : Value).ownBlock = some bb) => (show bb ≠ wr.heap.size from by have h1 := (ho.out.blk hb).2.1; omega))
      have kz_ : (wr.alloc (.cells #[.int .i64 k1, .slice P1 s1.length d1, .slice P2 a1.length d2, .int .i64 u1, .int .i64 v1, .bool g1] 25)).heap[w.heap.size + 1]? = some (.cells #[.int .i64 0, .slice none 0 0, .slice none 0 0, .int .i64 0, .int .i64 0, .bool false] 25) := (boxA kz.out (.cells #[.int .i64 k1, .slice P1 s1.length d1, .slice P2 a1.length d2, .int .i64 u1, .int .i64 v1, .bool g1] 25))
      have ko_ : (wr.alloc (.cells #[.int .i64 k1, .slice P1 s1.length d1, .slice P2 a1.length d2, .int .i64 u1, .int .i64 v1, .bool g1] 25)).heap[w.heap.size + 1 + 1]? = some (.cells #[.int .i64 kind, .slice A3 set.length c3, .slice A5 l5 c5, .int .i64 mn, .int .i64 mx, .bool neg] 25) := (boxA ko.out (.cells #[.int .i64 k1, .slice P1 s1.length d1, .slice P2 a1.length d2, .int .i64 u1, .int .i64 v1, .bool g1] 25))
      have ke_ : (wr.alloc (.cells #[.int .i64 k1, .slice P1 s1.length d1, .slice P2 a1.length d2, .int .i64 u1, .int .i64 v1, .bool g1] 25)).heap[wr.heap.size]? = some (.cells #[.int .i64 k1, .slice P1 s1.length d1, .slice P2 a1.length d2, .int .i64 u1, .int .i64 v1, .bool g1] 25) := (heap_alloc_new _ _)
      have ne := Aside.mk (fun o => hx.out.sat.new (b := wr.heap.size) (show wr.heap.size ≤ _ by omega) o)
      replace ho := Aside.mk (ho.out.alloc (hx.out).sat (.cells #[.int .i64 k1, .slice P1 s1.length d1, .slice P2 a1.length d2, .int .i64 u1, .int .i64 v1, .bool g1] 25))
      replace hx := Aside.mk ((hx.out.alloc (.cells #[.int .i64 k1, .slice P1 s1.length d1, .slice P2 a1.length d2, .int .i64 u1, .int .i64 v1, .bool g1] 25)))
      generalize (wr.alloc (.cells #[.int .i64 k1, .slice P1 s1.length d1, .slice P2 a1.length d2, .int .i64 u1, .int .i64 v1, .bool g1] 25)) = W3 at *
      replace kz := Aside.mk kz_
      clear kz_
      replace ko := Aside.mk ko_
      clear ko_
      have ke := Aside.mk ke_
      clear ke_
      obtain ⟨H1, hx2, hle, Be, hold⟩ := box_freeze hx.out (by omega) ke.out ne.out
      replace h2 := Aside.mk (h2.out.mono hle)
      replace hs3 := Aside.mk (hs3.out.mono hle)
      replace hrd := Aside.mk (hrd.out.mono hle)
      replace Br := Aside.mk (Br.out.mono hle)
      replace nz := Aside.mk (fun o => (hold _ o (by omega)).trans (nz.out o))
      replace no := Aside.mk (fun o => (hold _ o (by omega)).trans (no.out o))
      replace ho := Aside.mk (ho.out.keep hle fun bb hb => ⟨rfl, fun o => (hold bb o (nq_q_e.out bb hb)).trans ((ho.out.blk hb).2.2 o)⟩)
      replace hx := Aside.mk hx2
      replace Be := Aside.mk Be
      clear hle hold hx2 ke ne
      have hzo := boxL ko.out
      have hle5 := ho.out.form
      have cz0 : W3.cell? ⟨w.heap.size + 1, 0, none⟩ = some (.int .i64 0) := (boxC kz.out 0).1
      have fz0 : W3.frozen? ⟨w.heap.size + 1, 0, none⟩ = false := (boxC kz.out 0).2
      have cz1 : W3.cell? ⟨w.heap.size + 1, 1, none⟩ = some (.slice none 0 0) := (boxC kz.out 1).1
      have fz1 : W3.frozen? ⟨w.heap.size + 1, 1, none⟩ = false := (boxC kz.out 1).2
      have cz2 : W3.cell? ⟨w.heap.size + 1, 2, none⟩ = some (.slice none 0 0) := (boxC kz.out 2).1
      have fz2 : W3.frozen? ⟨w.heap.size + 1, 2, none⟩ = false := (boxC kz.out 2).2
      have cz3 : W3.cell? ⟨w.heap.size + 1, 3, none⟩ = some (.int .i64 0) := (boxC kz.out 3).1
      have fz3 : W3.frozen? ⟨w.heap.size + 1, 3, none⟩ = false := (boxC kz.out 3).2
      have cz4 : W3.cell? ⟨w.heap.size + 1, 4, none⟩ = some (.int .i64 0) := (boxC kz.out 4).1
      have fz4 : W3.frozen? ⟨w.heap.size + 1, 4, none⟩ = false := (boxC kz.out 4).2
      have cz5 : W3.cell? ⟨w.heap.size + 1, 5, none⟩ = some (.bool false) := (boxC kz.out 5).1
      have fz5 : W3.frozen? ⟨w.heap.size + 1, 5, none⟩ = false := (boxC kz.out 5).2
      have co0 : W3.cell? ⟨w.heap.size + 1 + 1, 0, none⟩ = some (.int .i64 kind) := (boxC ko.out 0).1
      have fo0 : W3.frozen? ⟨w.heap.size + 1 + 1, 0, none⟩ = false := (boxC ko.out 0).2
      have co1 : W3.cell? ⟨w.heap.size + 1 + 1, 1, none⟩ = some (.slice A3 set.length c3) := (boxC ko.out 1).1
      have fo1 : W3.frozen? ⟨w.heap.size + 1 + 1, 1, none⟩ = false := (boxC ko.out 1).2
      have co2 : W3.cell? ⟨w.heap.size + 1 + 1, 2, none⟩ = some (.slice A5 l5 c5) := (boxC ko.out 2).1
      have fo2 : W3.frozen? ⟨w.heap.size + 1 + 1, 2, none⟩ = false := (boxC ko.out 2).2
      have co3 : W3.cell? ⟨w.heap.size + 1 + 1, 3, none⟩ = some (.int .i64 mn) := (boxC ko.out 3).1
      have fo3 : W3.frozen? ⟨w.heap.size + 1 + 1, 3, none⟩ = false := (boxC ko.out 3).2
      have co4 : W3.cell? ⟨w.heap.size + 1 + 1, 4, none⟩ = some (.int .i64 mx) := (boxC ko.out 4).1
      have fo4 : W3.frozen? ⟨w.heap.size + 1 + 1, 4, none⟩ = false := (boxC ko.out 4).2
      have co5 : W3.cell? ⟨w.heap.size + 1 + 1, 5, none⟩ = some (.bool neg) := (boxC ko.out 5).1
      have fo5 : W3.frozen? ⟨w.heap.size + 1 + 1, 5, none⟩ = false := (boxC ko.out 5).2
      have cr0 : W3.cell? ⟨w.heap.size, 0, none⟩ = some (.int .i64 kind) := hx.out.sat _ _ _ (Br.out 0 _ rfl)
      have cr1 : W3.cell? ⟨w.heap.size, 1, none⟩ = some (.slice A1 set.length c1) := hx.out.sat _ _ _ (Br.out 1 _ rfl)
      have cr2 : W3.cell? ⟨w.heap.size, 2, none⟩ = some (.slice (some ⟨b, off, none⟩) args.length c2) := hx.out.sat _ _ _ (Br.out 2 _ rfl)
      have cr3 : W3.cell? ⟨w.heap.size, 3, none⟩ = some (.int .i64 mn) := hx.out.sat _ _ _ (Br.out 3 _ rfl)
      have cr4 : W3.cell? ⟨w.heap.size, 4, none⟩ = some (.int .i64 mx) := hx.out.sat _ _ _ (Br.out 4 _ rfl)
      have cr5 : W3.cell? ⟨w.heap.size, 5, none⟩ = some (.bool neg) := hx.out.sat _ _ _ (Br.out 5 _ rfl)
      have ce0 : W3.cell? ⟨wr.heap.size, 0, none⟩ = some (.int .i64 k1) := hx.out.sat _ _ _ (Be.out 0 _ rfl)
      have ce1 : W3.cell? ⟨wr.heap.size, 1, none⟩ = some (.slice P1 s1.length d1) := hx.out.sat _ _ _ (Be.out 1 _ rfl)
      have ce2 : W3.cell? ⟨wr.heap.size, 2, none⟩ = some (.slice P2 a1.length d2) := hx.out.sat _ _ _ (Be.out 2 _ rfl)
      have ce3 : W3.cell? ⟨wr.heap.size, 3, none⟩ = some (.int .i64 u1) := hx.out.sat _ _ _ (Be.out 3 _ rfl)
      have ce4 : W3.cell? ⟨wr.heap.size, 4, none⟩ = some (.int .i64 v1) := hx.out.sat _ _ _ (Be.out 4 _ rfl)
      have ce5 : W3.cell? ⟨wr.heap.size, 5, none⟩ = some (.bool g1) := hx.out.sat _ _ _ (Be.out 5 _ rfl)
      go_region_law ((first
        | (have _t := hr2; go_must (refine step_app1 kRe rfl (.tmp 22) (.tmp 26) 23 rfl 25 Try.underlying23 info25 rfl (ho.out.drew.ext hx2) hx2.sat rfl rfl rfl hr2 hby.out.1 hby.out.2 hsz2 ?_); intro v9 w9 ho9 hg9 hs9 hn9; obtain ⟨A9, c9, rfl, -, -, -, -⟩ := ho9.form; have k9 := boxG k2 hg9 (fun e => by have h1 := ((ho.out.drew.ext hx2).blk e).1; omega); have co9 := (boxC k9 2).1; have fo9 := (boxC k9 2).2; have hz9 := boxL k9)
        | (go_simp; go_at_call 88; refine (hcall.out _ _ _ hrd.out hx.out.drew.sat).mono ?_; rintro e w2 ⟨H2, cs2, rfl, hr2, hx2⟩; obtain ⟨k7, s7, a7, u7, v7, g7, e7⟩ : ∃ a b c d e f, gr = Re.mk a b c d e f := (by cases gr; exact ⟨_, _, _, _, _, _, rfl⟩); rw [e7] at hr2; obtain ⟨Q1, q1, Q2, q2, rfl, -, -⟩ := hr2.open; have k2 := box_below (w := W3.drew) ko.out hx2.below; have co22 := (boxC k2 2).1; have hz22 := boxL k2; have hsz2 : w.heap.size + 1 + 1 + 1 ≤ w2.heap.size := hz22)))
      all_goals
        clear cz0 fz0 cz1 fz1 cz2 fz2 cz3 fz3 cz4 fz4 cz5 fz5 co0 fo0 co1 fo1 co2 fo2 co3 fo3 co4 fo4 co5 fo5 cr0 cr1 cr2 cr3 cr4 cr5 ce0 ce1 ce2 ce3 ce4 ce5
        have hl9 : ((args.take k).map g ++ [Re.mk k7 s7 a7 u7 v7 g7]).length = k + 1 := by have := hlt2.out; simp; omega
        rw [hl9] at ho9
        clear hl9
        have kz_ : W3.drew.heap[w.heap.size + 1]? = some (.cells #[.int .i64 0, .slice none 0 0, .slice none 0 0, .int .i64 0, .int .i64 0, .bool false] 25) := kz.out
        have ko_ : W3.drew.heap[w.heap.size + 1 + 1]? = some (.cells #[.int .i64 kind, .slice A3 set.length c3, .slice A5 l5 c5, .int .i64 mn, .int .i64 mx, .bool neg] 25) := ko.out
        replace ho := Aside.mk (ho.out.drew)
        replace hx := Aside.mk ((hx.out.drew))
        generalize W3.drew = W4 at *
        replace kz := Aside.mk kz_
        clear kz_
        replace ko := Aside.mk ko_
        clear ko_
        have hle := hx2.le
        replace h2 := Aside.mk (h2.out.mono hle)
        replace hs3 := Aside.mk (hs3.out.mono hle)
        replace hrd := Aside.mk (hrd.out.mono hle)
        replace Br := Aside.mk (Br.out.mono hle)
        replace Be := Aside.mk (Be.out.mono hle)
        replace nz := Aside.mk (fun o => (hx2.old _ o (boxL kz.out)).trans (nz.out o))
        replace no := Aside.mk (fun o => (hx2.old _ o (boxL ko.out)).trans (no.out o))
        replace kz := Aside.mk (box_below kz.out hx2.below)
        replace ko := Aside.mk (box_below ko.out hx2.below)
        replace ho := Aside.mk (ho.out.ext hx2)
        replace hx := Aside.mk (hx.out.trans hx2)
        clear hle hx2
        replace kz := Aside.mk (boxG kz.out hg9 (fun e => by have h1 := (ho.out.blk e).1; omega))
        replace ko := Aside.mk (boxG ko.out hg9 (fun e => by have h1 := (ho.out.blk e).1; omega))
        replace hx := Aside.mk (ho.out.extG hx.out (by omega) hg9)
        replace ho := Aside.mk ho9
        have kz_ : (w9.setCell ⟨w.heap.size + 1 + 1, 2, none⟩ (.slice A9 (k + 1) c9)).heap[w.heap.size + 1]? = some (.cells #[.int .i64 0, .slice none 0 0, .slice none 0 0, .int .i64 0, .int .i64 0, .bool false] 25) := (boxS_ne kz.out (by first | omega | (simp; omega)) 2 (.slice A9 (k + 1) c9))
        have ko_ : (w9.setCell ⟨w.heap.size + 1 + 1, 2, none⟩ (.slice A9 (k + 1) c9)).heap[w.heap.size + 1 + 1]? = some (.cells #[.int .i64 kind, .slice A3 set.length c3, .slice A9 (k + 1) c9, .int .i64 mn, .int .i64 mx, .bool neg] 25) := (boxS ko.out 2 (.slice A9 (k + 1) c9))
        replace ho := Aside.mk (ho.out.grown (grownBy_setCell _ (w.heap.size + 1 + 1) 2 (.slice A9 (k + 1) c9)) (Or.inr (fun e => by have h1 := (ho.out.blk e).1; omega)))
        replace hx := Aside.mk ((hx.out.setCell (b := w.heap.size + 1 + 1) (o := 2) (by first | omega | (simp; omega)) no.out (.slice A9 (k + 1) c9)))
        generalize (w9.setCell ⟨w.heap.size + 1 + 1, 2, none⟩ (.slice A9 (k + 1) c9)) = W5 at *
        replace kz := Aside.mk kz_
        clear kz_
        replace ko := Aside.mk ko_
        clear ko_
        clear hrd
        clear Be
        clear co22 co9 fo9 k2 k9 hs9 hn9 hr2 hcall hby ho9 hg9 hz22 hz9 hsz2
        have cz0 : W5.cell? ⟨w.heap.size + 1, 0, none⟩ = some (.int .i64 0) := (boxC kz.out 0).1
        have fz0 : W5.frozen? ⟨w.heap.size + 1, 0, none⟩ = false := (boxC kz.out 0).2
        have cz1 : W5.cell? ⟨w.heap.size + 1, 1, none⟩ = some (.slice none 0 0) := (boxC kz.out 1).1
        have fz1 : W5.frozen? ⟨w.heap.size + 1, 1, none⟩ = false := (boxC kz.out 1).2
        have cz2 : W5.cell? ⟨w.heap.size + 1, 2, none⟩ = some (.slice none 0 0) := (boxC kz.out 2).1
        have fz2 : W5.frozen? ⟨w.heap.size + 1, 2, none⟩ = false := (boxC kz.out 2).2
        have cz3 : W5.cell? ⟨w.heap.size + 1, 3, none⟩ = some (.int .i64 0) := (boxC kz.out 3).1
        have fz3 : W5.frozen? ⟨w.heap.size + 1, 3, none⟩ = false := (boxC kz.out 3).2
        have cz4 : W5.cell? ⟨w.heap.size + 1, 4, none⟩ = some (.int .i64 0) := (boxC kz.out 4).1
        have fz4 : W5.frozen? ⟨w.heap.size + 1, 4, none⟩ = false := (boxC kz.out 4).2
        have cz5 : W5.cell? ⟨w.heap.size + 1, 5, none⟩ = some (.bool false) := (boxC kz.out 5).1
        have fz5 : W5.frozen? ⟨w.heap.size + 1, 5, none⟩ = false := (boxC kz.out 5).2
        have co0 : W5.cell? ⟨w.heap.size + 1 + 1, 0, none⟩ = some (.int .i64 kind) := (boxC ko.out 0).1
        have fo0 : W5.frozen? ⟨w.heap.size + 1 + 1, 0, none⟩ = false := (boxC ko.out 0).2
        have co1 : W5.cell? ⟨w.heap.size + 1 + 1, 1, none⟩ = some (.slice A3 set.length c3) := (boxC ko.out 1).1
        have fo1 : W5.frozen? ⟨w.heap.size + 1 + 1, 1, none⟩ = false := (boxC ko.out 1).2
        have co2 : W5.cell? ⟨w.heap.size + 1 + 1, 2, none⟩ = some (.slice A9 (k + 1) c9) := (boxC ko.out 2).1
        have fo2 : W5.frozen? ⟨w.heap.size + 1 + 1, 2, none⟩ = false := (boxC ko.out 2).2
        have co3 : W5.cell? ⟨w.heap.size + 1 + 1, 3, none⟩ = some (.int .i64 mn) := (boxC ko.out 3).1
        have fo3 : W5.frozen? ⟨w.heap.size + 1 + 1, 3, none⟩ = false := (boxC ko.out 3).2
        have co4 : W5.cell? ⟨w.heap.size + 1 + 1, 4, none⟩ = some (.int .i64 mx) := (boxC ko.out 4).1
        have fo4 : W5.frozen? ⟨w.heap.size + 1 + 1, 4, none⟩ = false := (boxC ko.out 4).2
        have co5 : W5.cell? ⟨w.heap.size + 1 + 1, 5, none⟩ = some (.bool neg) := (boxC ko.out 5).1
        have fo5 : W5.frozen? ⟨w.heap.size + 1 + 1, 5, none⟩ = false := (boxC ko.out 5).2
        have cr0 : W5.cell? ⟨w.heap.size, 0, none⟩ = some (.int .i64 kind) := hx.out.sat _ _ _ (Br.out 0 _ rfl)
        have cr1 : W5.cell? ⟨w.heap.size, 1, none⟩ = some (.slice A1 set.length c1) := hx.out.sat _ _ _ (Br.out 1 _ rfl)
        have cr2 : W5.cell? ⟨w.heap.size, 2, none⟩ = some (.slice (some ⟨b, off, none⟩) args.length c2) := hx.out.sat _ _ _ (Br.out 2 _ rfl)
        have cr3 : W5.cell? ⟨w.heap.size, 3, none⟩ = some (.int .i64 mn) := hx.out.sat _ _ _ (Br.out 3 _ rfl)
        have cr4 : W5.cell? ⟨w.heap.size, 4, none⟩ = some (.int .i64 mx) := hx.out.sat _ _ _ (Br.out 4 _ rfl)
        have cr5 : W5.cell? ⟨w.heap.size, 5, none⟩ = some (.bool neg) := hx.out.sat _ _ _ (Br.out 5 _ rfl)
        go_wp2_with fail
        clear cz0 fz0 cz1 fz1 cz2 fz2 cz3 fz3 cz4 fz4 cz5 fz5 co0 fo0 co1 fo1 co2 fo2 co3 fo3 co4 fo4 co5 fo5 cr0 cr1 cr2 cr3 cr4 cr5
        go_roundw
        case rel => exact ⟨k + 1, A9, (k + 1), c9, _, hlt2.out, by go_num, hx, h2, hs3, Br, kz, nz, ko, no, ⟨by rw [htk.out, e7]; exact ho.out⟩⟩
        case measure => (have := hlt2.out; simp [intOf]; omega)
    · obtain rfl : k = args.length := by omega
      have cz0 : wr.cell? ⟨w.heap.size + 1, 0, none⟩ = some (.int .i64 0) := (boxC kz.out 0).1
      have fz0 : wr.frozen? ⟨w.heap.size + 1, 0, none⟩ = false := (boxC kz.out 0).2
      have cz1 : wr.cell? ⟨w.heap.size + 1, 1, none⟩ = some (.slice none 0 0) := (boxC kz.out 1).1
      have fz1 : wr.frozen? ⟨w.heap.size + 1, 1, none⟩ = false := (boxC kz.out 1).2
      have cz2 : wr.cell? ⟨w.heap.size + 1, 2, none⟩ = some (.slice none 0 0) := (boxC kz.out 2).1
      have fz2 : wr.frozen? ⟨w.heap.size + 1, 2, none⟩ = false := (boxC kz.out 2).2
      have cz3 : wr.cell? ⟨w.heap.size + 1, 3, none⟩ = some (.int .i64 0) := (boxC kz.out 3).1
      have fz3 : wr.frozen? ⟨w.heap.size + 1, 3, none⟩ = false := (boxC kz.out 3).2
      have cz4 : wr.cell? ⟨w.heap.size + 1, 4, none⟩ = some (.int .i64 0) := (boxC kz.out 4).1
      have fz4 : wr.frozen? ⟨w.heap.size + 1, 4, none⟩ = false := (boxC kz.out 4).2
      have cz5 : wr.cell? ⟨w.heap.size + 1, 5, none⟩ = some (.bool false) := (boxC kz.out 5).1
      have fz5 : wr.frozen? ⟨w.heap.size + 1, 5, none⟩ = false := (boxC kz.out 5).2
      have co0 : wr.cell? ⟨w.heap.size + 1 + 1, 0, none⟩ = some (.int .i64 kind) := (boxC ko.out 0).1
      have fo0 : wr.frozen? ⟨w.heap.size + 1 + 1, 0, none⟩ = false := (boxC ko.out 0).2
      have co1 : wr.cell? ⟨w.heap.size + 1 + 1, 1, none⟩ = some (.slice A3 set.length c3) := (boxC ko.out 1).1
      have fo1 : wr.frozen? ⟨w.heap.size + 1 + 1, 1, none⟩ = false := (boxC ko.out 1).2
      have co2 : wr.cell? ⟨w.heap.size + 1 + 1, 2, none⟩ = some (.slice A5 l5 c5) := (boxC ko.out 2).1
      have fo2 : wr.frozen? ⟨w.heap.size + 1 + 1, 2, none⟩ = false := (boxC ko.out 2).2
      have co3 : wr.cell? ⟨w.heap.size + 1 + 1, 3, none⟩ = some (.int .i64 mn) := (boxC ko.out 3).1
      have fo3 : wr.frozen? ⟨w.heap.size + 1 + 1, 3, none⟩ = false := (boxC ko.out 3).2
      have co4 : wr.cell? ⟨w.heap.size + 1 + 1, 4, none⟩ = some (.int .i64 mx) := (boxC ko.out 4).1
      have fo4 : wr.frozen? ⟨w.heap.size + 1 + 1, 4, none⟩ = false := (boxC ko.out 4).2
      have co5 : wr.cell? ⟨w.heap.size + 1 + 1, 5, none⟩ = some (.bool neg) := (boxC ko.out 5).1
      have fo5 : wr.frozen? ⟨w.heap.size + 1 + 1, 5, none⟩ = false := (boxC ko.out 5).2
      have cr0 : wr.cell? ⟨w.heap.size, 0, none⟩ = some (.int .i64 kind) := hx.out.sat _ _ _ (Br.out 0 _ rfl)
      have cr1 : wr.cell? ⟨w.heap.size, 1, none⟩ = some (.slice A1 set.length c1) := hx.out.sat _ _ _ (Br.out 1 _ rfl)
      have cr2 : wr.cell? ⟨w.heap.size, 2, none⟩ = some (.slice A2 args.length c2) := hx.out.sat _ _ _ (Br.out 2 _ rfl)
      have cr3 : wr.cell? ⟨w.heap.size, 3, none⟩ = some (.int .i64 mn) := hx.out.sat _ _ _ (Br.out 3 _ rfl)
      have cr4 : wr.cell? ⟨w.heap.size, 4, none⟩ = some (.int .i64 mx) := hx.out.sat _ _ _ (Br.out 4 _ rfl)
      have cr5 : wr.cell? ⟨w.heap.size, 5, none⟩ = some (.bool neg) := hx.out.sat _ _ _ (Br.out 5 _ rfl)
      go_wp2_with fail
      clear cz0 fz0 cz1 fz1 cz2 fz2 cz3 fz3 cz4 fz4 cz5 fz5 co0 fo0 co1 fo1 co2 fo2 co3 fo3 co4 fo4 co5 fo5 cr0 cr1 cr2 cr3 cr4 cr5
      have kz_ : ((((((wr.setCell ⟨w.heap.size + 1, 0, none⟩ (.int .i64 kind)).setCell ⟨w.heap.size + 1, 1, none⟩ (.slice A3 set.length c3)).setCell ⟨w.heap.size + 1, 2, none⟩ (.slice A5 l5 c5)).setCell ⟨w.heap.size + 1, 3, none⟩ (.int .i64 mn)).setCell ⟨w.heap.size + 1, 4, none⟩ (.int .i64 mx)).setCell ⟨w.heap.size + 1, 5, none⟩ (.bool neg)).heap[w.heap.size + 1]? = some (.cells #[.int .i64 kind, .slice A3 set.length c3, .slice A5 l5 c5, .int .i64 mn, .int .i64 mx, .bool neg] 25) := (boxS (boxS (boxS (boxS (boxS (boxS kz.out 0 (.int .i64 kind)) 1 (.slice A3 set.length c3)) 2 (.slice A5 l5 c5)) 3 (.int .i64 mn)) 4 (.int .i64 mx)) 5 (.bool neg))
      have ko_ : ((((((wr.setCell ⟨w.heap.size + 1, 0, none⟩ (.int .i64 kind)).setCell ⟨w.heap.size + 1, 1, none⟩ (.slice A3 set.length c3)).setCell ⟨w.heap.size + 1, 2, none⟩ (.slice A5 l5 c5)).setCell ⟨w.heap.size + 1, 3, none⟩ (.int .i64 mn)).setCell ⟨w.heap.size + 1, 4, none⟩ (.int .i64 mx)).setCell ⟨w.heap.size + 1, 5, none⟩ (.bool neg)).heap[w.heap.size + 1 + 1]? = some (.cells #[.int .i64 kind, .slice A3 set.length c3, .slice A5 l5 c5, .int .i64 mn, .int .i64 mx, .bool neg] 25) := (boxS_ne (boxS_ne (boxS_ne (boxS_ne (boxS_ne (boxS_ne ko.out (by first | omega | (simp; omega)) 0 (.int .i64 kind)) (by first | omega | (simp; omega)) 1 (.slice A3 set.length c3)) (by first | omega | (simp; omega)) 2 (.slice A5 l5 c5)) (by first | omega | (simp; omega)) 3 (.int .i64 mn)) (by first | omega | (simp; omega)) 4 (.int .i64 mx)) (by first | omega | (simp; omega)) 5 (.bool neg))
      replace ho := Aside.mk ((((((ho.out.grown (grownBy_setCell _ (w.heap.size + 1) 0 (.int .i64 kind)) (Or.inr (fun e => by have h1 := (ho.out.blk e).1; omega))).grown (grownBy_setCell _ (w.heap.size + 1) 1 (.slice A3 set.length c3)) (Or.inr (fun e => by have h1 := (ho.out.blk e).1; omega))).grown (grownBy_setCell _ (w.heap.size + 1) 2 (.slice A5 l5 c5)) (Or.inr (fun e => by have h1 := (ho.out.blk e).1; omega))).grown (grownBy_setCell _ (w.heap.size + 1) 3 (.int .i64 mn)) (Or.inr (fun e => by have h1 := (ho.out.blk e).1; omega))).grown (grownBy_setCell _ (w.heap.size + 1) 4 (.int .i64 mx)) (Or.inr (fun e => by have h1 := (ho.out.blk e).1; omega))).grown (grownBy_setCell _ (w.heap.size + 1) 5 (.bool neg)) (Or.inr (fun e => by have h1 := (ho.out.blk e).1; omega)))
      replace hx := Aside.mk (((((((hx.out.setCell (b := w.heap.size + 1) (o := 0) (by first | omega | (simp; omega)) nz.out (.int .i64 kind)).setCell (b := w.heap.size + 1) (o := 1) (by first | omega | (simp; omega)) nz.out (.slice A3 set.length c3)).setCell (b := w.heap.size + 1) (o := 2) (by first | omega | (simp; omega)) nz.out (.slice A5 l5 c5)).setCell (b := w.heap.size + 1) (o := 3) (by first | omega | (simp; omega)) nz.out (.int .i64 mn)).setCell (b := w.heap.size + 1) (o := 4) (by first | omega | (simp; omega)) nz.out (.int .i64 mx)).setCell (b := w.heap.size + 1) (o := 5) (by first | omega | (simp; omega)) nz.out (.bool neg)))
      generalize ((((((wr.setCell ⟨w.heap.size + 1, 0, none⟩ (.int .i64 kind)).setCell ⟨w.heap.size + 1, 1, none⟩ (.slice A3 set.length c3)).setCell ⟨w.heap.size + 1, 2, none⟩ (.slice A5 l5 c5)).setCell ⟨w.heap.size + 1, 3, none⟩ (.int .i64 mn)).setCell ⟨w.heap.size + 1, 4, none⟩ (.int .i64 mx)).setCell ⟨w.heap.size + 1, 5, none⟩ (.bool neg)) = W6 at *
      replace kz := Aside.mk kz_
      clear kz_
      replace ko := Aside.mk ko_
      clear ko_
      refine bodyPost_ret (resC rfl _ _ _ rfl (run_loadVar_row _ _ _ _ _ (0, 0) _ kz.out Try.underlying25 rfl (by kernel_rfl))) rfl ?_
      have ho2 := ho.out
      rw [List.take_of_length_le (Nat.le_refl _)] at ho2
      obtain ⟨H9, hx9, hle, ⟨A9, c9, e1, hsl⟩, hold⟩ := ho2.freezeE hx.out (by omega) (by simp; omega)
      cases e1
      exact ⟨_, _, rfl, RdRe.shut (hs3.out.mono hle) hsl, hx9⟩
end Go.Proofs.Ytbnahmeaeakhhaa.B
