/- Contracts: retree.norm, at each kind. -/
import Derived.Test.YtbnahmeaeakhhaaNf
import Derived.Test.YtbnahmeaeakhhaaN7b
import Derived.Test.YtbnahmeaeakhhaaN7c
namespace Go.Proofs.Ytbnahmeaeakhhaa.B
set_option linter.unusedVariables false
set_option linter.unusedSimpArgs false
open Go Go.RowKit Classical

theorem elem_block {H : PH} {A : Option Addr} {n c : Nat} {xs : List Re} (h : SlR kRe H A n c xs) (i : Nat) (hi : i < xs.length) {b off : Nat} (hA : A = some ⟨b, off, none⟩) : H b (off + i * 6) ≠ none := by
  obtain ⟨b', off', cs, e, hr, hc⟩ := h.row i hi
  rw [hA] at e
  cases e
  have hl : cs.length = 6 := kRe.len hr
  have := hc 0 (cs[0]'(by omega)) (List.getElem?_eq_getElem (by omega))
  rw [Nat.add_zero] at this
  show H b (off + i * kRe.sz) ≠ none
  rw [this]; simp
def NormS (r : Re) : Prop := ∀ (H : PH) (cs : List Value) (w : World), RdRe H r cs → Sat w H → Calls Try.prog 88 #[.agg cs.toArray] w (ReR H w (normF r))
theorem map_sz {args : List Re} (h : ∀ a ∈ args, Good a) : szL (args.map normF) ≤ szL args := by
  induction args with
  | nil => simp
  | cons a l ih =>
    rw [List.map_cons, szL_cons, szL_cons]
    have := (normF_ok a (h a (by simp))).2
    have := ih (fun b hb => h b (by simp [hb]))
    omega
theorem set_len {k : Int} {s : List Span} {n : Nat} {mn mx : Int} {ng : Bool} (h : nodeErr k s n mn mx ng = 0) : s.length ≤ 1048576 := by
  by_cases hk : k = 2
  · subst hk
    unfold nodeErr at h
    rw [if_neg (by omega)] at h
    split at h
    · omega
    · rw [if_pos rfl] at h
      split at h
      · rename_i h1; exact absurd h h1
      · rename_i h1
        have h2 : setErr s = 0 := by omega
        unfold setErr at h2
        split at h2 <;> omega
  · unfold nodeErr at h
    split at h
    · omega
    · split at h
      · omega
      · rename_i h2; have : ¬ s.length > 0 := fun h3 => h2 (Or.inr (Or.inr (Or.inl ⟨hk, h3⟩))); omega

set_option maxRecDepth 100000 in
set_option maxHeartbeats 16000000 in
theorem norm_k3 (s : List Span) (args : List Re) (mn mx : Int) (ng : Bool) (hg : Good (.mk 3 s args mn mx ng)) (hz : sz (.mk 3 s args mn mx ng) ≤ 1048576) (ih : ∀ a ∈ args, NormS a) : NormS (.mk 3 s args mn mx ng) := by
  intro H cs w hr hs
  have hnode := good_node hg
  have hga := good_args hg
  have hst := set_len hnode
  rw [sz_mk] at hz
  have hln := len_szL args
  have hmz := map_sz hga
  have hgl : ∀ a ∈ args.map normF, Good a := fun a ha => by obtain ⟨b, hb, rfl⟩ := List.mem_map.1 ha; exact (normF_ok b (hga b hb)).1
  have heach := each_norm normF H 3 s args mn mx ng cs
  obtain ⟨A1, c1, A2, c2, rfl, h1, h2⟩ := hr.open
  have HN := Aside.mk (normF_eq 3 s args mn mx ng)
  have hlm : (args.map normF).length = args.length := List.length_map ..
  rw [← hlm] at hnode
  generalize args.map normF = l at *
  have HG := Aside.mk (And.intro hnode (And.intro hgl (And.intro hmz (And.intro hlm hz))))
  have hE := fun (w : World) hs => heach w hr hs hst (by omega) (fun a ha H' cs' w' hr' hs' => ih a ha H' cs' w' hr' hs')
  replace hE := Aside.mk hE
  clear hnode hga hst hln hmz hgl heach hr ih hg hlm
  have hx := Aside.mk (Ext.refl hs)
  go_enter Try.func88, Try.ntmps88
  go_wp2_with fail
  have hszw := hx.out.size
  have kr_ : ((w.alloc (.cells #[.int .i64 3, .slice A1 s.length c1, .slice A2 args.length c2, .int .i64 mn, .int .i64 mx, .bool ng] 25)).alloc (.cells #[.int .i64 0, .slice none 0 0, .slice none 0 0, .int .i64 0, .int .i64 0, .bool false] 25)).heap[w.heap.size]? = some (.cells #[.int .i64 3, .slice A1 s.length c1, .slice A2 args.length c2, .int .i64 mn, .int .i64 mx, .bool ng] 25) := (boxA (heap_alloc_new _ _) (.cells #[.int .i64 0, .slice none 0 0, .slice none 0 0, .int .i64 0, .int .i64 0, .bool false] 25))
  have kz_ : ((w.alloc (.cells #[.int .i64 3, .slice A1 s.length c1, .slice A2 args.length c2, .int .i64 mn, .int .i64 mx, .bool ng] 25)).alloc (.cells #[.int .i64 0, .slice none 0 0, .slice none 0 0, .int .i64 0, .int .i64 0, .bool false] 25)).heap[w.heap.size + 1]? = some (.cells #[.int .i64 0, .slice none 0 0, .slice none 0 0, .int .i64 0, .int .i64 0, .bool false] 25) := (by rw [show w.heap.size + 1 = ((w.alloc (.cells #[.int .i64 3, .slice A1 s.length c1, .slice A2 args.length c2, .int .i64 mn, .int .i64 mx, .bool ng] 25))).heap.size by simp]; exact heap_alloc_new _ _)
  have nr := Aside.mk (fun o => hx.out.sat.new (b := w.heap.size) (show w.heap.size ≤ _ by omega) o)
  have nz := Aside.mk (fun o => hx.out.sat.new (b := w.heap.size + 1) (show w.heap.size ≤ _ by omega) o)
  replace hx := Aside.mk (((hx.out.alloc (.cells #[.int .i64 3, .slice A1 s.length c1, .slice A2 args.length c2, .int .i64 mn, .int .i64 mx, .bool ng] 25)).alloc (.cells #[.int .i64 0, .slice none 0 0, .slice none 0 0, .int .i64 0, .int .i64 0, .bool false] 25)))
  generalize ((w.alloc (.cells #[.int .i64 3, .slice A1 s.length c1, .slice A2 args.length c2, .int .i64 mn, .int .i64 mx, .bool ng] 25)).alloc (.cells #[.int .i64 0, .slice none 0 0, .slice none 0 0, .int .i64 0, .int .i64 0, .bool false] 25)) = W1 at *
  have kr := Aside.mk kr_
  clear kr_
  have kz := Aside.mk kz_
  clear kz_
  refine (hE.out _ (hs.below hx.out.below)).mono ?_
  rintro e w1 ⟨H1, cs1, rfl, hr1, hz1⟩
  have hle := hz1.le
  replace nr := Aside.mk (fun o => (hz1.old _ o (boxL kr.out)).trans (nr.out o))
  replace nz := Aside.mk (fun o => (hz1.old _ o (boxL kz.out)).trans (nz.out o))
  replace kr := Aside.mk (box_below kr.out hz1.below)
  replace kz := Aside.mk (box_below kz.out hz1.below)
  replace hx := Aside.mk (hx.out.trans hz1)
  clear hle hz1
  have hr0 := hr1
  obtain ⟨A3, c3, A4, c4, rfl, -, h4⟩ := hr1.open
  replace hr0 := Aside.mk hr0
  replace h4 := Aside.mk h4
  have lr : w.heap.size < w1.heap.size := boxL kr.out
  have cr0 : w1.cell? ⟨w.heap.size, 0, none⟩ = some (.int .i64 3) := (boxC kr.out 0).1
  have fr0 : w1.frozen? ⟨w.heap.size, 0, none⟩ = false := (boxC kr.out 0).2
  have cr1 : w1.cell? ⟨w.heap.size, 1, none⟩ = some (.slice A1 s.length c1) := (boxC kr.out 1).1
  have fr1 : w1.frozen? ⟨w.heap.size, 1, none⟩ = false := (boxC kr.out 1).2
  have cr2 : w1.cell? ⟨w.heap.size, 2, none⟩ = some (.slice A2 args.length c2) := (boxC kr.out 2).1
  have fr2 : w1.frozen? ⟨w.heap.size, 2, none⟩ = false := (boxC kr.out 2).2
  have cr3 : w1.cell? ⟨w.heap.size, 3, none⟩ = some (.int .i64 mn) := (boxC kr.out 3).1
  have fr3 : w1.frozen? ⟨w.heap.size, 3, none⟩ = false := (boxC kr.out 3).2
  have cr4 : w1.cell? ⟨w.heap.size, 4, none⟩ = some (.int .i64 mx) := (boxC kr.out 4).1
  have fr4 : w1.frozen? ⟨w.heap.size, 4, none⟩ = false := (boxC kr.out 4).2
  have cr5 : w1.cell? ⟨w.heap.size, 5, none⟩ = some (.bool ng) := (boxC kr.out 5).1
  have fr5 : w1.frozen? ⟨w.heap.size, 5, none⟩ = false := (boxC kr.out 5).2
  have lz : w.heap.size + 1 < w1.heap.size := boxL kz.out
  have cz0 : w1.cell? ⟨w.heap.size + 1, 0, none⟩ = some (.int .i64 0) := (boxC kz.out 0).1
  have fz0 : w1.frozen? ⟨w.heap.size + 1, 0, none⟩ = false := (boxC kz.out 0).2
  have cz1 : w1.cell? ⟨w.heap.size + 1, 1, none⟩ = some (.slice none 0 0) := (boxC kz.out 1).1
  have fz1 : w1.frozen? ⟨w.heap.size + 1, 1, none⟩ = false := (boxC kz.out 1).2
  have cz2 : w1.cell? ⟨w.heap.size + 1, 2, none⟩ = some (.slice none 0 0) := (boxC kz.out 2).1
  have fz2 : w1.frozen? ⟨w.heap.size + 1, 2, none⟩ = false := (boxC kz.out 2).2
  have cz3 : w1.cell? ⟨w.heap.size + 1, 3, none⟩ = some (.int .i64 0) := (boxC kz.out 3).1
  have fz3 : w1.frozen? ⟨w.heap.size + 1, 3, none⟩ = false := (boxC kz.out 3).2
  have cz4 : w1.cell? ⟨w.heap.size + 1, 4, none⟩ = some (.int .i64 0) := (boxC kz.out 4).1
  have fz4 : w1.frozen? ⟨w.heap.size + 1, 4, none⟩ = false := (boxC kz.out 4).2
  have cz5 : w1.cell? ⟨w.heap.size + 1, 5, none⟩ = some (.bool false) := (boxC kz.out 5).1
  have fz5 : w1.frozen? ⟨w.heap.size + 1, 5, none⟩ = false := (boxC kz.out 5).2
  have hsl : (sevL 3 l).length ≤ 1048576 := Nat.le_trans (len_szL _) (Nat.le_trans (sz_sevL 3 l) (Nat.le_trans HG.out.2.2.1 (by have := HG.out.2.2.2.2; omega)))
  have hll : l.length ≤ 1048576 := Nat.le_trans (len_szL l) (Nat.le_trans HG.out.2.2.1 (by have := HG.out.2.2.2.2; omega))
  replace hll := Aside.mk hll
  replace hsl := Aside.mk hsl
  go_wp2_with fail
  clear lr cr0 fr0 cr1 fr1 cr2 fr2 cr3 fr3 cr4 fr4 cr5 fr5 lz cz0 fz0 cz1 fz1 cz2 fz2 cz3 fz3 cz4 fz4 cz5 fz5
  have kr_ : ((((((w1.setCell ⟨w.heap.size, 0, none⟩ (.int .i64 3)).setCell ⟨w.heap.size, 1, none⟩ (.slice A3 s.length c3)).setCell ⟨w.heap.size, 2, none⟩ (.slice A4 l.length c4)).setCell ⟨w.heap.size, 3, none⟩ (.int .i64 mn)).setCell ⟨w.heap.size, 4, none⟩ (.int .i64 mx)).setCell ⟨w.heap.size, 5, none⟩ (.bool ng)).heap[w.heap.size]? = some (.cells #[.int .i64 3, .slice A3 s.length c3, .slice A4 l.length c4, .int .i64 mn, .int .i64 mx, .bool ng] 25) := (boxS (boxS (boxS (boxS (boxS (boxS kr.out 0 (.int .i64 3)) 1 (.slice A3 s.length c3)) 2 (.slice A4 l.length c4)) 3 (.int .i64 mn)) 4 (.int .i64 mx)) 5 (.bool ng))
  have kz_ : ((((((w1.setCell ⟨w.heap.size, 0, none⟩ (.int .i64 3)).setCell ⟨w.heap.size, 1, none⟩ (.slice A3 s.length c3)).setCell ⟨w.heap.size, 2, none⟩ (.slice A4 l.length c4)).setCell ⟨w.heap.size, 3, none⟩ (.int .i64 mn)).setCell ⟨w.heap.size, 4, none⟩ (.int .i64 mx)).setCell ⟨w.heap.size, 5, none⟩ (.bool ng)).heap[w.heap.size + 1]? = some (.cells #[.int .i64 0, .slice none 0 0, .slice none 0 0, .int .i64 0, .int .i64 0, .bool false] 25) := (boxS_ne (boxS_ne (boxS_ne (boxS_ne (boxS_ne (boxS_ne kz.out (by first | omega | (simp; omega)) 0 (.int .i64 3)) (by first | omega | (simp; omega)) 1 (.slice A3 s.length c3)) (by first | omega | (simp; omega)) 2 (.slice A4 l.length c4)) (by first | omega | (simp; omega)) 3 (.int .i64 mn)) (by first | omega | (simp; omega)) 4 (.int .i64 mx)) (by first | omega | (simp; omega)) 5 (.bool ng))
  replace hx := Aside.mk (((((((hx.out.setCell (b := w.heap.size) (o := 0) (by first | omega | (simp; omega)) nr.out (.int .i64 3)).setCell (b := w.heap.size) (o := 1) (by first | omega | (simp; omega)) nr.out (.slice A3 s.length c3)).setCell (b := w.heap.size) (o := 2) (by first | omega | (simp; omega)) nr.out (.slice A4 l.length c4)).setCell (b := w.heap.size) (o := 3) (by first | omega | (simp; omega)) nr.out (.int .i64 mn)).setCell (b := w.heap.size) (o := 4) (by first | omega | (simp; omega)) nr.out (.int .i64 mx)).setCell (b := w.heap.size) (o := 5) (by first | omega | (simp; omega)) nr.out (.bool ng)))
  generalize ((((((w1.setCell ⟨w.heap.size, 0, none⟩ (.int .i64 3)).setCell ⟨w.heap.size, 1, none⟩ (.slice A3 s.length c3)).setCell ⟨w.heap.size, 2, none⟩ (.slice A4 l.length c4)).setCell ⟨w.heap.size, 3, none⟩ (.int .i64 mn)).setCell ⟨w.heap.size, 4, none⟩ (.int .i64 mx)).setCell ⟨w.heap.size, 5, none⟩ (.bool ng)) = W2 at *
  replace kr := Aside.mk kr_
  clear kr_
  replace kz := Aside.mk kz_
  clear kz_
  refine (several3 _ s l mn mx ng _ _ hr0.out hx.out.sat hsl.out hll.out).mono ?_
  rintro e w2 ⟨H2, cs2, rfl, hr2, hz2⟩
  have hle := hz2.le
  replace hr0 := Aside.mk (hr0.out.mono hle)
  replace h4 := Aside.mk (h4.out.mono hle)
  replace nr := Aside.mk (fun o => (hz2.old _ o (boxL kr.out)).trans (nr.out o))
  replace nz := Aside.mk (fun o => (hz2.old _ o (boxL kz.out)).trans (nz.out o))
  replace kr := Aside.mk (box_below kr.out hz2.below)
  replace kz := Aside.mk (box_below kz.out hz2.below)
  replace hx := Aside.mk (hx.out.trans hz2)
  clear hle hz2
  obtain ⟨k9, s9, l9, m9, x9, g9, hq9⟩ : ∃ a b c d e f, sevF 3 l = Re.mk a b c d e f := by cases sevF 3 l; exact ⟨_, _, _, _, _, _, rfl⟩
  replace hq9 := Aside.mk hq9
  rw [hq9.out] at hr2
  have hr3 := Aside.mk hr2
  obtain ⟨B1, d1, B2, d2, rfl, -, -⟩ := hr2.open
  clear hr2
  have lr : w.heap.size < w2.heap.size := boxL kr.out
  have cr0 : w2.cell? ⟨w.heap.size, 0, none⟩ = some (.int .i64 3) := (boxC kr.out 0).1
  have fr0 : w2.frozen? ⟨w.heap.size, 0, none⟩ = false := (boxC kr.out 0).2
  have cr1 : w2.cell? ⟨w.heap.size, 1, none⟩ = some (.slice A3 s.length c3) := (boxC kr.out 1).1
  have fr1 : w2.frozen? ⟨w.heap.size, 1, none⟩ = false := (boxC kr.out 1).2
  have cr2 : w2.cell? ⟨w.heap.size, 2, none⟩ = some (.slice A4 l.length c4) := (boxC kr.out 2).1
  have fr2 : w2.frozen? ⟨w.heap.size, 2, none⟩ = false := (boxC kr.out 2).2
  have cr3 : w2.cell? ⟨w.heap.size, 3, none⟩ = some (.int .i64 mn) := (boxC kr.out 3).1
  have fr3 : w2.frozen? ⟨w.heap.size, 3, none⟩ = false := (boxC kr.out 3).2
  have cr4 : w2.cell? ⟨w.heap.size, 4, none⟩ = some (.int .i64 mx) := (boxC kr.out 4).1
  have fr4 : w2.frozen? ⟨w.heap.size, 4, none⟩ = false := (boxC kr.out 4).2
  have cr5 : w2.cell? ⟨w.heap.size, 5, none⟩ = some (.bool ng) := (boxC kr.out 5).1
  have fr5 : w2.frozen? ⟨w.heap.size, 5, none⟩ = false := (boxC kr.out 5).2
  have lz : w.heap.size + 1 < w2.heap.size := boxL kz.out
  have cz0 : w2.cell? ⟨w.heap.size + 1, 0, none⟩ = some (.int .i64 0) := (boxC kz.out 0).1
  have fz0 : w2.frozen? ⟨w.heap.size + 1, 0, none⟩ = false := (boxC kz.out 0).2
  have cz1 : w2.cell? ⟨w.heap.size + 1, 1, none⟩ = some (.slice none 0 0) := (boxC kz.out 1).1
  have fz1 : w2.frozen? ⟨w.heap.size + 1, 1, none⟩ = false := (boxC kz.out 1).2
  have cz2 : w2.cell? ⟨w.heap.size + 1, 2, none⟩ = some (.slice none 0 0) := (boxC kz.out 2).1
  have fz2 : w2.frozen? ⟨w.heap.size + 1, 2, none⟩ = false := (boxC kz.out 2).2
  have cz3 : w2.cell? ⟨w.heap.size + 1, 3, none⟩ = some (.int .i64 0) := (boxC kz.out 3).1
  have fz3 : w2.frozen? ⟨w.heap.size + 1, 3, none⟩ = false := (boxC kz.out 3).2
  have cz4 : w2.cell? ⟨w.heap.size + 1, 4, none⟩ = some (.int .i64 0) := (boxC kz.out 4).1
  have fz4 : w2.frozen? ⟨w.heap.size + 1, 4, none⟩ = false := (boxC kz.out 4).2
  have cz5 : w2.cell? ⟨w.heap.size + 1, 5, none⟩ = some (.bool false) := (boxC kz.out 5).1
  have fz5 : w2.frozen? ⟨w.heap.size + 1, 5, none⟩ = false := (boxC kz.out 5).2
  go_wp2_with fail
  clear lr cr0 fr0 cr1 fr1 cr2 fr2 cr3 fr3 cr4 fr4 cr5 fr5 lz cz0 fz0 cz1 fz1 cz2 fz2 cz3 fz3 cz4 fz4 cz5 fz5
  have kr_ : ((((((w2.setCell ⟨w.heap.size + 1, 0, none⟩ (.int .i64 k9)).setCell ⟨w.heap.size + 1, 1, none⟩ (.slice B1 s9.length d1)).setCell ⟨w.heap.size + 1, 2, none⟩ (.slice B2 l9.length d2)).setCell ⟨w.heap.size + 1, 3, none⟩ (.int .i64 m9)).setCell ⟨w.heap.size + 1, 4, none⟩ (.int .i64 x9)).setCell ⟨w.heap.size + 1, 5, none⟩ (.bool g9)).heap[w.heap.size]? = some (.cells #[.int .i64 3, .slice A3 s.length c3, .slice A4 l.length c4, .int .i64 mn, .int .i64 mx, .bool ng] 25) := (boxS_ne (boxS_ne (boxS_ne (boxS_ne (boxS_ne (boxS_ne kr.out (by first | omega | (simp; omega)) 0 (.int .i64 k9)) (by first | omega | (simp; omega)) 1 (.slice B1 s9.length d1)) (by first | omega | (simp; omega)) 2 (.slice B2 l9.length d2)) (by first | omega | (simp; omega)) 3 (.int .i64 m9)) (by first | omega | (simp; omega)) 4 (.int .i64 x9)) (by first | omega | (simp; omega)) 5 (.bool g9))
  have kz_ : ((((((w2.setCell ⟨w.heap.size + 1, 0, none⟩ (.int .i64 k9)).setCell ⟨w.heap.size + 1, 1, none⟩ (.slice B1 s9.length d1)).setCell ⟨w.heap.size + 1, 2, none⟩ (.slice B2 l9.length d2)).setCell ⟨w.heap.size + 1, 3, none⟩ (.int .i64 m9)).setCell ⟨w.heap.size + 1, 4, none⟩ (.int .i64 x9)).setCell ⟨w.heap.size + 1, 5, none⟩ (.bool g9)).heap[w.heap.size + 1]? = some (.cells #[.int .i64 k9, .slice B1 s9.length d1, .slice B2 l9.length d2, .int .i64 m9, .int .i64 x9, .bool g9] 25) := (boxS (boxS (boxS (boxS (boxS (boxS kz.out 0 (.int .i64 k9)) 1 (.slice B1 s9.length d1)) 2 (.slice B2 l9.length d2)) 3 (.int .i64 m9)) 4 (.int .i64 x9)) 5 (.bool g9))
  replace hx := Aside.mk (((((((hx.out.setCell (b := w.heap.size + 1) (o := 0) (by first | omega | (simp; omega)) nz.out (.int .i64 k9)).setCell (b := w.heap.size + 1) (o := 1) (by first | omega | (simp; omega)) nz.out (.slice B1 s9.length d1)).setCell (b := w.heap.size + 1) (o := 2) (by first | omega | (simp; omega)) nz.out (.slice B2 l9.length d2)).setCell (b := w.heap.size + 1) (o := 3) (by first | omega | (simp; omega)) nz.out (.int .i64 m9)).setCell (b := w.heap.size + 1) (o := 4) (by first | omega | (simp; omega)) nz.out (.int .i64 x9)).setCell (b := w.heap.size + 1) (o := 5) (by first | omega | (simp; omega)) nz.out (.bool g9)))
  generalize ((((((w2.setCell ⟨w.heap.size + 1, 0, none⟩ (.int .i64 k9)).setCell ⟨w.heap.size + 1, 1, none⟩ (.slice B1 s9.length d1)).setCell ⟨w.heap.size + 1, 2, none⟩ (.slice B2 l9.length d2)).setCell ⟨w.heap.size + 1, 3, none⟩ (.int .i64 m9)).setCell ⟨w.heap.size + 1, 4, none⟩ (.int .i64 x9)).setCell ⟨w.heap.size + 1, 5, none⟩ (.bool g9)) = W3 at *
  replace kr := Aside.mk kr_
  clear kr_
  replace kz := Aside.mk kz_
  clear kz_
  refine bodyPost_ret (resC rfl _ _ _ rfl (run_loadVar_row _ _ _ _ _ (0, 0) _ kz.out Try.underlying25 rfl (by kernel_rfl))) rfl ?_
  rw [HN.out]
  rw [show normTop 3 s l mn mx ng = sevF 3 l from by simp [normTop]]
  exact ⟨_, _, rfl, (by rw [hq9.out]; exact hr3.out), hx.out⟩
end Go.Proofs.Ytbnahmeaeakhhaa.B
