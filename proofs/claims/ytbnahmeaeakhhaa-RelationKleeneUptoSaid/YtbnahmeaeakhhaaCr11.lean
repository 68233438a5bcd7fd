/- Contract: relation.First. -/
import Derived.Test.YtbnahmeaeakhhaaCr10
import Derived.Laws.Rows
namespace Go.Proofs.Ytbnahmeaeakhhaa.B
set_option linter.unusedVariables false
set_option linter.unusedSimpArgs false
open Go Go.RowKit Classical

/-- the last pair that begins where the first begins -/
def lastOf : List (Int × Int) → Int × Int
  | [] => (0, 0)
  | p :: l => (p :: l).foldl (fun o q => if q.1 = o.1 then q else o) p

theorem prs_le (n : Nat) (R : Rel) (h : n ≤ 24) : (prs n R (n + 1)).length ≤ 625 := by
  have := prs_len n R (n + 1)
  have h3 : (n + 1) * (n + 1) ≤ 25 * 25 := Nat.mul_le_mul (by omega) (by omega)
  omega

/-- a variable of two cells in memory -/
theorem box2 {w : World} {b : Nat} {u v : Value} {T : TypeId} (h : w.heap[b]? = some (.cells #[u, v] T)) : w.cell? ⟨b, 0, none⟩ = some u ∧ w.cell? ⟨b, 1, none⟩ = some v ∧ w.frozen? ⟨b, 0, none⟩ = false ∧ w.frozen? ⟨b, 1, none⟩ = false := by
  simp [World.cell?, World.frozen?, h]
theorem box2_set {w : World} {b : Nat} {u v : Value} {T : TypeId} (h : w.heap[b]? = some (.cells #[u, v] T)) (u' v' : Value) : ((w.setCell ⟨b, 0, none⟩ u').setCell ⟨b, 1, none⟩ v').heap[b]? = some (.cells #[u', v'] T) := by
  have hb : b < w.heap.size := (Array.getElem?_eq_some_iff.1 h).1
  have h1 : (w.setCell ⟨b, 0, none⟩ u').heap[b]? = some (.cells #[u', v] T) := by
    simp [World.setCell, Array.getElem?_modify, h]
  simp [World.setCell, Array.getElem?_modify, h1] at *
  simp [h]

theorem results_c22 {fn : Func} {a t u : Tmp} {T : TypeId} (h : fn.results = #[.cell a T, .tmp t, .tmp u]) (tmps : Array Value) (P : Program) (w : World) {ad : Addr} {v : Value} (ha : tmps.getD a undef = .pointer (some ad)) (hl : (loadVar T ad).run P w = .ok v w) :
    (results fn tmps).run P w = .ok (.tuple #[v, tmps.getD t undef, tmps.getD u undef]) w := by
  rw [Array.getD_eq_getD_getElem?] at ha
  simp [results, h, ha, hl, asAddr]

set_option maxRecDepth 100000 in
set_option maxHeartbeats 4000000 in
theorem first_any (H : PH) (r : Re) (cs : List Value) (t : List Int) (A : Option Addr) (c : Nat) (w : World) (hr : RdRe H r cs) (ht : SlR (kI .i64) H A t.length c t) (hs : Sat w H) :
    Calls Try.prog 17 #[.agg cs.toArray, .slice A t.length c] w fun e w' => e = .returned (.tuple #[.agg #[.int .i64 (if textErr r t 24 = 0 then lastOf (prs t.length (M t r) (t.length + 1)) else (0, 0)).1, .int .i64 (if textErr r t 24 = 0 then lastOf (prs t.length (M t r) (t.length + 1)) else (0, 0)).2],
      .bool (decide (textErr r t 24 = 0 ∧ prs t.length (M t r) (t.length + 1) ≠ [])), .int .i64 (textErr r t 24)]) ∧ Below w.heap.size w w' := by
  have hpr := fun w hs => pairs_any H r cs t A c w hr ht hs
  have hok := @textErr_ok r t 24
  cases r with
  | mk kind set args mn mx neg =>
  have hr0 := hr
  obtain ⟨A1, c1, A2, c2, rfl, -, -⟩ := hr.open
  generalize hll : prs t.length (M t (.mk kind set args mn mx neg)) (t.length + 1) = ll at *
  have hln : textErr (.mk kind set args mn mx neg) t 24 = 0 → ll.length ≤ 625 := fun h => by rw [← hll]; exact prs_le _ _ (by have := (hok h).2.2; omega)
  generalize hee : textErr (.mk kind set args mn mx neg) t 24 = ee at *
  have HP := Aside.mk hpr
  have HN := Aside.mk hln
  clear hok hpr hln
  have htl := ht.2.2.2.1
  go_enter Try.func17, Try.ntmps17
  go_wp2_with fail
  refine (HP.out _ ((hs.alloc _).alloc _)).mono ?_
  rintro e w1 ⟨v, rfl, ho, hb1⟩
  have k4 : w1.heap[w.heap.size + 1]? = some (.cells #[.int .i64 0, .int .i64 0] 33) := by
    rw [hb1.block _ (by simp)]; have := heap_alloc_new (w.alloc (.cells (#[.int .i64 kind, .slice A1 set.length c1, .slice A2 args.length c2, .int .i64 mn, .int .i64 mx, .bool neg]) 25)) (.cells #[.int .i64 0, .int .i64 0] 33); rw [show ∀ o, (w.alloc o).heap.size = w.heap.size + 1 from fun o => by simp] at this; exact this
  have hb2 : Below w.heap.size w w1 := bT (by repeat (first | exact Below.refl _ _ | apply bA)) hb1
  obtain ⟨l40, l41, l42, l43⟩ := box2 k4
  have K4 := Aside.mk k4
  have hz2 : w.heap.size + 1 < w1.heap.size := Nat.lt_of_lt_of_le (by simp) hb1.size
  have hb2t := Aside.mk hb2
  by_cases h0 : ee = 0
  · subst h0
    rw [if_pos rfl] at ho
    by_cases hne : ll = []
    · subst hne
      obtain ⟨A3, c3, rfl, -, -, -, -⟩ := ho.form
      clear ho hb1 k4 hb2
      go_wp2_with fail
      refine bodyPost_ret (results_c22 rfl _ _ _ rfl (run_loadVar_row _ _ _ _ _ (0, 0) _ (box2_set K4.out _ _) rfl rfl (by kernel_rfl))) rfl ?_
      refine ⟨?_, Below.setCell (Below.setCell hb2t.out ?_ _) ?_ _⟩
      · simp [lastOf]
      · simp
      · simp
    · obtain ⟨p0, l, rfl⟩ : ∃ p0 l, ll = p0 :: l := List.exists_cons_of_ne_nil hne
      have hlen := HN.out rfl
      obtain ⟨HQ, -, hs1, ⟨A3, c3, e1, hl⟩, -⟩ := ho.freeze (sat_emp w1) (by omega)
      cases e1
      obtain ⟨b, off, cs, rfl, hrd, hcell⟩ := hl.row 0 (by simp)
      obtain rfl : cs = [.int .i64 p0.1, .int .i64 p0.2] := hrd
      obtain ⟨g0, g1⟩ := at2 hs1 hcell
      simp only [kP, Nat.zero_mul, Nat.add_zero] at g0 g1
      have HL := Aside.mk hl
      have hc3 := hl.2.1
      have hbz : b < w1.heap.size := World.block_lt_of_cell? w1 _ g0
      simp only [List.length_cons] at hlen hc3 ⊢
      clear ho hb1 k4 hb2 hl hcell hne
      go_wp2_with fail
      go_loopw [32] (fun i wr => ∃ (k : Nat) (p : Int × Int), k ≤ l.length + 1 ∧ i = .int .i64 k ∧ wr.heap[w1.heap.size]? = some (.cells #[.int .i64 p.1, .int .i64 p.2] 33) ∧ wr.heap[w.heap.size + 1]? = some (.cells #[.int .i64 0, .int .i64 0] 33) ∧
        Aside (p = ((p0 :: l).take k).foldl (fun o q => if q.1 = o.1 then q else o) p0) ∧ Sat wr HQ ∧ Below w.heap.size w wr) (fun i _ => l.length + 1 - (intOf i).toNat)
      case atStart =>
        exact ⟨0, p0, by omega, rfl, heap_alloc_new _ _, by rw [heap_alloc_old _ _ hz2]; exact K4.out, ⟨rfl⟩, hs1.alloc _, hb2t.out.alloc hb2t.out.size _⟩
      case round =>
        obtain ⟨k, p, hk, rfl, hh9, hh4, hp, hsr, hbr⟩ := hrel
        obtain ⟨m0, m1, m2, m3⟩ := box2 hh9
        have H9 := Aside.mk hh9
        have H4 := Aside.mk hh4
        have HB := Aside.mk hbr
        have hz4 : w1.heap.size < wr.heap.size := (Array.getElem?_eq_some_iff.1 hh9).1
        clear hh9 hh4 hbr
        by_cases hlt : k < l.length + 1
        · obtain ⟨b', off', cs, e1, hrd, hcell⟩ := HL.out.row k (by simp; omega)
          cases e1
          have hsn := List.take_succ_eq_append_getElem (l := p0 :: l) (i := k) (by simp; omega)
          generalize hq : (p0 :: l)[k]'(by simp; omega) = q at *
          have HS := Aside.mk hsn
          have HQ' := Aside.mk hq
          clear hsn hq
          obtain rfl : cs = [.int .i64 q.1, .int .i64 q.2] := hrd
          obtain ⟨g2, g3⟩ := at2 hsr hcell
          simp only [kP] at g2 g3
          clear hcell
          have hbz' : b < wr.heap.size := World.block_lt_of_cell? wr _ g2
          by_cases hqp : q.1 = p.1
          · go_wp2_with fail
            go_roundw
            case rel =>
              have hs9 : ∀ o, HQ w1.heap.size o = none := fun o => hs1.new (Nat.le_refl _) o
              refine ⟨k + 1, q, by omega, by go_num, ?_, ?_, ⟨by rw [HS.out, List.foldl_append, ← hp.out]; simp [hqp]⟩, ?_, ?_⟩
              · rw [heap_alloc_old _ _ (by simpa using hz4), box2_set H9.out, hqp]
              · rw [heap_alloc_old _ _ (by simp; omega), Below.heap_setCell _ _ _ _ (by simp; omega), Below.heap_setCell _ _ _ _ (by simp; omega)]
                exact H4.out
              · exact ((hsr.grown (grownBy_setCell _ _ _ _) (fun b hb => by cases hb; exact hs9)).grown (grownBy_setCell _ _ _ _) (fun b hb => by cases hb; exact hs9)).alloc _
              · exact ((HB.out.setCell (by simp; omega) _).setCell (by simp; omega) _).alloc (by simp; exact HB.out.size) _
            case measure => simp [intOf]; omega
          · go_wp2_with fail
            go_roundw
            case rel =>
              refine ⟨k + 1, p, by omega, by go_num, ?_, ?_, ⟨by rw [HS.out, List.foldl_append, ← hp.out]; simp [hqp]⟩, hsr.alloc _, HB.out.alloc HB.out.size _⟩
              · rw [heap_alloc_old _ _ hz4]; exact H9.out
              · rw [heap_alloc_old _ _ (by omega)]; exact H4.out
            case measure => simp [intOf]; omega
        · obtain rfl : k = l.length + 1 := by omega
          obtain ⟨n0, n1, n2, n3⟩ := box2 H4.out
          go_wp2_with fail
          refine bodyPost_ret (results_c22 rfl _ _ _ rfl (run_loadVar_row _ _ _ _ _ (0, 0) _ (box2_set H4.out _ _) rfl rfl (by kernel_rfl))) rfl ?_
          refine ⟨?_, Below.setCell (Below.setCell HB.out ?_ _) ?_ _⟩
          · have hp' := hp.out
            rw [List.take_of_length_le (by simp)] at hp'
            have hlo : lastOf (p0 :: l) = p := hp'.symm
            simp [hlo]
          · simp
          · simp
  · rw [if_neg h0] at ho
    obtain ⟨A3, c3, rfl, -, -, -, -⟩ := ho.form
    clear ho hb1 k4 hb2
    go_wp2_with fail
    refine bodyPost_ret (results_c22 rfl _ _ _ rfl (run_loadVar_row _ _ _ _ _ (0, 0) _ (box2_set K4.out _ _) rfl rfl (by kernel_rfl))) rfl ?_
    refine ⟨?_, Below.setCell (Below.setCell hb2t.out ?_ _) ?_ _⟩
    · simp [h0]
    · simp
    · simp
end Go.Proofs.Ytbnahmeaeakhhaa.B
