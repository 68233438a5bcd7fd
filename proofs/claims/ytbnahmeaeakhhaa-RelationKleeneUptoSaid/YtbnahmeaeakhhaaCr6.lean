/- Contract: relation.of at the kinds RSet, RCat, RAlt. -/
import Derived.Test.YtbnahmeaeakhhaaCr5
namespace Go.Proofs.Ytbnahmeaeakhhaa.B
set_option linter.unusedVariables false
set_option linter.unusedSimpArgs false
open Go Go.RowKit

theorem inSet_succ (l : List Span) (k : Nat) (h : k < l.length) (c : Int) : inSet (l.take (k + 1)) c ↔ inSet (l.take k) c ∨ (l[k].lo ≤ c ∧ c ≤ l[k].hi) := by
  rw [List.take_succ_eq_append_getElem h]
  simp only [inSet, List.mem_append, List.mem_singleton]
  constructor
  · rintro ⟨s, h1 | rfl, h2⟩
    · exact Or.inl ⟨s, h1, h2⟩
    · exact Or.inr h2
  · rintro (⟨s, h1, h2⟩ | h)
    · exact ⟨s, Or.inl h1, h2⟩
    · exact ⟨_, Or.inr rfl, h⟩

set_option maxRecDepth 100000 in
set_option maxHeartbeats 4000000 in
theorem of_set (t : List Int) (set : List Span) (args : List Re) (mn mx : Int) (neg : Bool) (hn : t.length ≤ 24) : OfS t (.mk 2 set args mn mx neg) := by
  intro H cs A c w hr ht hs
  rw [M_eq]
  obtain ⟨A1, c1, A2, c2, rfl, h1, ha⟩ := hr.open
  generalize hT : opM t 2 set mn mx neg (args.map (M t)) = T
  have hT2 : ∀ i j, T i j ↔ (j = i + 1 ∧ ∃ c, t[i]? = some c ∧ inSet set c) := fun i j => by rw [← hT]; simp [opM]
  have HT := Aside.mk hT2
  clear hT hT2
  obtain ⟨n, hnn⟩ : ∃ n, t.length = n := ⟨_, rfl⟩
  have HN := Aside.mk hnn
  rw [hnn] at hn ht ⊢
  clear hnn
  have h1l := h1.2.2.2.1
  go_enter Try.func77, Try.ntmps77
  go_upto_region 3 with (refine wpList_mk (kI .u32) rfl (.tmp 18) (.tmp 18) 110 rfl 112 Try.underlying110 info112 rfl rfl (0 : Int) (n + 1) (sat_emp _) rfl (by omega) (by unfold maxLen; omega) (base := w.heap.size) (by simp) rfl rfl ?_; intro w1 ho hb1 hz)
  have hz' : w.heap.size + 1 < w1.heap.size := by simp at hz; omega
  have hbw1 : Below w.heap.size w w1 := bT (bA (Below.refl _ _) _) hb1
  have f0 : w1.cell? ⟨w.heap.size, 0, none⟩ = some (.int .i64 2) := cell_box hb1 0
  have f1 : w1.cell? ⟨w.heap.size, 1, none⟩ = some (.slice A1 set.length c1) := cell_box hb1 1
  clear hz hb1
  go_wp2_with fail
  go_loopw [30] (fun i wr => ∃ (m : Nat) (xs : List Int), m ≤ n ∧ i = .int .i64 m ∧ Own (kI .u32) 112 wr w.heap.size emp (.slice (some ⟨w.heap.size + 1, 0, none⟩) (n + 1) (n + 1)) xs ∧ Aside (xs = rows n (upto m T)) ∧ wr.cell? ⟨w.heap.size, 1, none⟩ = some (.slice A1 set.length c1) ∧ w.heap.size + 1 < wr.heap.size ∧ Below w.heap.size w wr) (fun i _ => n - (intOf i).toNat)
  case atStart => exact ⟨0, _, by omega, rfl, by simpa using ho, ⟨by rw [← rows_none]; exact rows_congr fun i j _ _ => by simp [upto]⟩, f1, hz', hbw1⟩
  case round =>
    obtain ⟨m, xs, hm, rfl, ho, hxs, f1, hsz, hb2⟩ := hrel
    by_cases hmn : m < n
    · have hmi : (m : Int) < (n : Int) := by omega
      have hmt : m < t.length := by rw [HN.out]; exact hmn
      obtain ⟨b, off, cs, rfl, hrd, hcell⟩ := ht.row m hmt
      have htm : t[m]? = some t[m] := List.getElem?_eq_getElem hmt
      generalize t[m] = z at *
      have HTM := Aside.mk htm
      obtain rfl : cs = [.int .i64 z] := hrd
      have g0 := at1 (hs.below hb2) hcell
      simp only [kI, Nat.mul_one] at g0
      clear hcell htm
      obtain ⟨wo, rfl⟩ : ∃ wo : World, wo = wr := ⟨_, rfl⟩
      go_wp2_with fail
      go_loopw [38] (fun i wr => ∃ (k : Nat) (ys : List Int), k ≤ set.length ∧ i = .int .i64 k ∧ Own (kI .u32) 112 wr w.heap.size emp (.slice (some ⟨w.heap.size + 1, 0, none⟩) (n + 1) (n + 1)) ys ∧ Aside (ys = rows n (fun i j => upto m T i j ∨ (i = m ∧ j = m + 1 ∧ inSet (set.take k) z))) ∧ wr.cell? ⟨w.heap.size, 1, none⟩ = some (.slice A1 set.length c1) ∧ w.heap.size + 1 < wr.heap.size ∧ Below w.heap.size w wr) (fun i _ => set.length - (intOf i).toNat)
      case atStart => exact ⟨0, _, by omega, rfl, ho, ⟨by rw [hxs.out]; exact rows_congr fun i j _ _ => by simp [inSet]⟩, f1, hsz, hb2⟩
      case round =>
        obtain ⟨k, ys, hk, rfl, ho3, hys, f1, hsz3, hb3⟩ := hrel
        have hl : ys.length = n + 1 := by rw [hys.out, rows_length]
        have hf := ho3.free hl.symm m
        by_cases hkn : k < set.length
        · obtain ⟨b1, o1, cs, rfl, hrd, hcell⟩ := h1.row k hkn
          have hsucc := inSet_succ set k hkn z
          generalize set[k] = sp at *
          have HSU := Aside.mk hsucc
          clear hsucc
          cases sp with
          | mk lo hi =>
          obtain rfl : cs = [.int .i64 lo, .int .i64 hi] := hrd
          obtain ⟨q0, q1⟩ := at2 (hs.below hb3) hcell
          simp only [kSpan] at q0 q1
          clear hcell
          obtain ⟨cs, hrd, hcell⟩ := ho3.at m (by omega)
          generalize ys[m] = y at hrd
          obtain rfl : cs = [.int .u32 y] := hrd
          have p0 := hcell 0 _ rfl
          simp only [kI, Nat.add_zero, Nat.mul_one] at p0
          clear hcell
          have HL := Aside.mk hl
          clear hl
          by_cases d1 : lo ≤ z
          · by_cases d2 : z ≤ hi
            · go_wp2_with fail
              go_roundw
              case rel =>
                have hz : mask n (fun j => j = m + 1) = 2 ^ (m + 1) := by rw [← mask_one n (m + 1) (by omega)]; exact mask_congr fun j _ => ⟨Eq.symm, Eq.symm⟩
                obtain ⟨r1, r2⟩ := ho3.put1 HL.out.symm rfl (i := m) (by rw [HL.out]; omega) (y := ((mask n (fun j => j = m + 1) : Nat) : Int)) (u := .int .u32 (2 ^ (m + 1) % 4294967296)) (by rw [pow_mod _ (by omega), hz]; rfl)
                refine ⟨k + 1, _, by omega, by go_num, Own.alloc r1 (sat_emp _) _, ⟨?_⟩, ?_, by simp [World.setCell]; omega, bA (hb3.setCell (by simp) _) _⟩
                · rw [hys.out]
                  have e1 : mask n (fun j => j = m + 1) = mask n ((fun i j => upto m T i j ∨ (i = m ∧ j = m + 1 ∧ inSet (set.take (k + 1)) z)) m) := mask_congr fun j _ => by
                    have := HSU.out
                    simp only [upto, this]
                    simp [d1, d2]
                  rw [e1]
                  refine rows_set n _ (fun i j => upto m T i j ∨ (i = m ∧ j = m + 1 ∧ inSet (set.take (k + 1)) z)) m (by omega) fun i j _ _ hne => ?_
                  simp [hne]
                · rw [← f1, World.cell?_of_block (Below.heap_alloc _ _ _ (by simp [World.setCell]; omega))]
                  exact World.cell?_of_block (Below.heap_setCell _ _ _ _ (by simp))
              case measure => simp [intOf]; omega
            · go_wp2_with fail
              go_roundw
              case rel =>
                refine ⟨k + 1, _, by omega, by go_num, Own.alloc ho3 (sat_emp _) _, ⟨?_⟩, ?_, by simp; omega, bA hb3 _⟩
                · rw [hys.out]
                  refine rows_congr fun i j _ _ => ?_
                  have := HSU.out
                  simp only [this]
                  constructor
                  · rintro (h | ⟨e1, e2, h⟩)
                    · exact Or.inl h
                    · exact Or.inr ⟨e1, e2, Or.inl h⟩
                  · rintro (h | ⟨e1, e2, h | ⟨_, h⟩⟩)
                    · exact Or.inl h
                    · exact Or.inr ⟨e1, e2, h⟩
                    · exact absurd h (by omega)
                · rw [← f1]; exact World.cell?_of_block (Below.heap_alloc _ _ _ (by show w.heap.size < _; omega))
              case measure => simp [intOf]; omega
          · go_wp2_with fail
            go_roundw
            case rel =>
              refine ⟨k + 1, _, by omega, by go_num, Own.alloc ho3 (sat_emp _) _, ⟨?_⟩, ?_, by simp; omega, bA hb3 _⟩
              · rw [hys.out]
                refine rows_congr fun i j _ _ => ?_
                have := HSU.out
                simp only [this]
                constructor
                · rintro (h | ⟨e1, e2, h⟩)
                  · exact Or.inl h
                  · exact Or.inr ⟨e1, e2, Or.inl h⟩
                · rintro (h | ⟨e1, e2, h | ⟨h, _⟩⟩)
                  · exact Or.inl h
                  · exact Or.inr ⟨e1, e2, h⟩
                  · exact absurd h (by omega)
              · rw [← f1]; exact World.cell?_of_block (Below.heap_alloc _ _ _ (by show w.heap.size < _; omega))
            case measure => simp [intOf]; omega
        · have hts : set.take k = set := List.take_of_length_le (by omega)
          have hys' := hys.out
          rw [hts] at hys'
          have HYS := Aside.mk hys'
          clear hys hts hys' hf hl
          go_wp2_with fail
          go_roundw
          case rel =>
            refine ⟨m + 1, ys, by omega, by go_num, ho3, ⟨?_⟩, f1, hsz3, hb3⟩
            rw [HYS.out]
            refine rows_congr fun i j _ _ => ?_
            simp only [upto]
            constructor
            · rintro (⟨h1, h2⟩ | ⟨h1, h2, h3⟩)
              · exact ⟨by omega, h2⟩
              · subst h1; exact ⟨by omega, (HT.out _ _).2 ⟨h2, z, HTM.out, h3⟩⟩
            · rintro ⟨h1, h2⟩
              by_cases hi : i = m
              · subst hi
                obtain ⟨h3, c', h4, h5⟩ := (HT.out _ _).1 h2
                rw [HTM.out] at h4
                cases h4
                exact Or.inr ⟨rfl, h3, h5⟩
              · exact Or.inl ⟨by omega, h2⟩
          case measure => simp [intOf]; omega
    · obtain rfl : m = n := by omega
      have e : rows m (upto m T) = rows m T := rows_congr fun i j hi hj => ⟨fun h => h.2, fun h => ⟨by
        obtain ⟨h3, c', h4, h5⟩ := (HT.out _ _).1 h
        have := (List.getElem?_eq_some_iff.1 h4).1
        rw [HN.out] at this
        exact this, h⟩⟩
      rw [hxs.out, e] at ho
      have f0' : Below w1.heap.size w1 w1 := Below.refl _ _
      clear f0'
      go_wp2_with fail
      go_ret
      exact ⟨_, rfl, ho, hb2⟩
end Go.Proofs.Ytbnahmeaeakhhaa.B
