/- Contract: relation.of at the kinds RSet, RCat, RAlt. Contract: relation.of at the kinds RCat, RAlt. Contract: relation.of at RRepeat, and at every valid expression; relation.check, Match. -/
import Derived.Test.YtbnahmeaeakhhaaCr5
namespace Go.Proofs.Ytbnahmeaeakhhaa.B
set_option linter.unusedVariables false
set_option linter.unusedSimpArgs false
open Go Go.RowKit

theorem inSet_succ (l : List Span) (k : Nat) (h : k < l.length) (c : Int) : inSet (l.take (k + 1)) c ↔ inSet (l.take k) c ∨ (l[k].lo ≤ c ∧ c ≤ l[k].hi) := by
  rw [List.take_succ_eq_append_getElem h]
  simp only [inSet, List.mem_append, List.mem_singleton]
  constructor
  · rintro ⟨s, h1 | rfl, h2⟩
    · exact Or.inl ⟨s, h1, h2⟩
    · exact Or.inr h2
  · rintro (⟨s, h1, h2⟩ | h)
    · exact ⟨s, Or.inl h1, h2⟩
    · exact ⟨_, Or.inr rfl, h⟩

set_option maxRecDepth 100000 in
set_option maxHeartbeats 4000000 in
theorem of_set (t : List Int) (set : List Span) (args : List Re) (mn mx : Int) (neg : Bool) (hn : t.length ≤ 24) : OfS t (.mk 2 set args mn mx neg) := by
  intro H cs A c w hr ht hs
  rw [M_eq]
  obtain ⟨A1, c1, A2, c2, rfl, h1, ha⟩ := hr.open
  generalize hT : opM t 2 set mn mx neg (args.map (M t)) = T
  have hT2 : ∀ i j, T i j ↔ (j = i + 1 ∧ ∃ c, t[i]? = some c ∧ inSet set c) := fun i j => by rw [← hT]; simp [opM]
  have HT := Aside.mk hT2
  clear hT hT2
  obtain ⟨n, hnn⟩ : ∃ n, t.length = n := ⟨_, rfl⟩
  have HN := Aside.mk hnn
  rw [hnn] at hn ht ⊢
  clear hnn
  have h1l := h1.2.2.2.1
  go_enter Try.func77, Try.ntmps77
  go_upto_region 3 with (refine wpList_mk (kI .u32) rfl (.tmp 18) (.tmp 18) 110 rfl 112 Try.underlying110 info112 rfl rfl (0 : Int) (n + 1) (sat_emp _) rfl (by omega) (by unfold maxLen; omega) (base := w.heap.size) (by simp) rfl rfl ?_; intro w1 ho hb1 hz)
  have hz' : w.heap.size + 1 < w1.heap.size := by simp at hz; omega
  have hbw1 : Below w.heap.size w w1 := bT (bA (Below.refl _ _) _) hb1
  have f0 : w1.cell? ⟨w.heap.size, 0, none⟩ = some (.int .i64 2) := cell_box hb1 0
  have f1 : w1.cell? ⟨w.heap.size, 1, none⟩ = some (.slice A1 set.length c1) := cell_box hb1 1
  clear hz hb1
  go_wp2_with fail
  go_loopw [30] (fun i wr => ∃ (m : Nat) (xs : List Int), m ≤ n ∧ i = .int .i64 m ∧ Own (kI .u32) 112 wr w.heap.size emp (.slice (some ⟨w.heap.size + 1, 0, none⟩) (n + 1) (n + 1)) xs ∧ Aside (xs = rows n (upto m T)) ∧ wr.cell? ⟨w.heap.size, 1, none⟩ = some (.slice A1 set.length c1) ∧ w.heap.size + 1 < wr.heap.size ∧ Below w.heap.size w wr) (fun i _ => n - (intOf i).toNat)
  case atStart => exact ⟨0, _, by omega, rfl, by simpa using ho, ⟨by rw [← rows_none]; exact rows_congr fun i j _ _ => by simp [upto]⟩, f1, hz', hbw1⟩
  case round =>
    obtain ⟨m, xs, hm, rfl, ho, hxs, f1, hsz, hb2⟩ := hrel
    by_cases hmn : m < n
    · have hmi : (m : Int) < (n : Int) := by omega
      have hmt : m < t.length := by rw [HN.out]; exact hmn
      obtain ⟨b, off, cs, rfl, hrd, hcell⟩ := ht.row m hmt
      have htm : t[m]? = some t[m] := List.getElem?_eq_getElem hmt
      generalize t[m] = z at *
      have HTM := Aside.mk htm
      obtain rfl : cs = [.int .i64 z] := hrd
      have g0 := at1 (hs.below hb2) hcell
      simp only [kI, Nat.mul_one] at g0
      clear hcell htm
      obtain ⟨wo, rfl⟩ : ∃ wo : World, wo = wr := ⟨_, rfl⟩
      go_wp2_with fail
      go_loopw [38] (fun i wr => ∃ (k : Nat) (ys : List Int), k ≤ set.length ∧ i = .int .i64 k ∧ Own (kI .u32) 112 wr w.heap.size emp (.slice (some ⟨w.heap.size + 1, 0, none⟩) (n + 1) (n + 1)) ys ∧ Aside (ys = rows n (fun i j => upto m T i j ∨ (i = m ∧ j = m + 1 ∧ inSet (set.take k) z))) ∧ wr.cell? ⟨w.heap.size, 1, none⟩ = some (.slice A1 set.length c1) ∧ w.heap.size + 1 < wr.heap.size ∧ Below w.heap.size w wr) (fun i _ => set.length - (intOf i).toNat)
      case atStart => exact ⟨0, _, by omega, rfl, ho, ⟨by rw [hxs.out]; exact rows_congr fun i j _ _ => by simp [inSet]⟩, f1, hsz, hb2⟩
      case round =>
        obtain ⟨k, ys, hk, rfl, ho3, hys, f1, hsz3, hb3⟩ := hrel
        have hl : ys.length = n + 1 := by rw [hys.out, rows_length]
        have hf := ho3.free hl.symm m
        by_cases hkn : k < set.length
        · obtain ⟨b1, o1, cs, rfl, hrd, hcell⟩ := h1.row k hkn
          have hsucc := inSet_succ set k hkn z
          generalize set[k] = sp at *
          have HSU := Aside.mk hsucc
          clear hsucc
          cases sp with
          | mk lo hi =>
          obtain rfl : cs = [.int .i64 lo, .int .i64 hi] := hrd
          obtain ⟨q0, q1⟩ := at2 (hs.below hb3) hcell
          simp only [kSpan] at q0 q1
          clear hcell
          obtain ⟨cs, hrd, hcell⟩ := ho3.at m (by omega)
          generalize ys[m] = y at hrd
          obtain rfl : cs = [.int .u32 y] := hrd
          have p0 := hcell 0 _ rfl
          simp only [kI, Nat.add_zero, Nat.mul_one] at p0
          clear hcell
          have HL := Aside.mk hl
          clear hl
          by_cases d1 : lo ≤ z
          · by_cases d2 : z ≤ hi
            · go_wp2_with fail
              go_roundw
              case rel =>
                have hz : mask n (fun j => j = m + 1) = 2 ^ (m + 1) := by rw [← mask_one n (m + 1) (by omega)]; exact mask_congr fun j _ => ⟨Eq.symm, Eq.symm⟩
                obtain ⟨r1, r2⟩ := ho3.put1 HL.out.symm rfl (i := m) (by rw [HL.out]; omega) (y := ((mask n (fun j => j = m + 1) : Nat) : Int)) (u := .int .u32 (2 ^ (m + 1) % 4294967296)) (by rw [pow_mod _ (by omega), hz]; rfl)
                refine ⟨k + 1, _, by omega, by go_num, Own.alloc r1 (sat_emp _) _, ⟨?_⟩, ?_, by simp [World.setCell]; omega, bA (hb3.setCell (by simp) _) _⟩
                · rw [hys.out]
                  have e1 : mask n (fun j => j = m + 1) = mask n ((fun i j => upto m T i j ∨ (i = m ∧ j = m + 1 ∧ inSet (set.take (k + 1)) z)) m) := mask_congr fun j _ => by
                    have := HSU.out
                    simp only [upto, this]
                    simp [d1, d2]
                  rw [e1]
                  refine rows_set n _ (fun i j => upto m T i j ∨ (i = m ∧ j = m + 1 ∧ inSet (set.take (k + 1)) z)) m (by omega) fun i j _ _ hne => ?_
                  simp [hne]
                · rw [← f1, World.cell?_of_block (Below.heap_alloc _ _ _ (by simp [World.setCell]; omega))]
                  exact World.cell?_of_block (Below.heap_setCell _ _ _ _ (by simp))
              case measure => simp [intOf]; omega
            · go_wp2_with fail
              go_roundw
              case rel =>
                refine ⟨k + 1, _, by omega, by go_num, Own.alloc ho3 (sat_emp _) _, ⟨?_⟩, ?_, by simp; omega, bA hb3 _⟩
                · rw [hys.out]
                  refine rows_congr fun i j _ _ => ?_
                  have := HSU.out
                  simp only [this]
                  constructor
                  · rintro (h | ⟨e1, e2, h⟩)
                    · exact Or.inl h
                    · exact Or.inr ⟨e1, e2, Or.inl h⟩
                  · rintro (h | ⟨e1, e2, h | ⟨_, h⟩⟩)
                    · exact Or.inl h
                    · exact Or.inr ⟨e1, e2, h⟩
                    · exact absurd h (by omega)
                · rw [← f1]; exact World.cell?_of_block (Below.heap_alloc _ _ _ (by show w.heap.size < _; omega))
              case measure => simp [intOf]; omega
          · go_wp2_with fail
            go_roundw
            case rel =>
              refine ⟨k + 1, _, by omega, by go_num, Own.alloc ho3 (sat_emp _) _, ⟨?_⟩, ?_, by simp; omega, bA hb3 _⟩
              · rw [hys.out]
                refine rows_congr fun i j _ _ => ?_
                have := HSU.out
                simp only [this]
                constructor
                · rintro (h | ⟨e1, e2, h⟩)
                  · exact Or.inl h
                  · exact Or.inr ⟨e1, e2, Or.inl h⟩
                · rintro (h | ⟨e1, e2, h | ⟨h, _⟩⟩)
                  · exact Or.inl h
                  · exact Or.inr ⟨e1, e2, h⟩
                  · exact absurd h (by omega)
              · rw [← f1]; exact World.cell?_of_block (Below.heap_alloc _ _ _ (by show w.heap.size < _; omega))
            case measure => simp [intOf]; omega
        · have hts : set.take k = set := List.take_of_length_le (by omega)
          have hys' := hys.out
          rw [hts] at hys'
          have HYS := Aside.mk hys'
          clear hys hts hys' hf hl
          go_wp2_with fail
          go_roundw
          case rel =>
            refine ⟨m + 1, ys, by omega, by go_num, ho3, ⟨?_⟩, f1, hsz3, hb3⟩
            rw [HYS.out]
            refine rows_congr fun i j _ _ => ?_
            simp only [upto]
            constructor
            · rintro (⟨h1, h2⟩ | ⟨h1, h2, h3⟩)
              · exact ⟨by omega, h2⟩
              · subst h1; exact ⟨by omega, (HT.out _ _).2 ⟨h2, z, HTM.out, h3⟩⟩
            · rintro ⟨h1, h2⟩
              by_cases hi : i = m
              · subst hi
                obtain ⟨h3, c', h4, h5⟩ := (HT.out _ _).1 h2
                rw [HTM.out] at h4
                cases h4
                exact Or.inr ⟨rfl, h3, h5⟩
              · exact Or.inl ⟨by omega, h2⟩
          case measure => simp [intOf]; omega
    · obtain rfl : m = n := by omega
      have e : rows m (upto m T) = rows m T := rows_congr fun i j hi hj => ⟨fun h => h.2, fun h => ⟨by
        obtain ⟨h3, c', h4, h5⟩ := (HT.out _ _).1 h
        have := (List.getElem?_eq_some_iff.1 h4).1
        rw [HN.out] at this
        exact this, h⟩⟩
      rw [hxs.out, e] at ho
      have f0' : Below w1.heap.size w1 w1 := Below.refl _ _
      clear f0'
      go_wp2_with fail
      go_ret
      exact ⟨_, rfl, ho, hb2⟩
end Go.Proofs.Ytbnahmeaeakhhaa.B

namespace Go.Proofs.Ytbnahmeaeakhhaa.B
set_option linter.unusedVariables false
set_option linter.unusedSimpArgs false
open Go Go.RowKit

set_option maxRecDepth 100000 in
set_option maxHeartbeats 4000000 in
theorem of_list (t : List Int) (kind : Int) (set : List Span) (args : List Re) (mn mx : Int) (neg : Bool) (ih : ∀ a ∈ args, OfS t a) (hn : t.length ≤ 24) (hk : kind = 3 ∨ kind = 4) : OfS t (.mk kind set args mn mx neg) := by
  intro H cs A c w hr ht hs
  rw [M_eq]
  obtain ⟨A1, c1, A2, c2, rfl, h1, ha⟩ := hr.open
  have h3 : opM t 3 set mn mx neg (args.map (M t)) = (args.map (M t)).foldl (Comp t.length) (fun i j => i = j) := by simp [opM]
  have h4 : opM t 4 set mn mx neg (args.map (M t)) = fun i j => ∃ R ∈ args.map (M t), R i j := by simp [opM]
  have H34 := Aside.mk (And.intro h3 h4)
  clear h3 h4
  generalize hnn : t.length = n at *
  have HN := Aside.mk hnn
  clear hnn
  have hz0 : ∀ w : World, (Instr.makeSlice 110 (.int .i64 ((n : Int) + 1)) (.int .i64 ((n : Int) + 1))).run Try.prog w = .ok (.slice (some ⟨w.heap.size, 0, none⟩) (n + 1) (n + 1)) (w.alloc (.cells (madeCells #[.int .u32 0] (n + 1)) 112)) := run_mk (P := Try.prog) 110 112 Try.underlying110 info112 rfl (n + 1) (by omega) (by unfold maxLen; omega) ((n : Int) + 1) (by omega)
  have hal := ha.2.2.2.1
  rcases hk with rfl | rfl
  · go_enter Try.func77, Try.ntmps77
    go_wp2_with fail
    refine (one_any0 n _ hn).mono ?_
    rintro e w1 ⟨v, rfl, ho, hb⟩
    obtain ⟨A5, c5, rfl, -, -⟩ := ho.wr (by rw [rows_length]; omega)
    rw [rows_length] at ho ⊢
    have hb1 : Below w.heap.size w w1 := bT (by repeat (first | exact Below.refl _ _ | apply bA)) hb
    have ho1 := ho.rebase (base' := w.heap.size) (by simp; omega)
    have f2 : w1.cell? ⟨w.heap.size, 2, none⟩ = some (.slice A2 args.length c2) := cell_box (w := w) (cs := #[.int .i64 3, .slice A1 set.length c1, .slice A2 args.length c2, .int .i64 mn, .int .i64 mx, .bool neg]) (t := 25) (bT (by repeat (first | exact Below.refl _ _ | apply bA)) hb) 2
    clear ho hb hz0
    go_wp2_with fail
    go_loopw [6, 67] (fun o i wr => ∃ (k : Nat) (A5 : Option Addr) (c5 : Nat), k ≤ args.length ∧ i = .int .i64 k ∧ o = .slice A5 (n + 1) c5 ∧ Own (kI .u32) 112 wr w.heap.size emp o (rows n (((args.take k).map (M t)).foldl (Comp n) (fun i j => i = j))) ∧ Below w.heap.size w wr) (fun _ i _ => args.length - (intOf i).toNat)
    case atStart => exact ⟨0, A5, c5, by omega, rfl, rfl, by simpa using ho1, hb1⟩
    case round =>
      obtain ⟨k, A6, c6, hk, rfl, rfl, ho5, hb5⟩ := hrel
      generalize hR : (((args.take k).map (M t)).foldl (Comp n) (fun i j => i = j)) = R at *
      have HR := Aside.mk hR
      clear hR
      by_cases hka : k < args.length
      · obtain ⟨b, off, k', s', a', mn', mx', ng', A1', c1', A2', c2', rfl, hx, hrd, g0, g1, g2, g3, g4, g5⟩ := cell_elem ha (hs.below hb5) k hka
        have ihk := ih args[k] (List.getElem_mem _)
        have hsn := List.take_succ_eq_append_getElem hka
        rw [hx] at ihk hsn
        have HS := Aside.mk hsn
        clear hsn hx
        have ih2 := fun cs => ihk H cs A c
        simp only [HN.out] at ih2
        obtain ⟨_, _, e6, hw6, -⟩ := ho5.wr (by rw [rows_length]; omega)
        rw [rows_length] at e6 hw6
        cases e6
        go_wp2_with fail
        refine (ih2 _ _ hrd ht ((hs.below hb5).alloc _)).mono ?_
        rintro e w3 ⟨v3, rfl, ho3, hb3⟩
        generalize hX : M t (Re.mk k' s' a' mn' mx' ng') = X at *
        have HXX := Aside.mk hX
        clear hX
        obtain ⟨A3, c3, rfl, hw3, -⟩ := ho3.wr (by rw [rows_length]; omega)
        rw [rows_length] at hw3 ⊢
        have hbb : Below wr.heap.size wr w3 := bT (bA (Below.refl _ _) _) hb3
        have hw63 := hw6.below hbb
        have hb6 := bT hb5 hbb
        clear hb3 ho5 hw6 g0 g1 g2 g3 g4 g5 ihk ih2 ho3
        go_wp2_with fail
        refine (then_any n R X _ _ _ _ _ hn hw63 hw3).mono ?_
        rintro e w4 ⟨v4, rfl, ho4, hb4⟩
        obtain ⟨A4, c4, rfl, -, -⟩ := ho4.wr (by rw [rows_length]; omega)
        rw [rows_length] at ho4 ⊢
        go_wp2_with fail
        go_roundw
        case rel =>
          refine ⟨k + 1, A4, c4, by omega, by go_num, rfl, ?_, bT hb6 hb4⟩
          have e2 := HXX.out
          rw [HS.out, List.map_append, List.foldl_append, HR.out]
          simp only [List.map_cons, List.map_nil, List.foldl_cons, List.foldl_nil, e2]
          exact ho4.rebase hb6.size
        case measure => simp [intOf]; omega
      · go_wp2_with fail
        go_ret
        refine ⟨_, rfl, ?_, hb5⟩
        have e : args.take k = args := List.take_of_length_le (by omega)
        have hR := HR.out
        rw [e] at hR
        rw [H34.out.1, hR]
        exact ho5
  · go_enter Try.func77, Try.ntmps77
    go_upto_region 24 with (fail)
    have e0 : rows n (fun i j => ∃ R ∈ (args.take 0).map (M t), R i j) = List.replicate (n + 1) 0 := by rw [← rows_none]; exact rows_congr fun i j _ _ => by simp
    have ho1 := own_mk (k := kI .u32) (e := 112) (base := w.heap.size) (sat_emp (w.alloc (.cells #[.int .i64 4, .slice A1 set.length c1, .slice A2 args.length c2, .int .i64 mn, .int .i64 mx, .bool neg] 25))) (z := .int .u32 0) (y := 0) rfl rfl (n + 1) (by unfold maxLen; omega) (by simp)
    rw [← e0] at ho1
    have HO1 := Aside.mk ho1
    clear ho1 e0 hz0
    go_wp2_with fail
    go_loopw [6, 82] (fun o i wr => ∃ (k : Nat) (A5 : Option Addr) (c5 : Nat), k ≤ args.length ∧ i = .int .i64 k ∧ o = .slice A5 (n + 1) c5 ∧ Own (kI .u32) 112 wr w.heap.size emp o (rows n (fun i j => ∃ R ∈ (args.take k).map (M t), R i j)) ∧ Below w.heap.size w wr) (fun _ i _ => args.length - (intOf i).toNat)
    case atStart => exact ⟨0, _, _, by omega, rfl, rfl, by simpa using HO1.out, by repeat (first | exact Below.refl _ _ | apply bA)⟩
    case round =>
      obtain ⟨k, A6, c6, hk, rfl, rfl, ho5, hb5⟩ := hrel
      generalize hR : (fun i j => ∃ R ∈ (args.take k).map (M t), R i j) = R at *
      have HR := Aside.mk hR
      clear hR
      by_cases hka : k < args.length
      · obtain ⟨b, off, k', s', a', mn', mx', ng', A1', c1', A2', c2', rfl, hx, hrd, g0, g1, g2, g3, g4, g5⟩ := cell_elem ha (hs.below hb5) k hka
        have ihk := ih args[k] (List.getElem_mem _)
        have hsn := List.take_succ_eq_append_getElem hka
        rw [hx] at ihk hsn
        have HS := Aside.mk hsn
        clear hsn hx
        have ih2 := fun cs => ihk H cs A c
        simp only [HN.out] at ih2
        obtain ⟨_, _, e6, hw6, -⟩ := ho5.wr (by rw [rows_length]; omega)
        rw [rows_length] at e6 hw6
        cases e6
        go_wp2_with fail
        refine (ih2 _ _ hrd ht ((hs.below hb5).alloc _)).mono ?_
        rintro e w3 ⟨v3, rfl, ho3, hb3⟩
        generalize hX : M t (Re.mk k' s' a' mn' mx' ng') = X at *
        have HXX := Aside.mk hX
        clear hX
        obtain ⟨A3, c3, rfl, hw3, -⟩ := ho3.wr (by rw [rows_length]; omega)
        rw [rows_length] at hw3 ⊢
        have hbb : Below wr.heap.size wr w3 := bT (bA (Below.refl _ _) _) hb3
        have hw63 := hw6.below hbb
        have hb6 := bT hb5 hbb
        clear hb3 ho5 hw6 g0 g1 g2 g3 g4 g5 ihk ih2 ho3
        go_wp2_with fail
        refine (or_any n R X _ _ _ _ _ hn hw63 hw3).mono ?_
        rintro e w4 ⟨v4, rfl, ho4, hb4⟩
        obtain ⟨A4, c4, rfl, -, -⟩ := ho4.wr (by rw [rows_length]; omega)
        rw [rows_length] at ho4 ⊢
        go_wp2_with fail
        go_roundw
        case rel =>
          refine ⟨k + 1, A4, c4, by omega, by go_num, rfl, ?_, bT hb6 hb4⟩
          have e2 := HXX.out
          have e3 : (fun i j => ∃ R ∈ (args.take (k + 1)).map (M t), R i j) = fun i j => R i j ∨ X i j := by
            rw [HS.out, ← HR.out, List.map_append]
            funext i j
            simp only [List.map_cons, List.map_nil, List.mem_append, List.mem_singleton, e2, eq_iff_iff]
            constructor
            · rintro ⟨Y, h | rfl, hy⟩
              · exact Or.inl ⟨Y, h, hy⟩
              · exact Or.inr hy
            · rintro (⟨Y, h, hy⟩ | h)
              · exact ⟨Y, Or.inl h, hy⟩
              · exact ⟨X, Or.inr rfl, h⟩
          rw [e3]
          exact ho4.rebase hb6.size
        case measure => simp [intOf]; omega
      · go_wp2_with fail
        go_ret
        refine ⟨_, rfl, ?_, hb5⟩
        have e : args.take k = args := List.take_of_length_le (by omega)
        have hR := HR.out
        rw [e] at hR
        rw [H34.out.2, hR]
        exact ho5
end Go.Proofs.Ytbnahmeaeakhhaa.B

namespace Go.Proofs.Ytbnahmeaeakhhaa.B
set_option linter.unusedVariables false
set_option linter.unusedSimpArgs false
open Go Go.RowKit

set_option maxRecDepth 100000 in
set_option maxHeartbeats 4000000 in
theorem of_rep (t : List Int) (set : List Span) (a0 : Re) (mn mx : Int) (neg : Bool) (ih : OfS t a0) (hn : t.length ≤ 24) (h0 : 0 ≤ mn) (h1 : mn ≤ mx) (h2 : mx ≤ 8) :
    OfS t (.mk 6 set [a0] mn mx neg) := by
  intro H cs A c w hr ht hs
  rw [M_eq]
  obtain ⟨A1, c1, A2, c2, rfl, hh1, ha⟩ := hr.open
  generalize hnn : t.length = n at *
  have HN := Aside.mk hnn
  have hz0 : ∀ w : World, (Instr.makeSlice 110 (.int .i64 ((n : Int) + 1)) (.int .i64 ((n : Int) + 1))).run Try.prog w = .ok (.slice (some ⟨w.heap.size, 0, none⟩) (n + 1) (n + 1)) (w.alloc (.cells (madeCells #[.int .u32 0] (n + 1)) 112)) := run_mk (P := Try.prog) 110 112 Try.underlying110 info112 rfl (n + 1) (by omega) (by unfold maxLen; omega) ((n : Int) + 1) (by omega)
  obtain ⟨b, off, k, s, a, mn', mx', ng, A1', c1', A2', c2', rfl, hx, hrd, g0, g1, g2, g3, g4, g5⟩ := cell_elem ha hs 0 (by simp)
  simp only [List.getElem_cons_zero] at hx
  subst hx
  have ih2 := fun cs => ih H cs A c
  simp only [hnn] at ih2
  clear hnn
  simp only [Nat.zero_mul, Nat.add_zero] at g0 g1 g2 g3 g4 g5
  generalize hX : M t (Re.mk k s a mn' mx' ng) = X at *
  have hXX := Aside.mk hX
  clear hX
  have hac := ha.2.1
  have hbl := World.block_lt_of_cell? w _ g0
  simp only at hbl
  go_enter Try.func77, Try.ntmps77
  go_upto_region 33 with (fail)
  have q : ∀ j, ((w.alloc (.cells #[.int .i64 6, .slice A1 set.length c1, .slice (some ⟨b, off, none⟩) 1 c2, .int .i64 mn, .int .i64 mx, .bool neg] 25)).alloc (.cells (madeCells #[.int .u32 0] (n + 1)) 112)).cell? ⟨w.heap.size, j, none⟩ = (#[.int .i64 6, .slice A1 set.length c1, .slice (some ⟨b, off, none⟩) 1 c2, .int .i64 mn, .int .i64 mx, .bool neg] : Array Value)[j]? := fun j => cell_box (bA (Below.refl _ _) _) j
  have hbW : Below w.heap.size w ((w.alloc (.cells #[.int .i64 6, .slice A1 set.length c1, .slice (some ⟨b, off, none⟩) 1 c2, .int .i64 mn, .int .i64 mx, .bool neg] 25)).alloc (.cells (madeCells #[.int .u32 0] (n + 1)) 112)) := bA (bA (Below.refl _ _) _) _
  generalize ((w.alloc (.cells #[.int .i64 6, .slice A1 set.length c1, .slice (some ⟨b, off, none⟩) 1 c2, .int .i64 mn, .int .i64 mx, .bool neg] 25)).alloc (.cells (madeCells #[.int .u32 0] (n + 1)) 112)) = W2 at *
  have q2 := q 2
  have q3 := q 3
  have q4 := q 4
  simp only [List.getElem?_toArray, List.getElem?_cons_succ, List.getElem?_cons_zero] at q2 q3 q4
  have e0 := (hbW.cell (p := ⟨b, off, none⟩) hbl).trans g0
  have e1 := (hbW.cell (p := ⟨b, off + 1, none⟩) hbl).trans g1
  have e2 := (hbW.cell (p := ⟨b, off + 2, none⟩) hbl).trans g2
  have e3 := (hbW.cell (p := ⟨b, off + 3, none⟩) hbl).trans g3
  have e4 := (hbW.cell (p := ⟨b, off + 4, none⟩) hbl).trans g4
  have e5 := (hbW.cell (p := ⟨b, off + 5, none⟩) hbl).trans g5
  clear g0 g1 g2 g3 g4 g5 q hz0
  have hsW := hs.below hbW
  have lb : w.heap.size < W2.heap.size := World.block_lt_of_cell? W2 _ q3
  have lbb : b < W2.heap.size := by omega
  have HK : Aside (∀ w', Below W2.heap.size W2 w' → w'.cell? ⟨w.heap.size, 2, none⟩ = some (.slice (some ⟨b, off, none⟩) 1 c2) ∧ w'.cell? ⟨w.heap.size, 3, none⟩ = some (.int .i64 mn) ∧ w'.cell? ⟨w.heap.size, 4, none⟩ = some (.int .i64 mx) ∧ w'.cell? ⟨b, off, none⟩ = some (.int .i64 k) ∧ w'.cell? ⟨b, off + 1, none⟩ = some (.slice A1' s.length c1') ∧ w'.cell? ⟨b, off + 2, none⟩ = some (.slice A2' a.length c2') ∧ w'.cell? ⟨b, off + 3, none⟩ = some (.int .i64 mn') ∧ w'.cell? ⟨b, off + 4, none⟩ = some (.int .i64 mx') ∧ w'.cell? ⟨b, off + 5, none⟩ = some (.bool ng)) :=
    ⟨fun w' hb => ⟨(hb.cell (p := ⟨_, _, none⟩) lb).trans q2, (hb.cell (p := ⟨_, _, none⟩) lb).trans q3, (hb.cell (p := ⟨_, _, none⟩) lb).trans q4, (hb.cell (p := ⟨_, _, none⟩) lbb).trans e0, (hb.cell (p := ⟨_, _, none⟩) lbb).trans e1, (hb.cell (p := ⟨_, _, none⟩) lbb).trans e2, (hb.cell (p := ⟨_, _, none⟩) lbb).trans e3, (hb.cell (p := ⟨_, _, none⟩) lbb).trans e4, (hb.cell (p := ⟨_, _, none⟩) lbb).trans e5⟩⟩
  clear q2 q3 q4 e0 e1 e2 e3 e4 e5
  go_region_held3 (fun w' => w'.cell? ⟨w.heap.size, 2, none⟩ = some (.slice (some ⟨b, off, none⟩) 1 c2) ∧ w'.cell? ⟨w.heap.size, 3, none⟩ = some (.int .i64 mn) ∧ w'.cell? ⟨w.heap.size, 4, none⟩ = some (.int .i64 mx) ∧ w'.cell? ⟨b, off, none⟩ = some (.int .i64 k) ∧ w'.cell? ⟨b, off + 1, none⟩ = some (.slice A1' s.length c1') ∧ w'.cell? ⟨b, off + 2, none⟩ = some (.slice A2' a.length c2') ∧ w'.cell? ⟨b, off + 3, none⟩ = some (.int .i64 mn') ∧ w'.cell? ⟨b, off + 4, none⟩ = some (.int .i64 mx') ∧ w'.cell? ⟨b, off + 5, none⟩ = some (.bool ng))
    (first
      | exact HK.out _ (Below.refl _ _)
      | exact HK.out _ (Below.refl _ _).drew
      | exact HK.out _ ((Below.refl _ _).drew.trans hb3)
      | exact HK.out _ (((Below.refl _ _).drew.trans hb3).trans (hb4.mono hb3.size)))
    ((first
      | (go_at_call 77; with_reducible refine (ih2 _ _ hrd ht hsW.drew).mono ?_; rintro e w3 ⟨v3, rfl, ho3, hb3⟩; obtain ⟨A3, c3, rfl, hw3, -⟩ := ho3.wr (by rw [rows_length]; omega); rw [rows_length] at hw3; rw [rows_length])
      | (go_at_call 135; with_reducible refine (times_any n X _ _ mn mx _ hn hw3 h0 (by omega) (by omega)).mono ?_; rintro e w4 ⟨v4, rfl, ho4, hb4⟩)))
  go_wp2_with fail
  go_ret
  have e : rows n (opM t 6 set mn mx neg ([Re.mk k s a mn' mx' ng].map (M t))) = rows n (fun i j => ∃ k : Nat, mn ≤ k ∧ (k : Int) ≤ mx ∧ Pow n X k i j) := rows_congr fun i j _ _ => by simp [opM, hXX.out, HN.out]
  rw [e]
  have hb34 : Below W2.heap.size W2 w4 := (Below.refl _ _).drew.trans (bT hb3 hb4)
  exact ⟨_, rfl, ho4.rebase (Nat.le_trans hbW.size hb3.size), bT hbW hb34⟩

theorem of_any (t : List Int) (hn : t.length ≤ 24) (r : Re) (hg : Good r) : OfS t r := by
  induction r using Re.ind with
  | h kind set args mn mx neg ih =>
  have ih' : ∀ a ∈ args, OfS t a := fun a ha => ih a ha (hg.args ha)
  have hnode := hg.node
  obtain ⟨k0, k1⟩ := node_kind hnode
  have h1 := node_one hnode
  obtain rfl | rfl | rfl | rfl | rfl | rfl | rfl | rfl | rfl | rfl | rfl : kind = 0 ∨ kind = 1 ∨ kind = 2 ∨ kind = 3 ∨ kind = 4 ∨ kind = 5 ∨ kind = 6 ∨ kind = 7 ∨ kind = 8 ∨ kind = 9 ∨ kind = 10 := by omega
  · exact of_small t _ set args mn mx neg ih' hn hnode (by omega)
  · exact of_small t _ set args mn mx neg ih' hn hnode (by omega)
  · exact of_set t set args mn mx neg hn
  · exact of_list t _ set args mn mx neg ih' hn (by omega)
  · exact of_list t _ set args mn mx neg ih' hn (by omega)
  · obtain ⟨a, rfl⟩ := List.length_eq_one_iff.1 (h1 (by omega))
    exact of_one t _ set a mn mx neg (ih' a (by simp)) hn (by omega)
  · obtain ⟨a, rfl⟩ := List.length_eq_one_iff.1 (h1 (by omega))
    obtain ⟨m1, m2, m3⟩ := node_rep hnode
    exact of_rep t set a mn mx neg (ih' a (by simp)) hn m1 m2 m3
  · exact of_small t _ set args mn mx neg ih' hn hnode (by omega)
  · exact of_small t _ set args mn mx neg ih' hn hnode (by omega)
  · obtain ⟨a, rfl⟩ := List.length_eq_one_iff.1 (h1 (by omega))
    exact of_one t _ set a mn mx neg (ih' a (by simp)) hn (by omega)
  · exact of_small t _ set args mn mx neg ih' hn hnode (by omega)
end Go.Proofs.Ytbnahmeaeakhhaa.B
