/- rowpack.numbers, rowpack.Bytes, by hand. -/
import Derived.Test.YtbnahmeaeakhhaaV1
import Derived.Test.YtbnahmeaeakhhaaV7
namespace Go.Proofs.Ytbnahmeaeakhhaa.B
set_option linter.unusedVariables false
set_option linter.unusedSimpArgs false
open Go Go.RowKit Go.Proofs.Ytbnahmeaeakhhaa.Q

theorem infoI8 : (Try.prog.info? 3).map (fun i => (i.zero, i.size, i.bytes)) = some (some (.int .i64 0), 1, 8) := by kernel_rfl
set_option maxRecDepth 100000 in
set_option maxHeartbeats 8000000 in
theorem numbers_hand (H : PH) (st cols : Int) (acc base own nxt : List Int) (A1 A2 A3 A4 : Option Addr) (c1 c2 c3 c4 : Nat) (w : World) (h1 : SlR (kI .i64) H A1 acc.length c1 acc) (h2 : SlR (kI .i64) H A2 base.length c2 base) (h3 : SlR (kI .i64) H A3 own.length c3 own) (h4 : SlR (kI .i64) H A4 nxt.length c4 nxt) (hs : Sat w H)
    (hl : acc.length + base.length + own.length + nxt.length ≤ 100000) :
    Calls Try.prog 119 #[.agg #[.int .i64 st, .int .i64 cols, .slice A1 acc.length c1, .slice A2 base.length c2, .slice A3 own.length c3, .slice A4 nxt.length c4]] w fun e w' => ∃ A l c, e = .returned (.slice A l c) ∧ Own (kI .i64) 3 w' w.heap.size H (.slice A l c) (numsF st cols acc base own nxt) ∧ Below w.heap.size w w' := by
  have HS := Aside.mk hs
  have HH := Aside.mk (And.intro h1 (And.intro h2 (And.intro h3 h4)))
  have HL := Aside.mk hl
  clear hs h1 h2 h3 h4 hl
  go_enter Try.func119, Try.ntmps119
  go_wp2_with fail
  have hxA := (Ext.refl HS.out).alloc (.cells #[.int .i64 st, .int .i64 cols, .slice A1 acc.length c1, .slice A2 base.length c2, .slice A3 own.length c3, .slice A4 nxt.length c4] 85)
  have hzA : (w.alloc (.cells #[.int .i64 st, .int .i64 cols, .slice A1 acc.length c1, .slice A2 base.length c2, .slice A3 own.length c3, .slice A4 nxt.length c4] 85)).heap.size = w.heap.size + 1 := by simp
  generalize w.alloc (.cells #[.int .i64 st, .int .i64 cols, .slice A1 acc.length c1, .slice A2 base.length c2, .slice A3 own.length c3, .slice A4 nxt.length c4] 85) = W1 at *
  have hO := Own.lit (k := kI .i64) (e := 3) (w := W1) (base := w.heap.size) (xs := [st, cols, (base.length : Int), (own.length : Int)]) hxA.sat #[.int .i64 st, .int .i64 cols, .int .i64 base.length, .int .i64 own.length] hxA.size ⟨[_], _, rfl, rfl, ⟨[_], _, rfl, rfl, ⟨[_], _, rfl, rfl, ⟨[_], _, rfl, rfl, rfl⟩⟩⟩⟩ (by unfold maxLen; simp)
  have hxB := hxA.alloc (.cells #[.int .i64 st, .int .i64 cols, .int .i64 base.length, .int .i64 own.length] 3)
  have hzB : (W1.alloc (.cells #[.int .i64 st, .int .i64 cols, .int .i64 base.length, .int .i64 own.length] 3)).heap.size = w.heap.size + 2 := by simp [hzA]
  rw [hzA] at hO
  generalize W1.alloc (.cells #[.int .i64 st, .int .i64 cols, .int .i64 base.length, .int .i64 own.length] 3) = W2 at *
  have hLs := Own.lit (k := kS (kI .i64)) (e := 26) (w := W2) (base := w.heap.size) (xs := [acc, base, own, nxt]) hxB.sat #[.slice A1 acc.length c1, .slice A2 base.length c2, .slice A3 own.length c3, .slice A4 nxt.length c4] hxB.size ⟨[_], _, rfl, ⟨_, _, rfl, HH.out.1⟩, ⟨[_], _, rfl, ⟨_, _, rfl, HH.out.2.1⟩, ⟨[_], _, rfl, ⟨_, _, rfl, HH.out.2.2.1⟩, ⟨[_], _, rfl, ⟨_, _, rfl, HH.out.2.2.2⟩, rfl⟩⟩⟩⟩ (by unfold maxLen; simp)
  have hxC := hxB.alloc (.cells #[.slice A1 acc.length c1, .slice A2 base.length c2, .slice A3 own.length c3, .slice A4 nxt.length c4] 26)
  have hO2 := hO.alloc hxB.sat (.cells #[.slice A1 acc.length c1, .slice A2 base.length c2, .slice A3 own.length c3, .slice A4 nxt.length c4] 26)
  rw [hzB] at hLs
  generalize W2.alloc (.cells #[.slice A1 acc.length c1, .slice A2 base.length c2, .slice A3 own.length c3, .slice A4 nxt.length c4] 26) = W3 at *
  obtain ⟨H3, hx3, hle3, ⟨AL, cL, eL, hsl⟩, hold⟩ := hLs.freezeE hxC (Nat.le_refl _) (by simp)
  simp only [List.cons.injEq, Value.slice.injEq, and_true] at eL
  obtain ⟨eL1, -, eL2⟩ := eL
  subst eL1; subst eL2
  have hO3 := hO2.keep (w' := W3) hle3 fun b hb => ⟨rfl, fun o => by
    rw [hold b o (fun e => by simp [Value.ownBlock] at hb e; omega)]; exact (hO2.blk hb).2.2 o⟩
  have hL4 : ([acc, base, own, nxt] : List (List Int)).length = 4 := rfl
  have hfl : ∀ k, k < 4 → (([acc, base, own, nxt] : List (List Int)).take (k + 1)).flatten = (([acc, base, own, nxt] : List (List Int)).take k).flatten ++ ([acc, base, own, nxt] : List (List Int)).getD k [] := fun k hk => by
    rw [List.take_succ_eq_append_getElem (by rw [hL4]; exact hk), List.flatten_append, List.getD_eq_getElem?_getD, List.getElem?_eq_getElem (by rw [hL4]; exact hk)]; simp
  have hfb : ∀ k, k < 4 → ((([acc, base, own, nxt] : List (List Int)).take k).flatten).length + (([acc, base, own, nxt] : List (List Int)).getD k []).length ≤ 100000 := fun k hk => by
    have := HL.out
    match k, hk with
    | 0, _ => simp; omega
    | 1, _ => simp; omega
    | 2, _ => simp; omega
    | 3, _ => simp; omega
  have hend : [st, cols, (base.length : Int), (own.length : Int)] ++ (([acc, base, own, nxt] : List (List Int)).take 4).flatten = numsF st cols acc base own nxt := by simp [numsF]
  have hF4 : ([st, cols, (base.length : Int), (own.length : Int)] : List Int).length = 4 := rfl
  generalize ([acc, base, own, nxt] : List (List Int)) = LL at *
  generalize [st, cols, (base.length : Int), (own.length : Int)] = F4 at *
  have hO4 := Aside.mk (show Own (kI .i64) 3 W3 w.heap.size H3 (.slice (some ⟨w.heap.size + 1, 0, none⟩) F4.length F4.length) F4 from hO3)
  have hS := Aside.mk hsl
  have hx := Aside.mk hx3
  have HF := Aside.mk (And.intro hfl (And.intro hfb (And.intro hend (And.intro hF4 hL4))))
  rw [hF4] at hO4
  clear hfl hfb hend hO hO2 hO3 hxA hxB hxC hLs hold hle3 hx3 hsl hF4 hL4
  go_loopw [3, 27] (fun s3 s27 wr => ∃ (A : Option Addr) (l c k : Nat), k ≤ 4 ∧ s3 = .slice A l c ∧ s27 = .int .i64 k ∧ Aside (Own (kI .i64) 3 wr w.heap.size H3 (.slice A l c) (F4 ++ (LL.take k).flatten)) ∧ Aside (Ext H H3 w wr)) (fun _ s27 _ => 4 - (intOf s27).toNat)
  case atStart => exact ⟨_, 4, 4, 0, by omega, rfl, rfl, ⟨by simpa using hO4.out⟩, hx⟩
  case round =>
    clear hO4 hx
    obtain ⟨A, l, c, k, hk, rfl, rfl, hO, hx⟩ := hrel
    by_cases hlt : k < 4
    case pos =>
      have hli : (k : Int) < 4 := by omega
      obtain ⟨b5, o5, A5, c5, e5, hcr, hrow⟩ := hS.out.rowD hx.out.sat k (by rw [HF.out.2.2.2.2]; exact hlt)
      cases e5
      rw [Nat.zero_add] at hcr
      have hcr' : wr.cell? ⟨w.heap.size + 1 + 1, k, none⟩ = some (.slice A5 (LL.getD k []).length c5) := hcr
      have hfb := HF.out.2.1 k hlt
      have hF4 := HF.out.2.2.2.1
      have hfl := Aside.mk (HF.out.1 k hlt)
      replace hrow := Aside.mk hrow
      generalize LL.getD k [] = row at *
      have hby : Aside (((F4 ++ (LL.take k).flatten).length + row.length) * 8 ≤ 140737488355328 ∧ (F4 ++ (LL.take k).flatten).length + row.length ≤ maxLen ∧ w.heap.size ≤ wr.heap.size) := ⟨by rw [List.length_append]; omega, by rw [List.length_append]; unfold maxLen; omega, hx.out.size⟩
      clear hfb hF4
      go_upto_region 6 with (at_builtin; go_must (refine wpList_appS (kI .i64) rfl (.tmp 31) (.tmp 32) 26 rfl 3 Try.underlying26 infoI8 rfl hO.out hx.out.sat hrow.out rfl rfl hby.out.1 hby.out.2.1 hby.out.2.2 ?_); intro v9 w9 ho9 hg9 hs9 hn9 hz9)
      rw [List.append_assoc, ← hfl.out] at ho9
      obtain ⟨A9, c9, e9, -, -, -, -⟩ := ho9.form
      generalize (F4 ++ (LL.take (k + 1)).flatten).length = l9 at e9
      subst e9
      have hx9 := Aside.mk (hO.out.extG hx.out (Nat.le_refl _) hg9)
      replace ho9 := Aside.mk ho9
      clear hg9 hs9 hn9 hz9
      go_wp2_with fail
      go_roundw
      case rel => exact ⟨A9, l9, c9, k + 1, by omega, rfl, by go_num, ho9, hx9⟩
      case measure => first | (simp [intOf]; done) | (simp [intOf]; omega)
    case neg =>
      have hk4 : k = 4 := by omega
      subst hk4
      have ho := Aside.mk (HF.out.2.2.1 ▸ hO.out)
      go_wp2_with fail
      go_ret
      exact ⟨A, l, c, rfl, ho.out.flat (fun b o hb => HS.out.new (ho.out.blk hb).1 o), hx.out.below⟩
end Go.Proofs.Ytbnahmeaeakhhaa.B
