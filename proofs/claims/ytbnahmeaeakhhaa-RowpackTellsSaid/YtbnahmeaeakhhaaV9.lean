/- rowpack.Bytes, by hand. -/
import Derived.Test.YtbnahmeaeakhhaaV8
namespace Go.Proofs.Ytbnahmeaeakhhaa.B
set_option linter.unusedVariables false
set_option linter.unusedSimpArgs false
open Go Go.RowKit Go.Proofs.Ytbnahmeaeakhhaa.Q Classical

def bytesP (te : Int) (L : List Int) : List Int := if te = 0 then bytesF L else []
theorem bytesF_take {l : List Int} {k : Nat} (h : k < l.length) : bytesF (l.take (k + 1)) = bytesF (l.take k) ++ encN (l.getD k 0 + 1).toNat := by
  have e : l.take (k + 1) = l.take k ++ [l.getD k 0] := by
    rw [List.take_succ_eq_append_getElem h, List.getD_eq_getElem?_getD, List.getElem?_eq_getElem h]; rfl
  rw [e]; simp [bytesF]
theorem bytesF_takelen {l : List Int} (h : InR l) : ∀ k, k ≤ l.length → (bytesF (l.take k)).length ≤ 10 * k
  | 0, _ => by simp [bytesF]
  | k + 1, hk => by
    have h1 := bytesF_takelen h k (by omega)
    have h2 := encN_le10 (h (l.getD k 0) (by rw [List.getD_eq_getElem?_getD, List.getElem?_eq_getElem (by omega)]; exact List.getElem_mem _))
    rw [bytesF_take (by omega), List.length_append]; omega
set_option maxRecDepth 100000 in
set_option maxHeartbeats 8000000 in
theorem bytes_hand (H : PH) (st cols : Int) (acc base own nxt : List Int) (A1 A2 A3 A4 : Option Addr) (c1 c2 c3 c4 : Nat) (w : World) (h1 : SlR (kI .i64) H A1 acc.length c1 acc) (h2 : SlR (kI .i64) H A2 base.length c2 base) (h3 : SlR (kI .i64) H A3 own.length c3 own) (h4 : SlR (kI .i64) H A4 nxt.length c4 nxt) (hs : Sat w H) (hr : tabErr st cols acc base own nxt = 0 → InR (numsF st cols acc base own nxt)) :
    Calls Try.prog 60 #[.agg #[.int .i64 st, .int .i64 cols, .slice A1 acc.length c1, .slice A2 base.length c2, .slice A3 own.length c3, .slice A4 nxt.length c4]] w fun e w' => ∃ A l c, e = .returned (.tuple #[.slice A l c, .int .i64 (tabErr st cols acc base own nxt)]) ∧ Own (kI .u8) 5 w' w.heap.size H (.slice A l c) (bytesP (tabErr st cols acc base own nxt) (numsF st cols acc base own nxt)) ∧ Below w.heap.size w w' := by
  replace hr := Aside.mk hr
  have HS := Aside.mk hs
  have hx := Aside.mk (Ext.refl hs)
  replace h1 := Aside.mk h1
  replace h2 := Aside.mk h2
  replace h3 := Aside.mk h3
  replace h4 := Aside.mk h4
  go_enter Try.func60, Try.ntmps60
  go_upto_region 1 with (fail)
  have hszw := hx.out.size
  have kt_ : (w.alloc (.cells #[.int .i64 st, .int .i64 cols, .slice A1 acc.length c1, .slice A2 base.length c2, .slice A3 own.length c3, .slice A4 nxt.length c4] 85)).heap[w.heap.size]? = some (.cells #[.int .i64 st, .int .i64 cols, .slice A1 acc.length c1, .slice A2 base.length c2, .slice A3 own.length c3, .slice A4 nxt.length c4] 85) := (heap_alloc_new _ _)
  have nt := Aside.mk (fun o => hx.out.sat.new (b := w.heap.size) (show w.heap.size ≤ _ by omega) o)
  replace hx := Aside.mk ((hx.out.alloc (.cells #[.int .i64 st, .int .i64 cols, .slice A1 acc.length c1, .slice A2 base.length c2, .slice A3 own.length c3, .slice A4 nxt.length c4] 85)))
  generalize (w.alloc (.cells #[.int .i64 st, .int .i64 cols, .slice A1 acc.length c1, .slice A2 base.length c2, .slice A3 own.length c3, .slice A4 nxt.length c4] 85)) = W1 at *
  have kt := Aside.mk kt_
  clear kt_
  obtain ⟨H1, hx2, hle, Bt, hold⟩ := box_freeze hx.out (by omega) kt.out nt.out
  replace h1 := Aside.mk (h1.out.mono hle)
  replace h2 := Aside.mk (h2.out.mono hle)
  replace h3 := Aside.mk (h3.out.mono hle)
  replace h4 := Aside.mk (h4.out.mono hle)
  replace hx := Aside.mk hx2
  replace Bt := Aside.mk Bt
  clear hle hold hx2 kt nt
  have lqt : w.heap.size < W1.heap.size := hx.out.sat.lt (Bt.out 0 _ rfl)
  obtain ⟨ct0, ct1, ct2, ct3, ct4, ct5⟩ := hb6 hx.out.sat Bt.out
  go_wp2_with fail
  clear lqt ct0 ct1 ct2 ct3 ct4 ct5
  have hsz := hx.out.size
  refine (check_any _ st cols acc base own nxt _ _ _ _ _ _ _ _ _ h1.out h2.out h3.out h4.out hx.out.sat).mono ?_
  rintro e w1 ⟨rfl, hb9⟩
  replace hx := Aside.mk (hx.out.then_below hb9)
  clear hb9
  clear hsz
  have hok := fun h => tabErr_ok (st := st) (cols := cols) (acc := acc) (base := base) (own := own) (nxt := nxt) h
  generalize hte : tabErr st cols acc base own nxt = te at *
  replace hte := Aside.mk hte
  replace hok := Aside.mk hok
  by_cases x0 : te = 0
  case neg =>
    have q0 : (te == 0) = false := beq_eq_false_iff_ne.2 x0
    have q0n : (te != 0) = true := bne_iff_ne.2 x0
    replace x0 := Aside.mk x0
    have lqt : w.heap.size < w1.heap.size := hx.out.sat.lt (Bt.out 0 _ rfl)
    obtain ⟨ct0, ct1, ct2, ct3, ct4, ct5⟩ := hb6 hx.out.sat Bt.out
    go_wp2_with fail
    clear lqt ct0 ct1 ct2 ct3 ct4 ct5
    go_ret2
    exact ⟨none, 0, 0, by rw [hte.out]; rfl, by rw [hte.out, bytesP, if_neg x0.out]; exact Own.nil _ _ _ _ _, hx.out.below⟩
  case pos =>
    subst x0
    have ok := Aside.mk (hok.out rfl)
    have IR := Aside.mk (hr.out rfl)
    have hnl : (numsF st cols acc base own nxt).length ≤ 6804 := by have := ok.out; simp [numsF]; omega
    have hl4 : acc.length + base.length + own.length + nxt.length ≤ 100000 := by have := ok.out; omega
    replace hl4 := Aside.mk hl4
    replace hnl := Aside.mk hnl
    have lqt : w.heap.size < w1.heap.size := hx.out.sat.lt (Bt.out 0 _ rfl)
    obtain ⟨ct0, ct1, ct2, ct3, ct4, ct5⟩ := hb6 hx.out.sat Bt.out
    go_wp2_with fail
    clear lqt ct0 ct1 ct2 ct3 ct4 ct5
    have hsz := hx.out.size
    refine (numbers_hand _ st cols acc base own nxt _ _ _ _ _ _ _ _ _ h1.out h2.out h3.out h4.out hx.out.sat hl4.out).mono ?_
    rintro e w2 ⟨An, ln, cn, rfl, ho, hb9⟩
    replace hx := Aside.mk (hx.out.then_below hb9)
    clear hb9
    clear h1 h2 h3 h4
    generalize hL : numsF st cols acc base own nxt = L at *
    replace hL := Aside.mk hL
    obtain ⟨_, _, ev, -, -, -, -⟩ := ho.form
    cases ev
    replace ho := Aside.mk ho
    obtain ⟨H1, hx2, hle, ⟨An_, cn_, e1, hn⟩, hold⟩ := ho.out.freezeE hx.out (by omega) (by have := hnl.out; omega)
    cases e1
    replace Bt := Aside.mk (Bt.out.mono hle)
    replace hx := Aside.mk hx2
    replace hn := Aside.mk hn
    clear hle hold hx2
    clear hsz
    clear Bt
    go_wp2_with fail
    go_loopw [5, 16] (fun s5 s16 wr => ∃ (k : Nat) (A : Option Addr) (l c : Nat) (Hk : PH), k ≤ L.length ∧ s5 = .slice A l c ∧ s16 = .int .i64 k ∧ Aside (Ext H Hk w wr) ∧ Aside (SlR (kI .i64) Hk An L.length cn L) ∧ Aside (Own (kI .u8) 5 wr (w.heap.size) Hk (.slice A l c) (bytesF (L.take k)))) (fun _ s16 _ => L.length - (intOf s16).toNat)
    case atStart => exact ⟨0, none, 0, 0, _, by omega, rfl, rfl, hx, hn, ⟨by simpa [bytesF] using Own.nil _ _ _ _ _⟩⟩
    case round =>
      clear hx hn
      obtain ⟨k, A, l, c, Hk, hk, rfl, rfl, hx, hn, hob⟩ := hrel
      by_cases hlt : k < L.length
      case pos =>
        have hli : (k : Int) < (L.length : Int) := by omega
        have hL68 : L.length ≤ 6804 := hnl.out
        obtain ⟨b5, o5, eA, hcn⟩ := (hn.out.wr hx.out.sat).atD k hlt
        subst eA
        have hbt := Aside.mk (bytesF_take hlt)
        have hin := IR.out (L.getD k 0) (by rw [List.getD_eq_getElem?_getD, List.getElem?_eq_getElem hlt]; exact List.getElem_mem _)
        have hyl := bytesF_takelen IR.out k hk
        have hyl2 := Aside.mk (show (bytesF (L.take k)).length ≤ 1000000 by have := hnl.out; omega)
        replace hin := Aside.mk hin
        clear hyl
        generalize L.getD k 0 = x at *
        have hsz := Aside.mk hx.out.size
        go_wp2_with fail
        clear hcn
        refine (put_hand x hob.out hx.out.sat hsz.out hin.out.1 hin.out.2 hyl2.out).mono ?_
        rintro e w4 ⟨A', l', c', rfl, ho9, hg9, hn9⟩
        rw [← hbt.out] at ho9
        replace hx := Aside.mk (hob.out.extG hx.out (Nat.le_refl _) hg9)
        replace hob := Aside.mk ho9
        clear ho9 hg9 hn9
        go_wp2_with fail
        go_roundw
        case rel => exact ⟨k + 1, A', l', c', _, by omega, rfl, by go_num, hx, hn, hob⟩
        case measure => (first | (simp [intOf]; done) | (simp [intOf]; omega))
      case neg =>
        have hli : ¬ (k : Int) < (L.length : Int) := by omega
        have hke : L.take k = L := List.take_of_length_le (by omega)
        have ho2 := Aside.mk (hke ▸ hob.out)
        clear hke
        go_wp2_with fail
        go_ret2
        exact ⟨A, l, c, by rw [hte.out]; rfl, by rw [hte.out, bytesP, if_pos rfl, hL.out]; exact ho2.out.flat (fun b o hb => HS.out.new (ho2.out.blk hb).1 o), hx.out.below⟩
end Go.Proofs.Ytbnahmeaeakhhaa.B
