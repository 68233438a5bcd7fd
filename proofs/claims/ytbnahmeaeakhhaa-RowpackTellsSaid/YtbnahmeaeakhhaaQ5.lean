/- Contract: the reference's TableBytes. -/
import Derived.Test.YtbnahmeaeakhhaaQ4
namespace Go.Proofs.Ytbnahmeaeakhhaa.B
set_option linter.unusedVariables false
set_option linter.unusedSimpArgs false
open Go Go.RowKit Go.Proofs.Ytbnahmeaeakhhaa.Q

theorem bytesF_append (a b : List Int) : bytesF (a ++ b) = bytesF a ++ bytesF b := by simp [bytesF]
theorem bytesF_len {l : List Int} (h : InR l) : (bytesF l).length ≤ 10 * l.length := by
  induction l with
  | nil => simp [bytesF]
  | cons x l ih =>
    have e : bytesF (x :: l) = encN (x + 1).toNat ++ bytesF l := rfl
    have h1 := encN_le10 (h x (by simp))
    have h2 := ih fun a ha => h a (by simp [ha])
    rw [e, List.length_append, List.length_cons]; omega
theorem flat_len {LL : List (List Int)} {q : Nat} : ((LL.take q).flatten).length ≤ LL.flatten.length := by
  conv => rhs; rw [← List.take_append_drop q LL]
  rw [List.flatten_append, List.length_append]; omega
theorem flat_len2 {LL : List (List Int)} {q : Nat} (h : q < LL.length) : ((LL.take q).flatten).length + LL[q].length ≤ LL.flatten.length := by
  conv => rhs; rw [← List.take_append_drop (q + 1) LL, List.take_succ_eq_append_getElem h]
  simp only [List.flatten_append, List.length_append, List.flatten_cons, List.flatten_nil, List.append_nil]; omega

set_option maxRecDepth 100000 in
set_option maxHeartbeats 8000000 in
theorem tableBytes_any (H : PH) (st cols : Int) (acc base own nxt : List Int) (A1 A2 A3 A4 : Option Addr) (c1 c2 c3 c4 : Nat) (w : World) (h1 : SlR (kI .i64) H A1 acc.length c1 acc) (h2 : SlR (kI .i64) H A2 base.length c2 base) (h3 : SlR (kI .i64) H A3 own.length c3 own) (h4 : SlR (kI .i64) H A4 nxt.length c4 nxt) (hs : Sat w H)
    (hr : InR (numsF st cols acc base own nxt)) (hl : acc.length + base.length + own.length + nxt.length ≤ 100000) :
    Calls Try.prog 62 #[.agg #[.int .i64 st, .int .i64 cols, .slice A1 acc.length c1, .slice A2 base.length c2, .slice A3 own.length c3, .slice A4 nxt.length c4]] w fun e w' => ∃ v, e = .returned v ∧ Own (kI .u8) 5 w' w.heap.size emp v (bytesF (numsF st cols acc base own nxt)) ∧ Below w.heap.size w w' := by
  have hx := Aside.mk (Ext.refl hs)
  replace h1 := Aside.mk h1
  replace h2 := Aside.mk h2
  replace h3 := Aside.mk h3
  replace h4 := Aside.mk h4
  go_enter Try.func62, Try.ntmps62
  go_wp2_with fail
  have hx1 := hx.out.alloc (.cells #[.int .i64 st, .int .i64 cols, .slice A1 acc.length c1, .slice A2 base.length c2, .slice A3 own.length c3, .slice A4 nxt.length c4] 85)
  obtain ⟨G1, hx2, hle1, hsl1⟩ := lit_extq (k := kI .i64) (e := 3) (xs := [st, cols, (base.length : Int), (own.length : Int)]) hx1 #[.int .i64 st, .int .i64 cols, .int .i64 base.length, .int .i64 own.length] ⟨[_], _, rfl, rfl, ⟨[_], _, rfl, rfl, ⟨[_], _, rfl, rfl, EncL.single rfl⟩⟩⟩ (by simp)
  have hsl1b : SlR (kI .i64) G1 (some ⟨w.heap.size + 1, 0, none⟩) 4 4 [st, cols, (base.length : Int), (own.length : Int)] := by simpa using hsl1
  obtain ⟨G2, hx3, hle2, hL⟩ := lit_extq (k := kS (kI .i64)) (e := 26) (xs := [[st, cols, (base.length : Int), (own.length : Int)], acc, base, own, nxt]) hx2 #[.slice (some ⟨w.heap.size + 1, 0, none⟩) 4 4, .slice A1 acc.length c1, .slice A2 base.length c2, .slice A3 own.length c3, .slice A4 nxt.length c4] ⟨[_], _, rfl, ⟨_, _, rfl, hsl1b⟩, ⟨[_], _, rfl, ⟨_, _, rfl, h1.out.mono hle1⟩, ⟨[_], _, rfl, ⟨_, _, rfl, h2.out.mono hle1⟩, ⟨[_], _, rfl, ⟨_, _, rfl, h3.out.mono hle1⟩, EncL.single ⟨_, _, rfl, h4.out.mono hle1⟩⟩⟩⟩⟩ (by simp)
  have hflat : [[st, cols, (base.length : Int), (own.length : Int)], acc, base, own, nxt].flatten = numsF st cols acc base own nxt := by simp [numsF]
  have hfl : (numsF st cols acc base own nxt).length ≤ 100004 := by simp [numsF]; omega
  have hlen5 : [[st, cols, (base.length : Int), (own.length : Int)], acc, base, own, nxt].length = 5 := rfl
  have hLb : SlR (kS (kI .i64)) G2 (some ⟨w.heap.size + 1 + 1, 0, none⟩) 5 5 [[st, cols, (base.length : Int), (own.length : Int)], acc, base, own, nxt] := by simpa using hL
  generalize [[st, cols, (base.length : Int), (own.length : Int)], acc, base, own, nxt] = LL at *
  generalize hNN : numsF st cols acc base own nxt = NN at *
  replace hNN := Aside.mk hNN
  generalize (((w.alloc (.cells #[.int .i64 st, .int .i64 cols, .slice A1 acc.length c1, .slice A2 base.length c2, .slice A3 own.length c3, .slice A4 nxt.length c4] 85)).alloc (.cells #[.int .i64 st, .int .i64 cols, .int .i64 base.length, .int .i64 own.length] 3)).alloc (.cells #[.slice (some ⟨w.heap.size + 1, 0, none⟩) 4 4, .slice A1 acc.length c1, .slice A2 base.length c2, .slice A3 own.length c3, .slice A4 nxt.length c4] 26)) = Wr at *
  replace hx := Aside.mk hx3
  replace hLb := Aside.mk hLb
  have HI := Aside.mk (And.intro hflat (And.intro hfl (And.intro hlen5 hr)))
  clear hx1 hx2 hx3 hle1 hle2 hL hsl1 hsl1b hflat hfl hlen5 hr h1 h2 h3 h4 hl
  go_loopw [3, 29] (fun o i wr => ∃ (q : Nat) (A5 : Option Addr) (l5 c5 : Nat) (Hk : PH), q ≤ 5 ∧ i = .int .i64 q ∧ o = .slice A5 l5 c5 ∧ Aside (Ext H Hk w wr) ∧ Aside (SlR (kS (kI .i64)) Hk (some ⟨w.heap.size + 1 + 1, 0, none⟩) 5 5 LL) ∧ Aside (Own (kI .u8) 5 wr (w.heap.size) Hk (.slice A5 l5 c5) (bytesF (LL.take q).flatten))) (fun _ i _ => 5 - (intOf i).toNat)
  case atStart => exact ⟨0, none, 0, 0, _, by omega, rfl, rfl, hx, hLb, ⟨by simpa [bytesF] using Own.nil _ _ _ _ _⟩⟩
  case round =>
    clear hx hLb
    obtain ⟨q, A5, l5, c5, Hk, hq, rfl, rfl, hx, hLb, ho⟩ := hrel
    obtain ⟨wo, rfl⟩ : ∃ wo : World, wo = wr := ⟨_, rfl⟩
    by_cases hlt : q < 5
    case pos =>
      have hqL : q < LL.length := by rw [HI.out.2.2.1]; exact hlt
      obtain ⟨b, off, cs, e0, hrd, hcell⟩ := hLb.out.row q hqL
      simp only [Option.some.injEq, Addr.mk.injEq, and_true] at e0
      obtain ⟨rfl, rfl⟩ := e0
      obtain ⟨Ax, cx, rfl, hsx⟩ := hrd
      have g0 := at1 hx.out.sat hcell
      simp only [kS, Nat.mul_one, Nat.zero_add] at g0
      have htq : LL.take (q + 1) = LL.take q ++ [LL[q]] := List.take_succ_eq_append_getElem hqL
      have hfq := flat_len2 hqL
      rw [HI.out.1] at hfq
      have hrx : InR LL[q] := fun a ha => HI.out.2.2.2 a (by rw [← HI.out.1]; exact List.mem_flatten.2 ⟨_, List.getElem_mem hqL, ha⟩)
      have hrt : InR (LL.take q).flatten := fun a ha => HI.out.2.2.2 a (by rw [← HI.out.1]; obtain ⟨l, hl, h⟩ := List.mem_flatten.1 ha; exact List.mem_flatten.2 ⟨l, List.mem_of_mem_take hl, h⟩)
      have hbt := bytesF_len hrt
      generalize LL[q] = x at *
      have hfl := HI.out.2.1
      have hxl : x.length ≤ 100004 := by omega
      have HX := Aside.mk (And.intro htq (And.intro hrx (And.intro hbt (And.intro hfq hlt))))
      have hcx := hsx.2.1
      replace hsx := Aside.mk hsx
      clear hqL htq hfq hrx hrt hbt hcell
      have hq0 : (0 : Int) ≤ (q : Int) := by omega
      have hq5 : (q : Int) < 5 := by omega
      go_wp2_with fail
      clear g0
      go_loopw [3, 35] (fun o i wr => ∃ (j : Nat) (A6 : Option Addr) (l6 c6 : Nat) (Hq : PH), j ≤ x.length ∧ i = .int .i64 j ∧ o = .slice A6 l6 c6 ∧ Aside (Ext H Hq w wr) ∧ Aside (SlR (kS (kI .i64)) Hq (some ⟨w.heap.size + 1 + 1, 0, none⟩) 5 5 LL) ∧ Aside (SlR (kI .i64) Hq Ax x.length cx x) ∧ Aside (Own (kI .u8) 5 wr (w.heap.size) Hq (.slice A6 l6 c6) (bytesF ((LL.take q).flatten ++ x.take j)))) (fun _ i _ => x.length - (intOf i).toNat)
      case atStart => exact ⟨0, A5, l5, c5, _, by omega, rfl, rfl, hx, hLb, hsx, ⟨by simpa using ho.out⟩⟩
      case round =>
        clear hx hLb hsx ho
        obtain ⟨j, A6, l6, c6, Hq, hj, rfl, rfl, hx, hLb, hsx, ho⟩ := hrel
        by_cases hjl : j < x.length
        case pos =>
          obtain ⟨b, off, cs, rfl, hrd, hcell⟩ := hsx.out.row j hjl
          have htj : x.take (j + 1) = x.take j ++ [x[j]] := List.take_succ_eq_append_getElem hjl
          have hin := HX.out.2.1 _ (List.getElem_mem hjl)
          have hbj := bytesF_len (l := x.take j) (fun a ha => HX.out.2.1 a (List.mem_of_mem_take ha))
          rw [List.length_take, Nat.min_eq_left (by omega)] at hbj
          generalize x[j] = y at *
          obtain rfl : cs = [.int .i64 y] := hrd
          have g0 := at1 hx.out.sat hcell
          simp only [kI, Nat.mul_one] at g0
          have h10 := encN_le10 hin
          have hxb := HX.out.2.2.1
          have hxc := HX.out.2.2.2.1
          have hfl2 := HI.out.2.1
          have hpow : (128 : Nat) ^ (9 + 1) = 1180591620717411303424 := by decide
          have hcall := fun (W : World) => numBytes_hand emp 9 y W hin.1 hin.2 (by omega) (by omega) (sat_emp W)
          have hen : encN (y + 1).toNat = bytesF [y] := by simp [bytesF]
          simp only [hen] at hcall
          clear hpow
          rw [hen] at h10
          have hby : Aside ((((bytesF ((LL.take q).flatten ++ x.take j)).length + (bytesF [y]).length) * 1 ≤ 140737488355328) ∧ (bytesF ((LL.take q).flatten ++ x.take j)).length + (bytesF [y]).length ≤ maxLen) := ⟨by rw [bytesF_append, List.length_append]; omega, by rw [bytesF_append, List.length_append]; unfold maxLen; omega⟩
          have HJ := Aside.mk (And.intro htj (And.intro hjl h10))
          have HC := Aside.mk hcall
          clear htj hin hbj h10 hxb hxc hfl2 hcall hen hcell
          go_wp2_with fail
          clear g0
          have hxo := hx
          have hoo := Aside.mk (fun bb (hb : (Value.slice A6 l6 c6).ownBlock = some bb) => (ho.out.blk hb).2.1)
          refine (HC.out _).mono ?_
          rintro e w2 ⟨v2, rfl, hR, hb⟩
          have ho2 := hR
          clear hR
          replace ho := Aside.mk (ho.out.below hx.out.sat hb)
          replace hx := Aside.mk (hx.out.then_below hb)
          clear hb
          have ho3 := ho2.flat (fun b o hb' => hxo.out.sat.new (ho2.blk hb').1 o)
          obtain ⟨H5, hx5, hle, ⟨A7, c7, e1, hs7⟩, hold⟩ := ho3.freezeE hx.out hxo.out.size (by have := HJ.out.2.2; omega)
          simp only [List.cons.injEq, and_true] at e1
          subst e1
          replace ho := Aside.mk (ho.out.keep hle fun bb hb => ⟨rfl, fun o => (hold bb o (fun e => by have h1 := (ho2.blk e).1; have h2 := hoo.out bb hb; omega)).trans ((ho.out.blk hb).2.2 o)⟩)
          replace hLb := Aside.mk (hLb.out.mono hle)
          replace hsx := Aside.mk (hsx.out.mono hle)
          replace hx := Aside.mk hx5
          replace hs7 := Aside.mk hs7
          clear hle hold hx5 ho2 ho3 hxo hoo
          have hbsz := hx.out.size
          generalize hyy : bytesF [y] = yy at *
          replace hyy := Aside.mk hyy
          generalize hyl : yy.length = yl at *
          replace hyl := Aside.mk hyl
          go_upto_region 9 with (at_builtin; go_must (refine wpList_appS (kI .u8) rfl (.tmp 39) (.tmp 41) 96 rfl 5 Try.underlying96 infoU8 rfl ho.out hx.out.sat hs7.out rfl rfl (by rw [hyl.out]; exact hby.out.1) (by rw [hyl.out]; exact hby.out.2) (by omega) ?_); intro v9 w9 ho9 hg9 hs9 hn9 hni9)
          obtain ⟨A9, c9, e9, -, -, -, -⟩ := ho9.form
          generalize (bytesF ((LL.take q).flatten ++ x.take j) ++ yy).length = l9 at e9
          subst e9
          replace hx := Aside.mk (ho.out.extG hx.out (by omega) hg9)
          replace ho := Aside.mk ho9
          clear ho9 hg9 hs9 hn9 hni9 hs7 HC hby hbsz
          go_wp2_with fail
          go_roundw
          case rel => exact ⟨j + 1, A9, l9, c9, _, HJ.out.2.1, by go_num, rfl, hx, hLb, hsx, ⟨by rw [HJ.out.1, ← List.append_assoc, bytesF_append, hyy.out]; exact ho.out⟩⟩
          case measure => (have := HJ.out.2.1; simp [intOf]; omega)
        case neg =>
          obtain rfl : j = x.length := by omega
          have ho2 := ho.out
          rw [List.take_of_length_le (Nat.le_refl _)] at ho2
          replace ho := Aside.mk ho2
          clear ho2
          clear hsx
          go_wp2_with fail
          go_roundw
          case rel => exact ⟨q + 1, A6, l6, c6, _, HX.out.2.2.2.2, by go_num, rfl, hx, hLb, ⟨by rw [HX.out.1, List.flatten_append]; simpa using ho.out⟩⟩
          case measure => (have := HX.out.2.2.2.2; simp [intOf]; omega)
    case neg =>
      obtain rfl : q = 5 := by omega
      have ho2 := ho.out
      rw [List.take_of_length_le (by rw [HI.out.2.2.1]; exact Nat.le_refl _), HI.out.1] at ho2
      replace ho := Aside.mk ho2
      clear ho2
      go_wp2_with fail
      go_ret
      exact ⟨.slice A5 l5 c5, rfl, by rw [hNN.out]; exact ho.out.flat (H' := emp) (fun _ _ _ => rfl), hx.out.below⟩
end Go.Proofs.Ytbnahmeaeakhhaa.B
