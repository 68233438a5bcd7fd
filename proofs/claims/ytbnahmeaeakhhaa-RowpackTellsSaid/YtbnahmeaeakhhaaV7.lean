/- rowpack.put, by hand. -/
import Derived.Test.YtbnahmeaeakhhaaProg
import Derived.Test.YtbnahmeaeakhhaaBd
import Derived.Test.YtbnahmeaeakhhaaVq
namespace Go.Proofs.Ytbnahmeaeakhhaa.B
set_option linter.unusedVariables false
set_option linter.unusedSimpArgs false
open Go Go.RowKit Go.Proofs.Ytbnahmeaeakhhaa.Q

theorem infoU8 : (Try.prog.info? 5).map (fun i => (i.zero, i.size, i.bytes)) = some (some (.int .u8 0), 1, 1) := by kernel_rfl
theorem grown_new {w w1 w2 : World} {v v1 : Value} (h : w.grownBy w1 v.ownBlock) (hn : New w v v1) (h2 : w1.grownBy w2 v1.ownBlock) : w.grownBy w2 v.ownBlock :=
  ⟨h2.os.trans h.os, h2.tape.trans h.tape, h2.output.trans h.output, Nat.le_trans h.size h2.size, fun i hi hne => by
    refine (h2.block i (Nat.lt_of_lt_of_le hi h.size) (fun e => ?_)).trans (h.block i hi hne)
    rcases hn i e.symm with g | g
    · exact hne g.symm
    · omega⟩
theorem New.trans {w w1 : World} {v v1 v2 : Value} (hs : w.heap.size ≤ w1.heap.size) (h : New w v v1) (h2 : New w1 v1 v2) : New w v v2 := fun b e => by
  rcases h2 b e with g | g
  · exact h b g
  · exact Or.inr (by omega)

set_option maxHeartbeats 4000000 in
theorem put_hand {H : PH} {w : World} {base : Nat} {A : Option Addr} {l c : Nat} {xs : List Int} (n : Int) (hv : Own (kI .u8) 5 w base H (.slice A l c) xs) (hs : Sat w H) (hb : base ≤ w.heap.size) (h0 : -1 ≤ n) (h1 : n ≤ 9223372036854775807) (hl : xs.length ≤ 1000000) :
    Calls Try.prog 120 #[.slice A l c, .int .i64 n] w fun e w' => ∃ A' l' c', e = .returned (.slice A' l' c') ∧ Own (kI .u8) 5 w' base H (.slice A' l' c') (xs ++ encN (n + 1).toNat) ∧ w.grownBy w' (Value.slice A l c).ownBlock ∧ New w (.slice A l c) (.slice A' l' c') := by
  have hx0 : IntKind.u64.wrap (IntKind.u64.wrap n + 1) = (((n + 1).toNat : Nat) : Int) := by
    show ((n % 18446744073709551616) + 1) % 18446744073709551616 = _
    omega
  have hm : (n + 1).toNat < 18446744073709551616 := by omega
  have hlen := encN_len 9 (n + 1).toNat (by have : (128 : Nat) ^ (9 + 1) = 1180591620717411303424 := by decide
                                            omega)
  generalize (n + 1).toNat = m at *
  replace hv := Aside.mk hv
  replace hs := Aside.mk hs
  have hB := Aside.mk (And.intro hb (And.intro hl hlen))
  clear hb hl hlen h0 h1
  go_enter Try.func120, Try.ntmps120
  go_wp2_with fail
  go_loopw [0, 5] (fun s0 s5 wr => ∃ (A1 : Option Addr) (l1 c1 : Nat) (ys : List Int) (u : Nat), s0 = .slice A1 l1 c1 ∧ s5 = .int .u64 u ∧ u < 18446744073709551616 ∧ Aside (Own (kI .u8) 5 wr base H (.slice A1 l1 c1) ys) ∧ Aside (ys ++ encN u = xs ++ encN m) ∧ Aside (w.grownBy wr (Value.slice A l c).ownBlock) ∧ Aside (New w (.slice A l c) (.slice A1 l1 c1)) ∧ Aside (Sat wr H)) (fun _ s5 _ => (intOf s5).toNat)
  case atStart => exact ⟨A, l, c, xs, m, rfl, by go_num, hm, hv, ⟨rfl⟩, ⟨grownBy_refl _ _⟩, ⟨fun b e => Or.inl e⟩, hs⟩
  case round =>
    obtain ⟨A1, l1, c1, ys, u, rfl, rfl, hu, hO, hE, hG, hN, hS⟩ := hrel
    have hyl : Aside (ys.length ≤ 1000010) := ⟨by have := congrArg List.length hE.out; have h3 := hB.out; simp only [List.length_append] at this; omega⟩
    have hby : Aside ((ys.length + 1) * 1 ≤ 140737488355328 ∧ ys.length + 1 ≤ maxLen ∧ base ≤ wr.heap.size) := ⟨by have := hyl.out; omega, by have := hyl.out; unfold maxLen; omega, Nat.le_trans hB.out.1 hG.out.size⟩
    by_cases h7 : (128 : Int) ≤ (u : Int)
    case pos =>
      go_upto_region 4 with (at_builtin; go_must (refine wpList_app1 (kI .u8) rfl (.tmp 11) (.tmp 16) 96 rfl 5 Try.underlying96 infoU8 rfl hO.out hS.out rfl rfl rfl rfl hby.out.1 hby.out.2.1 hby.out.2.2 ?_); intro v9 w9 ho9 hg9 hs9 hn9)
      have ebits : bits BinOp.or IntKind.u8 ((u : Int) % 128) 128 = ((u % 128 : Nat) : Int) + 128 := or128' (u % 128) (Nat.mod_lt _ (by omega))
      rw [ebits] at ho9
      obtain ⟨A9, c9, e9, -, -, -, -⟩ := ho9.form
      generalize hl9 : (ys ++ [((u % 128 : Nat) : Int) + 128]).length = l9 at e9
      subst e9
      have hE2 : Aside ((ys ++ [((u % 128 : Nat) : Int) + 128]) ++ encN (u / 128) = xs ++ encN m) := ⟨by rw [← hE.out, List.append_assoc]; congr 1; rw [encN_big (u := u) (by omega)]; rfl⟩
      replace ho9 := Aside.mk ho9
      have hG2 := Aside.mk (grown_new hG.out hN.out hg9)
      have hN2 := Aside.mk (hN.out.trans hG.out.size hn9)
      replace hs9 := Aside.mk hs9
      clear hg9 hn9 hl9 ebits
      have hdv : (u : Int) / 128 = ((u / 128 : Nat) : Int) := by omega
      have hu2 : u / 128 < u := by omega
      have hu3 : u / 128 < 18446744073709551616 := by omega
      generalize hd : u / 128 = d at *
      replace hd := Aside.mk hd
      go_wp2_with fail
      go_roundw
      case rel => exact ⟨A9, l9, c9, _, d, rfl, by first | rfl | go_num, hu3, ho9, hE2, hG2, hN2, hs9⟩
      case measure => first | (simp [intOf]; done) | (simp [intOf]; omega)
    case neg =>
      have hE2 : Aside (ys ++ [(u : Int)] = xs ++ encN m) := ⟨by rw [← hE.out, encN_small (u := u) (by omega)]⟩
      have hwu : IntKind.u8.wrap (u : Int) = (u : Int) := by show (u : Int) % 256 = u; omega
      go_upto_region 6 with (at_builtin; go_must (refine wpList_app1 (kI .u8) rfl (.tmp 20) (.tmp 23) 96 rfl 5 Try.underlying96 infoU8 rfl hO.out hS.out rfl rfl rfl rfl hby.out.1 hby.out.2.1 hby.out.2.2 ?_); intro v9 w9 ho9 hg9 hs9 hn9)
      obtain ⟨A9, c9, e9, -, -, -, -⟩ := ho9.form
      generalize hl9 : (ys ++ [(u : Int)]).length = l9 at e9
      subst e9
      rw [hE2.out] at ho9
      go_ret
      exact ⟨A9, l9, c9, rfl, ho9, grown_new hG.out hN.out hg9, hN.out.trans hG.out.size hn9⟩

/-! ### NumberBytes -/
theorem emod128 {y : Int} (h : 0 ≤ y) : Int.tmod y 128 = y % 128 ∧ Int.tdiv y 128 = y / 128 := ⟨Int.tmod_eq_emod_of_nonneg h, Int.tdiv_eq_ediv_of_nonneg h⟩
set_option maxRecDepth 100000 in
set_option maxHeartbeats 8000000 in
theorem numBytes_hand (H : PH) : ∀ (k : Nat) (n : Int) (w : World), -1 ≤ n → n ≤ 9223372036854775807 → (n + 1).toNat < 128 ^ (k + 1) → k ≤ 1000 → Sat w H →
    Calls Try.prog 121 #[.int .i64 n] w fun e w' => ∃ v, e = .returned v ∧ Own (kI .u8) 5 w' w.heap.size H v (encN (n + 1).toNat) ∧ Below w.heap.size w w'
  | k, n, w, h0, h1, h2, hk, hs => by
    have HS := Aside.mk hs
    have H2 := Aside.mk h2
    clear hs h2
    go_enter Try.func121, Try.ntmps121
    by_cases hn : n < 127
    case pos =>
      have hw : IntKind.i64.wrap (n + 1) = n + 1 := by rw [IntWalk.i64_in _ (by omega)]
      have hw8 : IntKind.u8.wrap (n + 1) = n + 1 := by show (n + 1) % 256 = n + 1; omega
      go_wp2_with fail
      refine bodyPost_ret (results_tmp rfl _ _ _) rfl ?_
      refine ⟨_, rfl, ?_, (Below.refl _ _).alloc (Nat.le_refl _) _⟩
      rw [encN_small (u := (n + 1).toNat) (by omega), show (((n + 1).toNat : Nat) : Int) = n + 1 by omega]
      exact Own.lit (k := kI .u8) (e := 5) (xs := [n + 1]) HS.out #[.int .u8 (n + 1)] (Nat.le_refl _) (EncL.single rfl) (by unfold maxLen; simp)
    case neg =>
      by_cases hr : n % 128 + 1 = 128
      case pos =>
       have q1 : (n % 128 + 1 == 128) = true := beq_iff_eq.2 hr
       replace hr := Aside.mk hr
       go_wp2_with fail
       have hr := hr.out
       have hsA := HS.out.alloc (.cells #[.int .u8 (128)] 5)
       have hL : Own (kI .u8) 5 (w.alloc (.cells #[.int .u8 (128)] 5)) w.heap.size H (.slice (some ⟨w.heap.size, 0, none⟩) 1 1) [128] := Own.lit (k := kI .u8) (e := 5) (xs := [128]) HS.out #[.int .u8 (128)] (Nat.le_refl _) (EncL.single rfl) (by unfold maxLen; simp)
       obtain ⟨k, rfl⟩ : ∃ j, k = j + 1 := ⟨k - 1, by have := H2.out; cases k with | zero => omega | succ k => omega⟩
       have hp : (128 : Nat) ^ (k + 1 + 1) = 128 * 128 ^ (k + 1) := by rw [Nat.pow_succ]; omega
       refine (numBytes_hand H k (n / 128) _ (by omega) (by omega) (by have := H2.out; rw [hp] at this; omega) (by omega) hsA).mono ?_
       rintro e w2 ⟨v, rfl, ho, hb⟩
       have hen := encN_len k (n / 128 + 1).toNat (by have := H2.out; rw [hp] at this; omega)
       have hE : [128] ++ encN (n / 128 + 1).toNat = encN (n + 1).toNat := by
         rw [encN_big (u := (n + 1).toNat) (by omega), show (n + 1).toNat / 128 = (n / 128 + 1).toNat by omega, show (((n + 1).toNat % 128 : Nat) : Int) + 128 = 128 by omega]; rfl
       generalize encN (n / 128 + 1).toNat = ys at *
       have hL2 := hL.below hsA hb
       obtain ⟨H3, hx3, hle3, ⟨A3, c3, e3, hsl⟩, hold⟩ := ho.freezeE (Ext.of_below hsA hb) (Nat.le_refl _) (by omega)
       cases e3
       have hsz : (w.alloc (.cells #[.int .u8 (128)] 5)).heap.size = w.heap.size + 1 := by simp
       have hL3 : Own (kI .u8) 5 w2 w.heap.size H3 (.slice (some ⟨w.heap.size, 0, none⟩) 1 1) [128] := hL2.keep hle3 fun b hbb => ⟨rfl, fun o => by
         have e1 : w.heap.size = b := by simpa [Value.ownBlock] using hbb
         subst e1
         rw [hold _ o (fun e => by have := (ho.blk e).1; omega)]
         exact HS.out.new (Nat.le_refl _) o⟩
       have hbl : Below w.heap.size w w2 := ((Below.refl _ _).alloc (Nat.le_refl _) _).trans (hb.mono (by omega))
       have hQ := Aside.mk (And.intro hL3 (And.intro hx3.sat (And.intro hsl (And.intro hbl (And.intro hE hen)))))
       clear hL hsA hp hen hE hL2 hx3 hle3 hsl hold hL3 hbl ho hb
       have hwz := Aside.mk (show w.heap.size ≤ w2.heap.size from hQ.out.2.2.2.1.size)
       go_upto_region 7 with (at_builtin; go_must (refine wpList_appS (kI .u8) rfl (.tmp 23) (.tmp 26) 96 rfl 5 Try.underlying96 infoU8 rfl hQ.out.1 hQ.out.2.1 hQ.out.2.2.1 rfl rfl (by have := hQ.out.2.2.2.2.2; simp; omega) (by have := hQ.out.2.2.2.2.2; unfold maxLen; simp; omega) hwz.out ?_); intro v9 w9 ho9 hg9 hs9 hn9 hz9)
       rw [hQ.out.2.2.2.2.1] at ho9
       have hfin := ho9.flat (H' := H) (fun b o hbb => HS.out.new (ho9.blk hbb).1 o)
       have hbf := below_grownBy hQ.out.2.2.2.1 (Nat.le_refl _) hg9
       go_ret
       exact ⟨v9, rfl, hfin, hbf⟩
      case neg =>
       have q1 : (n % 128 + 1 == 128) = false := beq_eq_false_iff_ne.2 hr
       have hw8 : (n % 128 + 1 + 128) % 256 = n % 128 + 1 + 128 := by omega
       replace hr := Aside.mk hr
       go_wp2_with fail
       have hr := hr.out
       have hsA := HS.out.alloc (.cells #[.int .u8 (n % 128 + 1 + 128)] 5)
       have hL : Own (kI .u8) 5 (w.alloc (.cells #[.int .u8 (n % 128 + 1 + 128)] 5)) w.heap.size H (.slice (some ⟨w.heap.size, 0, none⟩) 1 1) [n % 128 + 1 + 128] := Own.lit (k := kI .u8) (e := 5) (xs := [n % 128 + 1 + 128]) HS.out #[.int .u8 (n % 128 + 1 + 128)] (Nat.le_refl _) (EncL.single rfl) (by unfold maxLen; simp)
       obtain ⟨k, rfl⟩ : ∃ j, k = j + 1 := ⟨k - 1, by have := H2.out; cases k with | zero => omega | succ k => omega⟩
       have hp : (128 : Nat) ^ (k + 1 + 1) = 128 * 128 ^ (k + 1) := by rw [Nat.pow_succ]; omega
       refine (numBytes_hand H k (n / 128 - 1) _ (by omega) (by omega) (by have := H2.out; rw [hp] at this; omega) (by omega) hsA).mono ?_
       rintro e w2 ⟨v, rfl, ho, hb⟩
       have hen := encN_len k (n / 128 - 1 + 1).toNat (by have := H2.out; rw [hp] at this; omega)
       have hE : [n % 128 + 1 + 128] ++ encN (n / 128 - 1 + 1).toNat = encN (n + 1).toNat := by
         rw [encN_big (u := (n + 1).toNat) (by omega), show (n + 1).toNat / 128 = (n / 128 - 1 + 1).toNat by omega, show (((n + 1).toNat % 128 : Nat) : Int) + 128 = n % 128 + 1 + 128 by omega]; rfl
       generalize encN (n / 128 - 1 + 1).toNat = ys at *
       have hL2 := hL.below hsA hb
       obtain ⟨H3, hx3, hle3, ⟨A3, c3, e3, hsl⟩, hold⟩ := ho.freezeE (Ext.of_below hsA hb) (Nat.le_refl _) (by omega)
       cases e3
       have hsz : (w.alloc (.cells #[.int .u8 (n % 128 + 1 + 128)] 5)).heap.size = w.heap.size + 1 := by simp
       have hL3 : Own (kI .u8) 5 w2 w.heap.size H3 (.slice (some ⟨w.heap.size, 0, none⟩) 1 1) [n % 128 + 1 + 128] := hL2.keep hle3 fun b hbb => ⟨rfl, fun o => by
         have e1 : w.heap.size = b := by simpa [Value.ownBlock] using hbb
         subst e1
         rw [hold _ o (fun e => by have := (ho.blk e).1; omega)]
         exact HS.out.new (Nat.le_refl _) o⟩
       have hbl : Below w.heap.size w w2 := ((Below.refl _ _).alloc (Nat.le_refl _) _).trans (hb.mono (by omega))
       have hQ := Aside.mk (And.intro hL3 (And.intro hx3.sat (And.intro hsl (And.intro hbl (And.intro hE hen)))))
       clear hL hsA hp hen hE hL2 hx3 hle3 hsl hold hL3 hbl ho hb
       have hwz := Aside.mk (show w.heap.size ≤ w2.heap.size from hQ.out.2.2.2.1.size)
       go_upto_region 7 with (at_builtin; go_must (refine wpList_appS (kI .u8) rfl (.tmp 23) (.tmp 26) 96 rfl 5 Try.underlying96 infoU8 rfl hQ.out.1 hQ.out.2.1 hQ.out.2.2.1 rfl rfl (by have := hQ.out.2.2.2.2.2; simp; omega) (by have := hQ.out.2.2.2.2.2; unfold maxLen; simp; omega) hwz.out ?_); intro v9 w9 ho9 hg9 hs9 hn9 hz9)
       rw [hQ.out.2.2.2.2.1] at ho9
       have hfin := ho9.flat (H' := H) (fun b o hbb => HS.out.new (ho9.blk hbb).1 o)
       have hbf := below_grownBy hQ.out.2.2.2.1 (Nat.le_refl _) hg9
       go_ret
       exact ⟨v9, rfl, hfin, hbf⟩
end Go.Proofs.Ytbnahmeaeakhhaa.B
