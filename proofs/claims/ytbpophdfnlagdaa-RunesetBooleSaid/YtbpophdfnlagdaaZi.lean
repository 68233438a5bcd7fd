/- Contracts: parlmake.Below, parlkeep1.set. -/
import Derived.Test.YtbpophdfnlagdaaZh
namespace Go.Proofs.Ytbpophdfnlagdaa.B
set_option linter.unusedVariables false
set_option linter.unusedSimpArgs false
open Go Go.RowKit Classical

/-- what Below gives -/
def below (x n : Int) : Int := if x.tmod n < 0 then x.tmod n + n else x.tmod n
theorem below_lt (x n : Int) (h : 0 < n) : 0 ≤ below x n ∧ below x n < n := by
  have h1 := Int.tmod_lt_of_pos x h
  have h2 : -n < x.tmod n := by
    have := Int.tmod_lt_of_pos (-x) h
    rw [Int.neg_tmod] at this; omega
  unfold below
  split <;> omega

theorem below_any (x n : Int) (w : World) (h : 0 < n) (hn : n ≤ 1000000) :
    Calls Try.prog 30 #[.int .i64 x, .int .i64 n] w fun e w' => e = .returned (.int .i64 (below x n)) ∧ w = w' := by
  have h1 := Int.tmod_lt_of_pos x h
  have h2 : -n < x.tmod n := by
    have := Int.tmod_lt_of_pos (-x) h
    rw [Int.neg_tmod] at this; omega
  have hB : below x n = if x.tmod n < 0 then x.tmod n + n else x.tmod n := rfl
  have HB := Aside.mk hB
  clear hB
  have hnz : ¬ n = 0 := by omega
  by_cases hq : x.tmod n < 0
  · go_enter Try.func30, Try.ntmps30
    go_wp2_with fail
    go_ret
    exact ⟨by rw [HB.out, if_pos (by omega)]; rfl, rfl⟩
  · go_enter Try.func30, Try.ntmps30
    go_wp2_with fail
    go_ret
    exact ⟨by rw [HB.out, if_neg (by omega)]; rfl, rfl⟩

theorem SlR.cellI {H : PH} {w : World} {A : Option Addr} {n c : Nat} {xs : List Int} (h : SlR (kI .i64) H A n c xs) (hs : Sat w H) (i : Nat) (hi : i < xs.length) : ∃ b off, A = some ⟨b, off, none⟩ ∧ w.cell? ⟨b, off + i, none⟩ = some (.int .i64 xs[i]) := by
  obtain ⟨b, off, cs, e, hr, hc⟩ := h.row i hi
  obtain rfl : cs = [.int .i64 xs[i]] := hr
  exact ⟨b, off, e, by have := hs _ _ _ (hc 0 _ rfl); simpa [kI] using this⟩

/-- spans as the statement makes them -/
def PartS (s : Span) : Prop := 0 ≤ s.lo ∧ s.lo ≤ 999 ∧ s.lo ≤ s.hi ∧ s.hi ≤ 1098
theorem PartS.good {s : Span} (h : PartS s) : goodSpan s = true := by unfold PartS at h; simp [goodSpan]; omega

set_option maxRecDepth 100000 in
set_option maxHeartbeats 8000000 in
theorem setOf_any (H : PH) (xs : List Int) (A : Option Addr) (c : Nat) (w : World) (hx : SlR (kI .i64) H A xs.length c xs) (hs : Sat w H) :
    Calls Try.prog 13 #[.slice A xs.length c] w fun e w' => ∃ r, (setErr r = 0 ∧ r.length ≤ 4) ∧ RetO H w r e w' := by
  have hc := hx.2.1
  have hm := hx.2.2.2.1
  replace hx := Aside.mk hx
  go_enter Try.func13, Try.ntmps13
  go_upto_block 0 with (fail)
  go_cut [3] (fun s3 wc => ∃ (A5 : Option Addr) (n5 c5 : Nat) (done : List Span), s3 = .slice A5 n5 c5 ∧ Aside (Own kSpan 30 wc w.heap.size H s3 done) ∧ Aside (Below w.heap.size w wc) ∧ Aside (n5 = done.length ∧ done.length ≤ 4 ∧ ∀ s ∈ done, PartS s))
  case first =>
    go_wp2_with fail
    go_loopw [3, 4] (fun p a wr => ∃ (k : Nat) (A5 : Option Addr) (n5 c5 : Nat) (done : List Span), k ≤ 8 ∧ a = .int .i64 k ∧ p = .slice A5 n5 c5 ∧ Aside (Own kSpan 30 wr w.heap.size H p done) ∧ Aside (Below w.heap.size w wr) ∧ Aside (n5 = done.length ∧ 2 * done.length = k ∧ ∀ s ∈ done, PartS s)) (fun _ a _ => 8 - (intOf a).toNat)
    case atStart => exact ⟨0, _, _, _, [], by omega, (by first | rfl | trivial), (by first | rfl | trivial), ⟨Own.nil _ _ _ _ _⟩, ⟨Below.refl _ _⟩, ⟨rfl, rfl, by simp⟩⟩
    case round =>
      obtain ⟨k, A5, n5, c5, done, hk8, rfl, rfl, ho, hb, hdone⟩ := hrel
      by_cases hlt : k + 1 < xs.length
      · have hlt1 : (k : Int) + 1 < (xs.length : Int) := by omega
        by_cases hk : k < 8
        · have hlt2 : (k : Int) < 8 := by omega
          obtain ⟨b1, o1, rfl, g0⟩ := hx.out.cellI (hs.below hb.out) k (by omega)
          obtain ⟨b2, o2, e2, g1⟩ := hx.out.cellI (hs.below hb.out) (k + 1) (by omega)
          cases e2
          generalize xs[k]'(by omega) = v0 at *
          generalize xs[k + 1]'(by omega) = v1 at *
          have hb0 := below_lt v0 1000 (by omega)
          have hb1 := below_lt v1 100 (by omega)
          have HB0 := Aside.mk (fun w => below_any v0 1000 w (by omega) (by omega))
          have HB1 := Aside.mk (fun w => below_any v1 100 w (by omega) (by omega))
          generalize below v0 1000 = p0 at *
          generalize below v1 100 = p1 at *
          have hks : k + 2 ≤ 8 := by have := hdone.out.2.1; omega
          go_wp2_with fail
          refine (HB0.out _).mono ?_
          rintro e w1 ⟨rfl, rfl⟩
          go_wp2_with fail
          refine (HB1.out _).mono ?_
          rintro e w1 ⟨rfl, rfl⟩
          have hrd : Aside (kSpan.rd H ⟨p0, p0 + p1⟩ (#[Value.int .i64 p0, .int .i64 (p0 + p1)] : Array Value).toList) := ⟨rfl⟩
          have hbyt : Aside ((done.length + 1) * 16 ≤ 140737488355328 ∧ done.length + 1 ≤ maxLen) := ⟨by have := hdone.out.2.1; omega, by have := hdone.out.2.1; unfold maxLen; omega⟩
          have hbs := Aside.mk hb.out.size
          have HS := Aside.mk (hs.below hb.out)
          clear g0 g1
          go_upto_region 4 with (at_builtin; go_must (refine wpList_app1 kSpan rfl (.tmp 26) (.tmp 37) 23 rfl 30 Try.underlying23 info30 rfl ho.out HS.out rfl rfl rfl hrd.out hbyt.out.1 hbyt.out.2 hbs.out ?_); intro v8 w8 ho8 hg8 hs8 hn8)
          have hb8 : Below w.heap.size w w8 := ho.out.belowG hb.out (Nat.le_refl _) hg8
          obtain ⟨A8, c8, rfl, -, -, -, -⟩ := ho8.form
          go_wp2_with fail
          go_roundw
          case rel => exact ⟨k + 2, _, _, _, done ++ [⟨p0, p0 + p1⟩], by omega, by go_num, rfl, ⟨ho8⟩, ⟨hb8⟩, ⟨rfl, by have := hdone.out.2.1; simp; omega, fun s hs => by
            rcases List.mem_append.1 hs with h | h
            · exact hdone.out.2.2 s h
            · simp at h; subst h; unfold PartS; simp only; omega⟩⟩
          case measure => simp [intOf]; omega
        · obtain rfl : k = 8 := by omega
          go_wp2_with fail
          go_meet
          exact ⟨_, _, _, done, rfl, ho, hb, ⟨hdone.out.1, by have := hdone.out.2.1; omega, hdone.out.2.2⟩⟩
      · have hlt1 : ¬ ((k : Int) + 1 < (xs.length : Int)) := by omega
        go_wp2_with fail
        go_meet
        exact ⟨_, _, _, done, rfl, ho, hb, ⟨hdone.out.1, by have := hdone.out.2.1; omega, hdone.out.2.2⟩⟩
  case rest =>
    obtain ⟨A0, n0, c0, x, rfl, ho, hb0, hdone⟩ := hcut
    have hl4 := hdone.out.2.1
    clear hx hc hm
    go_wp2_with fail
    refine (sortSet x ho.out (by omega) (fun s hs => by have := hdone.out.2.2 s hs; unfold PartS at this; omega)).mono ?_
    rintro e w2 ⟨rfl, l, hp, hpw, ho2, hg2⟩
    have hb2 := ho.out.belowG hb0.out (Nat.le_refl _) hg2
    obtain ⟨H1, hx1, hle, ⟨A1, c1, e1, h1⟩, -⟩ := ho2.freezeE (Ext.of_below hs hb2) (Nat.le_refl _) (by have := hp.length_eq; omega)
    cases e1
    have hll := hp.length_eq
    have hlx : x.length ≤ 1000 := by omega
    have HP := Aside.mk (And.intro hp (And.intro hpw (fun s hs => (hdone.out.2.2 s (hp.mem_iff.1 hs)).good)))
    have HFIN := Aside.mk (show ∀ v w', Own kSpan 30 w' w.heap.size H v (joinS l) → Below w.heap.size w w' → ∃ r, (setErr r = 0 ∧ r.length ≤ 4) ∧ RetO H w r (.returned v) w' from fun v w' g1 g2 => by
      have j1 := joinS_ok l HP.out.2.2 HP.out.2.1
      have j2 := joinS_len l
      exact ⟨_, ⟨setErr_can.2 ⟨by omega, j1.1⟩, by omega⟩, v, rfl, g1, g2⟩)
    clear hp hpw ho2 hg2 hb2 hle ho hb0 hdone
    have hc1 := h1.2.1
    go_wp2_with fail
    go_loopw [6, 43] (fun o i wr => ∃ (k : Nat) (A5 : Option Addr) (n5 c5 : Nat) (done : List Span), k ≤ l.length ∧ i = .int .i64 k ∧ o = .slice A5 n5 c5 ∧ Aside (Own kSpan 30 wr w.heap.size H1 o done) ∧ Aside (Ext H H1 w wr) ∧ n5 ≤ k ∧ Aside (n5 = done.length ∧ done = joinS (l.take k))) (fun _ i _ => l.length - (intOf i).toNat)
    case atStart => exact ⟨0, _, _, _, [], by omega, rfl, rfl, ⟨Own.nil _ _ _ _ _⟩, ⟨hx1⟩, by omega, ⟨rfl, rfl⟩⟩
    case round =>
      obtain ⟨k, A5, n5, c5, done, hk, rfl, rfl, ho, hbl, hnk, hdone⟩ := hrel
      by_cases hkx : k < l.length
      · obtain ⟨b1, o1, lo, hi, rfl, e1, g0, g1⟩ := cell_span h1 hbl.out.sat k hkx
        have hlt1 : (k : Int) < (l.length : Int) := by omega
        have hsn : joinS (l.take (k + 1)) = addS done ⟨lo, hi⟩ := by rw [List.take_succ_eq_append_getElem hkx, joinS_snoc, e1, hdone.out.2]
        have hgs := HP.out.2.2 l[k] (List.getElem_mem hkx)
        rw [e1] at hgs
        have hgs' : 0 ≤ lo ∧ lo ≤ hi ∧ hi ≤ 1114111 := by simp [goodSpan] at hgs; omega
        obtain ⟨r1, r2, r3⟩ := hgs'
        clear hgs
        replace hsn := Aside.mk hsn
        clear e1
        go_upto_region 12 with fail
        clear g0 g1
        have HO := Aside.mk (And.intro (ho.out.alloc hbl.out.sat (.cells #[.int .i64 lo, .int .i64 hi] 30)) (hbl.out.alloc (.cells #[.int .i64 lo, .int .i64 hi] 30)))
        have HK := heap_alloc_new wr (.cells #[.int .i64 lo, .int .i64 hi] 30)
        generalize (wr.alloc (.cells #[.int .i64 lo, .int .i64 hi] 30)) = we at *
        clear ho hbl
        replace HK := Aside.mk HK
        generalize wr.heap.size = pb at *
        rcases List.eq_nil_or_concat done with hnil | ⟨out, t, hcat⟩
        · subst hnil
          obtain rfl : n5 = 0 := hdone.out.1
          have p0 : we.cell? ⟨pb, 0, none⟩ = some (.int .i64 lo) := (boxC HK.out 0).1
          have p1 : we.cell? ⟨pb, 1, none⟩ = some (.int .i64 hi) := (boxC HK.out 1).1
          have hd : decide ((0 : Int) > 0) = false := by decide
          go_upto_region 13 with fail
          go_quiet (fail)

          have HK2 := Aside.mk (show (we.drewN nq).heap[pb]? = some (.cells #[.int .i64 lo, .int .i64 hi] 30) from HK.out)
          have HO2 := Aside.mk (And.intro (HO.out.1.drewN nq) (HO.out.2.drewN nq))
          clear HO HK p0 p1
          generalize we.drewN nq = we at *
          have p0 : we.cell? ⟨pb, 0, none⟩ = some (.int .i64 lo) := (boxC HK2.out 0).1
          have p1 : we.cell? ⟨pb, 1, none⟩ = some (.int .i64 hi) := (boxC HK2.out 1).1
          have hrd : Aside (kSpan.rd H1 ⟨lo, hi⟩ (#[Value.int .i64 lo, .int .i64 hi] : Array Value).toList) := ⟨rfl⟩
          have hbyt : Aside ((([] : List Span).length + 1) * 16 ≤ 140737488355328 ∧ ([] : List Span).length + 1 ≤ maxLen) := ⟨by have := hdone.out.1; omega, by have := hdone.out.1; unfold maxLen; omega⟩
          have hbs := Aside.mk HO2.out.2.size
          go_upto_region 16 with (at_builtin; go_must (refine wpList_app1 kSpan rfl (.tmp 77) (.tmp 79) 23 rfl 30 Try.underlying23 info30 rfl HO2.out.1 HO2.out.2.sat rfl rfl rfl hrd.out hbyt.out.1 hbyt.out.2 hbs.out ?_); intro v8 w8 ho8 hg8 hs8 hn8)
          have hx8 : Ext H H1 w w8 := HO2.out.2.grown hg8 (fun b hb => ⟨(HO2.out.1.blk hb).1, (HO2.out.1.blk hb).2.2⟩)
          obtain ⟨A8, c9, rfl, -, -, -, -⟩ := ho8.form
          go_wp2_with fail
          go_roundw
          case rel => exact ⟨k + 1, _, _, _, [] ++ [⟨lo, hi⟩], by omega, by go_num, rfl, ⟨ho8⟩, ⟨hx8⟩, (by have := hdone.out.1; simp at this ⊢ <;> omega), ⟨rfl, (by rw [hsn.out, addS_nil] <;> rfl)⟩⟩
          case measure => simp [intOf]; omega
        · rw [List.concat_eq_append] at hcat
          subst hcat
          have hgt9 := joinS_good HP.out.2.2 HP.out.2.1 k hdone.out.2.symm
          obtain ⟨s1, s2, s3⟩ := hgt9
          obtain ⟨m, rfl⟩ : ∃ m, n5 = m + 1 := ⟨out.length, by have := hdone.out.1; simpa using this⟩
          have hm : m = out.length := by have := hdone.out.1; simpa using this
          obtain ⟨gb, c6, tcs, e6, -, -, hrt, hct, hfz⟩ := HO.out.1.cells out.length (by simp)
          have e7 : (out ++ [t])[out.length]'(by simp) = t := by simp
          rw [e7] at hrt
          obtain rfl : tcs = [.int .i64 t.lo, .int .i64 t.hi] := hrt
          simp only [Value.slice.injEq] at e6
          obtain ⟨rfl, -, rfl⟩ := e6
          have z1 : we.cell? ⟨gb, m * 2 + 1, none⟩ = some (.int .i64 t.hi) := by rw [hm]; exact hct 1 _ rfl
          have zf : Aside (we.frozen? ⟨gb, m * 2 + 1, none⟩ = false) := ⟨hfz _⟩
          obtain ⟨tl, th⟩ := t
          replace z1 : we.cell? ⟨gb, m * 2 + 1, none⟩ = some (.int .i64 th) := z1
          have s3' : th ≤ 1114111 := s3
          have s2' : tl ≤ th := s2
          have s1' : 0 ≤ tl := s1
          clear s1 s2 s3
          replace hm := Aside.mk hm
          clear hct hfz e7
          have p0 : we.cell? ⟨pb, 0, none⟩ = some (.int .i64 lo) := (boxC HK.out 0).1
          have p1 : we.cell? ⟨pb, 1, none⟩ = some (.int .i64 hi) := (boxC HK.out 1).1
          have hd : decide ((m : Int) + 1 > 0) = true := by simp
          have hwm : IntKind.i64.wrap (m : Int) = (m : Int) := IntWalk.i64_in _ (by omega)
          have hml : (m : Int) < (m : Int) + 1 := by omega
          go_upto_region 13 with fail
          by_cases hj : lo ≤ th + 1
          · have HJ := Aside.mk hj
            go_quiet (fail)
            replace z1 : (we.drewN nq).cell? ⟨gb, m * 2 + 1, none⟩ = some (.int .i64 th) := z1
            replace zf := Aside.mk (show (we.drewN nq).frozen? ⟨gb, m * 2 + 1, none⟩ = false from zf.out)
            have HK2 := Aside.mk (show (we.drewN nq).heap[pb]? = some (.cells #[.int .i64 lo, .int .i64 hi] 30) from HK.out)
            have HO2 := Aside.mk (And.intro (HO.out.1.drewN nq) (HO.out.2.drewN nq))
            clear HO HK p0 p1
            generalize we.drewN nq = we at *
            have p1 : we.cell? ⟨pb, 1, none⟩ = some (.int .i64 hi) := (boxC HK2.out 1).1
            go_upto_region 14 with fail
            refine region_I (fun g H9 w9 => H9 = H1 ∧ (g 14 = none → w9 = we.drew) ∧ ((g 14).isSome = true → w9 = we.drew.setCell ⟨gb, m * 2 + 1, none⟩ (.int .i64 (max th hi)))) [14] 15 [63, 64, 65, 66, 67, 68, 69, 70, 71, 72, 73, 74, 75, 76] (by kernel_rfl) (by kernel_rfl) (by kernel_rfl) (by kernel_rfl) ⟨rfl, fun _ => rfl, fun h => by simp at h⟩ ?_
            refine regI_val (d := 63) (v := ?_) rfl rfl (Or.inl rfl) (fun ρ g wρ Hρ hρ => ?_) ?_; rotate_left
            · have k_c := hρ.const; have k_6 : ρ (.tmp 6) = .slice (some ⟨gb, 0, none⟩) (m + 1) c5 := hρ.old 6 (by kernel_rfl); (go_simp <;> with_reducible rfl)
            refine regI_val (d := 64) (v := ?_) rfl rfl (Or.inl rfl) (fun ρ g wρ Hρ hρ => ?_) ?_; rotate_left
            · have k_c := hρ.const; have k_9 : ρ (.tmp 9) = .int .i64 ((m + 1 : Nat) : Int) := hρ.old 9 (by kernel_rfl); (go_simp <;> with_reducible rfl)
            refine regI_val (d := 65) (v := ?_) rfl rfl (Or.inl rfl) (fun ρ g wρ Hρ hρ => ?_) ?_; rotate_left
            · have k_c := hρ.const; have k_64 : ρ (.tmp 64) = _ := hρ.dep 64 (by kernel_rfl); (go_simp <;> with_reducible rfl)
            refine regI_val (d := 66) (v := ?_) rfl rfl (Or.inl rfl) (fun ρ g wρ Hρ hρ => ?_) ?_; rotate_left
            · have k_c := hρ.const; have k_6 : ρ (.tmp 6) = .slice (some ⟨gb, 0, none⟩) (m + 1) c5 := hρ.old 6 (by kernel_rfl); (go_simp <;> with_reducible rfl)
            refine regI_val (d := 67) (v := ?_) rfl rfl (Or.inl rfl) (fun ρ g wρ Hρ hρ => ?_) ?_; rotate_left
            · have k_c := hρ.const; have k_9 : ρ (.tmp 9) = .int .i64 ((m + 1 : Nat) : Int) := hρ.old 9 (by kernel_rfl); (go_simp <;> with_reducible rfl)
            refine regI_val (d := 68) (v := ?_) rfl rfl (Or.inl rfl) (fun ρ g wρ Hρ hρ => ?_) ?_; rotate_left
            · have k_c := hρ.const; have k_67 : ρ (.tmp 67) = _ := hρ.dep 67 (by kernel_rfl); (go_simp <;> with_reducible rfl)
            refine regI_val (d := 69) (v := ?_) rfl rfl (Or.inl rfl) (fun ρ g wρ Hρ hρ => ?_) ?_; rotate_left
            · have k_c := hρ.const; have k_66 : ρ (.tmp 66) = _ := hρ.dep 66 (by kernel_rfl); have k_68 : ρ (.tmp 68) = _ := hρ.dep 68 (by kernel_rfl); (go_simp <;> with_reducible rfl)
            refine regI_val (d := 70) (v := ?_) rfl rfl (Or.inl rfl) (fun ρ g wρ Hρ hρ => ?_) ?_; rotate_left
            · have k_c := hρ.const; have k_69 : ρ (.tmp 69) = _ := hρ.dep 69 (by kernel_rfl); (go_simp <;> with_reducible rfl)
            refine regI_val (d := 71) (v := ?_) rfl rfl (Or.inl rfl) (fun ρ g wρ Hρ hρ => ?_) ?_; rotate_left
            · have k_c := hρ.const; have k_70 : ρ (.tmp 70) = _ := hρ.dep 70 (by kernel_rfl); have hwe := hρ.inv.2.1 (hρ.undone 14 (by kernel_rfl)); have p := show wρ.cell? ⟨gb, m * 2 + 1, none⟩ = some (.int .i64 th) from (by rw [hwe]; exact z1); (go_simp <;> with_reducible rfl)
            refine regI_val (d := 72) (v := ?_) rfl rfl (Or.inl rfl) (fun ρ g wρ Hρ hρ => ?_) ?_; rotate_left
            · have k_c := hρ.const; have k_8 : ρ (.tmp 8) = .pointer (some ⟨pb, 0, none⟩) := hρ.old 8 (by kernel_rfl); (go_simp <;> with_reducible rfl)
            refine regI_val (d := 73) (v := ?_) rfl rfl (Or.inl rfl) (fun ρ g wρ Hρ hρ => ?_) ?_; rotate_left
            · have k_c := hρ.const; have k_72 : ρ (.tmp 72) = _ := hρ.dep 72 (by kernel_rfl); have hwe := hρ.inv.2.1 (hρ.undone 14 (by kernel_rfl)); have p := show wρ.cell? ⟨pb, 1, none⟩ = some (.int .i64 hi) from (by rw [hwe]; exact p1); (go_simp <;> with_reducible rfl)
            refine regI_val (d := 74) (v := ?_) rfl rfl (Or.inl rfl) (fun ρ g wρ Hρ hρ => ?_) ?_; rotate_left
            · have k_c := hρ.const; have k_71 : ρ (.tmp 71) = _ := hρ.dep 71 (by kernel_rfl); have k_73 : ρ (.tmp 73) = _ := hρ.dep 73 (by kernel_rfl); (go_simp <;> with_reducible rfl)
            refine regI_val (d := 75) (v := ?_) rfl rfl (Or.inl rfl) (fun ρ g wρ Hρ hρ => ?_) ?_; rotate_left
            · have k_c := hρ.const; have k_63 : ρ (.tmp 63) = _ := hρ.dep 63 (by kernel_rfl); have k_65 : ρ (.tmp 65) = _ := hρ.dep 65 (by kernel_rfl); (go_simp <;> with_reducible rfl)
            refine regI_val (d := 76) (v := ?_) rfl rfl (Or.inl rfl) (fun ρ g wρ Hρ hρ => ?_) ?_; rotate_left
            · have k_c := hρ.const; have k_75 : ρ (.tmp 75) = _ := hρ.dep 75 (by kernel_rfl); (go_simp <;> with_reducible rfl)
            refine regI_store rfl rfl (Or.inl rfl) (fun ρ g wρ Hρ hρ => ?_) ?_
            · have k_c := hρ.const; have k_76 : ρ (.tmp 76) = _ := hρ.dep 76 (by kernel_rfl); have k_74 : ρ (.tmp 74) = _ := hρ.dep 74 (by kernel_rfl); obtain rfl := hρ.inv.2.1 hρ.here; have pf := zf.out; have p := z1; exact ⟨_, Hρ, (by go_simp <;> rfl), PH.le_refl _, ⟨hρ.inv.1, fun h => by simp [upd] at h, fun _ => rfl⟩⟩
            intro vs wv Hv gv hv F G
            obtain ⟨vx, gx, -⟩ := G 14 (by decide) rfl
            obtain ⟨-, -, hw9⟩ := hv
            obtain rfl := hw9 (by rw [gx]; rfl)
            clear F G gx hw9
            simp only [setAll, List.setIfInBounds_toArray, List.set_cons_zero, List.set_cons_succ, List.drop_succ_cons, List.drop_zero]
            have hput := HO2.out.1.putHi (max th hi)
            rw [← hm.out] at hput
            have hx9 : Ext H H1 w (we.drew.setCell ⟨gb, m * 2 + 1, none⟩ (.int .i64 (max th hi))) := (HO2.out.2.grown hput.2 (fun b hb => by cases hb; exact ⟨(HO2.out.1.blk (b := gb) rfl).1, (HO2.out.1.blk (b := gb) rfl).2.2⟩)).drew
            have ho9 := hput.1.drew
            clear hput p1 z1
            go_wp2_with fail
            go_roundw
            case rel => exact ⟨k + 1, _, _, _, out ++ [⟨tl, max th hi⟩], by omega, by go_num, rfl, ⟨ho9⟩, ⟨hx9⟩, by omega, ⟨by have := hdone.out.1; simpa using this, by rw [hsn.out, addS_snoc, if_pos HJ.out]⟩⟩
            case measure => simp [intOf]; omega
          · have HJ := Aside.mk hj
            go_quiet (fail)
            replace z1 : (we.drewN nq).cell? ⟨gb, m * 2 + 1, none⟩ = some (.int .i64 th) := z1
            replace zf := Aside.mk (show (we.drewN nq).frozen? ⟨gb, m * 2 + 1, none⟩ = false from zf.out)
            have HK2 := Aside.mk (show (we.drewN nq).heap[pb]? = some (.cells #[.int .i64 lo, .int .i64 hi] 30) from HK.out)
            have HO2 := Aside.mk (And.intro (HO.out.1.drewN nq) (HO.out.2.drewN nq))
            clear HO HK p0 p1
            generalize we.drewN nq = we at *
            have p0 : we.cell? ⟨pb, 0, none⟩ = some (.int .i64 lo) := (boxC HK2.out 0).1
            have p1 : we.cell? ⟨pb, 1, none⟩ = some (.int .i64 hi) := (boxC HK2.out 1).1
            have hrd : Aside (kSpan.rd H1 ⟨lo, hi⟩ (#[Value.int .i64 lo, .int .i64 hi] : Array Value).toList) := ⟨rfl⟩
            have hbyt : Aside (((out ++ [⟨tl, th⟩] : List Span).length + 1) * 16 ≤ 140737488355328 ∧ (out ++ [⟨tl, th⟩] : List Span).length + 1 ≤ maxLen) := ⟨by have := hdone.out.1; omega, by have := hdone.out.1; unfold maxLen; omega⟩
            have hbs := Aside.mk HO2.out.2.size
            go_upto_region 16 with (at_builtin; go_must (refine wpList_app1 kSpan rfl (.tmp 77) (.tmp 79) 23 rfl 30 Try.underlying23 info30 rfl HO2.out.1 HO2.out.2.sat rfl rfl rfl hrd.out hbyt.out.1 hbyt.out.2 hbs.out ?_); intro v8 w8 ho8 hg8 hs8 hn8)
            have hx8 : Ext H H1 w w8 := HO2.out.2.grown hg8 (fun b hb => ⟨(HO2.out.1.blk hb).1, (HO2.out.1.blk hb).2.2⟩)
            obtain ⟨A8, c9, rfl, -, -, -, -⟩ := ho8.form
            go_wp2_with fail
            go_roundw
            case rel => exact ⟨k + 1, _, _, _, out ++ [⟨tl, th⟩] ++ [⟨lo, hi⟩], by omega, by go_num, rfl, ⟨ho8⟩, ⟨hx8⟩, (by have := hdone.out.1; simp at this ⊢ <;> omega), ⟨rfl, (by rw [hsn.out, addS_snoc, if_neg HJ.out] <;> rfl)⟩⟩
            case measure => simp [intOf]; omega
      · obtain rfl : k = l.length := by omega
        have hq := hdone.out.2
        rw [List.take_length] at hq
        subst hq
        go_wp2_with fail
        go_ret
        exact HFIN.out _ _ (ho.out.down hbl.out.le) hbl.out.below
end Go.Proofs.Ytbpophdfnlagdaa.B
