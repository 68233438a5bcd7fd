/- Contract: runeset.join. -/
import Derived.Test.YtbpophdfnlagdaaZe
import Derived.Test.YtbpophdfnlagdaaRi
namespace Go.Proofs.Ytbpophdfnlagdaa.B
set_option linter.unusedVariables false
set_option linter.unusedSimpArgs false
open Go Go.RowKit Classical

theorem Own.putHi {e : TypeId} {w : World} {base : Nat} {H : PH} {g c n : Nat} {out : List Span} {t : Span} (h : Own kSpan e w base H (.slice (some ⟨g, 0, none⟩) n c) (out ++ [t])) (y : Int) :
    Own kSpan e (w.setCell ⟨g, out.length * 2 + 1, none⟩ (.int .i64 y)) base H (.slice (some ⟨g, 0, none⟩) n c) (out ++ [⟨t.lo, y⟩]) ∧ w.grownBy (w.setCell ⟨g, out.length * 2 + 1, none⟩ (.int .i64 y)) (some g) := by
  obtain ⟨cs, h1, h2, h3⟩ := h
  have hn : n = (out ++ [t]).length := by
    rcases h2.2 with ⟨h4, -⟩ | ⟨g', cap, cur, e2, -⟩
    · cases h4
    · cases e2; rfl
  subst hn
  obtain ⟨h4, h5⟩ := World.ownsRow.stored h2 (out.length * 2 + 1) (.int .i64 y)
  refine ⟨⟨cs.set (out.length * 2 + 1) (.int .i64 y), ?_, by simpa using h4, h3⟩, h5⟩
  rw [encL_flat.1 h1, encL_flat]
  simp only [List.flatMap_append, List.flatMap_cons, List.flatMap_nil, List.append_nil]
  rw [List.set_append_right _ _ (by rw [flat_len]; omega), flat_len, show out.length * 2 + 1 - out.length * 2 = 1 by omega]
  rfl
theorem Own.down {e : TypeId} {w : World} {base : Nat} {H H1 : PH} {v : Value} {l : List Span} (h : Own kSpan e w base H1 v l) (hle : H.le H1) : Own kSpan e w base H v l := by
  obtain ⟨cs, h1, h2, h3⟩ := h
  refine ⟨cs, encL_flat.2 (encL_flat.1 h1), h2, fun b o hb => ?_⟩
  cases hh : H b o with
  | none => rfl
  | some u => have := hle b o u hh; rw [h3 b o hb] at this; cases this
theorem joinS_good {l : List Span} (hg : ∀ s ∈ l, goodSpan s = true) (hp : l.Pairwise (fun a b => a.lo ≤ b.lo)) (k : Nat) {out : List Span} {t : Span} (h : joinS (l.take k) = out ++ [t]) : 0 ≤ t.lo ∧ t.lo ≤ t.hi ∧ t.hi ≤ 1114111 := by
  obtain ⟨h1, -⟩ := joinS_ok (l.take k) (fun s hs => hg s (List.mem_of_mem_take hs)) (hp.sublist (List.take_sublist k l))
  rw [h] at h1
  obtain ⟨g1, g2⟩ := Can_lastgood h1
  have := (h1.low (r := t.lo) (In_append.2 (Or.inr (In_cons.2 (Or.inl ⟨Int.le_refl _, g1⟩))))).1
  exact ⟨by omega, g1, g2⟩

set_option maxRecDepth 100000 in
set_option maxHeartbeats 8000000 in
theorem join_any (H : PH) (x : List Span) (A : Option Addr) (c : Nat) (w : World) (hx : SlR kSpan H A x.length c x) (hs : Sat w H) (hlx : x.length ≤ 1000) (hg : ∀ s ∈ x, goodSpan s = true) :
    Calls Try.prog 57 #[.slice A x.length c] w fun e w' => ∃ l, l.Perm x ∧ l.Pairwise (fun a b => a.lo ≤ b.lo) ∧ RetO H w (joinS l) e w' := by
  replace hg := Aside.mk hg
  go_enter Try.func57, Try.ntmps57
  go_wp2_with fail
  refine (cloneSpan_any H x A _ c w hx hs (by omega)).mono ?_
  rintro e w1 ⟨v, rfl, ho, hb⟩
  have HO := Aside.mk (And.intro ho hb)
  clear ho hb
  go_wp2_with fail
  refine (sortJoin x HO.out.1 (by omega)).mono ?_
  rintro e w2 ⟨rfl, l, hp, hpw, ho2, hg2⟩
  have hb2 := HO.out.1.belowG HO.out.2 (Nat.le_refl _) hg2
  obtain ⟨H1, hx1, hle, ⟨A1, c1, e1, h1⟩, -⟩ := ho2.freezeE (Ext.of_below hs hb2) (Nat.le_refl _) (by have := hp.length_eq; omega)
  cases e1
  have hll := hp.length_eq
  have HP := Aside.mk (And.intro hp (And.intro hpw (fun s hs => hg.out s (hp.mem_iff.1 hs))))
  clear hp hpw ho2 hg2 hb2 hle HO hx
  have hc1 := h1.2.1
  go_wp2_with fail
  go_loopw [3, 13] (fun o i wr => ∃ (k : Nat) (A5 : Option Addr) (n5 c5 : Nat) (done : List Span), k ≤ l.length ∧ i = .int .i64 k ∧ o = .slice A5 n5 c5 ∧ Aside (Own kSpan 30 wr w.heap.size H1 o done) ∧ Aside (Ext H H1 w wr) ∧ n5 ≤ k ∧ Aside (n5 = done.length ∧ done = joinS (l.take k))) (fun _ i _ => l.length - (intOf i).toNat)
  case atStart => exact ⟨0, _, _, _, [], by omega, rfl, rfl, ⟨Own.nil _ _ _ _ _⟩, ⟨hx1⟩, by omega, ⟨rfl, rfl⟩⟩
  case round =>
    obtain ⟨k, A5, n5, c5, done, hk, rfl, rfl, ho, hbl, hnk, hdone⟩ := hrel
    by_cases hkx : k < l.length
    · obtain ⟨b1, o1, lo, hi, rfl, e1, g0, g1⟩ := cell_span h1 hbl.out.sat k hkx
      have hlt1 : (k : Int) < (l.length : Int) := by omega
      have hsn : joinS (l.take (k + 1)) = addS done ⟨lo, hi⟩ := by rw [List.take_succ_eq_append_getElem hkx, joinS_snoc, e1, hdone.out.2]
      have hgs := HP.out.2.2 l[k] (List.getElem_mem hkx)
      rw [e1] at hgs
      have hgs' : 0 ≤ lo ∧ lo ≤ hi ∧ hi ≤ 1114111 := by simp [goodSpan] at hgs; omega
      obtain ⟨r1, r2, r3⟩ := hgs'
      clear hgs
      replace hsn := Aside.mk hsn
      clear e1
      go_upto_region 7 with fail
      clear g0 g1
      have HO := Aside.mk (And.intro (ho.out.alloc hbl.out.sat (.cells #[.int .i64 lo, .int .i64 hi] 30)) (hbl.out.alloc (.cells #[.int .i64 lo, .int .i64 hi] 30)))
      have HK := heap_alloc_new wr (.cells #[.int .i64 lo, .int .i64 hi] 30)
      generalize (wr.alloc (.cells #[.int .i64 lo, .int .i64 hi] 30)) = we at *
      clear ho hbl
      replace HK := Aside.mk HK
      generalize wr.heap.size = pb at *
      rcases List.eq_nil_or_concat done with hnil | ⟨out, t, hcat⟩
      · subst hnil
        obtain rfl : n5 = 0 := hdone.out.1
        have p0 : we.cell? ⟨pb, 0, none⟩ = some (.int .i64 lo) := (boxC HK.out 0).1
        have p1 : we.cell? ⟨pb, 1, none⟩ = some (.int .i64 hi) := (boxC HK.out 1).1
        have hd : decide ((0 : Int) > 0) = false := by decide
        go_upto_region 8 with fail
        go_quiet (fail)

        have HK2 := Aside.mk (show (we.drewN nq).heap[pb]? = some (.cells #[.int .i64 lo, .int .i64 hi] 30) from HK.out)
        have HO2 := Aside.mk (And.intro (HO.out.1.drewN nq) (HO.out.2.drewN nq))
        clear HO HK p0 p1
        generalize we.drewN nq = we at *
        have p0 : we.cell? ⟨pb, 0, none⟩ = some (.int .i64 lo) := (boxC HK2.out 0).1
        have p1 : we.cell? ⟨pb, 1, none⟩ = some (.int .i64 hi) := (boxC HK2.out 1).1
        have hrd : Aside (kSpan.rd H1 ⟨lo, hi⟩ (#[Value.int .i64 lo, .int .i64 hi] : Array Value).toList) := ⟨rfl⟩
        have hbyt : Aside ((([] : List Span).length + 1) * 16 ≤ 140737488355328 ∧ ([] : List Span).length + 1 ≤ maxLen) := ⟨by have := hdone.out.1; omega, by have := hdone.out.1; unfold maxLen; omega⟩
        have hbs := Aside.mk HO2.out.2.size
        go_upto_region 11 with (at_builtin; go_must (refine wpList_app1 kSpan rfl (.tmp 47) (.tmp 49) 23 rfl 30 Try.underlying23 info30 rfl HO2.out.1 HO2.out.2.sat rfl rfl rfl hrd.out hbyt.out.1 hbyt.out.2 hbs.out ?_); intro v8 w8 ho8 hg8 hs8 hn8)
        have hx8 : Ext H H1 w w8 := HO2.out.2.grown hg8 (fun b hb => ⟨(HO2.out.1.blk hb).1, (HO2.out.1.blk hb).2.2⟩)
        obtain ⟨A8, c9, rfl, -, -, -, -⟩ := ho8.form
        go_wp2_with fail
        go_roundw
        case rel => exact ⟨k + 1, _, _, _, [] ++ [⟨lo, hi⟩], by omega, by go_num, rfl, ⟨ho8⟩, ⟨hx8⟩, (by have := hdone.out.1; simp at this ⊢ <;> omega), ⟨rfl, (by rw [hsn.out, addS_nil] <;> rfl)⟩⟩
        case measure => simp [intOf]; omega
      · rw [List.concat_eq_append] at hcat
        subst hcat
        have hgt9 := joinS_good HP.out.2.2 HP.out.2.1 k hdone.out.2.symm
        obtain ⟨s1, s2, s3⟩ := hgt9
        obtain ⟨m, rfl⟩ : ∃ m, n5 = m + 1 := ⟨out.length, by have := hdone.out.1; simpa using this⟩
        have hm : m = out.length := by have := hdone.out.1; simpa using this
        obtain ⟨gb, c6, tcs, e6, -, -, hrt, hct, hfz⟩ := HO.out.1.cells out.length (by simp)
        have e7 : (out ++ [t])[out.length]'(by simp) = t := by simp
        rw [e7] at hrt
        obtain rfl : tcs = [.int .i64 t.lo, .int .i64 t.hi] := hrt
        simp only [Value.slice.injEq] at e6
        obtain ⟨rfl, -, rfl⟩ := e6
        have z1 : we.cell? ⟨gb, m * 2 + 1, none⟩ = some (.int .i64 t.hi) := by rw [hm]; exact hct 1 _ rfl
        have zf : Aside (we.frozen? ⟨gb, m * 2 + 1, none⟩ = false) := ⟨hfz _⟩
        obtain ⟨tl, th⟩ := t
        replace z1 : we.cell? ⟨gb, m * 2 + 1, none⟩ = some (.int .i64 th) := z1
        have s3' : th ≤ 1114111 := s3
        have s2' : tl ≤ th := s2
        have s1' : 0 ≤ tl := s1
        clear s1 s2 s3
        replace hm := Aside.mk hm
        clear hct hfz e7
        have p0 : we.cell? ⟨pb, 0, none⟩ = some (.int .i64 lo) := (boxC HK.out 0).1
        have p1 : we.cell? ⟨pb, 1, none⟩ = some (.int .i64 hi) := (boxC HK.out 1).1
        have hd : decide ((m : Int) + 1 > 0) = true := by simp
        have hwm : IntKind.i64.wrap (m : Int) = (m : Int) := IntWalk.i64_in _ (by omega)
        have hml : (m : Int) < (m : Int) + 1 := by omega
        go_upto_region 8 with fail
        by_cases hj : lo ≤ th + 1
        · have HJ := Aside.mk hj
          go_quiet (fail)
          replace z1 : (we.drewN nq).cell? ⟨gb, m * 2 + 1, none⟩ = some (.int .i64 th) := z1
          replace zf := Aside.mk (show (we.drewN nq).frozen? ⟨gb, m * 2 + 1, none⟩ = false from zf.out)
          have HK2 := Aside.mk (show (we.drewN nq).heap[pb]? = some (.cells #[.int .i64 lo, .int .i64 hi] 30) from HK.out)
          have HO2 := Aside.mk (And.intro (HO.out.1.drewN nq) (HO.out.2.drewN nq))
          clear HO HK p0 p1
          generalize we.drewN nq = we at *
          have p1 : we.cell? ⟨pb, 1, none⟩ = some (.int .i64 hi) := (boxC HK2.out 1).1
          go_upto_region 9 with fail
          refine region_I (fun g H9 w9 => H9 = H1 ∧ (g 14 = none → w9 = we.drew) ∧ ((g 14).isSome = true → w9 = we.drew.setCell ⟨gb, m * 2 + 1, none⟩ (.int .i64 (max th hi)))) [14] 15 [33, 34, 35, 36, 37, 38, 39, 40, 41, 42, 43, 44, 45, 46] (by kernel_rfl) (by kernel_rfl) (by kernel_rfl) (by kernel_rfl) ⟨rfl, fun _ => rfl, fun h => by simp at h⟩ ?_
          refine regI_val (d := 33) (v := ?_) rfl rfl (Or.inl rfl) (fun ρ g wρ Hρ hρ => ?_) ?_; rotate_left
          · have k_c := hρ.const; have k_3 : ρ (.tmp 3) = .slice (some ⟨gb, 0, none⟩) (m + 1) c5 := hρ.old 3 (by kernel_rfl); (go_simp <;> with_reducible rfl)
          refine regI_val (d := 34) (v := ?_) rfl rfl (Or.inl rfl) (fun ρ g wρ Hρ hρ => ?_) ?_; rotate_left
          · have k_c := hρ.const; have k_6 : ρ (.tmp 6) = .int .i64 ((m + 1 : Nat) : Int) := hρ.old 6 (by kernel_rfl); (go_simp <;> with_reducible rfl)
          refine regI_val (d := 35) (v := ?_) rfl rfl (Or.inl rfl) (fun ρ g wρ Hρ hρ => ?_) ?_; rotate_left
          · have k_c := hρ.const; have k_34 : ρ (.tmp 34) = _ := hρ.dep 34 (by kernel_rfl); (go_simp <;> with_reducible rfl)
          refine regI_val (d := 36) (v := ?_) rfl rfl (Or.inl rfl) (fun ρ g wρ Hρ hρ => ?_) ?_; rotate_left
          · have k_c := hρ.const; have k_3 : ρ (.tmp 3) = .slice (some ⟨gb, 0, none⟩) (m + 1) c5 := hρ.old 3 (by kernel_rfl); (go_simp <;> with_reducible rfl)
          refine regI_val (d := 37) (v := ?_) rfl rfl (Or.inl rfl) (fun ρ g wρ Hρ hρ => ?_) ?_; rotate_left
          · have k_c := hρ.const; have k_6 : ρ (.tmp 6) = .int .i64 ((m + 1 : Nat) : Int) := hρ.old 6 (by kernel_rfl); (go_simp <;> with_reducible rfl)
          refine regI_val (d := 38) (v := ?_) rfl rfl (Or.inl rfl) (fun ρ g wρ Hρ hρ => ?_) ?_; rotate_left
          · have k_c := hρ.const; have k_37 : ρ (.tmp 37) = _ := hρ.dep 37 (by kernel_rfl); (go_simp <;> with_reducible rfl)
          refine regI_val (d := 39) (v := ?_) rfl rfl (Or.inl rfl) (fun ρ g wρ Hρ hρ => ?_) ?_; rotate_left
          · have k_c := hρ.const; have k_36 : ρ (.tmp 36) = _ := hρ.dep 36 (by kernel_rfl); have k_38 : ρ (.tmp 38) = _ := hρ.dep 38 (by kernel_rfl); (go_simp <;> with_reducible rfl)
          refine regI_val (d := 40) (v := ?_) rfl rfl (Or.inl rfl) (fun ρ g wρ Hρ hρ => ?_) ?_; rotate_left
          · have k_c := hρ.const; have k_39 : ρ (.tmp 39) = _ := hρ.dep 39 (by kernel_rfl); (go_simp <;> with_reducible rfl)
          refine regI_val (d := 41) (v := ?_) rfl rfl (Or.inl rfl) (fun ρ g wρ Hρ hρ => ?_) ?_; rotate_left
          · have k_c := hρ.const; have k_40 : ρ (.tmp 40) = _ := hρ.dep 40 (by kernel_rfl); have hwe := hρ.inv.2.1 (hρ.undone 14 (by kernel_rfl)); have p := show wρ.cell? ⟨gb, m * 2 + 1, none⟩ = some (.int .i64 th) from (by rw [hwe]; exact z1); (go_simp <;> with_reducible rfl)
          refine regI_val (d := 42) (v := ?_) rfl rfl (Or.inl rfl) (fun ρ g wρ Hρ hρ => ?_) ?_; rotate_left
          · have k_c := hρ.const; have k_5 : ρ (.tmp 5) = .pointer (some ⟨pb, 0, none⟩) := hρ.old 5 (by kernel_rfl); (go_simp <;> with_reducible rfl)
          refine regI_val (d := 43) (v := ?_) rfl rfl (Or.inl rfl) (fun ρ g wρ Hρ hρ => ?_) ?_; rotate_left
          · have k_c := hρ.const; have k_42 : ρ (.tmp 42) = _ := hρ.dep 42 (by kernel_rfl); have hwe := hρ.inv.2.1 (hρ.undone 14 (by kernel_rfl)); have p := show wρ.cell? ⟨pb, 1, none⟩ = some (.int .i64 hi) from (by rw [hwe]; exact p1); (go_simp <;> with_reducible rfl)
          refine regI_val (d := 44) (v := ?_) rfl rfl (Or.inl rfl) (fun ρ g wρ Hρ hρ => ?_) ?_; rotate_left
          · have k_c := hρ.const; have k_41 : ρ (.tmp 41) = _ := hρ.dep 41 (by kernel_rfl); have k_43 : ρ (.tmp 43) = _ := hρ.dep 43 (by kernel_rfl); (go_simp <;> with_reducible rfl)
          refine regI_val (d := 45) (v := ?_) rfl rfl (Or.inl rfl) (fun ρ g wρ Hρ hρ => ?_) ?_; rotate_left
          · have k_c := hρ.const; have k_33 : ρ (.tmp 33) = _ := hρ.dep 33 (by kernel_rfl); have k_35 : ρ (.tmp 35) = _ := hρ.dep 35 (by kernel_rfl); (go_simp <;> with_reducible rfl)
          refine regI_val (d := 46) (v := ?_) rfl rfl (Or.inl rfl) (fun ρ g wρ Hρ hρ => ?_) ?_; rotate_left
          · have k_c := hρ.const; have k_45 : ρ (.tmp 45) = _ := hρ.dep 45 (by kernel_rfl); (go_simp <;> with_reducible rfl)
          refine regI_store rfl rfl (Or.inl rfl) (fun ρ g wρ Hρ hρ => ?_) ?_
          · have k_c := hρ.const; have k_46 : ρ (.tmp 46) = _ := hρ.dep 46 (by kernel_rfl); have k_44 : ρ (.tmp 44) = _ := hρ.dep 44 (by kernel_rfl); obtain rfl := hρ.inv.2.1 hρ.here; have pf := zf.out; have p := z1; exact ⟨_, Hρ, (by go_simp <;> rfl), PH.le_refl _, ⟨hρ.inv.1, fun h => by simp [upd] at h, fun _ => rfl⟩⟩
          intro vs wv Hv gv hv F G
          obtain ⟨vx, gx, -⟩ := G 14 (by decide) rfl
          obtain ⟨-, -, hw9⟩ := hv
          obtain rfl := hw9 (by rw [gx]; rfl)
          clear F G gx hw9
          simp only [setAll, List.setIfInBounds_toArray, List.set_cons_zero, List.set_cons_succ, List.drop_succ_cons, List.drop_zero]
          have hput := HO2.out.1.putHi (max th hi)
          rw [← hm.out] at hput
          have hx9 : Ext H H1 w (we.drew.setCell ⟨gb, m * 2 + 1, none⟩ (.int .i64 (max th hi))) := (HO2.out.2.grown hput.2 (fun b hb => by cases hb; exact ⟨(HO2.out.1.blk (b := gb) rfl).1, (HO2.out.1.blk (b := gb) rfl).2.2⟩)).drew
          have ho9 := hput.1.drew
          clear hput p1 z1
          go_wp2_with fail
          go_roundw
          case rel => exact ⟨k + 1, _, _, _, out ++ [⟨tl, max th hi⟩], by omega, by go_num, rfl, ⟨ho9⟩, ⟨hx9⟩, by omega, ⟨by have := hdone.out.1; simpa using this, by rw [hsn.out, addS_snoc, if_pos HJ.out]⟩⟩
          case measure => simp [intOf]; omega
        · have HJ := Aside.mk hj
          go_quiet (fail)
          replace z1 : (we.drewN nq).cell? ⟨gb, m * 2 + 1, none⟩ = some (.int .i64 th) := z1
          replace zf := Aside.mk (show (we.drewN nq).frozen? ⟨gb, m * 2 + 1, none⟩ = false from zf.out)
          have HK2 := Aside.mk (show (we.drewN nq).heap[pb]? = some (.cells #[.int .i64 lo, .int .i64 hi] 30) from HK.out)
          have HO2 := Aside.mk (And.intro (HO.out.1.drewN nq) (HO.out.2.drewN nq))
          clear HO HK p0 p1
          generalize we.drewN nq = we at *
          have p0 : we.cell? ⟨pb, 0, none⟩ = some (.int .i64 lo) := (boxC HK2.out 0).1
          have p1 : we.cell? ⟨pb, 1, none⟩ = some (.int .i64 hi) := (boxC HK2.out 1).1
          have hrd : Aside (kSpan.rd H1 ⟨lo, hi⟩ (#[Value.int .i64 lo, .int .i64 hi] : Array Value).toList) := ⟨rfl⟩
          have hbyt : Aside (((out ++ [⟨tl, th⟩] : List Span).length + 1) * 16 ≤ 140737488355328 ∧ (out ++ [⟨tl, th⟩] : List Span).length + 1 ≤ maxLen) := ⟨by have := hdone.out.1; omega, by have := hdone.out.1; unfold maxLen; omega⟩
          have hbs := Aside.mk HO2.out.2.size
          go_upto_region 11 with (at_builtin; go_must (refine wpList_app1 kSpan rfl (.tmp 47) (.tmp 49) 23 rfl 30 Try.underlying23 info30 rfl HO2.out.1 HO2.out.2.sat rfl rfl rfl hrd.out hbyt.out.1 hbyt.out.2 hbs.out ?_); intro v8 w8 ho8 hg8 hs8 hn8)
          have hx8 : Ext H H1 w w8 := HO2.out.2.grown hg8 (fun b hb => ⟨(HO2.out.1.blk hb).1, (HO2.out.1.blk hb).2.2⟩)
          obtain ⟨A8, c9, rfl, -, -, -, -⟩ := ho8.form
          go_wp2_with fail
          go_roundw
          case rel => exact ⟨k + 1, _, _, _, out ++ [⟨tl, th⟩] ++ [⟨lo, hi⟩], by omega, by go_num, rfl, ⟨ho8⟩, ⟨hx8⟩, (by have := hdone.out.1; simp at this ⊢ <;> omega), ⟨rfl, (by rw [hsn.out, addS_snoc, if_neg HJ.out] <;> rfl)⟩⟩
          case measure => simp [intOf]; omega
    · obtain rfl : k = l.length := by omega
      have hq := hdone.out.2
      rw [List.take_length] at hq
      subst hq
      go_wp2_with fail
      go_ret
      exact ⟨l, HP.out.1, HP.out.2.1, _, rfl, ho.out.down hbl.out.le, hbl.out.below⟩
end Go.Proofs.Ytbpophdfnlagdaa.B
