/- The walk of RunesetBoole. -/
import Derived.Test.YtbpophdfnlagdaaZj
namespace Go.Proofs.Ytbpophdfnlagdaa.B
set_option linter.unusedVariables false
set_option linter.unusedSimpArgs false
open Go Go.RowKit Classical

theorem not_ok {x : List Span} (h : setErr x = 0) : Can (-2) (othS 0 x) ∧ (∀ r, In (othS 0 x) r ↔ 0 ≤ r ∧ r ≤ 1114111 ∧ ¬ In x r) ∧ (othS 0 x).length ≤ x.length + 1 :=
  othS_ok x 0 (set_good h).2.1
theorem com_ok {x y : List Span} (h : setErr x = 0) (k : setErr y = 0) : Can (-2) (comS x y) ∧ (∀ r, In (comS x y) r ↔ In x r ∧ In y r) ∧ (comS x y).length ≤ x.length + y.length :=
  comS_ok _ x y _ _ (Nat.le_refl _) (set_good h).2.1 (set_good k).2.1
theorem can_err {x : List Span} {n : Nat} (h : Can (-2) x) (hl : x.length ≤ n) (hn : n ≤ 16) : setErr x = 0 := setErr_can.2 ⟨by omega, h⟩
theorem in_range {x : List Span} (h : setErr x = 0) {r : Int} (hr : In x r) : 0 ≤ r ∧ r ≤ 1114111 := by
  have := (set_good h).2.1.low hr; omega
theorem eq_of {x y : List Span} (h : setErr x = 0) (k : setErr y = 0) (hr : ∀ r, In x r ↔ In y r) : x = y := can_ext (set_good h).2.1 (set_good k).2.1 hr
theorem size_rng {x : List Span} (h : setErr x = 0) : 0 ≤ sizeS x ∧ sizeS x ≤ 17825792 := by
  obtain ⟨h1, -, h3⟩ := set_good h
  have : ∀ l : List Span, (∀ s ∈ l, 0 ≤ s.lo ∧ s.lo ≤ s.hi ∧ s.hi ≤ 1114111) → 0 ≤ sizeS l ∧ sizeS l ≤ l.length * 1114112 := by
    intro l
    induction l with
    | nil => intro _; simp [sizeS]
    | cons s l ih =>
      intro hg
      have g1 := hg s (by simp)
      have g2 := ih (fun t ht => hg t (by simp [ht]))
      rw [sizeS, List.length_cons]
      omega
  have h4 := this x h3
  omega

set_option maxRecDepth 100000 in
set_option maxHeartbeats 16000000 in
theorem runesetBoole_any (H : PH) (us vs : List Int) (A B : Option Addr) (c d : Nat) (w : World) (ha : SlR (kI .i64) H A us.length c us) (hb : SlR (kI .i64) H B vs.length d vs) (hs : Sat w H) :
    Calls Try.prog 3 #[.slice A us.length c, .slice B vs.length d] w fun e w' => e = .returned (.bool true) ∧ Below w.heap.size w w' := by
  have hx := Aside.mk (Ext.refl hs)
  replace ha := Aside.mk ha
  replace hb := Aside.mk hb
  clear hs
  go_enter Try.func3, Try.ntmps3
  go_wp2_with fail
  refine (kspan_any _ 5 1114111 _ hx.out.sat).mono ?_
  intro e w1 hr
  obtain ⟨H1, Aq, cq, rfl, hx1, fq⟩ := hr.frozen hx.out.sat (by simp)
  have hle := hx1.le
  replace ha := Aside.mk (ha.out.mono hle)
  replace hb := Aside.mk (hb.out.mono hle)
  replace hx := Aside.mk (hx.out.trans hx1)
  clear hle hx1
  replace fq := Aside.mk fq
  go_wp2_with fail
  have Eq := Aside.mk (show setErr [⟨5, 1114111⟩] = 0 by simp [setErr, setGo, goodSpan])
  have hN := not_any _ [⟨5, 1114111⟩] Aq cq _ fq.out hx.out.sat Eq.out (by simp)
  rw [show othS 0 [⟨5, 1114111⟩] = [⟨0, 4⟩] by simp [othS]] at hN
  refine (hN).mono ?_
  rintro e w2 ⟨H2, Az, cz, rfl, hx2, fz⟩
  have hle := hx2.le
  replace ha := Aside.mk (ha.out.mono hle)
  replace hb := Aside.mk (hb.out.mono hle)
  replace fq := Aside.mk (fq.out.mono hle)
  replace hx := Aside.mk (hx.out.trans hx2)
  clear hle hx2
  replace fz := Aside.mk fz
  clear hN fq Eq
  go_wp2_with fail
  refine (kspan_any _ 0 4 _ hx.out.sat).mono ?_
  intro e w3 hr
  obtain ⟨H3, At, ct, rfl, hx3, ft⟩ := hr.frozen hx.out.sat (by simp)
  have hle := hx3.le
  replace ha := Aside.mk (ha.out.mono hle)
  replace hb := Aside.mk (hb.out.mono hle)
  replace fz := Aside.mk (fz.out.mono hle)
  replace hx := Aside.mk (hx.out.trans hx3)
  clear hle hx3
  replace ft := Aside.mk ft
  go_wp2_with fail
  have hE := eqSpans_any _ _ _ _ _ _ _ _ _ _ fz.out ft.out hx.out.sat
  rw [decide_eq_true rfl] at hE
  refine hE.mono ?_
  rintro e w4 ⟨rfl, hb9⟩
  clear hE fz ft
  replace hx := Aside.mk (hx.out.then_below hb9)
  clear hb9
  go_wp2_with fail
  refine (setOf_any _ us _ _ _ ha.out hx.out.sat).mono ?_
  rintro e w5 ⟨x, hpx, hr⟩
  obtain ⟨Ex, Lx⟩ := hpx
  replace Ex := Aside.mk Ex
  replace Lx := Aside.mk Lx
  obtain ⟨H5, Ax, cx, rfl, hx5, fx⟩ := hr.frozen hx.out.sat (by have := Lx.out; omega)
  have hle := hx5.le
  replace ha := Aside.mk (ha.out.mono hle)
  replace hb := Aside.mk (hb.out.mono hle)
  replace hx := Aside.mk (hx.out.trans hx5)
  clear hle hx5
  replace fx := Aside.mk fx
  go_wp2_with fail
  refine (setOf_any _ vs _ _ _ hb.out hx.out.sat).mono ?_
  rintro e w6 ⟨y, hpy, hr⟩
  obtain ⟨Ey, Ly⟩ := hpy
  replace Ey := Aside.mk Ey
  replace Ly := Aside.mk Ly
  obtain ⟨H6, Ay, cy, rfl, hx6, fy⟩ := hr.frozen hx.out.sat (by have := Ly.out; omega)
  have hle := hx6.le
  replace ha := Aside.mk (ha.out.mono hle)
  replace hb := Aside.mk (hb.out.mono hle)
  replace fx := Aside.mk (fx.out.mono hle)
  replace hx := Aside.mk (hx.out.trans hx6)
  clear hle hx6
  replace fy := Aside.mk fy
  go_wp2_with fail
  clear ha hb
  refine (union_any _ x y _ _ _ _ _ fx.out fy.out hx.out.sat Ex.out Ey.out (by have := Lx.out; have := Ly.out; omega)).mono ?_
  rintro e w7 ⟨u, Mu, H7, Au, cu, rfl, hx7, fu⟩
  have hle := hx7.le
  replace fx := Aside.mk (fx.out.mono hle)
  replace fy := Aside.mk (fy.out.mono hle)
  replace hx := Aside.mk (hx.out.trans hx7)
  clear hle hx7
  replace fu := Aside.mk fu
  replace Mu := Aside.mk Mu
  have Lu := Aside.mk (show u.length ≤ 8 by have := Mu.out.2.2; have := Lx.out; have := Ly.out; omega)
  have Eu := Aside.mk (can_err Mu.out.1 Lu.out (by omega))
  go_wp2_with fail
  obtain ⟨i, hi⟩ : ∃ l, l = comS x y := ⟨_, rfl⟩
  have hN := both_any _ x y _ _ _ _ _ fx.out fy.out hx.out.sat Ex.out Ey.out (by have := Lx.out; have := Ly.out; omega)
  rw [← hi] at hN
  replace hi := Aside.mk hi
  refine (hN).mono ?_
  rintro e w8 ⟨H8, Ai, ci, rfl, hx8, fi⟩
  have hle := hx8.le
  replace fx := Aside.mk (fx.out.mono hle)
  replace fy := Aside.mk (fy.out.mono hle)
  replace fu := Aside.mk (fu.out.mono hle)
  replace hx := Aside.mk (hx.out.trans hx8)
  clear hle hx8
  replace fi := Aside.mk fi
  clear hN
  have Mi := Aside.mk (com_ok Ex.out Ey.out)
  rw [← hi.out] at Mi
  have Li := Aside.mk (show i.length ≤ 8 by have := Mi.out.2.2; have := Lx.out; have := Ly.out; omega)
  have Ei := Aside.mk (can_err Mi.out.1 Li.out (by omega))
  go_wp2_with fail
  obtain ⟨d_, hd_⟩ : ∃ l, l = comS x (othS 0 y) := ⟨_, rfl⟩
  have hN := minus_any _ x y _ _ _ _ _ fx.out fy.out hx.out.sat Ex.out Ey.out (by have := Lx.out; have := Ly.out; omega)
  rw [← hd_] at hN
  replace hd_ := Aside.mk hd_
  refine (hN).mono ?_
  rintro e w9 ⟨H9, Ad_, cd_, rfl, hx9, fd_⟩
  have hle := hx9.le
  replace fx := Aside.mk (fx.out.mono hle)
  replace fy := Aside.mk (fy.out.mono hle)
  replace fu := Aside.mk (fu.out.mono hle)
  replace fi := Aside.mk (fi.out.mono hle)
  replace hx := Aside.mk (hx.out.trans hx9)
  clear hle hx9
  replace fd_ := Aside.mk fd_
  clear hN
  go_wp2_with fail
  obtain ⟨nx, hnx⟩ : ∃ l, l = othS 0 x := ⟨_, rfl⟩
  have hN := not_any _ x _ _ _ fx.out hx.out.sat Ex.out (by have := Lx.out; omega)
  rw [← hnx] at hN
  replace hnx := Aside.mk hnx
  refine (hN).mono ?_
  rintro e w10 ⟨H10, Anx, cnx, rfl, hx10, fnx⟩
  have hle := hx10.le
  replace fx := Aside.mk (fx.out.mono hle)
  replace fy := Aside.mk (fy.out.mono hle)
  replace fu := Aside.mk (fu.out.mono hle)
  replace fi := Aside.mk (fi.out.mono hle)
  replace fd_ := Aside.mk (fd_.out.mono hle)
  replace hx := Aside.mk (hx.out.trans hx10)
  clear hle hx10
  replace fnx := Aside.mk fnx
  clear hN
  have Mnx := Aside.mk (not_ok Ex.out)
  rw [← hnx.out] at Mnx
  have Lnx := Aside.mk (show nx.length ≤ 5 by have := Mnx.out.2.2; have := Lx.out; omega)
  have Enx := Aside.mk (can_err Mnx.out.1 Lnx.out (by omega))
  go_wp2_with fail
  obtain ⟨ny, hny⟩ : ∃ l, l = othS 0 y := ⟨_, rfl⟩
  have hN := not_any _ y _ _ _ fy.out hx.out.sat Ey.out (by have := Ly.out; omega)
  rw [← hny] at hN
  replace hny := Aside.mk hny
  refine (hN).mono ?_
  rintro e w11 ⟨H11, Any, cny, rfl, hx11, fny⟩
  have hle := hx11.le
  replace fx := Aside.mk (fx.out.mono hle)
  replace fy := Aside.mk (fy.out.mono hle)
  replace fu := Aside.mk (fu.out.mono hle)
  replace fi := Aside.mk (fi.out.mono hle)
  replace fd_ := Aside.mk (fd_.out.mono hle)
  replace fnx := Aside.mk (fnx.out.mono hle)
  replace hx := Aside.mk (hx.out.trans hx11)
  clear hle hx11
  replace fny := Aside.mk fny
  clear hN
  have Mny := Aside.mk (not_ok Ey.out)
  rw [← hny.out] at Mny
  have Lny := Aside.mk (show ny.length ≤ 5 by have := Mny.out.2.2; have := Ly.out; omega)
  have Eny := Aside.mk (can_err Mny.out.1 Lny.out (by omega))
  go_wp2_with fail
  obtain ⟨nu, hnu⟩ : ∃ l, l = othS 0 u := ⟨_, rfl⟩
  have hN := not_any _ u _ _ _ fu.out hx.out.sat Eu.out (by have := Lu.out; omega)
  rw [← hnu] at hN
  replace hnu := Aside.mk hnu
  refine (hN).mono ?_
  rintro e w12 ⟨H12, Anu, cnu, rfl, hx12, fnu⟩
  have hle := hx12.le
  replace fx := Aside.mk (fx.out.mono hle)
  replace fy := Aside.mk (fy.out.mono hle)
  replace fu := Aside.mk (fu.out.mono hle)
  replace fi := Aside.mk (fi.out.mono hle)
  replace fd_ := Aside.mk (fd_.out.mono hle)
  replace fnx := Aside.mk (fnx.out.mono hle)
  replace fny := Aside.mk (fny.out.mono hle)
  replace hx := Aside.mk (hx.out.trans hx12)
  clear hle hx12
  replace fnu := Aside.mk fnu
  clear hN
  have Mnu := Aside.mk (not_ok Eu.out)
  rw [← hnu.out] at Mnu
  have Lnu := Aside.mk (show nu.length ≤ 9 by have := Mnu.out.2.2; have := Lu.out; omega)
  have Enu := Aside.mk (can_err Mnu.out.1 Lnu.out (by omega))
  go_wp2_with fail
  obtain ⟨bk, hbk⟩ : ∃ l, l = othS 0 nx := ⟨_, rfl⟩
  have hN := not_any _ nx _ _ _ fnx.out hx.out.sat Enx.out (by have := Lnx.out; omega)
  rw [← hbk] at hN
  replace hbk := Aside.mk hbk
  refine (hN).mono ?_
  rintro e w13 ⟨H13, Abk, cbk, rfl, hx13, fbk⟩
  have hle := hx13.le
  replace fx := Aside.mk (fx.out.mono hle)
  replace fy := Aside.mk (fy.out.mono hle)
  replace fu := Aside.mk (fu.out.mono hle)
  replace fi := Aside.mk (fi.out.mono hle)
  replace fd_ := Aside.mk (fd_.out.mono hle)
  replace fnx := Aside.mk (fnx.out.mono hle)
  replace fny := Aside.mk (fny.out.mono hle)
  replace fnu := Aside.mk (fnu.out.mono hle)
  replace hx := Aside.mk (hx.out.trans hx13)
  clear hle hx13
  replace fbk := Aside.mk fbk
  clear hN
  have Mbk := Aside.mk (not_ok Enx.out)
  rw [← hbk.out] at Mbk
  have Lbk := Aside.mk (show bk.length ≤ 6 by have := Mbk.out.2.2; have := Lnx.out; omega)
  have Ebk := Aside.mk (can_err Mbk.out.1 Lbk.out (by omega))
  go_wp2_with fail
  obtain ⟨bo, hbo⟩ : ∃ l, l = comS nx ny := ⟨_, rfl⟩
  have hN := both_any _ nx ny _ _ _ _ _ fnx.out fny.out hx.out.sat Enx.out Eny.out (by have := Lnx.out; have := Lny.out; omega)
  rw [← hbo] at hN
  replace hbo := Aside.mk hbo
  refine (hN).mono ?_
  rintro e w14 ⟨H14, Abo, cbo, rfl, hx14, fbo⟩
  have hle := hx14.le
  replace fx := Aside.mk (fx.out.mono hle)
  replace fy := Aside.mk (fy.out.mono hle)
  replace fu := Aside.mk (fu.out.mono hle)
  replace fi := Aside.mk (fi.out.mono hle)
  replace fd_ := Aside.mk (fd_.out.mono hle)
  replace fnx := Aside.mk (fnx.out.mono hle)
  replace fny := Aside.mk (fny.out.mono hle)
  replace fnu := Aside.mk (fnu.out.mono hle)
  replace fbk := Aside.mk (fbk.out.mono hle)
  replace hx := Aside.mk (hx.out.trans hx14)
  clear hle hx14
  replace fbo := Aside.mk fbo
  clear hN
  have Mbo := Aside.mk (com_ok Enx.out Eny.out)
  rw [← hbo.out] at Mbo
  have Lbo := Aside.mk (show bo.length ≤ 10 by have := Mbo.out.2.2; have := Lnx.out; have := Lny.out; omega)
  have Ebo := Aside.mk (can_err Mbo.out.1 Lbo.out (by omega))
  go_wp2_with fail
  obtain ⟨le_, hle_⟩ : ∃ l, l = comS x ny := ⟨_, rfl⟩
  have hN := both_any _ x ny _ _ _ _ _ fx.out fny.out hx.out.sat Ex.out Eny.out (by have := Lx.out; have := Lny.out; omega)
  rw [← hle_] at hN
  replace hle_ := Aside.mk hle_
  refine (hN).mono ?_
  rintro e w15 ⟨H15, Ale_, cle_, rfl, hx15, fle_⟩
  have hle := hx15.le
  replace fx := Aside.mk (fx.out.mono hle)
  replace fy := Aside.mk (fy.out.mono hle)
  replace fu := Aside.mk (fu.out.mono hle)
  replace fi := Aside.mk (fi.out.mono hle)
  replace fd_ := Aside.mk (fd_.out.mono hle)
  replace fnx := Aside.mk (fnx.out.mono hle)
  replace fny := Aside.mk (fny.out.mono hle)
  replace fnu := Aside.mk (fnu.out.mono hle)
  replace fbk := Aside.mk (fbk.out.mono hle)
  replace fbo := Aside.mk (fbo.out.mono hle)
  replace hx := Aside.mk (hx.out.trans hx15)
  clear hle hx15
  replace fle_ := Aside.mk fle_
  clear hN
  have Mle_ := Aside.mk (com_ok Ex.out Eny.out)
  rw [← hle_.out] at Mle_
  have Lle_ := Aside.mk (show le_.length ≤ 9 by have := Mle_.out.2.2; have := Lx.out; have := Lny.out; omega)
  have Ele_ := Aside.mk (can_err Mle_.out.1 Lle_.out (by omega))
  go_wp2_with fail
  refine (union_any _ x i _ _ _ _ _ fx.out fi.out hx.out.sat Ex.out Ei.out (by have := Lx.out; have := Li.out; omega)).mono ?_
  rintro e w16 ⟨al, Mal, H16, Aal, cal, rfl, hx16, fal⟩
  have hle := hx16.le
  replace fx := Aside.mk (fx.out.mono hle)
  replace fy := Aside.mk (fy.out.mono hle)
  replace fu := Aside.mk (fu.out.mono hle)
  replace fi := Aside.mk (fi.out.mono hle)
  replace fd_ := Aside.mk (fd_.out.mono hle)
  replace fnx := Aside.mk (fnx.out.mono hle)
  replace fny := Aside.mk (fny.out.mono hle)
  replace fnu := Aside.mk (fnu.out.mono hle)
  replace fbk := Aside.mk (fbk.out.mono hle)
  replace fbo := Aside.mk (fbo.out.mono hle)
  replace fle_ := Aside.mk (fle_.out.mono hle)
  replace hx := Aside.mk (hx.out.trans hx16)
  clear hle hx16
  replace fal := Aside.mk fal
  replace Mal := Aside.mk Mal
  have Lal := Aside.mk (show al.length ≤ 12 by have := Mal.out.2.2; have := Lx.out; have := Li.out; omega)
  have Eal := Aside.mk (can_err Mal.out.1 Lal.out (by omega))
  go_wp2_with fail
  obtain ⟨H910, hx910, fg⟩ := errs_lit (T := 24) hx.out.sat #[.int .i64 0, .int .i64 0, .int .i64 0, .int .i64 0, .int .i64 0, .int .i64 0, .int .i64 0, .int .i64 0, .int .i64 0, .int .i64 0] 10 (by omega) rfl
  have hle := hx910.le
  replace fx := Aside.mk (fx.out.mono hle)
  replace fy := Aside.mk (fy.out.mono hle)
  replace fu := Aside.mk (fu.out.mono hle)
  replace fi := Aside.mk (fi.out.mono hle)
  replace fd_ := Aside.mk (fd_.out.mono hle)
  replace fnx := Aside.mk (fnx.out.mono hle)
  replace fny := Aside.mk (fny.out.mono hle)
  replace fnu := Aside.mk (fnu.out.mono hle)
  replace fbk := Aside.mk (fbk.out.mono hle)
  replace fbo := Aside.mk (fbo.out.mono hle)
  replace fle_ := Aside.mk (fle_.out.mono hle)
  replace fal := Aside.mk (fal.out.mono hle)
  replace hx := Aside.mk (hx.out.trans hx910)
  clear hle hx910
  refine (good_any _ (List.replicate 10 0) _ _ _ _ fg hx.out.sat (fun e he => List.eq_of_mem_replicate he)).mono ?_
  rintro e w17 ⟨rfl, hw⟩
  replace hx : Aside (Ext H _ w w17) := ⟨hw ▸ hx.out⟩
  clear fg hw
  go_wp2_with fail
  refine (size_any _ u _ _ _ fu.out hx.out.sat Eu.out).mono ?_
  rintro e w18 ⟨rfl, hb9⟩
  replace hx := Aside.mk (hx.out.then_below hb9)
  clear hb9
  go_wp2_with fail
  refine (size_any _ i _ _ _ fi.out hx.out.sat Ei.out).mono ?_
  rintro e w19 ⟨rfl, hb9⟩
  replace hx := Aside.mk (hx.out.then_below hb9)
  clear hb9
  go_wp2_with fail
  refine (size_any _ x _ _ _ fx.out hx.out.sat Ex.out).mono ?_
  rintro e w20 ⟨rfl, hb9⟩
  replace hx := Aside.mk (hx.out.then_below hb9)
  clear hb9
  go_wp2_with fail
  refine (size_any _ y _ _ _ fy.out hx.out.sat Ey.out).mono ?_
  rintro e w21 ⟨rfl, hb9⟩
  replace hx := Aside.mk (hx.out.then_below hb9)
  clear hb9
  go_wp2_with fail
  have hsum := Aside.mk (sizeS_add (set_good Ex.out).2.1 (set_good Ey.out).2.1 (set_good Eu.out).2.1 (set_good Ei.out).2.1 Mu.out.2.1 Mi.out.2.1)
  have ru := size_rng Eu.out
  have ri := size_rng Ei.out
  have rx := size_rng Ex.out
  have ry := size_rng Ey.out
  generalize sizeS u = su at *
  generalize sizeS i = si at *
  generalize sizeS x = sx at *
  generalize sizeS y = sy at *
  have hd9 : su + si = sx + sy := hsum.out
  obtain ⟨H904, hx904, fg⟩ := errs_lit (T := 24) hx.out.sat #[.int .i64 0, .int .i64 0, .int .i64 0, .int .i64 0] 4 (by omega) rfl
  have hle := hx904.le
  replace fx := Aside.mk (fx.out.mono hle)
  replace fy := Aside.mk (fy.out.mono hle)
  replace fu := Aside.mk (fu.out.mono hle)
  replace fi := Aside.mk (fi.out.mono hle)
  replace fd_ := Aside.mk (fd_.out.mono hle)
  replace fnx := Aside.mk (fnx.out.mono hle)
  replace fny := Aside.mk (fny.out.mono hle)
  replace fnu := Aside.mk (fnu.out.mono hle)
  replace fbk := Aside.mk (fbk.out.mono hle)
  replace fbo := Aside.mk (fbo.out.mono hle)
  replace fle_ := Aside.mk (fle_.out.mono hle)
  replace fal := Aside.mk (fal.out.mono hle)
  replace hx := Aside.mk (hx.out.trans hx904)
  clear hle hx904
  refine (good_any _ (List.replicate 4 0) _ _ _ _ fg hx.out.sat (fun e he => List.eq_of_mem_replicate he)).mono ?_
  rintro e w22 ⟨rfl, hw⟩
  replace hx : Aside (Ext H _ w w22) := ⟨hw ▸ hx.out⟩
  clear fg hw
  go_wp2_with fail
  have e1 : nu = bo := eq_of Enu.out Ebo.out fun r => by
      rw [Mnu.out.2.1, Mbo.out.2.1, Mnx.out.2.1, Mny.out.2.1, Mu.out.2.1, not_or]
      exact ⟨fun h => ⟨⟨h.1, h.2.1, h.2.2.1⟩, h.1, h.2.1, h.2.2.2⟩, fun h => ⟨h.1.1, h.1.2.1, h.1.2.2, h.2.2.2⟩⟩
  have e2 : bk = x := eq_of Ebk.out Ex.out fun r => by
      rw [Mbk.out.2.1, Mnx.out.2.1]
      exact ⟨fun h => Classical.byContradiction fun hn => h.2.2 ⟨h.1, h.2.1, hn⟩, fun h => ⟨(in_range Ex.out h).1, (in_range Ex.out h).2, fun hn => hn.2.2 h⟩⟩
  have e3 : d_ = le_ := by rw [hd_.out, hle_.out, hny.out]
  have e4 : al = x := eq_of Eal.out Ex.out fun r => by
      rw [Mal.out.2.1, Mi.out.2.1]
      exact ⟨fun h => h.elim id And.left, Or.inl⟩
  replace e1 := Aside.mk e1
  replace e2 := Aside.mk e2
  replace e3 := Aside.mk e3
  replace e4 := Aside.mk e4
  have hE := eqSpans_any _ _ _ _ _ _ _ _ _ _ fnu.out fbo.out hx.out.sat
  rw [decide_eq_true e1.out] at hE
  refine hE.mono ?_
  rintro e w23 ⟨rfl, hb9⟩
  clear hE
  replace hx := Aside.mk (hx.out.then_below hb9)
  clear hb9
  go_wp2_with fail
  have hE := eqSpans_any _ _ _ _ _ _ _ _ _ _ fbk.out fx.out hx.out.sat
  rw [decide_eq_true e2.out] at hE
  refine hE.mono ?_
  rintro e w24 ⟨rfl, hb9⟩
  clear hE
  replace hx := Aside.mk (hx.out.then_below hb9)
  clear hb9
  go_wp2_with fail
  have hE := eqSpans_any _ _ _ _ _ _ _ _ _ _ fd_.out fle_.out hx.out.sat
  rw [decide_eq_true e3.out] at hE
  refine hE.mono ?_
  rintro e w25 ⟨rfl, hb9⟩
  clear hE
  replace hx := Aside.mk (hx.out.then_below hb9)
  clear hb9
  go_wp2_with fail
  have hE := eqSpans_any _ _ _ _ _ _ _ _ _ _ fal.out fx.out hx.out.sat
  rw [decide_eq_true e4.out] at hE
  refine hE.mono ?_
  rintro e w26 ⟨rfl, hb9⟩
  clear hE
  replace hx := Aside.mk (hx.out.then_below hb9)
  clear hb9
  go_wp2_with fail
  go_ret
  exact ⟨rfl, hx.out.below⟩
end Go.Proofs.Ytbpophdfnlagdaa.B
