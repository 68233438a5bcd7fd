/- Contracts: runeset.fit, two, Union, Both, Not, Minus, Size. -/
import Derived.Test.YtbpophdfnlagdaaZg
namespace Go.Proofs.Ytbpophdfnlagdaa.B
set_option linter.unusedVariables false
set_option linter.unusedSimpArgs false
open Go Go.RowKit Classical

/-- a call that gives a set of runes, laid anew, and no error -/
def RetE (H : PH) (w : World) (l : List Span) (e : Ending) (w' : World) : Prop := ∃ H' A c, e = .returned (.tuple #[.slice A l.length c, .int .i64 0]) ∧ Ext H H' w w' ∧ SlR kSpan H' A l.length c l
theorem fit_any (A : Option Addr) (n c : Nat) (w : World) (h : n ≤ 16) : Calls Try.prog 52 #[.slice A n c] w fun e w' => e = .returned (.tuple #[.slice A n c, .int .i64 0]) ∧ w' = w := by
  have h' : ¬ ((n : Int) > 16) := by omega
  go_enter Try.func52, Try.ntmps52
  go_wp2
  go_ret2
  exact ⟨rfl, rfl⟩
theorem two_any (H : PH) (x y : List Span) (A B : Option Addr) (c d : Nat) (w : World) (hx : SlR kSpan H A x.length c x) (hy : SlR kSpan H B y.length d y) (hs : Sat w H) (ex : setErr x = 0) (ey : setErr y = 0) :
    Calls Try.prog 56 #[.slice A x.length c, .slice B y.length d] w fun e w' => e = .returned (.int .i64 0) ∧ Below w.heap.size w w' := by
  go_enter Try.func56, Try.ntmps56
  go_wp2_with fail
  refine (rcheck_any H x A _ c _ hx hs).mono ?_
  rintro e w1 ⟨rfl, hb1⟩
  rw [ex]
  go_wp2_with fail
  refine (rcheck_any H y B _ d _ hy (hs.below hb1)).mono ?_
  rintro e w2 ⟨rfl, hb2⟩
  rw [ey]
  go_wp2_with fail
  go_ret
  exact ⟨rfl, bT hb1 hb2⟩
theorem set_good {x : List Span} (h : setErr x = 0) : x.length ≤ 16 ∧ Can (-2) x ∧ ∀ s ∈ x, 0 ≤ s.lo ∧ s.lo ≤ s.hi ∧ s.hi ≤ 1114111 := by
  obtain ⟨h1, h2⟩ := setErr_can.1 h
  exact ⟨h1, h2, setGo_good ((setGo_can (Int.le_refl _)).2 h2)⟩
theorem fin_fit {H H1 : PH} {w w1 w2 : World} {A : Option Addr} {c : Nat} {l : List Span} (hx : Ext H H1 w w1) (h : SlR kSpan H1 A l.length c l) : RetE H w l (.returned (.tuple #[.slice A l.length c, .int .i64 0])) w1 := ⟨H1, A, c, rfl, hx, h⟩

set_option maxRecDepth 100000 in
set_option maxHeartbeats 1000000 in
theorem both_any (H : PH) (x y : List Span) (A B : Option Addr) (c d : Nat) (w : World) (hx : SlR kSpan H A x.length c x) (hy : SlR kSpan H B y.length d y) (hs : Sat w H) (ex : setErr x = 0) (ey : setErr y = 0) (hl : x.length + y.length ≤ 16) :
    Calls Try.prog 15 #[.slice A x.length c, .slice B y.length d] w (RetE H w (comS x y)) := by
  obtain ⟨l1, c1, g1⟩ := set_good ex
  obtain ⟨l2, c2, g2⟩ := set_good ey
  have hlen := (comS_ok _ x y _ _ (Nat.le_refl _) c1 c2).2.2
  have HC := fun (w : World) (hs : Sat w H) => common_any H x y A B c d w hx hy hs (by omega) (by omega) (fun s hs => by have := g1 s hs; omega) (fun s hs => by have := g2 s hs; omega)
  have HT := two_any H x y A B c d w hx hy hs ex ey
  replace HC := Aside.mk HC
  clear c1 c2 g1 g2 hx hy ex ey
  generalize comS x y = l at *
  go_enter Try.func15, Try.ntmps15
  go_wp2_with fail
  refine HT.mono ?_
  rintro e w1 ⟨rfl, hb1⟩
  go_wp2_with fail
  refine (HC.out w1 (hs.below hb1)).mono ?_
  intro e w2 hr
  obtain ⟨H1, A1, c1, rfl, hx1, h1⟩ := hr.frozen (hs.below hb1) (by omega)
  go_wp2_with fail
  refine (fit_any A1 _ c1 w2 (by omega)).mono ?_
  rintro e w3 ⟨rfl, rfl⟩
  go_wp2_with fail
  go_ret2
  exact ⟨H1, A1, c1, rfl, (Ext.of_below hs hb1).trans hx1, h1⟩

set_option maxRecDepth 100000 in
set_option maxHeartbeats 1000000 in
theorem not_any (H : PH) (x : List Span) (A : Option Addr) (c : Nat) (w : World) (hx : SlR kSpan H A x.length c x) (hs : Sat w H) (ex : setErr x = 0) (hl : x.length ≤ 15) :
    Calls Try.prog 10 #[.slice A x.length c] w (RetE H w (othS 0 x)) := by
  obtain ⟨l1, c1, g1⟩ := set_good ex
  have hlen := (othS_ok x 0 c1).2.2
  have HC := fun (w : World) (hs : Sat w H) => others_any H x A c w hx hs (by omega) g1
  have HT := rcheck_any H x A _ c w hx hs
  replace HC := Aside.mk HC
  rw [ex] at HT
  clear c1 g1 hx ex
  generalize othS 0 x = l at *
  go_enter Try.func10, Try.ntmps10
  go_wp2_with fail
  refine HT.mono ?_
  rintro e w1 ⟨rfl, hb1⟩
  go_wp2_with fail
  refine (HC.out w1 (hs.below hb1)).mono ?_
  intro e w2 hr
  obtain ⟨H1, A1, c1, rfl, hx1, h1⟩ := hr.frozen (hs.below hb1) (by omega)
  go_wp2_with fail
  refine (fit_any A1 _ c1 w2 (by omega)).mono ?_
  rintro e w3 ⟨rfl, rfl⟩
  go_wp2_with fail
  go_ret2
  exact ⟨H1, A1, c1, rfl, (Ext.of_below hs hb1).trans hx1, h1⟩

set_option maxRecDepth 100000 in
set_option maxHeartbeats 1000000 in
theorem minus_any (H : PH) (x y : List Span) (A B : Option Addr) (c d : Nat) (w : World) (hx : SlR kSpan H A x.length c x) (hy : SlR kSpan H B y.length d y) (hs : Sat w H) (ex : setErr x = 0) (ey : setErr y = 0) (hl : x.length + y.length ≤ 15) :
    Calls Try.prog 16 #[.slice A x.length c, .slice B y.length d] w (RetE H w (comS x (othS 0 y))) := by
  obtain ⟨l1, c1, g1⟩ := set_good ex
  obtain ⟨l2, c2, g2⟩ := set_good ey
  obtain ⟨c3, -, hlen⟩ := othS_ok y 0 c2
  have g3 : ∀ s ∈ othS 0 y, 0 ≤ s.lo ∧ s.lo ≤ s.hi ∧ s.hi ≤ 1114111 := setGo_good ((setGo_can (Int.le_refl _)).2 c3)
  have hlen2 := (comS_ok _ x (othS 0 y) _ _ (Nat.le_refl _) c1 c3).2.2
  have HO := fun (w : World) (hs : Sat w H) => others_any H y B d w hy hs (by omega) g2
  have HC := fun (H : PH) (B : Option Addr) (d : Nat) (w : World) (hs : Sat w H) hx hy => common_any H x (othS 0 y) A B c d w hx hy hs (by omega) (by omega) (fun s hs => by have := g1 s hs; omega) (fun s hs => by have := g3 s hs; omega)
  have HT := two_any H x y A B c d w hx hy hs ex ey
  replace HC := Aside.mk HC
  replace HO := Aside.mk HO
  replace hx := Aside.mk hx
  clear c1 c2 g1 g2 hy ex ey c3 g3
  generalize othS 0 y = ly at *
  generalize comS x ly = l at *
  go_enter Try.func16, Try.ntmps16
  go_wp2_with fail
  refine HT.mono ?_
  rintro e w1 ⟨rfl, hb1⟩
  go_wp2_with fail
  refine (HO.out w1 (hs.below hb1)).mono ?_
  intro e w2 hr
  obtain ⟨H1, A1, c1, rfl, hx1, h1⟩ := hr.frozen (hs.below hb1) (by omega)
  go_wp2_with fail
  refine (HC.out H1 A1 c1 w2 hx1.sat (hx.out.mono hx1.le) h1).mono ?_
  intro e w3 hr
  obtain ⟨H2, A2, c2, rfl, hx2, h2⟩ := hr.frozen hx1.sat (by omega)
  go_wp2_with fail
  refine (fit_any A2 _ c2 w3 (by omega)).mono ?_
  rintro e w4 ⟨rfl, rfl⟩
  go_wp2_with fail
  go_ret2
  exact ⟨H2, A2, c2, rfl, ((Ext.of_below hs hb1).trans hx1).trans hx2, h2⟩

theorem enc_two {α : Type} {k : Kd α} {H : PH} {x y : α} {u v : Value} (h1 : k.rd H x [u]) (h2 : k.rd H y [v]) : EncL k H [x, y] [u, v] := ⟨[u], [v], rfl, h1, [v], [], rfl, h2, rfl⟩
theorem own_two {α : Type} {k : Kd α} {e : TypeId} {H : PH} {w : World} {x y : List α} {A B : Option Addr} {n m c d : Nat} (hs : Sat w H) (h1 : SlR k H A n c x) (h2 : SlR k H B m d y) :
    Own (kS k) e (w.alloc (.cells #[.slice A n c, .slice B m d] e)) w.heap.size H (.slice (some ⟨w.heap.size, 0, none⟩) 2 2) [x, y] := by
  have e1 : (kS k).rd H x [.slice A n c] := ⟨A, c, by rw [h1.1], by rw [← h1.1]; exact h1⟩
  have e2 : (kS k).rd H y [.slice B m d] := ⟨B, d, by rw [h2.1], by rw [← h2.1]; exact h2⟩
  exact Own.lit (xs := [x, y]) hs #[.slice A n c, .slice B m d] (Nat.le_refl _) (enc_two e1 e2) (by rw [maxLen]; simp)

set_option maxRecDepth 100000 in
set_option maxHeartbeats 1000000 in
theorem union_any (H : PH) (x y : List Span) (A B : Option Addr) (c d : Nat) (w : World) (hx : SlR kSpan H A x.length c x) (hy : SlR kSpan H B y.length d y) (hs : Sat w H) (ex : setErr x = 0) (ey : setErr y = 0) (hl : x.length + y.length ≤ 16) :
    Calls Try.prog 14 #[.slice A x.length c, .slice B y.length d] w fun e w' => ∃ u, (Can (-2) u ∧ (∀ r, In u r ↔ In x r ∨ In y r) ∧ u.length ≤ x.length + y.length) ∧ RetE H w u e w' := by
  obtain ⟨l1, -, g1⟩ := set_good ex
  obtain ⟨l2, -, g2⟩ := set_good ey
  have hg : ∀ s ∈ x ++ y, goodSpan s = true := fun s hs => by
    have : 0 ≤ s.lo ∧ s.lo ≤ s.hi ∧ s.hi ≤ 1114111 := (List.mem_append.1 hs).elim (g1 s) (g2 s)
    simp [goodSpan]; omega
  have HT := two_any H x y A B c d w hx hy hs ex ey
  replace hx := Aside.mk hx
  replace hy := Aside.mk hy
  replace hg := Aside.mk hg
  clear g1 g2 ex ey
  go_enter Try.func14, Try.ntmps14
  go_wp2_with fail
  refine HT.mono ?_
  rintro e w1 ⟨rfl, hb1⟩
  have hs1 := hs.below hb1
  have ho := own_two (k := kSpan) (e := 23) hs1 hx.out hy.out
  obtain ⟨H1, hx1, hle1, ⟨A1, c1, e1, h1⟩, -⟩ := ho.freezeE (Ext.of_below hs1 (bA (Below.refl _ _) _)) (Nat.le_refl _) (by simp)
  cases e1
  have HX := Aside.mk (And.intro hx1 h1)
  clear ho hx1 hle1 h1 hs1
  go_wp2_with fail
  refine (concat_any H1 [x, y] _ _ _ HX.out.2 HX.out.1.sat (by simp) (by simp; omega)).mono ?_
  intro e w2 hr
  obtain ⟨H2, A2, c2, rfl, hx2, h2⟩ := hr.frozen HX.out.1.sat (by simp; omega)
  have e2 : [x, y].flatten = x ++ y := by simp
  rw [e2] at h2
  rw [e2]
  have hll := Aside.mk (And.intro (show (x ++ y).length = x.length + y.length by simp) (show ∀ r, In (x ++ y) r ↔ In x r ∨ In y r from fun r => In_append))
  clear e2 hr
  generalize x ++ y = z at *
  go_wp2_with fail
  refine (join_any H2 z A2 c2 w2 h2 hx2.sat (by have := hll.out.1; omega) hg.out).mono ?_
  rintro e w3 ⟨l, hp, hpw, hr⟩
  obtain ⟨j1, j2⟩ := joinS_ok l (fun s hs => hg.out s (hp.mem_iff.1 hs)) hpw
  have j3 := joinS_len l
  have j4 := hp.length_eq
  obtain ⟨H3, A3, c3, rfl, hx3, h3⟩ := hr.frozen hx2.sat (by have := hll.out.1; omega)
  have J := Aside.mk (And.intro j1 (And.intro j2 hp))
  clear j1 j2 hp hpw
  generalize joinS l = u at *
  go_wp2_with fail
  refine (fit_any A3 _ c3 w3 (by have := hll.out.1; omega)).mono ?_
  rintro e w4 ⟨rfl, rfl⟩
  go_wp2_with fail
  go_ret2
  exact ⟨_, ⟨J.out.1, fun r => by rw [J.out.2.1, In_perm J.out.2.2, hll.out.2], by have := hll.out.1; omega⟩, H3, A3, c3, rfl, (((Ext.of_below hs hb1).trans HX.out.1).trans hx2).trans hx3, h3⟩

theorem sizeS_snoc (l : List Span) (s : Span) : sizeS (l ++ [s]) = sizeS l + (s.hi - s.lo + 1) := by
  induction l with
  | nil => simp [sizeS]
  | cons a l ih => rw [List.cons_append, sizeS, sizeS, ih]; omega

set_option maxRecDepth 100000 in
set_option maxHeartbeats 1000000 in
theorem size_any (H : PH) (x : List Span) (A : Option Addr) (c : Nat) (w : World) (hx : SlR kSpan H A x.length c x) (hs : Sat w H) (ex : setErr x = 0) :
    Calls Try.prog 18 #[.slice A x.length c] w fun e w' => e = .returned (.tuple #[.int .i64 (sizeS x), .int .i64 0]) ∧ Below w.heap.size w w' := by
  obtain ⟨l1, -, g1⟩ := set_good ex
  have HT := rcheck_any H x A _ c w hx hs
  rw [ex] at HT
  have hc := hx.2.1
  replace g1 := Aside.mk g1
  clear ex
  obtain ⟨n, hn⟩ : ∃ n, n = x.length := ⟨_, rfl⟩
  obtain ⟨S, hS⟩ : ∃ S, S = sizeS x := ⟨_, rfl⟩
  rw [← hn] at hx hc HT l1 ⊢
  rw [← hS]
  replace hn := Aside.mk hn
  replace hS := Aside.mk hS
  go_enter Try.func18, Try.ntmps18
  go_wp2_with fail
  refine HT.mono ?_
  rintro e w1 ⟨rfl, hb1⟩
  go_wp2_with fail
  go_loopw [5, 15] (fun s i wr => ∃ (k : Nat) (m : Int), k ≤ n ∧ i = .int .i64 k ∧ s = .int .i64 m ∧ 0 ≤ m ∧ m ≤ k * 1114112 ∧ Aside (m = sizeS (x.take k)) ∧ Aside (Below w.heap.size w wr)) (fun _ i _ => n - (intOf i).toNat)
  case atStart => exact ⟨0, 0, by omega, (by first | rfl | trivial), (by first | rfl | trivial), by omega, by omega, ⟨by simp [sizeS]⟩, ⟨hb1⟩⟩
  case round =>
    obtain ⟨k, m, hk, rfl, rfl, hm0, hm1, hM, hb⟩ := hrel
    by_cases hkn : k < n
    · have hlt : (k : Int) < (n : Int) := by omega
      have hkx : k < x.length := by rw [← hn.out]; exact hkn
      obtain ⟨b1, o1, lo, hi, rfl, e1, g0, g2⟩ := cell_span hx (hs.below hb.out) k hkx
      obtain ⟨q0, q1, q2⟩ := g1.out x[k] (List.getElem_mem hkx)
      have ht : sizeS (x.take (k + 1)) = m + (hi - lo + 1) := by rw [List.take_succ_eq_append_getElem hkx, sizeS_snoc, e1, hM.out]
      rw [e1] at q0 q1 q2
      simp only at q0 q1 q2
      replace ht := Aside.mk ht
      clear e1
      have hb2 := Aside.mk (bA hb.out (.cells #[.int .i64 lo, .int .i64 hi] 30))
      go_wp2_with fail
      go_roundw
      case rel => exact ⟨k + 1, m + (hi - lo + 1), by omega, by go_num, by go_num, by omega, by omega, ⟨ht.out.symm⟩, ⟨hb2.out⟩⟩
      case measure => simp [intOf]; omega
    · obtain rfl : k = n := by omega
      have hq := hM.out
      rw [hn.out, List.take_length, ← hS.out] at hq
      subst hq
      go_wp2_with fail
      go_ret2
      exact ⟨rfl, hb.out⟩
end Go.Proofs.Ytbpophdfnlagdaa.B
