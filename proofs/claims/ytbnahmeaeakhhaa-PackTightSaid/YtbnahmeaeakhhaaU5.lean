/- Contract: parlmake.Dfa: a valid automaton of a few states. -/
import Derived.Test.YtbnahmeaeakhhaaKm
import Derived.Test.YtbnahmeaeakhhaaT4
import Derived.Test.YtbnahmeaeakhhaaT3
import Derived.Deep.RegionLaw
namespace Go.Proofs.Ytbnahmeaeakhhaa.B
set_option linter.unusedVariables false
set_option linter.unusedSimpArgs false
open Go Go.RowKit Go.Proofs.Ytbnahmeaeakhhaa.Q Go.Proofs.Ytbnahmeaeakhhaa.S Classical

theorem next_box {H : PH} {p : Nat} {n : Int} {w : World} {A : Option Addr} {l c : Nat} {xs : List Int} (hs : Sat w H) (hk : w.heap[p]? = some (.cells #[.slice A l c] 119)) (hn : ∀ o, H p o = none) (hx : SlR (kI .i64) H A l c xs) (h : 0 < n) (h2 : n ≤ 1000000) :
    Calls Try.prog 116 #[.pointer (some ⟨p, 0, none⟩), .int .i64 n] w fun e w' => ∃ (m : Int) (A' : Option Addr) (l' c' : Nat) (xs' : List Int), e = .returned (.int .i64 m) ∧ 0 ≤ m ∧ m < n ∧ w.grownBy w' (some p) ∧ Sat w' H ∧ w'.heap[p]? = some (.cells #[.slice A' l' c'] 119) ∧ SlR (kI .i64) H A' l' c' xs' := by
  refine (M.next_any H p n w hs ⟨hn, A, l, c, xs, hk, hx⟩ h h2).mono ?_
  rintro e w' ⟨m, rfl, h3, h4, hg, hs', -, A', l', c', xs', hk', hx'⟩
  exact ⟨m, A', l', c', xs', rfl, h3, h4, hg, hs', hk', hx'⟩
/-- what parlmake.Dfa gives -/
def MDfaPost (H : PH) (w : World) (e : Ending) (w' : World) : Prop := ∃ (H' : PH) (D : Aut) (A1 : Option Addr) (c1 : Nat) (A2 : Option Addr) (c2 : Nat), e = .returned (.agg #[.int .i64 D.st, .slice A1 D.acc.length c1, .slice A2 D.next.length c2]) ∧
  RdAut H' D [.int .i64 D.st, .slice A1 D.acc.length c1, .slice A2 D.next.length c2] ∧ dfaErr D.st D.acc D.next = 0 ∧ D.next.length ≤ 6 ∧ (D.next.getD 0 []).length ≤ 3 ∧ (∀ a ∈ D.acc, -1 ≤ a ∧ a ≤ 1) ∧ Ext H H' w w'
theorem Apart.ofNone (v : Value) (n c : Nat) : Apart v (.slice none n c) := by
  cases hv : v.ownBlock with
  | none => exact Or.inl hv
  | some b => exact Or.inr (by rw [hv]; simp [Value.ownBlock])
theorem getD_of {l : List (List Int)} {P : List Int → Prop} (h : ∀ x ∈ l, P x) {i : Nat} (hi : i < l.length) : P (l.getD i []) := by
  rw [List.getD_eq_getElem?_getD, List.getElem?_eq_getElem hi]; exact h _ (List.getElem_mem hi)
theorem dfaErr_made {st : Int} {acc : List Int} {next : List (List Int)} {C : Nat} (h1 : 0 < next.length) (h2 : next.length ≤ 200) (h3 : acc.length = next.length) (h4 : 0 < C) (h5 : C ≤ 16) (h6 : 0 ≤ st) (h7 : st < next.length) (h8 : ∀ a ∈ acc, -1 ≤ a)
    (h9 : ∀ r ∈ next, r.length = C ∧ ∀ x ∈ r, -1 ≤ x ∧ x < next.length) : dfaErr st acc next = 0 := by
  have h0 := (getD_of (P := fun r => r.length = C ∧ ∀ x ∈ r, -1 ≤ x ∧ x < next.length) h9 h1).1
  unfold dfaErr
  rw [if_neg (by omega), if_neg (by omega), if_neg (by omega), if_neg, if_neg]
  · refine fun h => h ⟨h6, h7, fun s _ hs => ⟨?_, fun c _ hc => ?_⟩⟩
    · rw [List.getD_eq_getElem?_getD, List.getElem?_eq_getElem (by omega)]; exact h8 _ (List.getElem_mem _)
    · have := (getD_of (P := fun r => r.length = C ∧ ∀ x ∈ r, -1 ≤ x ∧ x < next.length) h9 hs).2
      rw [List.getD_eq_getElem?_getD, List.getElem?_eq_getElem hc]
      exact this _ (List.getElem_mem _)
  · refine fun h => h fun s _ hs => ?_
    have := (getD_of (P := fun r => r.length = C ∧ ∀ x ∈ r, -1 ≤ x ∧ x < next.length) h9 hs).1
    omega

set_option maxRecDepth 100000 in
set_option maxHeartbeats 16000000 in
theorem makeDfa_any (H : PH) (xs : List Int) (A : Option Addr) (n c : Nat) (w : World) (hl : SlR (kI .i64) H A n c xs) (hs : Sat w H) :
    Calls Try.prog 54 #[.slice A n c] w (MDfaPost H w) := by
  have hx := Aside.mk (Ext.refl hs)
  replace hl := Aside.mk hl
  go_enter Try.func54, Try.ntmps54
  go_wp2_with fail
  have hszw := hx.out.size
  have kz_ : ((w.alloc (.cells #[.int .i64 0, .slice none 0 0, .slice none 0 0] 58)).alloc (.cells #[.slice A n c] 119)).heap[w.heap.size]? = some (.cells #[.int .i64 0, .slice none 0 0, .slice none 0 0] 58) := (boxA (heap_alloc_new _ _) (.cells #[.slice A n c] 119))
  have kp_ : ((w.alloc (.cells #[.int .i64 0, .slice none 0 0, .slice none 0 0] 58)).alloc (.cells #[.slice A n c] 119)).heap[w.heap.size + 1]? = some (.cells #[.slice A n c] 119) := (by rw [show w.heap.size + 1 = ((w.alloc (.cells #[.int .i64 0, .slice none 0 0, .slice none 0 0] 58))).heap.size by simp]; exact heap_alloc_new _ _)
  have nz := Aside.mk (fun o => hx.out.sat.new (b := w.heap.size) (show w.heap.size ≤ _ by omega) o)
  have np := Aside.mk (fun o => hx.out.sat.new (b := w.heap.size + 1) (show w.heap.size ≤ _ by omega) o)
  replace hx := Aside.mk (((hx.out.alloc (.cells #[.int .i64 0, .slice none 0 0, .slice none 0 0] 58)).alloc (.cells #[.slice A n c] 119)))
  generalize ((w.alloc (.cells #[.int .i64 0, .slice none 0 0, .slice none 0 0] 58)).alloc (.cells #[.slice A n c] 119)) = W1 at *
  have kz := Aside.mk kz_
  clear kz_
  have kp := Aside.mk kp_
  clear kp_
  have hpz := boxL kp.out
  refine (next_box hx.out.sat kp.out np.out hl.out (n := 6) (by omega) (by omega)).mono ?_
  rintro e w1 ⟨m1, B1, e1, f1, ys1, rfl, hm1a, hm1b, hg, hs1, kp9, hl9⟩
  replace kz := Aside.mk (boxG kz.out hg (fun e => by have := Option.some.inj e; omega))
  replace hx := Aside.mk (hx.out.grown hg (fun b hb => by cases hb; exact ⟨by omega, np.out⟩))
  replace kp := Aside.mk kp9
  replace hl := Aside.mk hl9
  clear kp9 hl9 hs1 hg
  have lqz : w.heap.size < w1.heap.size := boxL kz.out
  have cz0 : w1.cell? ⟨w.heap.size, 0, none⟩ = some (.int .i64 0) := (boxC kz.out 0).1
  have fz0 : w1.frozen? ⟨w.heap.size, 0, none⟩ = false := (boxC kz.out 0).2
  have cz1 : w1.cell? ⟨w.heap.size, 1, none⟩ = some (.slice none 0 0) := (boxC kz.out 1).1
  have fz1 : w1.frozen? ⟨w.heap.size, 1, none⟩ = false := (boxC kz.out 1).2
  have cz2 : w1.cell? ⟨w.heap.size, 2, none⟩ = some (.slice none 0 0) := (boxC kz.out 2).1
  have fz2 : w1.frozen? ⟨w.heap.size, 2, none⟩ = false := (boxC kz.out 2).2
  have lqp : w.heap.size + 1 < w1.heap.size := boxL kp.out
  have cp0 : w1.cell? ⟨w.heap.size + 1, 0, none⟩ = some (.slice B1 e1 f1) := (boxC kp.out 0).1
  have fp0 : w1.frozen? ⟨w.heap.size + 1, 0, none⟩ = false := (boxC kp.out 0).2
  go_wp2_with fail
  clear lqz cz0 fz0 cz1 fz1 cz2 fz2 lqp cp0 fp0
  refine (next_box hx.out.sat kp.out np.out hl.out (n := 3) (by omega) (by omega)).mono ?_
  rintro e w2 ⟨m2, B2, e2, f2, ys2, rfl, hm2a, hm2b, hg, hs1, kp9, hl9⟩
  replace kz := Aside.mk (boxG kz.out hg (fun e => by have := Option.some.inj e; omega))
  replace hx := Aside.mk (hx.out.grown hg (fun b hb => by cases hb; exact ⟨by omega, np.out⟩))
  replace kp := Aside.mk kp9
  replace hl := Aside.mk hl9
  clear kp9 hl9 hs1 hg
  have lqz : w.heap.size < w2.heap.size := boxL kz.out
  have cz0 : w2.cell? ⟨w.heap.size, 0, none⟩ = some (.int .i64 0) := (boxC kz.out 0).1
  have fz0 : w2.frozen? ⟨w.heap.size, 0, none⟩ = false := (boxC kz.out 0).2
  have cz1 : w2.cell? ⟨w.heap.size, 1, none⟩ = some (.slice none 0 0) := (boxC kz.out 1).1
  have fz1 : w2.frozen? ⟨w.heap.size, 1, none⟩ = false := (boxC kz.out 1).2
  have cz2 : w2.cell? ⟨w.heap.size, 2, none⟩ = some (.slice none 0 0) := (boxC kz.out 2).1
  have fz2 : w2.frozen? ⟨w.heap.size, 2, none⟩ = false := (boxC kz.out 2).2
  have lqp : w.heap.size + 1 < w2.heap.size := boxL kp.out
  have cp0 : w2.cell? ⟨w.heap.size + 1, 0, none⟩ = some (.slice B2 e2 f2) := (boxC kp.out 0).1
  have fp0 : w2.frozen? ⟨w.heap.size + 1, 0, none⟩ = false := (boxC kp.out 0).2
  go_wp2_with fail
  clear lqz cz0 fz0 cz1 fz1 cz2 fz2 lqp cp0 fp0
  obtain ⟨N, hN⟩ : ∃ N : Nat, 1 + m1 = (N : Int) := ⟨(1 + m1).toNat, by omega⟩
  obtain ⟨C, hC⟩ : ∃ C : Nat, 1 + m2 = (C : Int) := ⟨(1 + m2).toNat, by omega⟩
  have hNb : 1 ≤ N ∧ N ≤ 6 := by omega
  have hCb : 1 ≤ C ∧ C ≤ 3 := by omega
  simp only [hN, hC] at *
  clear hm1a hm1b hm2a hm2b hN hC
  refine (next_box hx.out.sat kp.out np.out hl.out (n := (N : Int)) (by omega) (by omega)).mono ?_
  rintro e w3 ⟨st, B3, e3, f3, ys3, rfl, hsta, hstb, hg, hs1, kp9, hl9⟩
  replace kz := Aside.mk (boxG kz.out hg (fun e => by have := Option.some.inj e; omega))
  replace hx := Aside.mk (hx.out.grown hg (fun b hb => by cases hb; exact ⟨by omega, np.out⟩))
  replace kp := Aside.mk kp9
  replace hl := Aside.mk hl9
  clear kp9 hl9 hs1 hg
  have hpz3 := boxL kp.out
  have hsz3 := hx.out.size
  replace hsta := Aside.mk (And.intro hsta hstb)
  clear hstb
  have lqz : w.heap.size < w3.heap.size := boxL kz.out
  have cz0 : w3.cell? ⟨w.heap.size, 0, none⟩ = some (.int .i64 0) := (boxC kz.out 0).1
  have fz0 : w3.frozen? ⟨w.heap.size, 0, none⟩ = false := (boxC kz.out 0).2
  have cz1 : w3.cell? ⟨w.heap.size, 1, none⟩ = some (.slice none 0 0) := (boxC kz.out 1).1
  have fz1 : w3.frozen? ⟨w.heap.size, 1, none⟩ = false := (boxC kz.out 1).2
  have cz2 : w3.cell? ⟨w.heap.size, 2, none⟩ = some (.slice none 0 0) := (boxC kz.out 2).1
  have fz2 : w3.frozen? ⟨w.heap.size, 2, none⟩ = false := (boxC kz.out 2).2
  have lqp : w.heap.size + 1 < w3.heap.size := boxL kp.out
  have cp0 : w3.cell? ⟨w.heap.size + 1, 0, none⟩ = some (.slice B3 e3 f3) := (boxC kp.out 0).1
  have fp0 : w3.frozen? ⟨w.heap.size + 1, 0, none⟩ = false := (boxC kp.out 0).2
  go_wp2_with fail
  clear lqz cz0 fz0 cz1 fz1 cz2 fz2 lqp cp0 fp0
  have hszw3 := hx.out.size
  have habzw3 := boxL kz.out
  have habpw3 := boxL kp.out
  have kz_ : (w3.alloc (.cells #[.int .i64 st, .slice none 0 0, .slice none 0 0] 58)).heap[w.heap.size]? = some (.cells #[.int .i64 0, .slice none 0 0, .slice none 0 0] 58) := (boxA kz.out (.cells #[.int .i64 st, .slice none 0 0, .slice none 0 0] 58))
  have kp_ : (w3.alloc (.cells #[.int .i64 st, .slice none 0 0, .slice none 0 0] 58)).heap[w.heap.size + 1]? = some (.cells #[.slice B3 e3 f3] 119) := (boxA kp.out (.cells #[.int .i64 st, .slice none 0 0, .slice none 0 0] 58))
  have kd_ : (w3.alloc (.cells #[.int .i64 st, .slice none 0 0, .slice none 0 0] 58)).heap[w3.heap.size]? = some (.cells #[.int .i64 st, .slice none 0 0, .slice none 0 0] 58) := (heap_alloc_new _ _)
  have nd := Aside.mk (fun o => hx.out.sat.new (b := w3.heap.size) (show w3.heap.size ≤ _ by omega) o)
  replace hx := Aside.mk ((hx.out.alloc (.cells #[.int .i64 st, .slice none 0 0, .slice none 0 0] 58)))
  generalize (w3.alloc (.cells #[.int .i64 st, .slice none 0 0, .slice none 0 0] 58)) = W2 at *
  replace kz := Aside.mk kz_
  clear kz_
  replace kp := Aside.mk kp_
  clear kp_
  have kd := Aside.mk kd_
  clear kd_
  generalize w3.heap.size = g at *
  have hgp : w.heap.size + 1 < g := by omega
  clear hpz hpz3 hsz3
  go_loopw [22] (fun s22 wr => ∃ (i : Nat) (As : Option Addr) (ls cs : Nat) (xz : List Int) (Aa : Option Addr) (na ca : Nat) (Ax : Option Addr) (nx cx : Nat) (la : List Int) (lx : List (List Int)) (Hk : PH), i ≤ N ∧ s22 = .int .i64 i ∧ Aside (la.length = i ∧ ∀ a ∈ la, -1 ≤ a ∧ a ≤ 1) ∧ Aside (lx.length = i ∧ ∀ r ∈ lx, r.length = C ∧ ∀ x ∈ r, -1 ≤ x ∧ x < (N : Int)) ∧ Aside (Apart (.slice Aa na ca) (.slice Ax nx cx)) ∧ Aside (Ext H Hk w wr) ∧ Aside (SlR (kI .i64) Hk As ls cs xz) ∧ Aside (wr.heap[w.heap.size]? = some (.cells #[.int .i64 0, .slice none 0 0, .slice none 0 0] 58)) ∧ Aside (∀ o, Hk (w.heap.size) o = none) ∧ Aside (wr.heap[w.heap.size + 1]? = some (.cells #[.slice As ls cs] 119)) ∧ Aside (∀ o, Hk (w.heap.size + 1) o = none) ∧ Aside (wr.heap[g]? = some (.cells #[.int .i64 st, .slice Aa na ca, .slice Ax nx cx] 58)) ∧ Aside (∀ o, Hk (g) o = none) ∧ Aside (Own (kI .i64) 3 wr ((g + 1)) Hk (.slice Aa na ca) (la)) ∧ Aside (Own (kS (kI .i64)) 26 wr ((g + 1)) Hk (.slice Ax nx cx) (lx))) (fun s22 _ => N - (intOf s22).toNat)
  case atStart => exact ⟨0, _, _, _, _, none, 0, 0, none, 0, 0, [], [], _, by omega, rfl, ⟨by simp⟩, ⟨by simp⟩, ⟨Or.inl rfl⟩, hx, hl, kz, nz, kp, np, kd, nd, ⟨Own.nil _ _ _ _ _⟩, ⟨Own.nil _ _ _ _ _⟩⟩
  case round =>
    clear hx hl kz nz kp np kd nd
    obtain ⟨i, As, ls, cs, xz, Aa, na, ca, Ax, nx, cx, la, lx, Hk, hi, rfl, hla, hlx, hap, hx, hl, kz, nz, kp, np, kd, nd, hoa, hox⟩ := hrel
    by_cases hlt : i < N
    case pos =>
      have hli : (i : Int) < (N : Int) := by omega
      have hgz := boxL kd.out
      have hpz := boxL kp.out
      have hsz := hx.out.size
      have lqz : w.heap.size < wr.heap.size := boxL kz.out
      have cz0 : wr.cell? ⟨w.heap.size, 0, none⟩ = some (.int .i64 0) := (boxC kz.out 0).1
      have fz0 : wr.frozen? ⟨w.heap.size, 0, none⟩ = false := (boxC kz.out 0).2
      have cz1 : wr.cell? ⟨w.heap.size, 1, none⟩ = some (.slice none 0 0) := (boxC kz.out 1).1
      have fz1 : wr.frozen? ⟨w.heap.size, 1, none⟩ = false := (boxC kz.out 1).2
      have cz2 : wr.cell? ⟨w.heap.size, 2, none⟩ = some (.slice none 0 0) := (boxC kz.out 2).1
      have fz2 : wr.frozen? ⟨w.heap.size, 2, none⟩ = false := (boxC kz.out 2).2
      have lqp : w.heap.size + 1 < wr.heap.size := boxL kp.out
      have cp0 : wr.cell? ⟨w.heap.size + 1, 0, none⟩ = some (.slice As ls cs) := (boxC kp.out 0).1
      have fp0 : wr.frozen? ⟨w.heap.size + 1, 0, none⟩ = false := (boxC kp.out 0).2
      have lqd : g < wr.heap.size := boxL kd.out
      have cd0 : wr.cell? ⟨g, 0, none⟩ = some (.int .i64 st) := (boxC kd.out 0).1
      have fd0 : wr.frozen? ⟨g, 0, none⟩ = false := (boxC kd.out 0).2
      have cd1 : wr.cell? ⟨g, 1, none⟩ = some (.slice Aa na ca) := (boxC kd.out 1).1
      have fd1 : wr.frozen? ⟨g, 1, none⟩ = false := (boxC kd.out 1).2
      have cd2 : wr.cell? ⟨g, 2, none⟩ = some (.slice Ax nx cx) := (boxC kd.out 2).1
      have fd2 : wr.frozen? ⟨g, 2, none⟩ = false := (boxC kd.out 2).2
      go_upto_region 6 with (fail)
      go_region_law ((first
        | (have _t := kd2; go_must (refine step_app1 (kI .i64) rfl (.tmp 25) (.tmp 29) 26 rfl 3 Try.underlying26 infoQ rfl (hoa.out.drew.grown hg2 hne2) hs2 rfl rfl rfl (y := m - 1) rfl (by have := hla.out.1; omega) (by have := hla.out.1; unfold maxLen; omega) (by omega) ?_); intro v9 w9 ho9 hg9 hs9 hn9; obtain ⟨A9, c9, e9, -, -, -, -⟩ := ho9.form; generalize hn9l : (la ++ [m - 1]).length = n9 at e9; subst e9; have kd9 := boxG kd2 hg9 (fun e => by have h1 := (hoa.out.blk e).1; omega); have cd91 := (boxC kd9 1).1; have fd91 := (boxC kd9 1).2; have hz9 := boxL kd9)
        | (go_simp; go_at_call 116; refine (next_box (w := wr.drew) hx.out.sat.drew kp.out np.out hl.out (n := 3) (by omega) (by omega)).mono ?_; rintro e w2 ⟨m, A2, l2, c2, x2, rfl, hma, hmb, hg2, hs2, kp2, hl2⟩; have kd2 := boxG (w := wr.drew) kd.out hg2 (fun e => by have := Option.some.inj e; omega); have cd21 := (boxC kd2 1).1; have hz2 := boxL kd2; have hwm : IntKind.i64.wrap (m - 1) = m - 1 := IntWalk.i64_in _ (by omega); have hne2 : (Value.slice Aa na ca).ownBlock = none ∨ (Value.slice Aa na ca).ownBlock ≠ some (w.heap.size + 1) := Or.inr (fun e => by have h1 := (hoa.out.blk e).1; omega))))
      all_goals
        clear lqz cz0 fz0 cz1 fz1 cz2 fz2 lqp cp0 fp0 lqd cd0 fd0 cd1 fd1 cd2 fd2
        clear kd2 cd21 hz2 hne2 kd9 cd91 fd91 hz9 hs9
        have kz_ : wr.drew.heap[w.heap.size]? = some (.cells #[.int .i64 0, .slice none 0 0, .slice none 0 0] 58) := kz.out
        have kp_ : wr.drew.heap[w.heap.size + 1]? = some (.cells #[.slice As ls cs] 119) := kp.out
        have kd_ : wr.drew.heap[g]? = some (.cells #[.int .i64 st, .slice Aa na ca, .slice Ax nx cx] 58) := kd.out
        replace hoa := Aside.mk (hoa.out.drew)
        replace hox := Aside.mk (hox.out.drew)
        replace hx := Aside.mk ((hx.out.drew))
        generalize wr.drew = W3 at *
        replace kz := Aside.mk kz_
        clear kz_
        replace kp := Aside.mk kp_
        clear kp_
        replace kd := Aside.mk kd_
        clear kd_
        replace kz := Aside.mk (boxG kz.out hg2 (fun e => by have := Option.some.inj e; omega))
        replace kd := Aside.mk (boxG kd.out hg2 (fun e => by have := Option.some.inj e; omega))
        replace hoa := Aside.mk (hoa.out.grown hg2 (Or.inr (fun e => by have h1 := (hoa.out.blk e).1; omega)))
        replace hox := Aside.mk (hox.out.grown hg2 (Or.inr (fun e => by have h1 := (hox.out.blk e).1; omega)))
        replace hx := Aside.mk (hx.out.grown hg2 (fun b hb => by cases hb; exact ⟨by omega, np.out⟩))
        replace kp := Aside.mk kp2
        replace hl := Aside.mk hl2
        clear kp2 hl2 hg2 hs2
        replace kz := Aside.mk (boxG kz.out hg9 (fun e => by have h1 := (hoa.out.blk e).1; omega))
        replace kp := Aside.mk (boxG kp.out hg9 (fun e => by have h1 := (hoa.out.blk e).1; omega))
        replace kd := Aside.mk (boxG kd.out hg9 (fun e => by have h1 := (hoa.out.blk e).1; omega))
        replace hx := Aside.mk (hoa.out.extG hx.out (by omega) hg9)
        have hap_ := Aside.mk (hox.out.apartN hap.out.symm hn9).symm
        replace hox := Aside.mk (hox.out.grown_apart hap.out.symm hg9)
        replace hap := hap_
        clear hap_
        replace hoa := Aside.mk ho9
        clear ho9 hg9 hn9
        have kz_ : (w9.setCell ⟨g, 1, none⟩ (.slice A9 n9 c9)).heap[w.heap.size]? = some (.cells #[.int .i64 0, .slice none 0 0, .slice none 0 0] 58) := (boxS_ne kz.out (by first | omega | (simp; omega)) 1 (.slice A9 n9 c9))
        have kp_ : (w9.setCell ⟨g, 1, none⟩ (.slice A9 n9 c9)).heap[w.heap.size + 1]? = some (.cells #[.slice A2 l2 c2] 119) := (boxS_ne kp.out (by first | omega | (simp; omega)) 1 (.slice A9 n9 c9))
        have kd_ : (w9.setCell ⟨g, 1, none⟩ (.slice A9 n9 c9)).heap[g]? = some (.cells #[.int .i64 st, .slice A9 n9 c9, .slice Ax nx cx] 58) := (boxS kd.out 1 (.slice A9 n9 c9))
        replace hoa := Aside.mk (hoa.out.grown (grownBy_setCell _ (g) 1 (.slice A9 n9 c9)) (Or.inr (fun e => by first | (have h1 := (hoa.out.blk e).1; omega) | (simp [Value.ownBlock] at e; done) | (simp [Value.ownBlock] at e; omega))))
        replace hox := Aside.mk (hox.out.grown (grownBy_setCell _ (g) 1 (.slice A9 n9 c9)) (Or.inr (fun e => by first | (have h1 := (hox.out.blk e).1; omega) | (simp [Value.ownBlock] at e; done) | (simp [Value.ownBlock] at e; omega))))
        replace hx := Aside.mk ((hx.out.setCell (b := g) (o := 1) (by first | omega | (simp; omega)) nd.out (.slice A9 n9 c9)))
        generalize (w9.setCell ⟨g, 1, none⟩ (.slice A9 n9 c9)) = W4 at *
        replace kz := Aside.mk kz_
        clear kz_
        replace kp := Aside.mk kp_
        clear kp_
        replace kd := Aside.mk kd_
        clear kd_
        replace hla : Aside ((la ++ [m - 1]).length = i + 1 ∧ ∀ a ∈ la ++ [m - 1], -1 ≤ a ∧ a ≤ 1) := ⟨by rw [List.length_append, hla.out.1]; rfl, fun a ha => by
            rcases List.mem_append.1 ha with h | h
            · exact hla.out.2 a h
            · rw [List.mem_singleton.1 h]; omega⟩
        clear hma hmb hwm hn9l
        generalize la ++ [m - 1] = la2 at *
        have lqz : w.heap.size < W4.heap.size := boxL kz.out
        have cz0 : W4.cell? ⟨w.heap.size, 0, none⟩ = some (.int .i64 0) := (boxC kz.out 0).1
        have fz0 : W4.frozen? ⟨w.heap.size, 0, none⟩ = false := (boxC kz.out 0).2
        have cz1 : W4.cell? ⟨w.heap.size, 1, none⟩ = some (.slice none 0 0) := (boxC kz.out 1).1
        have fz1 : W4.frozen? ⟨w.heap.size, 1, none⟩ = false := (boxC kz.out 1).2
        have cz2 : W4.cell? ⟨w.heap.size, 2, none⟩ = some (.slice none 0 0) := (boxC kz.out 2).1
        have fz2 : W4.frozen? ⟨w.heap.size, 2, none⟩ = false := (boxC kz.out 2).2
        have lqp : w.heap.size + 1 < W4.heap.size := boxL kp.out
        have cp0 : W4.cell? ⟨w.heap.size + 1, 0, none⟩ = some (.slice A2 l2 c2) := (boxC kp.out 0).1
        have fp0 : W4.frozen? ⟨w.heap.size + 1, 0, none⟩ = false := (boxC kp.out 0).2
        have lqd : g < W4.heap.size := boxL kd.out
        have cd0 : W4.cell? ⟨g, 0, none⟩ = some (.int .i64 st) := (boxC kd.out 0).1
        have fd0 : W4.frozen? ⟨g, 0, none⟩ = false := (boxC kd.out 0).2
        have cd1 : W4.cell? ⟨g, 1, none⟩ = some (.slice A9 n9 c9) := (boxC kd.out 1).1
        have fd1 : W4.frozen? ⟨g, 1, none⟩ = false := (boxC kd.out 1).2
        have cd2 : W4.cell? ⟨g, 2, none⟩ = some (.slice Ax nx cx) := (boxC kd.out 2).1
        have fd2 : W4.frozen? ⟨g, 2, none⟩ = false := (boxC kd.out 2).2
        go_wp2_with fail
        clear lqz cz0 fz0 cz1 fz1 cz2 fz2 lqp cp0 fp0 lqd cd0 fd0 cd1 fd1 cd2 fd2
        obtain ⟨wo, hwo⟩ : ∃ wo : World, wo = W4 := ⟨_, rfl⟩
        clear hwo wo
        have hgz2 := boxL kd.out
        go_loopw [7, 33] (fun s7 s33 wr => ∃ (j : Nat) (As : Option Addr) (ls cs : Nat) (xz : List Int) (Ar : Option Addr) (nr cr : Nat) (row : List Int) (Hq : PH), j ≤ C ∧ s7 = .slice Ar nr cr ∧ s33 = .int .i64 j ∧ Aside (row.length = j ∧ ∀ x ∈ row, -1 ≤ x ∧ x < (N : Int)) ∧ Aside (Apart (.slice A9 n9 c9) (.slice Ar nr cr)) ∧ Aside (Apart (.slice Ax nx cx) (.slice Ar nr cr)) ∧ Aside (Ext H Hq w wr) ∧ Aside (SlR (kI .i64) Hq As ls cs xz) ∧ Aside (wr.heap[w.heap.size]? = some (.cells #[.int .i64 0, .slice none 0 0, .slice none 0 0] 58)) ∧ Aside (∀ o, Hq (w.heap.size) o = none) ∧ Aside (wr.heap[w.heap.size + 1]? = some (.cells #[.slice As ls cs] 119)) ∧ Aside (∀ o, Hq (w.heap.size + 1) o = none) ∧ Aside (wr.heap[g]? = some (.cells #[.int .i64 st, .slice A9 n9 c9, .slice Ax nx cx] 58)) ∧ Aside (∀ o, Hq (g) o = none) ∧ Aside (Own (kI .i64) 3 wr ((g + 1)) Hq (.slice A9 n9 c9) (la2)) ∧ Aside (Own (kS (kI .i64)) 26 wr ((g + 1)) Hq (.slice Ax nx cx) (lx)) ∧ Aside (Own (kI .i64) 3 wr ((g + 1)) Hq (.slice Ar nr cr) (row))) (fun _ s33 _ => C - (intOf s33).toNat)
        case atStart => exact ⟨0, _, _, _, _, none, 0, 0, [], _, by omega, rfl, rfl, ⟨by simp⟩, ⟨Apart.ofNone _ _ _⟩, ⟨Apart.ofNone _ _ _⟩, hx, hl, kz, nz, kp, np, kd, nd, ⟨by simpa using hoa.out⟩, ⟨by simpa using hox.out⟩, ⟨Own.nil _ _ _ _ _⟩⟩
        case round =>
          clear hx hl kz nz kp np kd nd hoa hox
          obtain ⟨j, As, ls, cs, xz, Ar, nr, cr, row, Hq, hj, rfl, rfl, hrow, ap_a_r, ap_x_r, hx, hl, kz, nz, kp, np, kd, nd, hoa, hox, hor⟩ := hrel
          by_cases hlj : j < C
          case pos =>
            have hlji : (j : Int) < (C : Int) := by omega
            have hpz := boxL kp.out
            have lqz : w.heap.size < wr.heap.size := boxL kz.out
            have cz0 : wr.cell? ⟨w.heap.size, 0, none⟩ = some (.int .i64 0) := (boxC kz.out 0).1
            have fz0 : wr.frozen? ⟨w.heap.size, 0, none⟩ = false := (boxC kz.out 0).2
            have cz1 : wr.cell? ⟨w.heap.size, 1, none⟩ = some (.slice none 0 0) := (boxC kz.out 1).1
            have fz1 : wr.frozen? ⟨w.heap.size, 1, none⟩ = false := (boxC kz.out 1).2
            have cz2 : wr.cell? ⟨w.heap.size, 2, none⟩ = some (.slice none 0 0) := (boxC kz.out 2).1
            have fz2 : wr.frozen? ⟨w.heap.size, 2, none⟩ = false := (boxC kz.out 2).2
            have lqp : w.heap.size + 1 < wr.heap.size := boxL kp.out
            have cp0 : wr.cell? ⟨w.heap.size + 1, 0, none⟩ = some (.slice As ls cs) := (boxC kp.out 0).1
            have fp0 : wr.frozen? ⟨w.heap.size + 1, 0, none⟩ = false := (boxC kp.out 0).2
            have lqd : g < wr.heap.size := boxL kd.out
            have cd0 : wr.cell? ⟨g, 0, none⟩ = some (.int .i64 st) := (boxC kd.out 0).1
            have fd0 : wr.frozen? ⟨g, 0, none⟩ = false := (boxC kd.out 0).2
            have cd1 : wr.cell? ⟨g, 1, none⟩ = some (.slice A9 n9 c9) := (boxC kd.out 1).1
            have fd1 : wr.frozen? ⟨g, 1, none⟩ = false := (boxC kd.out 1).2
            have cd2 : wr.cell? ⟨g, 2, none⟩ = some (.slice Ax nx cx) := (boxC kd.out 2).1
            have fd2 : wr.frozen? ⟨g, 2, none⟩ = false := (boxC kd.out 2).2
            go_wp2_with fail
            clear lqz cz0 fz0 cz1 fz1 cz2 fz2 lqp cp0 fp0 lqd cd0 fd0 cd1 fd1 cd2 fd2
            refine (next_box hx.out.sat kp.out np.out hl.out (n := ((N : Int) + 1)) (by omega) (by omega)).mono ?_
            rintro e w6 ⟨m, B6, e6, f6, ys6, rfl, hma, hmb, hg, hs1, kp9, hl9⟩
            replace kz := Aside.mk (boxG kz.out hg (fun e => by have := Option.some.inj e; omega))
            replace kd := Aside.mk (boxG kd.out hg (fun e => by have := Option.some.inj e; omega))
            replace hoa := Aside.mk (hoa.out.grown hg (Or.inr (fun e => by have h1 := (hoa.out.blk e).1; omega)))
            replace hox := Aside.mk (hox.out.grown hg (Or.inr (fun e => by have h1 := (hox.out.blk e).1; omega)))
            replace hor := Aside.mk (hor.out.grown hg (Or.inr (fun e => by have h1 := (hor.out.blk e).1; omega)))
            replace hx := Aside.mk (hx.out.grown hg (fun b hb => by cases hb; exact ⟨by omega, np.out⟩))
            replace kp := Aside.mk kp9
            replace hl := Aside.mk hl9
            clear kp9 hl9 hs1 hg
            have hwm : IntKind.i64.wrap (m - 1) = m - 1 := IntWalk.i64_in _ (by omega)
            have hgz6 := boxL kd.out
            have lqz : w.heap.size < w6.heap.size := boxL kz.out
            have cz0 : w6.cell? ⟨w.heap.size, 0, none⟩ = some (.int .i64 0) := (boxC kz.out 0).1
            have fz0 : w6.frozen? ⟨w.heap.size, 0, none⟩ = false := (boxC kz.out 0).2
            have cz1 : w6.cell? ⟨w.heap.size, 1, none⟩ = some (.slice none 0 0) := (boxC kz.out 1).1
            have fz1 : w6.frozen? ⟨w.heap.size, 1, none⟩ = false := (boxC kz.out 1).2
            have cz2 : w6.cell? ⟨w.heap.size, 2, none⟩ = some (.slice none 0 0) := (boxC kz.out 2).1
            have fz2 : w6.frozen? ⟨w.heap.size, 2, none⟩ = false := (boxC kz.out 2).2
            have lqp : w.heap.size + 1 < w6.heap.size := boxL kp.out
            have cp0 : w6.cell? ⟨w.heap.size + 1, 0, none⟩ = some (.slice B6 e6 f6) := (boxC kp.out 0).1
            have fp0 : w6.frozen? ⟨w.heap.size + 1, 0, none⟩ = false := (boxC kp.out 0).2
            have lqd : g < w6.heap.size := boxL kd.out
            have cd0 : w6.cell? ⟨g, 0, none⟩ = some (.int .i64 st) := (boxC kd.out 0).1
            have fd0 : w6.frozen? ⟨g, 0, none⟩ = false := (boxC kd.out 0).2
            have cd1 : w6.cell? ⟨g, 1, none⟩ = some (.slice A9 n9 c9) := (boxC kd.out 1).1
            have fd1 : w6.frozen? ⟨g, 1, none⟩ = false := (boxC kd.out 1).2
            have cd2 : w6.cell? ⟨g, 2, none⟩ = some (.slice Ax nx cx) := (boxC kd.out 2).1
            have fd2 : w6.frozen? ⟨g, 2, none⟩ = false := (boxC kd.out 2).2
            go_upto_region 11 with (at_builtin; go_must (refine wpList_app1 (kI .i64) rfl (.tmp 35) (.tmp 41) 26 rfl 3 Try.underlying26 infoQ rfl hor.out hx.out.sat rfl rfl rfl (y := m - 1) rfl (by have := hrow.out.1; omega) (by have := hrow.out.1; unfold maxLen; omega) (by omega) ?_); intro v9 w9 ho9 hg9 hs9 hn9; obtain ⟨A9r, c9r, e9, -, -, -, -⟩ := ho9.form; generalize hn9l : (row ++ [m - 1]).length = n9r at e9; subst e9)
            clear lqz cz0 fz0 cz1 fz1 cz2 fz2 lqp cp0 fp0 lqd cd0 fd0 cd1 fd1 cd2 fd2
            replace kz := Aside.mk (boxG kz.out hg9 (fun e => by have h1 := (hor.out.blk e).1; omega))
            replace kp := Aside.mk (boxG kp.out hg9 (fun e => by have h1 := (hor.out.blk e).1; omega))
            replace kd := Aside.mk (boxG kd.out hg9 (fun e => by have h1 := (hor.out.blk e).1; omega))
            replace hx := Aside.mk (hor.out.extG hx.out (by omega) hg9)
            have ap_a_r_ := Aside.mk (hoa.out.apartN ap_a_r.out hn9)
            replace hoa := Aside.mk (hoa.out.grown_apart ap_a_r.out hg9)
            replace ap_a_r := ap_a_r_
            clear ap_a_r_
            have ap_x_r_ := Aside.mk (hox.out.apartN ap_x_r.out hn9)
            replace hox := Aside.mk (hox.out.grown_apart ap_x_r.out hg9)
            replace ap_x_r := ap_x_r_
            clear ap_x_r_
            replace hor := Aside.mk ho9
            clear ho9 hg9 hn9
            replace hrow : Aside ((row ++ [m - 1]).length = j + 1 ∧ ∀ x ∈ row ++ [m - 1], -1 ≤ x ∧ x < (N : Int)) := ⟨by rw [List.length_append, hrow.out.1]; rfl, fun a ha => by
                rcases List.mem_append.1 ha with h | h
                · exact hrow.out.2 a h
                · rw [List.mem_singleton.1 h]; omega⟩
            clear hma hmb hwm hn9l hs9 hgz6 hpz
            go_wp2_with fail
            go_roundw
            case rel => exact ⟨j + 1, _, _, _, _, _, _, _, _, _, by omega, rfl, by go_num, hrow, ap_a_r, ap_x_r, hx, hl, kz, nz, kp, np, kd, nd, hoa, hox, hor⟩
            case measure => (first | (simp [intOf]; done) | (simp [intOf]; omega))
          case neg =>
            have hlji : ¬ (j : Int) < (C : Int) := by omega
            have hjC : j = C := by omega
            replace hrow : Aside (row.length = C ∧ ∀ x ∈ row, -1 ≤ x ∧ x < (N : Int)) := ⟨hjC ▸ hrow.out.1, hrow.out.2⟩
            clear hjC
            obtain ⟨H1, hx2, hle, ⟨Ar9, cr9, e1, hr⟩, hold⟩ := hor.out.freezeE hx.out (by omega) (by have := hrow.out.1; omega)
            cases e1
            replace hl := Aside.mk (hl.out.mono hle)
            replace nz := Aside.mk (fun o => (hold _ o (fun e => by have h1 := (hor.out.blk e).1; omega)).trans (nz.out o))
            replace np := Aside.mk (fun o => (hold _ o (fun e => by have h1 := (hor.out.blk e).1; omega)).trans (np.out o))
            replace nd := Aside.mk (fun o => (hold _ o (fun e => by have h1 := (hor.out.blk e).1; omega)).trans (nd.out o))
            replace hoa := Aside.mk (hoa.out.keep hle fun bb hb => ⟨rfl, fun o => (hold bb o (fun e => ap_a_r.out.elim (fun h => by rw [h] at hb; cases hb) (fun h => h (hb.trans e.symm)))).trans ((hoa.out.blk hb).2.2 o)⟩)
            replace hox := Aside.mk (hox.out.keep hle fun bb hb => ⟨rfl, fun o => (hold bb o (fun e => ap_x_r.out.elim (fun h => by rw [h] at hb; cases hb) (fun h => h (hb.trans e.symm)))).trans ((hox.out.blk hb).2.2 o)⟩)
            replace hx := Aside.mk hx2
            replace hr := Aside.mk hr
            clear hle hold hx2
            have hrd := Aside.mk (show (kS (kI .i64)).rd H1 row [.slice Ar row.length cr] from ⟨_, _, rfl, hr.out⟩)
            clear hr
            clear ap_a_r ap_x_r
            have hsz := hx.out.size
            have hgz7 := boxL kd.out
            have lqz : w.heap.size < wr.heap.size := boxL kz.out
            have cz0 : wr.cell? ⟨w.heap.size, 0, none⟩ = some (.int .i64 0) := (boxC kz.out 0).1
            have fz0 : wr.frozen? ⟨w.heap.size, 0, none⟩ = false := (boxC kz.out 0).2
            have cz1 : wr.cell? ⟨w.heap.size, 1, none⟩ = some (.slice none 0 0) := (boxC kz.out 1).1
            have fz1 : wr.frozen? ⟨w.heap.size, 1, none⟩ = false := (boxC kz.out 1).2
            have cz2 : wr.cell? ⟨w.heap.size, 2, none⟩ = some (.slice none 0 0) := (boxC kz.out 2).1
            have fz2 : wr.frozen? ⟨w.heap.size, 2, none⟩ = false := (boxC kz.out 2).2
            have lqp : w.heap.size + 1 < wr.heap.size := boxL kp.out
            have cp0 : wr.cell? ⟨w.heap.size + 1, 0, none⟩ = some (.slice As ls cs) := (boxC kp.out 0).1
            have fp0 : wr.frozen? ⟨w.heap.size + 1, 0, none⟩ = false := (boxC kp.out 0).2
            have lqd : g < wr.heap.size := boxL kd.out
            have cd0 : wr.cell? ⟨g, 0, none⟩ = some (.int .i64 st) := (boxC kd.out 0).1
            have fd0 : wr.frozen? ⟨g, 0, none⟩ = false := (boxC kd.out 0).2
            have cd1 : wr.cell? ⟨g, 1, none⟩ = some (.slice A9 n9 c9) := (boxC kd.out 1).1
            have fd1 : wr.frozen? ⟨g, 1, none⟩ = false := (boxC kd.out 1).2
            have cd2 : wr.cell? ⟨g, 2, none⟩ = some (.slice Ax nx cx) := (boxC kd.out 2).1
            have fd2 : wr.frozen? ⟨g, 2, none⟩ = false := (boxC kd.out 2).2
            go_upto_region 13 with (at_builtin; go_must (refine wpList_app1 (kS (kI .i64)) rfl (.tmp 45) (.tmp 47) 56 rfl 26 Try.underlying56 infoS rfl hox.out hx.out.sat rfl rfl rfl hrd.out (by have := hlx.out.1; omega) (by have := hlx.out.1; unfold maxLen; omega) (by omega) ?_); intro v9 w9 ho9 hg9 hs9 hn9; obtain ⟨A9x, c9x, e9, -, -, -, -⟩ := ho9.form; generalize hn9l : (lx ++ [row]).length = n9x at e9; subst e9; have kd9 := boxG kd.out hg9 (fun e => by have h1 := (hox.out.blk e).1; omega); have cd91 := (boxC kd9 2).1; have fd91 := (boxC kd9 2).2; have hz9 := boxL kd9)
            clear lqz cz0 fz0 cz1 fz1 cz2 fz2 lqp cp0 fp0 lqd cd0 fd0 cd1 fd1 cd2 fd2
            clear kd9 cd91 fd91 hz9 hs9
            replace kz := Aside.mk (boxG kz.out hg9 (fun e => by have h1 := (hox.out.blk e).1; omega))
            replace kp := Aside.mk (boxG kp.out hg9 (fun e => by have h1 := (hox.out.blk e).1; omega))
            replace kd := Aside.mk (boxG kd.out hg9 (fun e => by have h1 := (hox.out.blk e).1; omega))
            replace hx := Aside.mk (hox.out.extG hx.out (by omega) hg9)
            have hap_ := Aside.mk (hoa.out.apartN hap.out hn9)
            replace hoa := Aside.mk (hoa.out.grown_apart hap.out hg9)
            replace hap := hap_
            clear hap_
            replace hox := Aside.mk ho9
            clear ho9 hg9 hn9
            have kz_ : (w9.setCell ⟨g, 2, none⟩ (.slice A9x n9x c9x)).heap[w.heap.size]? = some (.cells #[.int .i64 0, .slice none 0 0, .slice none 0 0] 58) := (boxS_ne kz.out (by first | omega | (simp; omega)) 2 (.slice A9x n9x c9x))
            have kp_ : (w9.setCell ⟨g, 2, none⟩ (.slice A9x n9x c9x)).heap[w.heap.size + 1]? = some (.cells #[.slice As ls cs] 119) := (boxS_ne kp.out (by first | omega | (simp; omega)) 2 (.slice A9x n9x c9x))
            have kd_ : (w9.setCell ⟨g, 2, none⟩ (.slice A9x n9x c9x)).heap[g]? = some (.cells #[.int .i64 st, .slice A9 n9 c9, .slice A9x n9x c9x] 58) := (boxS kd.out 2 (.slice A9x n9x c9x))
            replace hoa := Aside.mk (hoa.out.grown (grownBy_setCell _ (g) 2 (.slice A9x n9x c9x)) (Or.inr (fun e => by first | (have h1 := (hoa.out.blk e).1; omega) | (simp [Value.ownBlock] at e; done) | (simp [Value.ownBlock] at e; omega))))
            replace hox := Aside.mk (hox.out.grown (grownBy_setCell _ (g) 2 (.slice A9x n9x c9x)) (Or.inr (fun e => by first | (have h1 := (hox.out.blk e).1; omega) | (simp [Value.ownBlock] at e; done) | (simp [Value.ownBlock] at e; omega))))
            replace hx := Aside.mk ((hx.out.setCell (b := g) (o := 2) (by first | omega | (simp; omega)) nd.out (.slice A9x n9x c9x)))
            generalize (w9.setCell ⟨g, 2, none⟩ (.slice A9x n9x c9x)) = W5 at *
            replace kz := Aside.mk kz_
            clear kz_
            replace kp := Aside.mk kp_
            clear kp_
            replace kd := Aside.mk kd_
            clear kd_
            replace hlx : Aside ((lx ++ [row]).length = i + 1 ∧ ∀ r ∈ lx ++ [row], r.length = C ∧ ∀ x ∈ r, -1 ≤ x ∧ x < (N : Int)) := ⟨by rw [List.length_append, hlx.out.1]; rfl, fun a ha => by
                rcases List.mem_append.1 ha with h | h
                · exact hlx.out.2 a h
                · rw [List.mem_singleton.1 h]; exact hrow.out⟩
            clear hrd hn9l
            have lqz : w.heap.size < W5.heap.size := boxL kz.out
            have cz0 : W5.cell? ⟨w.heap.size, 0, none⟩ = some (.int .i64 0) := (boxC kz.out 0).1
            have fz0 : W5.frozen? ⟨w.heap.size, 0, none⟩ = false := (boxC kz.out 0).2
            have cz1 : W5.cell? ⟨w.heap.size, 1, none⟩ = some (.slice none 0 0) := (boxC kz.out 1).1
            have fz1 : W5.frozen? ⟨w.heap.size, 1, none⟩ = false := (boxC kz.out 1).2
            have cz2 : W5.cell? ⟨w.heap.size, 2, none⟩ = some (.slice none 0 0) := (boxC kz.out 2).1
            have fz2 : W5.frozen? ⟨w.heap.size, 2, none⟩ = false := (boxC kz.out 2).2
            have lqp : w.heap.size + 1 < W5.heap.size := boxL kp.out
            have cp0 : W5.cell? ⟨w.heap.size + 1, 0, none⟩ = some (.slice As ls cs) := (boxC kp.out 0).1
            have fp0 : W5.frozen? ⟨w.heap.size + 1, 0, none⟩ = false := (boxC kp.out 0).2
            have lqd : g < W5.heap.size := boxL kd.out
            have cd0 : W5.cell? ⟨g, 0, none⟩ = some (.int .i64 st) := (boxC kd.out 0).1
            have fd0 : W5.frozen? ⟨g, 0, none⟩ = false := (boxC kd.out 0).2
            have cd1 : W5.cell? ⟨g, 1, none⟩ = some (.slice A9 n9 c9) := (boxC kd.out 1).1
            have fd1 : W5.frozen? ⟨g, 1, none⟩ = false := (boxC kd.out 1).2
            have cd2 : W5.cell? ⟨g, 2, none⟩ = some (.slice A9x n9x c9x) := (boxC kd.out 2).1
            have fd2 : W5.frozen? ⟨g, 2, none⟩ = false := (boxC kd.out 2).2
            go_wp2_with fail
            clear lqz cz0 fz0 cz1 fz1 cz2 fz2 lqp cp0 fp0 lqd cd0 fd0 cd1 fd1 cd2 fd2
            go_roundw
            case rel => exact ⟨i + 1, _, _, _, _, _, _, _, _, _, _, _, _, _, by omega, by go_num, hla, hlx, hap, hx, hl, kz, nz, kp, np, kd, nd, hoa, hox⟩
            case measure => (first | (simp [intOf]; done) | (simp [intOf]; omega))
    case neg =>
      have hli : ¬ (i : Int) < (N : Int) := by omega
      have hie : i = N := by omega
      subst hie
      have hgz := boxL kd.out
      have hsz := hx.out.size
      have lqz : w.heap.size < wr.heap.size := boxL kz.out
      have cz0 : wr.cell? ⟨w.heap.size, 0, none⟩ = some (.int .i64 0) := (boxC kz.out 0).1
      have fz0 : wr.frozen? ⟨w.heap.size, 0, none⟩ = false := (boxC kz.out 0).2
      have cz1 : wr.cell? ⟨w.heap.size, 1, none⟩ = some (.slice none 0 0) := (boxC kz.out 1).1
      have fz1 : wr.frozen? ⟨w.heap.size, 1, none⟩ = false := (boxC kz.out 1).2
      have cz2 : wr.cell? ⟨w.heap.size, 2, none⟩ = some (.slice none 0 0) := (boxC kz.out 2).1
      have fz2 : wr.frozen? ⟨w.heap.size, 2, none⟩ = false := (boxC kz.out 2).2
      have lqp : w.heap.size + 1 < wr.heap.size := boxL kp.out
      have cp0 : wr.cell? ⟨w.heap.size + 1, 0, none⟩ = some (.slice As ls cs) := (boxC kp.out 0).1
      have fp0 : wr.frozen? ⟨w.heap.size + 1, 0, none⟩ = false := (boxC kp.out 0).2
      have lqd : g < wr.heap.size := boxL kd.out
      have cd0 : wr.cell? ⟨g, 0, none⟩ = some (.int .i64 st) := (boxC kd.out 0).1
      have fd0 : wr.frozen? ⟨g, 0, none⟩ = false := (boxC kd.out 0).2
      have cd1 : wr.cell? ⟨g, 1, none⟩ = some (.slice Aa na ca) := (boxC kd.out 1).1
      have fd1 : wr.frozen? ⟨g, 1, none⟩ = false := (boxC kd.out 1).2
      have cd2 : wr.cell? ⟨g, 2, none⟩ = some (.slice Ax nx cx) := (boxC kd.out 2).1
      have fd2 : wr.frozen? ⟨g, 2, none⟩ = false := (boxC kd.out 2).2
      go_wp2_with fail
      clear lqz cz0 fz0 cz1 fz1 cz2 fz2 lqp cp0 fp0 lqd cd0 fd0 cd1 fd1 cd2 fd2
      have kz_ : (((wr.setCell ⟨w.heap.size, 0, none⟩ (.int .i64 st)).setCell ⟨w.heap.size, 1, none⟩ (.slice Aa na ca)).setCell ⟨w.heap.size, 2, none⟩ (.slice Ax nx cx)).heap[w.heap.size]? = some (.cells #[.int .i64 st, .slice Aa na ca, .slice Ax nx cx] 58) := (boxS (boxS (boxS kz.out 0 (.int .i64 st)) 1 (.slice Aa na ca)) 2 (.slice Ax nx cx))
      have kp_ : (((wr.setCell ⟨w.heap.size, 0, none⟩ (.int .i64 st)).setCell ⟨w.heap.size, 1, none⟩ (.slice Aa na ca)).setCell ⟨w.heap.size, 2, none⟩ (.slice Ax nx cx)).heap[w.heap.size + 1]? = some (.cells #[.slice As ls cs] 119) := (boxS_ne (boxS_ne (boxS_ne kp.out (by first | omega | (simp; omega)) 0 (.int .i64 st)) (by first | omega | (simp; omega)) 1 (.slice Aa na ca)) (by first | omega | (simp; omega)) 2 (.slice Ax nx cx))
      have kd_ : (((wr.setCell ⟨w.heap.size, 0, none⟩ (.int .i64 st)).setCell ⟨w.heap.size, 1, none⟩ (.slice Aa na ca)).setCell ⟨w.heap.size, 2, none⟩ (.slice Ax nx cx)).heap[g]? = some (.cells #[.int .i64 st, .slice Aa na ca, .slice Ax nx cx] 58) := (boxS_ne (boxS_ne (boxS_ne kd.out (by first | omega | (simp; omega)) 0 (.int .i64 st)) (by first | omega | (simp; omega)) 1 (.slice Aa na ca)) (by first | omega | (simp; omega)) 2 (.slice Ax nx cx))
      replace hoa := Aside.mk (((hoa.out.grown (grownBy_setCell _ (w.heap.size) 0 (.int .i64 st)) (Or.inr (fun e => by first | (have h1 := (hoa.out.blk e).1; omega) | (simp [Value.ownBlock] at e; done) | (simp [Value.ownBlock] at e; omega)))).grown (grownBy_setCell _ (w.heap.size) 1 (.slice Aa na ca)) (Or.inr (fun e => by first | (have h1 := (hoa.out.blk e).1; omega) | (simp [Value.ownBlock] at e; done) | (simp [Value.ownBlock] at e; omega)))).grown (grownBy_setCell _ (w.heap.size) 2 (.slice Ax nx cx)) (Or.inr (fun e => by first | (have h1 := (hoa.out.blk e).1; omega) | (simp [Value.ownBlock] at e; done) | (simp [Value.ownBlock] at e; omega))))
      replace hox := Aside.mk (((hox.out.grown (grownBy_setCell _ (w.heap.size) 0 (.int .i64 st)) (Or.inr (fun e => by first | (have h1 := (hox.out.blk e).1; omega) | (simp [Value.ownBlock] at e; done) | (simp [Value.ownBlock] at e; omega)))).grown (grownBy_setCell _ (w.heap.size) 1 (.slice Aa na ca)) (Or.inr (fun e => by first | (have h1 := (hox.out.blk e).1; omega) | (simp [Value.ownBlock] at e; done) | (simp [Value.ownBlock] at e; omega)))).grown (grownBy_setCell _ (w.heap.size) 2 (.slice Ax nx cx)) (Or.inr (fun e => by first | (have h1 := (hox.out.blk e).1; omega) | (simp [Value.ownBlock] at e; done) | (simp [Value.ownBlock] at e; omega))))
      replace hx := Aside.mk ((((hx.out.setCell (b := w.heap.size) (o := 0) (by first | omega | (simp; omega)) nz.out (.int .i64 st)).setCell (b := w.heap.size) (o := 1) (by first | omega | (simp; omega)) nz.out (.slice Aa na ca)).setCell (b := w.heap.size) (o := 2) (by first | omega | (simp; omega)) nz.out (.slice Ax nx cx)))
      generalize (((wr.setCell ⟨w.heap.size, 0, none⟩ (.int .i64 st)).setCell ⟨w.heap.size, 1, none⟩ (.slice Aa na ca)).setCell ⟨w.heap.size, 2, none⟩ (.slice Ax nx cx)) = W6 at *
      replace kz := Aside.mk kz_
      clear kz_
      replace kp := Aside.mk kp_
      clear kp_
      replace kd := Aside.mk kd_
      clear kd_
      have hap2 := hap.out
      have ap_a_x := Aside.mk hap2
      have ap_x_a := Aside.mk hap2.symm
      obtain ⟨H1, hx2, hle, ⟨A1, c1, e1, hA⟩, hold⟩ := hoa.out.freezeE hx.out (by omega) (by have := hla.out.1; omega)
      cases e1
      replace hl := Aside.mk (hl.out.mono hle)
      replace nz := Aside.mk (fun o => (hold _ o (fun e => by have h1 := (hoa.out.blk e).1; omega)).trans (nz.out o))
      replace np := Aside.mk (fun o => (hold _ o (fun e => by have h1 := (hoa.out.blk e).1; omega)).trans (np.out o))
      replace nd := Aside.mk (fun o => (hold _ o (fun e => by have h1 := (hoa.out.blk e).1; omega)).trans (nd.out o))
      replace hox := Aside.mk (hox.out.keep hle fun bb hb => ⟨rfl, fun o => (hold bb o (fun e => ap_x_a.out.elim (fun h => by rw [h] at hb; cases hb) (fun h => h (hb.trans e.symm)))).trans ((hox.out.blk hb).2.2 o)⟩)
      replace hx := Aside.mk hx2
      replace hA := Aside.mk hA
      clear hle hold hx2
      obtain ⟨H1, hx2, hle, ⟨A2, c2, e1, hX⟩, hold⟩ := hox.out.freezeE hx.out (by omega) (by have := hlx.out.1; omega)
      cases e1
      replace hl := Aside.mk (hl.out.mono hle)
      replace hA := Aside.mk (hA.out.mono hle)
      replace nz := Aside.mk (fun o => (hold _ o (fun e => by have h1 := (hox.out.blk e).1; omega)).trans (nz.out o))
      replace np := Aside.mk (fun o => (hold _ o (fun e => by have h1 := (hox.out.blk e).1; omega)).trans (np.out o))
      replace nd := Aside.mk (fun o => (hold _ o (fun e => by have h1 := (hox.out.blk e).1; omega)).trans (nd.out o))
      replace hx := Aside.mk hx2
      replace hX := Aside.mk hX
      clear hle hold hx2
      refine bodyPost_ret (resC rfl _ _ _ rfl (run_loadVar_row _ _ _ _ _ (0, 0) _ kz.out Try.underlying58 rfl (by kernel_rfl))) rfl ?_
      refine ⟨_, ⟨st, la, lx⟩, Aa, ca, Ax, cx, rfl, ⟨_, _, _, _, rfl, hA.out, hX.out⟩, ?_, ?_, ?_, hla.out.2, hx.out⟩
      · refine dfaErr_made (C := C) ?_ ?_ ?_ ?_ ?_ hsta.out.1 ?_ (fun a ha => (hla.out.2 a ha).1) (fun r hr => ?_)
        · show 0 < lx.length; have := hlx.out.1; omega
        · show lx.length ≤ 200; have := hlx.out.1; omega
        · show la.length = lx.length; rw [hla.out.1, hlx.out.1]
        · omega
        · omega
        · show st < (lx.length : Int); rw [hlx.out.1]; exact hsta.out.2
        · show r.length = C ∧ ∀ x ∈ r, -1 ≤ x ∧ x < (lx.length : Int); rw [hlx.out.1]; exact hlx.out.2 r hr
      · show lx.length ≤ 6; have := hlx.out.1; omega
      · have := (getD_of (P := fun r => r.length = C ∧ ∀ x ∈ r, -1 ≤ x ∧ x < (i : Int)) hlx.out.2 (i := 0) (by have := hlx.out.1; omega)).1; show (lx.getD 0 []).length ≤ 3; omega
end Go.Proofs.Ytbnahmeaeakhhaa.B
