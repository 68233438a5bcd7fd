/- Contracts: parlmake.Below, stream.next, Text; retree.Size; parlkeep1.re, good; slices.Equal over pairs. -/
import Derived.Test.YtbnahmeaeakhhaaOpr
namespace Go.Proofs.Ytbnahmeaeakhhaa.B
set_option linter.unusedVariables false
set_option linter.unusedSimpArgs false
open Go Go.RowKit Classical

theorem kresults_c1 {fn : Func} {a : Tmp} {T : TypeId} (h : fn.results = #[.cell a T]) (tmps : Array Value) (P : Program) (w : World) {ad : Addr} {v : Value} (ha : tmps.getD a undef = .pointer (some ad)) (hl : (loadVar T ad).run P w = .ok v w) :
    (results fn tmps).run P w = .ok v w := by
  rw [Array.getD_eq_getD_getElem?] at ha
  simp [results, h, ha, hl, asAddr]
theorem kbox_set {w : World} {b : Nat} {cs : Array Value} {T : TypeId} (h : w.heap[b]? = some (.cells cs T)) (j : Nat) (v : Value) : (w.setCell ⟨b, j, none⟩ v).heap[b]? = some (.cells (cs.setIfInBounds j v) T) := by
  simp [World.setCell, Array.getElem?_modify, h]
theorem kbox6_set {w : World} {b : Nat} {v0 v1 v2 v3 v4 v5 : Value} {T : TypeId} (h : w.heap[b]? = some (.cells #[v0, v1, v2, v3, v4, v5] T)) (u0 u1 u2 u3 u4 u5 : Value) :
    ((((((w.setCell ⟨b, 0, none⟩ u0).setCell ⟨b, 1, none⟩ u1).setCell ⟨b, 2, none⟩ u2).setCell ⟨b, 3, none⟩ u3).setCell ⟨b, 4, none⟩ u4).setCell ⟨b, 5, none⟩ u5).heap[b]? = some (.cells #[u0, u1, u2, u3, u4, u5] T) :=
  kbox_set (kbox_set (kbox_set (kbox_set (kbox_set (kbox_set h 0 u0) 1 u1) 2 u2) 3 u3) 4 u4) 5 u5

/-- what Below gives -/
def below (x n : Int) : Int := if x.tmod n < 0 then x.tmod n + n else x.tmod n
theorem below_lt (x n : Int) (h : 0 < n) : 0 ≤ below x n ∧ below x n < n := by
  have h1 := Int.tmod_lt_of_pos x h
  have h2 : -n < x.tmod n := by
    have := Int.tmod_lt_of_pos (-x) h
    rw [Int.neg_tmod] at this; omega
  unfold below
  split <;> omega

theorem below_any (x n : Int) (w : World) (h : 0 < n) (hn : n ≤ 1000000) :
    Calls Try.prog 55 #[.int .i64 x, .int .i64 n] w fun e w' => e = .returned (.int .i64 (below x n)) ∧ w = w' := by
  have h1 := Int.tmod_lt_of_pos x h
  have h2 : -n < x.tmod n := by
    have := Int.tmod_lt_of_pos (-x) h
    rw [Int.neg_tmod] at this; omega
  have hB : below x n = if x.tmod n < 0 then x.tmod n + n else x.tmod n := rfl
  have HB := Aside.mk hB
  clear hB
  have hnz : ¬ n = 0 := by omega
  by_cases hq : x.tmod n < 0
  · go_enter Try.func55, Try.ntmps55
    go_wp2_with fail
    go_ret
    exact ⟨by rw [HB.out, if_pos (by omega)]; rfl, rfl⟩
  · go_enter Try.func55, Try.ntmps55
    go_wp2_with fail
    go_ret
    exact ⟨by rw [HB.out, if_neg (by omega)]; rfl, rfl⟩

theorem SlR.tail {α} {k : Kd α} {H : PH} {b off n c : Nat} {x : α} {xs : List α} (h : SlR k H (some ⟨b, off, none⟩) n c (x :: xs)) : SlR k H (some ⟨b, off + k.sz, none⟩) (n - 1) (c - 1) xs := by
  obtain ⟨h1, h2, h3, h4, h5, h6⟩ := h
  simp only [List.length_cons] at h1
  refine ⟨by omega, by omega, by omega, by omega, fun h => by simp at h, fun i hi => ?_⟩
  obtain ⟨b', off', cs, e, hr, hc⟩ := h6 (i + 1) (by simp; omega)
  cases e
  refine ⟨b, off + k.sz, cs, rfl, by simpa using hr, fun j v hj => ?_⟩
  have := hc j v hj
  rw [Nat.add_mul, Nat.one_mul] at this
  rw [show off + k.sz + i * k.sz + j = off + (i * k.sz + k.sz) + j by omega]
  exact this

/-- the stream at p -/
def Strm (H : PH) (w : World) (p : Nat) : Prop := (∀ o, H p o = none) ∧ ∃ A n c xs, w.heap[p]? = some (.cells #[.slice A n c] 119) ∧ SlR (kI .i64) H A n c xs

set_option maxRecDepth 100000 in
theorem next_any (H : PH) (p : Nat) (n : Int) (w : World) (hs : Sat w H) (hp : Strm H w p) (h : 0 < n) (hn : n ≤ 1000000) :
    Calls Try.prog 116 #[.pointer (some ⟨p, 0, none⟩), .int .i64 n] w fun e w' => ∃ m : Int, e = .returned (.int .i64 m) ∧ 0 ≤ m ∧ m < n ∧ w.grownBy w' (some p) ∧ Sat w' H ∧ Strm H w' p := by
  obtain ⟨hpH, A, l, c, xs, hh, hx⟩ := hp
  have hc0 : w.cell? ⟨p, 0, none⟩ = some (.slice A l c) := by simp [World.cell?, hh]
  have hf0 : w.frozen? ⟨p, 0, none⟩ = false := by simp [World.frozen?, hh]
  have HX := Aside.mk (And.intro hpH (And.intro hh hx))
  obtain ⟨hl, hc, hm, hb, -, -⟩ := hx
  clear hpH hh
  cases xs with
  | nil =>
    obtain rfl : l = 0 := hl
    go_enter Try.func116, Try.ntmps116
    go_wp2_with fail
    go_ret
    exact ⟨0, rfl, by omega, by omega, grownBy_refl _ _, hs, HX.out.1, _, _, _, _, HX.out.2.1, HX.out.2.2⟩
  | cons x xs =>
    obtain ⟨b, off, cs, rfl, hrd, hcell⟩ := HX.out.2.2.row 0 (by simp)
    obtain rfl : cs = [.int .i64 x] := hrd
    have g0 := at1 hs hcell
    simp only [kI, Nat.zero_mul, Nat.add_zero] at g0
    have hbz : b < w.heap.size := World.block_lt_of_cell? w _ g0
    have hbp : b ≠ p := fun e => by
      have := hcell 0 _ rfl
      rw [e, HX.out.1] at this; cases this
    simp only [List.length_cons] at hl
    have hl0 : ¬ (l : Int) = 0 := by omega
    have hl1 : (0 : Int) < l := by omega
    clear hcell
    have hset : ∀ v, ((w.setCell ⟨p, 0, none⟩ v).heap[p]? = some (.cells #[v] 119)) := fun v => by simp [World.setCell, Array.getElem?_modify, HX.out.2.1]
    have HS := Aside.mk hset
    clear hset
    by_cases hc1 : c = 1
    · subst hc1
      obtain rfl : l = 1 := by omega
      obtain rfl : xs = [] := List.eq_nil_of_length_eq_zero (by omega)
      clear hl hl0 hl1 hc hm hb
      go_enter Try.func116, Try.ntmps116
      go_wp2_with fail
      refine (below_any x n _ h hn).mono ?_
      rintro e w1 ⟨rfl, rfl⟩
      go_wp2_with fail
      go_ret
      exact ⟨_, rfl, (below_lt x n h).1, (below_lt x n h).2, grownBy_setCell _ _ _ _, hs.grown (grownBy_setCell _ _ _ _) (fun b hb => by cases hb; exact HX.out.1), HX.out.1, _, _, _, [], HS.out _, rfl, by omega, by unfold maxLen; omega, by omega, fun h => by simp at h, Row.nil _ _ _⟩
    · go_enter Try.func116, Try.ntmps116
      go_wp2_with fail
      refine (below_any x n _ h hn).mono ?_
      rintro e w1 ⟨rfl, rfl⟩
      go_wp2_with fail
      go_ret
      exact ⟨_, rfl, (below_lt x n h).1, (below_lt x n h).2, grownBy_setCell _ _ _ _, hs.grown (grownBy_setCell _ _ _ _) (fun b hb => by cases hb; exact HX.out.1), HX.out.1, _, _, _, xs, HS.out _, by have := HX.out.2.2.tail; rw [hl] at this; exact this⟩
end Go.Proofs.Ytbnahmeaeakhhaa.B
