/- Packing: contracts of entries, place, dfa.Check, cmp.Compare, and of Pack's comparison. -/
import Derived.Test.YtbnahmeaeakhhaaQ4
import Derived.Test.YtbnahmeaeakhhaaT1
import Derived.Test.YtbnahmeaeakhhaaV3
import Derived.Test.YtbnahmeaeakhhaaV4
import Derived.Test.YtbnahmeaeakhhaaS5
namespace Go.Proofs.Ytbnahmeaeakhhaa.B
set_option linter.unusedVariables false
set_option linter.unusedSimpArgs false
open Go Go.RowKit Go.Proofs.Ytbnahmeaeakhhaa.Q Go.Proofs.Ytbnahmeaeakhhaa.S

theorem entries_any {A : Option Addr} {c : Nat} {row : List Int} {w : World} (h : WR .i64 w A row.length c row) (hl : row.length ≤ 100000) :
    Calls Try.prog 114 #[.slice A row.length c] w fun e w' => e = .returned (.int .i64 (cntF row)) ∧ ∃ n, w' = w.drewN n :=
  (entries_hand h hl).mono fun _ _ ⟨h1, h2⟩ => ⟨h1, 0, by rw [h2]; rfl⟩
theorem entries_H {H : PH} {A : Option Addr} {n c : Nat} {row : List Int} {w : World} (hs : Sat w H) (h : SlR (kI .i64) H A n c row) (hl : row.length ≤ 100000) :
    Calls Try.prog 114 #[.slice A n c] w fun e w' => e = .returned (.int .i64 (cntF row)) ∧ ∃ n, w' = w.drewN n := by
  obtain rfl := h.1
  exact entries_any (h.wr hs) hl
theorem place_any {A A2 : Option Addr} {c c2 : Nat} {own row : List Int} {w : World} (h : WR .i64 w A own.length c own) (h2 : WR .i64 w A2 row.length c2 row) (hl : own.length ≤ 100000) (hl2 : row.length ≤ 100000) :
    Calls Try.prog 115 #[.slice A own.length c, .slice A2 row.length c2] w fun e w' => e = .returned (.int .i64 (placeN own row)) ∧ ∃ n, w' = w.drewN n :=
  (place_hand h h2 hl hl2).mono fun _ _ ⟨h1, h2⟩ => ⟨h1, 0, by rw [h2]; rfl⟩
theorem dfaCheck_any {H : PH} {st : Int} {A1 A2 : Option Addr} {c1 c2 : Nat} {acc : List Int} {next : List (List Int)} {w : World} (h1 : SlR (kI .i64) H A1 acc.length c1 acc) (h2 : SlR (kS (kI .i64)) H A2 next.length c2 next) (hs : Sat w H) :
    Calls Try.prog 96 #[.agg #[.int .i64 st, .slice A1 acc.length c1, .slice A2 next.length c2]] w fun e w' => e = .returned (.int .i64 (dfaErr st acc next)) ∧ Below w.heap.size w w' :=
  dfaCheck_hand h1 h2 hs

theorem Sat.drewN {w : World} {H : PH} (h : Sat w H) (n : Nat) : Sat (w.drewN n) H := h
def cmpI (x y : Int) : Int := if x < y then -1 else if y < x then 1 else 0
theorem cmpI_lt {x y : Int} : cmpI x y < 0 ↔ x < y := by unfold cmpI; split; · simp [*]
                                                         split <;> simp <;> omega
theorem isNaN_any (x : Int) (w : World) : Calls Try.prog 164 #[.int .i64 x] w fun e w' => e = .returned (.bool false) ∧ w = w' := by
  go_enter Try.func164, Try.ntmps164
  go_wp2_with fail
  go_ret
  simp
set_option maxHeartbeats 1000000 in
theorem compare_any (x y : Int) (w : World) : Calls Try.prog 113 #[.int .i64 x, .int .i64 y] w fun e w' => e = .returned (.int .i64 (cmpI x y)) ∧ w = w' := by
  have hc : ∀ x : Int, Calls Try.prog 164 #[.int .i64 x] w fun e w' => e = .returned (.bool false) ∧ w = w' := fun x => isNaN_any x w
  have HC := Aside.mk hc
  clear hc
  obtain ⟨r, hr⟩ : ∃ r, r = cmpI x y := ⟨_, rfl⟩
  rw [← hr]
  unfold cmpI at hr
  replace hr := Aside.mk hr
  by_cases h1 : x < y
  · go_enter Try.func113, Try.ntmps113
    go_wp2_with (with_reducible refine (HC.out _).mono ?_; rintro e w1 ⟨rfl, rfl⟩)
    go_ret
    have := hr.out; rw [if_pos h1] at this; subst this; exact ⟨rfl, rfl⟩
  · by_cases h2 : y < x
    · go_enter Try.func113, Try.ntmps113
      go_wp2_with (with_reducible refine (HC.out _).mono ?_; rintro e w1 ⟨rfl, rfl⟩)
      go_ret
      have := hr.out; rw [if_neg (by omega), if_pos h2] at this; subst this; exact ⟨rfl, rfl⟩
    · go_enter Try.func113, Try.ntmps113
      go_wp2_with (with_reducible refine (HC.out _).mono ?_; rintro e w1 ⟨rfl, rfl⟩)
      go_ret
      have := hr.out; rw [if_neg (by omega), if_neg (by omega)] at this; subst this; exact ⟨rfl, rfl⟩

/-- an automaton, as H knows it: its variable pd -/
structure DfaH (H : PH) (pd : Nat) (st : Int) (acc : List Int) (next : List (List Int)) (A1 A2 : Option Addr) (c1 c2 : Nat) : Prop where
  box : BoxH H pd [.int .i64 st, .slice A1 acc.length c1, .slice A2 next.length c2]
  acc : SlR (kI .i64) H A1 acc.length c1 acc
  next : SlR (kS (kI .i64)) H A2 next.length c2 next
theorem DfaH.mono {H H' : PH} {pd : Nat} {st : Int} {acc : List Int} {next : List (List Int)} {A1 A2 : Option Addr} {c1 c2 : Nat} (hh : H.le H') (h : DfaH H pd st acc next A1 A2 c1 c2) : DfaH H' pd st acc next A1 A2 c1 c2 :=
  ⟨h.box.mono hh, h.acc.mono hh, h.next.mono hh⟩
/-- the row of a state -/
theorem DfaH.row {H : PH} {pd : Nat} {st : Int} {acc : List Int} {next : List (List Int)} {A1 A2 : Option Addr} {c1 c2 : Nat} (h : DfaH H pd st acc next A1 A2 c1 c2) (i : Nat) (hi : i < next.length) :
    ∃ b off A c, A2 = some ⟨b, off, none⟩ ∧ SlR (kI .i64) H A (next.getD i []).length c (next.getD i []) ∧ H b (off + i) = some (.slice A (next.getD i []).length c) := by
  obtain ⟨b, off, cs, e, hr, hc⟩ := h.next.row i hi
  obtain ⟨A', c', rfl, hr'⟩ := hr
  have e9 : next.getD i [] = next[i] := by rw [List.getD_eq_getElem?_getD, List.getElem?_eq_getElem hi]; rfl
  rw [e9]
  exact ⟨b, off, A', c', e, hr', by have := hc 0 _ rfl; simpa [kS] using this⟩
def keyF (next : List (List Int)) (s : Int) : Int := cntF (next.getD s.toNat [])

set_option maxRecDepth 100000 in
set_option maxHeartbeats 4000000 in
theorem packCmp_ok {H : PH} {pd : Nat} {st : Int} {acc : List Int} {next : List (List Int)} {A1 A2 : Option Addr} {c1 c2 : Nat} (h : DfaH H pd st acc next A1 A2 c1 c2) (hn : next.length ≤ 200) (hr : ∀ i, (next.getD i []).length ≤ 16) : CmpOk (keyF next) next.length pd H := by
  intro W x y hs hx0 hx1 hy0 hy1
  obtain ⟨i, rfl⟩ : ∃ i : Nat, x = (i : Int) := ⟨x.toNat, by omega⟩
  obtain ⟨j, rfl⟩ : ∃ j : Nat, y = (j : Int) := ⟨y.toNat, by omega⟩
  obtain ⟨b, off, Ai, ci, rfl, hi, hci⟩ := h.row i (by omega)
  obtain ⟨b', off', Aj, cj, e, hj, hcj⟩ := h.row j (by omega)
  simp only [Option.some.injEq, Addr.mk.injEq, and_true] at e
  obtain ⟨rfl, rfl⟩ := e
  have key : ((cmpI (cntF (next.getD j [])) (cntF (next.getD i []))) < 0 ↔ keyF next (j : Int) < keyF next (i : Int)) := by
    unfold keyF; rw [cmpI_lt]; simp
  have hz := h.next.2.1
  have hzm := h.next.2.2.1
  have g0 := hs _ _ _ (h.box 2 _ rfl)
  have gi := hs _ _ _ hci
  have gj := hs _ _ _ hcj
  have li := hr i
  have lj := hr j
  generalize next.getD i [] = ri at *
  generalize next.getD j [] = rj at *
  have KK := Aside.mk key
  have HI := Aside.mk hi
  have HJ := Aside.mk hj
  have HS := Aside.mk hs
  have LI := Aside.mk (show ri.length ≤ 100000 by omega)
  have LJ := Aside.mk (show rj.length ≤ 100000 by omega)
  have HH := Aside.mk h
  have b1 : (i : Int) < (next.length : Int) := by omega
  have b2 : (j : Int) < (next.length : Int) := by omega
  have b3 : (0 : Int) ≤ (i : Int) := by omega
  have b4 : (0 : Int) ≤ (j : Int) := by omega
  clear h hi hj hs hci hcj key hr
  simp only [Nat.zero_add] at g0
  go_enter Try.func112, Try.ntmps112
  go_wp2_with fail
  go_quiet ((first
    | (go_at_call 114; with_reducible exact Calls.quiet_of (entries_H (n := rj.length) (HS.out.drewN _) HJ.out LJ.out))
    | (go_at_call 114; with_reducible exact Calls.quiet_of (entries_H (n := ri.length) (HS.out.drewN _) HI.out LI.out))
    | (go_at_call 113; exact Calls.quiet_of_same ((compare_any _ _ _).mono fun _ _ h => ⟨h.1, h.2.symm⟩))))
  go_wp2_with fail
  go_ret
  exact ⟨_, rfl, KK.out, (Below.refl _ _).drewN _⟩
end Go.Proofs.Ytbnahmeaeakhhaa.B
