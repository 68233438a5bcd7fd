/- Contract: rowpack.Read's next. -/
import Derived.Test.YtbnahmeaeakhhaaQ6
namespace Go.Proofs.Ytbnahmeaeakhhaa.B
set_option linter.unusedVariables false
set_option linter.unusedSimpArgs false
open Go Go.RowKit Go.Proofs.Ytbnahmeaeakhhaa.Q

/-- only the blocks p, q have turned -/
structure Tu (p q : Nat) (w w' : World) : Prop where
  os : w'.os = w.os
  tape : w'.tape = w.tape
  output : w'.output = w.output
  size : w.heap.size ≤ w'.heap.size
  block : ∀ i, i < w.heap.size → i ≠ p → i ≠ q → w'.heap[i]? = w.heap[i]?
theorem Tu.refl (p q : Nat) (w : World) : Tu p q w w := ⟨rfl, rfl, rfl, Nat.le_refl _, fun _ _ _ _ => rfl⟩
theorem Tu.of {p q : Nat} {w w' : World} (h : Below w.heap.size w w') : Tu p q w w' := ⟨h.os, h.tape, h.output, h.size, fun i hi _ _ => h.block i hi⟩
theorem Tu.trans {p q : Nat} {a b c : World} (h : Tu p q a b) (k : Tu p q b c) : Tu p q a c :=
  ⟨k.os.trans h.os, k.tape.trans h.tape, k.output.trans h.output, Nat.le_trans h.size k.size, fun i hi h1 h2 => (k.block i (Nat.lt_of_lt_of_le hi h.size) h1 h2).trans (h.block i hi h1 h2)⟩
theorem Tu.set1 (p q : Nat) (w : World) (o : Nat) (v : Value) : Tu p q w (w.setCell ⟨p, o, none⟩ v) := ⟨rfl, rfl, rfl, by simp [World.setCell], fun i _ h1 _ => Below.heap_setCell _ _ _ _ h1⟩
theorem Tu.set2 (p q : Nat) (w : World) (o : Nat) (v : Value) : Tu p q w (w.setCell ⟨q, o, none⟩ v) := ⟨rfl, rfl, rfl, by simp [World.setCell], fun i _ _ h2 => Below.heap_setCell _ _ _ _ h2⟩
theorem Tu.sat {p q : Nat} {w w' : World} {H : PH} (h : Tu p q w w') (hs : Sat w H) (hp : ∀ o, H p o = none) (hq : ∀ o, H q o = none) : Sat w' H := fun b o v e => by
  have h1 := hs b o v e
  rw [← h1]
  refine World.cell?_of_block (h.block b (hs.lt e) (fun hh => ?_) (fun hh => ?_))
  · subst hh; rw [hp] at e; cases e
  · subst hh; rw [hq] at e; cases e
theorem Tu.below {p q B : Nat} {w0 w w' : World} (h : Below B w0 w) (k : Tu p q w w') (hB : B ≤ w.heap.size) (hp : B ≤ p) (hq : B ≤ q) : Below B w0 w' :=
  ⟨k.os.trans h.os, k.tape.trans h.tape, k.output.trans h.output, Nat.le_trans h.size k.size, fun i hi => (k.block i (by omega) (by omega) (by omega)).trans (h.block i hi)⟩

/-- where Read stands: what is left, and whether all was well -/
structure St (H : PH) (w : World) (p q : Nat) (l : List Int) (ok : Bool) : Prop where
  okc : w.heap[p]? = some (.cells #[.bool ok] 4)
  cur : ∃ A n c, w.heap[q]? = some (.cells #[.slice A n c] 96) ∧ SlR (kI .u8) H A n c l
  ne : p ≠ q
def Nx (l : List Int) (ok : Bool) (y : Int) (l' : List Int) (ok' : Bool) : Prop :=
  if ok = true then match decGo 0 0 l with
    | none => y = 0 ∧ l' = [] ∧ ok' = false
    | some (v, r) => l' = r ∧ ok' = decide (v ≤ 9223372036854775808) ∧ (v ≤ 9223372036854775808 → y = (v : Int) - 1)
  else y = 0 ∧ l' = l ∧ ok' = ok
def NextPost (H : PH) (w : World) (p q : Nat) (l : List Int) (ok : Bool) (e : Ending) (w' : World) : Prop :=
  ∃ y l' ok', e = .returned (.int .i64 y) ∧ Nx l ok y l' ok' ∧ St H w' p q l' ok' ∧ Tu p q w w'

set_option maxRecDepth 100000 in
set_option maxHeartbeats 4000000 in
theorem next_any (H : PH) (w : World) (p q : Nat) (l : List Int) (ok : Bool) (hst : St H w p q l ok) (hs : Sat w H) (hb : ∀ x ∈ l, 0 ≤ x ∧ x < 256) (hp : ∀ o, H p o = none) (hq : ∀ o, H q o = none) :
    Calls Try.prog 126 #[.pointer (some ⟨p, 0, none⟩), .pointer (some ⟨q, 0, none⟩)] w (NextPost H w p q l ok) := by
  obtain ⟨A, n, c, hcur, hsl⟩ := hst.cur
  have hok := hst.okc
  have HN := Aside.mk (And.intro hst hsl)
  have c0 := (boxC hok 0).1
  have f0 := (boxC hok 0).2
  have c1 := (boxC hcur 0).1
  have f1 := (boxC hcur 0).2
  have z0 := boxL hok
  have z1 := boxL hcur
  have hpq := hst.ne
  have HK := Aside.mk (And.intro hok hcur)
  simp only [List.getElem?_toArray, List.getElem?_cons_zero] at c0 c1
  have HG := Aside.mk (get_any H l A n c w hsl hs hb)
  clear hok hcur hsl hst
  cases ok with
  | false =>
    go_enter Try.func126, Try.ntmps126
    go_wp2_with fail
    go_ret
    exact ⟨0, l, false, rfl, by unfold Nx; simp, HN.out.1, Tu.refl _ _ _⟩
  | true =>
    go_enter Try.func126, Try.ntmps126
    go_wp2_with fail
    refine HG.out.mono ?_
    rintro e w1 ⟨hg, hb1⟩
    have k0 := box_below HK.out.1 hb1
    have k1 := box_below HK.out.2 hb1
    have c0 := (boxC k0 0).1
    have f0 := (boxC k0 0).2
    have c1 := (boxC k1 0).1
    have f1 := (boxC k1 0).2
    have z0 := boxL k0
    have z1 := boxL k1
    simp only [List.getElem?_toArray, List.getElem?_cons_zero] at c0 c1
    have HQ := Aside.mk (And.intro k0 (And.intro k1 (And.intro hb1 hpq)))
    clear k0 k1 hb1
    unfold GetR at hg
    cases hd : decGo 0 0 l with
    | none =>
      rw [hd] at hg
      subst hg
      have HD := Aside.mk hd
      clear hd
      go_wp2_with fail
      go_ret
      have k0 := HQ.out.1
      have k1 := HQ.out.2.1
      exact ⟨0, [], false, rfl, by unfold Nx; simp [HD.out], ⟨boxS (boxS_ne k0 hpq 0 _) 0 _, ⟨none, 0, 0, boxS_ne (boxS k1 0 _) (Ne.symm hpq) 0 _, SlR.nil _ _⟩, hpq⟩, (Tu.of HQ.out.2.2.1).trans ((Tu.set2 p q _ 0 _).trans (Tu.set1 p q _ 0 _))⟩
    | some vr =>
      obtain ⟨v, r⟩ := vr
      rw [hd] at hg
      obtain ⟨y, A', n', c', rfl, hsr, hy⟩ := hg
      have HD := Aside.mk (And.intro hd (And.intro hsr hy))
      clear hd hsr hy
      go_wp2_with fail
      go_ret
      have k0 := HQ.out.1
      have k1 := HQ.out.2.1
      exact ⟨y, r, decide (v ≤ 9223372036854775808), rfl, by unfold Nx; simp only [if_true, HD.out.1]; exact ⟨trivial, trivial, HD.out.2.2⟩, ⟨boxS (boxS_ne k0 hpq 0 _) 0 _, ⟨A', n', c', boxS_ne (boxS k1 0 _) (Ne.symm hpq) 0 _, HD.out.2.1⟩, hpq⟩, (Tu.of HQ.out.2.2.1).trans ((Tu.set2 p q _ 0 _).trans (Tu.set1 p q _ 0 _))⟩
end Go.Proofs.Ytbnahmeaeakhhaa.B
