/- The base of my proofs: a heap that is known in part and never changes again there, how data reads in it, rows that a call owns. No program is in sight here. -/
import Derived.WalkKit
import Derived.Below
import Derived.Deep.LoopGhost
import Derived.IntWalk
import Derived.Outline
import Derived.OwnWalk
import Derived.Says
import Derived.Maps.AppendAt
import Derived.Laws.OwnMore
import Derived.Deep.AppendLies
import Derived.Deep.QuietTactic
import Derived.BigQuiet
import Derived.OneCell
namespace Go.Proofs.Ytbpophdfnlagdaa.B
set_option linter.unusedVariables false
set_option linter.unusedSimpArgs false
open Go Go.RowKit

/-- a fact that the walk must not use as a rule -/
structure Aside (p : Prop) : Prop where
  out : p

abbrev PH := Nat → Nat → Option Value
def Sat (w : World) (H : PH) : Prop := ∀ b o v, H b o = some v → w.cell? ⟨b, o, none⟩ = some v
def PH.le (H H' : PH) : Prop := ∀ b o v, H b o = some v → H' b o = some v
theorem PH.le_refl (H : PH) : H.le H := fun _ _ _ h => h
theorem PH.le_trans {H H' H'' : PH} (h : H.le H') (h' : H'.le H'') : H.le H'' := fun b o v e => h' b o v (h b o v e)

theorem Sat.lt {w : World} {H : PH} (h : Sat w H) {b o : Nat} {v : Value} (e : H b o = some v) : b < w.heap.size :=
  World.block_lt_of_cell? w ⟨b, o, none⟩ (h b o v e)

theorem Sat.new {w : World} {H : PH} (h : Sat w H) {b : Nat} (hb : w.heap.size ≤ b) (o : Nat) : H b o = none := by
  cases e : H b o with
  | none => rfl
  | some v => have := h.lt e; omega

theorem Sat.below {w w' : World} {H : PH} (h : Sat w H) (hb : Below w.heap.size w w') : Sat w' H := fun b o v e => by
  rw [hb.cell (p := ⟨b, o, none⟩) (h.lt e)]; exact h b o v e

theorem Sat.alloc {w : World} {H : PH} (h : Sat w H) (o : Obj) : Sat (w.alloc o) H := h.below ((Below.refl _ _).alloc (Nat.le_refl _) _)
theorem Sat.drew {w : World} {H : PH} (h : Sat w H) : Sat w.drew H := h

theorem _root_.Go.RowKit.Below.drewN {B : Nat} {a w : World} (h : Below B a w) (n : Nat) : Below B a (w.drewN n) := ⟨h.os, h.tape, h.output, h.size, h.block⟩

theorem Sat.grown {w w' : World} {H : PH} {row : Option Nat} (h : Sat w H) (hg : w.grownBy w' row) (hr : ∀ b, row = some b → ∀ o, H b o = none) : Sat w' H := fun b o u e => by
  have h1 := h b o u e
  rw [← h1]
  refine World.cell?_of_block (hg.block b (h.lt e) fun hh => ?_)
  rw [hr b hh.symm] at e
  simp at e

theorem grownBy_refl (w : World) (row : Option Nat) : w.grownBy w row := ⟨rfl, rfl, rfl, Nat.le_refl _, fun _ _ _ => rfl⟩
theorem grownBy_trans {a b c : World} {row : Option Nat} (h : a.grownBy b row) (k : b.grownBy c row) : a.grownBy c row :=
  ⟨k.os.trans h.os, k.tape.trans h.tape, k.output.trans h.output, Nat.le_trans h.size k.size, fun i hi hne => (k.block i (Nat.lt_of_lt_of_le hi h.size) hne).trans (h.block i hi hne)⟩
theorem grownBy_below {w w' : World} (h : Below w.heap.size w w') (row : Option Nat) : w.grownBy w' row := ⟨h.os, h.tape, h.output, h.size, fun i hi _ => h.block i hi⟩
theorem grownBy_setCell (w : World) (b o : Nat) (v : Value) : w.grownBy (w.setCell ⟨b, o, none⟩ v) (some b) :=
  ⟨rfl, rfl, rfl, by simp [World.setCell], fun k _ hne => Below.heap_setCell _ _ _ _ (fun e => hne (by simp [e]))⟩
theorem below_grownBy {w w1 w2 : World} {b : Nat} (h : Below w.heap.size w w1) (hb : w.heap.size ≤ b) (hg : w1.grownBy w2 (some b)) : Below w.heap.size w w2 :=
  h.grown hg h.size (fun k hk => by cases hk; exact hb)
/-- one cell of the call's own: a variable in memory -/
theorem box_below {w w' : World} {b : Nat} {o : Obj} (h : w.heap[b]? = some o) (hb : Below w.heap.size w w') : w'.heap[b]? = some o := by
  rw [hb.block b (lt_of_block h)]; exact h

/-- from w, H to w', H': nothing that was there has turned; H has grown by new blocks alone -/
structure Ext (H H' : PH) (w w' : World) : Prop where
  below : Below w.heap.size w w'
  le : H.le H'
  sat : Sat w' H'
  old : ∀ b o, b < w.heap.size → H' b o = H b o

theorem Ext.refl {w : World} {H : PH} (h : Sat w H) : Ext H H w w := ⟨Below.refl _ _, (PH.le_refl H), h, fun _ _ _ => rfl⟩
theorem Ext.size {H H' : PH} {w w' : World} (h : Ext H H' w w') : w.heap.size ≤ w'.heap.size := h.below.size
theorem Ext.trans {H H1 H2 : PH} {w w1 w2 : World} (h : Ext H H1 w w1) (k : Ext H1 H2 w1 w2) : Ext H H2 w w2 :=
  ⟨h.below.trans (k.below.mono h.size), PH.le_trans h.le k.le, k.sat, fun b o hb => (k.old b o (by have := h.size; omega)).trans (h.old b o hb)⟩
theorem Ext.of_below {H : PH} {w w' : World} (h : Sat w H) (hb : Below w.heap.size w w') : Ext H H w w' := ⟨hb, (PH.le_refl H), h.below hb, fun _ _ _ => rfl⟩
theorem Ext.then_below {H H' : PH} {w w1 w2 : World} (h : Ext H H' w w1) (hb : Below w1.heap.size w1 w2) : Ext H H' w w2 := h.trans (.of_below h.sat hb)
theorem Ext.alloc {H H' : PH} {w w1 : World} (h : Ext H H' w w1) (o : Obj) : Ext H H' w (w1.alloc o) := h.then_below ((Below.refl _ _).alloc (Nat.le_refl _) _)
theorem Ext.drewN {H H' : PH} {w w1 : World} (h : Ext H H' w w1) (n : Nat) : Ext H H' w (w1.drewN n) := h.then_below ((Below.refl _ _).drewN n)
theorem Ext.drew {H H' : PH} {w w1 : World} (h : Ext H H' w w1) : Ext H H' w w1.drew := h.then_below (Below.refl _ _).drew

/-- a store into a block of the call's own that H does not know -/
theorem Ext.setCell {H H' : PH} {w w1 : World} (h : Ext H H' w w1) {b o : Nat} (hb : w.heap.size ≤ b) (hn : ∀ o, H' b o = none) (v : Value) :
    Ext H H' w (w1.setCell ⟨b, o, none⟩ v) :=
  ⟨h.below.setCell (by simpa using hb) v, h.le, fun b' o' u e => by
    have hne : b' ≠ b := fun hh => by subst hh; rw [hn] at e; cases e
    have := h.sat b' o' u e
    rw [← this]
    exact World.cell?_of_block (Below.heap_setCell _ _ _ _ hne), h.old⟩

theorem Ext.grown {H H' : PH} {w w1 w2 : World} {row : Option Nat} (h : Ext H H' w w1) (hg : w1.grownBy w2 row)
    (hr : ∀ b, row = some b → w.heap.size ≤ b ∧ ∀ o, H' b o = none) : Ext H H' w w2 :=
  ⟨h.below.grown hg h.size (fun k hk => (hr k hk).1), h.le, fun b o u e => by
    have h1 := h.sat b o u e
    rw [← h1]
    refine World.cell?_of_block (hg.block b (h.sat.lt e) fun hh => ?_)
    rw [(hr b hh.symm).2] at e
    simp at e, h.old⟩

structure Kd (α : Type) where
  sz : Nat
  pos : 0 < sz
  rd : PH → α → List Value → Prop
  len : ∀ {H x cs}, rd H x cs → cs.length = sz
  mono : ∀ {H H' x cs}, H.le H' → rd H x cs → rd H' x cs
  one : ∀ {H x cs}, rd H x cs → ∀ u ∈ cs, u.oneCell' = true

def kI (k : IntKind) : Kd Int := ⟨1, by decide, fun _ n cs => cs = [.int k n], fun h => by subst h; rfl, fun _ h => h, fun h => by subst h; simp [Value.oneCell']⟩
def kB : Kd Bool := ⟨1, by decide, fun _ n cs => cs = [.bool n], fun h => by subst h; rfl, fun _ h => h, fun h => by subst h; simp [Value.oneCell']⟩
def kStr : Kd ByteArray := ⟨1, by decide, fun _ n cs => cs = [.string n], fun h => by subst h; rfl, fun _ h => h, fun h => by subst h; simp [Value.oneCell']⟩
/-- pairs: [2]int, and structs of two ints -/
def kP : Kd (Int × Int) := ⟨2, by decide, fun _ s cs => cs = [.int .i64 s.1, .int .i64 s.2], fun h => by subst h; rfl, fun _ h => h, fun h => by subst h; simp [Value.oneCell']⟩

/-- the elements xs lie at A one behind the other -/
def Row {α} (k : Kd α) (H : PH) (A : Option Addr) (xs : List α) : Prop :=
  ∀ i (h : i < xs.length), ∃ b off cs, A = some ⟨b, off, none⟩ ∧ k.rd H xs[i] cs ∧ ∀ j v, cs[j]? = some v → H b (off + i * k.sz + j) = some v

theorem Row.mono {α} {k : Kd α} {H H' : PH} {A : Option Addr} {xs : List α} (hh : H.le H') (h : Row k H A xs) : Row k H' A xs := fun i hi => by
  obtain ⟨b, off, cs, e, hr, hc⟩ := h i hi
  exact ⟨b, off, cs, e, k.mono hh hr, fun j v hj => hh _ _ _ (hc j v hj)⟩

theorem Row.nil {α} (k : Kd α) (H : PH) (A : Option Addr) : Row k H A [] := fun i h => absurd h (by simp)

/-- a slice that reads as xs -/
def SlR {α} (k : Kd α) (H : PH) (A : Option Addr) (n c : Nat) (xs : List α) : Prop :=
  n = xs.length ∧ n ≤ c ∧ c ≤ maxLen ∧ n ≤ 140737488355328 ∧ (A = none → c = 0) ∧ Row k H A xs

theorem SlR.mono {α} {k : Kd α} {H H' : PH} {A n c} {xs : List α} (hh : H.le H') (h : SlR k H A n c xs) : SlR k H' A n c xs :=
  ⟨h.1, h.2.1, h.2.2.1, h.2.2.2.1, h.2.2.2.2.1, h.2.2.2.2.2.mono hh⟩
theorem SlR.row {α} {k : Kd α} {H : PH} {A n c} {xs : List α} (h : SlR k H A n c xs) : Row k H A xs := h.2.2.2.2.2
theorem SlR.nil {α} (k : Kd α) (H : PH) : SlR k H none 0 0 ([] : List α) := ⟨rfl, by omega, by unfold maxLen; omega, by omega, fun _ => rfl, Row.nil _ _ _⟩

def kS {α} (k : Kd α) : Kd (List α) where
  sz := 1
  pos := by decide
  rd := fun H xs cs => ∃ A c, cs = [.slice A xs.length c] ∧ SlR k H A xs.length c xs
  len := by rintro H x cs ⟨A, c, rfl, _⟩; rfl
  mono := by rintro H H' x cs hh ⟨A, c, rfl, h⟩; exact ⟨A, c, rfl, h.mono hh⟩
  one := by rintro H x cs ⟨A, c, rfl, h⟩; simp [Value.oneCell']

/-- two kinds side by side -/
def kTwo {α β} (k : Kd α) (l : Kd β) : Kd (α × β) where
  sz := k.sz + l.sz
  pos := by have := k.pos; omega
  rd := fun H x cs => ∃ a b, cs = a ++ b ∧ k.rd H x.1 a ∧ l.rd H x.2 b
  len := by rintro H x cs ⟨a, b, rfl, h1, h2⟩; rw [List.length_append, k.len h1, l.len h2]
  mono := by rintro H H' x cs hh ⟨a, b, rfl, h1, h2⟩; exact ⟨a, b, rfl, k.mono hh h1, l.mono hh h2⟩
  one := by
    rintro H x cs ⟨a, b, rfl, h1, h2⟩ u hu
    rcases List.mem_append.1 hu with h | h
    · exact k.one h1 u h
    · exact l.one h2 u h

section
variable {w : World} {H : PH} {b o : Nat} {v0 v1 v2 v3 v4 v5 v6 v7 : Value}
theorem at1 (hs : Sat w H) (h : ∀ j v, [v0][j]? = some v → H b (o + j) = some v) : w.cell? ⟨b, o, none⟩ = some v0 := hs _ _ _ (h 0 v0 rfl)
theorem at2 (hs : Sat w H) (h : ∀ j v, [v0, v1][j]? = some v → H b (o + j) = some v) :
    w.cell? ⟨b, o, none⟩ = some v0 ∧ w.cell? ⟨b, o + 1, none⟩ = some v1 := ⟨hs _ _ _ (h 0 v0 rfl), hs _ _ _ (h 1 v1 rfl)⟩
theorem at3 (hs : Sat w H) (h : ∀ j v, [v0, v1, v2][j]? = some v → H b (o + j) = some v) :
    w.cell? ⟨b, o, none⟩ = some v0 ∧ w.cell? ⟨b, o + 1, none⟩ = some v1 ∧ w.cell? ⟨b, o + 2, none⟩ = some v2 := ⟨hs _ _ _ (h 0 v0 rfl), hs _ _ _ (h 1 v1 rfl), hs _ _ _ (h 2 v2 rfl)⟩
theorem at6 (hs : Sat w H) (h : ∀ j v, [v0, v1, v2, v3, v4, v5][j]? = some v → H b (o + j) = some v) :
    w.cell? ⟨b, o, none⟩ = some v0 ∧ w.cell? ⟨b, o + 1, none⟩ = some v1 ∧ w.cell? ⟨b, o + 2, none⟩ = some v2 ∧ w.cell? ⟨b, o + 3, none⟩ = some v3 ∧ w.cell? ⟨b, o + 4, none⟩ = some v4 ∧ w.cell? ⟨b, o + 5, none⟩ = some v5 :=
  ⟨hs _ _ _ (h 0 v0 rfl), hs _ _ _ (h 1 v1 rfl), hs _ _ _ (h 2 v2 rfl), hs _ _ _ (h 3 v3 rfl), hs _ _ _ (h 4 v4 rfl), hs _ _ _ (h 5 v5 rfl)⟩
end

/-! ### rows that a call owns -/
def EncL {α} (k : Kd α) (H : PH) : List α → List Value → Prop
  | [], cs => cs = []
  | x :: xs, cs => ∃ a b, cs = a ++ b ∧ k.rd H x a ∧ EncL k H xs b

theorem EncL.length {α} {k : Kd α} {H : PH} : ∀ {xs : List α} {cs}, EncL k H xs cs → cs.length = xs.length * k.sz
  | [], cs, h => by simp only [EncL] at h; subst h; simp
  | x :: xs, cs, ⟨a, b, e, h1, h2⟩ => by subst e; rw [List.length_append, k.len h1, h2.length, List.length_cons, Nat.add_mul]; omega
theorem EncL.mono {α} {k : Kd α} {H H' : PH} (hh : H.le H') : ∀ {xs : List α} {cs}, EncL k H xs cs → EncL k H' xs cs
  | [], cs, h => h
  | x :: xs, cs, ⟨a, b, e, h1, h2⟩ => ⟨a, b, e, k.mono hh h1, h2.mono hh⟩
theorem EncL.one {α} {k : Kd α} {H : PH} : ∀ {xs : List α} {cs}, EncL k H xs cs → ∀ u ∈ cs, u.oneCell' = true
  | [], cs, h => by simp only [EncL] at h; subst h; simp
  | x :: xs, cs, ⟨a, b, e, h1, h2⟩ => by
    subst e; intro u hu
    rcases List.mem_append.1 hu with h | h
    · exact k.one h1 u h
    · exact h2.one u h
theorem EncL.append {α} {k : Kd α} {H : PH} {ys : List α} {ds} (hy : EncL k H ys ds) : ∀ {xs : List α} {cs}, EncL k H xs cs → EncL k H (xs ++ ys) (cs ++ ds)
  | [], cs, h => by simp only [EncL] at h; subst h; exact hy
  | x :: xs, cs, ⟨a, b, e, h1, h2⟩ => ⟨a, b ++ ds, by subst e; simp, h1, EncL.append hy h2⟩
theorem EncL.single {α} {k : Kd α} {H : PH} {x : α} {cs} (h : k.rd H x cs) : EncL k H [x] cs := ⟨cs, [], by simp, h, rfl⟩
theorem EncL.get {α} {k : Kd α} {H : PH} : ∀ {xs : List α} {cs}, EncL k H xs cs → ∀ i (h : i < xs.length), ∃ c, k.rd H xs[i] c ∧ ∀ j v, c[j]? = some v → cs[i * k.sz + j]? = some v
  | [], cs, h => fun i hi => absurd hi (by simp)
  | x :: xs, cs, ⟨a, b, e, h1, h2⟩ => by
    intro i hi
    subst e
    cases i with
    | zero =>
      refine ⟨a, h1, fun j v hj => ?_⟩
      rw [Nat.zero_mul, Nat.zero_add, List.getElem?_append_left (List.getElem?_eq_some_iff.1 hj).1]; exact hj
    | succ i =>
      obtain ⟨c, hc, hj⟩ := h2.get i (by simpa using hi)
      refine ⟨c, hc, fun j v hv => ?_⟩
      have hl := k.len h1
      rw [List.getElem?_append_right (by rw [hl, Nat.add_mul]; omega), show (i + 1) * k.sz + j - a.length = i * k.sz + j by rw [hl, Nat.add_mul]; omega]
      exact hj j v hv

/-- an element written anew -/
theorem EncL.set {α} {k : Kd α} {H : PH} : ∀ {xs : List α} {cs}, EncL k H xs cs → ∀ i, i < xs.length → ∀ y d, k.rd H y d →
    EncL k H (xs.set i y) (cs.take (i * k.sz) ++ d ++ cs.drop (i * k.sz + k.sz))
  | [], cs, h => fun i hi => absurd hi (by simp)
  | x :: xs, cs, ⟨a, b, e, h1, h2⟩ => by
    intro i hi y d hd
    subst e
    have hl := k.len h1
    cases i with
    | zero => simp only [Nat.zero_mul, List.take_zero, List.nil_append, Nat.zero_add]; rw [← hl, List.drop_left]; exact ⟨d, b, rfl, hd, h2⟩
    | succ i =>
      have := h2.set i (by simpa using hi) y d hd
      refine ⟨a, _, ?_, h1, this⟩
      have e1 : (i + 1) * k.sz = a.length + i * k.sz := by rw [hl, Nat.add_mul]; omega
      rw [e1, Nat.add_assoc, List.take_length_add_append, List.drop_length_add_append]
      simp

theorem Row.enc {α} {k : Kd α} {H : PH} {A : Option Addr} : ∀ {xs : List α} (s : Nat), (∀ i (h : i < xs.length), ∃ b off cs, A = some ⟨b, off, none⟩ ∧ k.rd H xs[i] cs ∧ ∀ j v, cs[j]? = some v → H b (off + (s + i) * k.sz + j) = some v) →
    ∃ cs, EncL k H xs cs ∧ ∀ j u, cs[j]? = some u → ∃ b off, A = some ⟨b, off, none⟩ ∧ H b (off + s * k.sz + j) = some u
  | [], s, _ => ⟨[], rfl, fun j u h => by simp at h⟩
  | x :: xs, s, h => by
    obtain ⟨b, off, cs, e, h1, h2⟩ := h 0 (by simp)
    obtain ⟨ds, h3, h4⟩ := Row.enc (xs := xs) (s + 1) (fun i hi => by
      obtain ⟨b, off, cs, e, h1, h2⟩ := h (i + 1) (by simpa using hi)
      exact ⟨b, off, cs, e, by simpa using h1, fun j v hj => by rw [show s + 1 + i = s + (i + 1) by omega]; exact h2 j v hj⟩)
    refine ⟨cs ++ ds, ⟨cs, ds, rfl, h1, h3⟩, fun j u hj => ?_⟩
    have hl := k.len h1
    by_cases hlt : j < cs.length
    · rw [List.getElem?_append_left hlt] at hj; exact ⟨b, off, e, by simpa using h2 j u hj⟩
    · rw [List.getElem?_append_right (by omega)] at hj
      obtain ⟨b', off', e', hh⟩ := h4 _ u hj
      refine ⟨b', off', e', ?_⟩
      rw [show off' + (s + 1) * k.sz + (j - cs.length) = off' + s * k.sz + j by rw [Nat.add_mul, hl]; omega] at hh
      exact hh

theorem Row.cells {α} {k : Kd α} {H : PH} {A : Option Addr} {xs : List α} (h : Row k H A xs) : ∃ cs, EncL k H xs cs ∧ ∀ j u, cs[j]? = some u → ∃ b off, A = some ⟨b, off, none⟩ ∧ H b (off + j) = some u := by
  obtain ⟨cs, h1, h2⟩ := Row.enc (xs := xs) (A := A) 0 (fun i hi => by simpa using h i hi)
  exact ⟨cs, h1, fun j u hj => by simpa using h2 j u hj⟩

theorem Row.of_cells {α} {k : Kd α} {H : PH} {b off : Nat} {xs : List α} {cs} (h : EncL k H xs cs) (hc : ∀ j u, cs[j]? = some u → H b (off + j) = some u) : Row k H (some ⟨b, off, none⟩) xs := fun i hi => by
  obtain ⟨c, h1, h2⟩ := h.get i hi
  exact ⟨b, off, c, rfl, h1, fun j v hj => by rw [Nat.add_assoc]; exact hc _ _ (h2 j v hj)⟩

/-- v is a slice of the call's own (its block is from base on, and H does not know it) that reads as xs -/
def Own {α} (k : Kd α) (e : TypeId) (w : World) (base : Nat) (H : PH) (v : Value) (xs : List α) : Prop :=
  ∃ cs, EncL k H xs cs ∧ w.ownsRow base e k.sz v xs.length cs ∧ ∀ b o, v.ownBlock = some b → H b o = none

section
variable {α : Type} {k : Kd α} {e : TypeId} {w w' : World} {base : Nat} {H H' : PH} {v : Value} {xs : List α}

theorem Own.nil (k : Kd α) (e : TypeId) (w : World) (base : Nat) (H : PH) : Own k e w base H (.slice none 0 0) [] :=
  ⟨[], rfl, by simpa using World.ownsRow_nil w base e k.sz, fun b o h => by simp [Value.ownBlock] at h⟩

theorem Own.form (h : Own k e w base H v xs) : ∃ A c, v = .slice A xs.length c ∧ xs.length ≤ c ∧ c ≤ maxLen ∧ (A = none → c = 0) ∧ ∀ a, A = some a → a = ⟨a.block, 0, none⟩ ∧ base ≤ a.block ∧ a.block < w.heap.size := by
  obtain ⟨cs, _, ⟨_, h2⟩, _⟩ := h
  rcases h2 with ⟨rfl, hn⟩ | ⟨g, cap, cur, rfl, hg, hh, hc, hm, _⟩
  · exact ⟨none, 0, by rw [hn], by omega, by unfold maxLen; omega, fun _ => rfl, fun a h => by simp at h⟩
  · exact ⟨_, _, rfl, hc, hm, fun h => by simp at h, fun a h => by simp at h; subst h; exact ⟨rfl, hg, (Array.getElem?_eq_some_iff.1 hh).1⟩⟩

theorem Own.blk (h : Own k e w base H v xs) {b : Nat} (hb : v.ownBlock = some b) : base ≤ b ∧ b < w.heap.size ∧ ∀ o, H b o = none := by
  obtain ⟨cs, _, h2, h3⟩ := h
  have := h2.lt b hb
  exact ⟨this.1, this.2, fun o => h3 b o hb⟩

theorem Own.rebase {base' : Nat} (h : Own k e w base H v xs) (hb : base' ≤ base) : Own k e w base' H v xs := by
  obtain ⟨cs, h1, ⟨h2, h3⟩, h4⟩ := h
  refine ⟨cs, h1, ⟨h2, ?_⟩, h4⟩
  rcases h3 with h3 | ⟨g, cap, cur, e1, hg, r⟩
  · exact Or.inl h3
  · exact Or.inr ⟨g, cap, cur, e1, by omega, r⟩

/-- carried over whatever leaves its block, and H of its block, as it was -/
theorem Own.keep (h : Own k e w base H v xs) (hh : H.le H') (hw : ∀ b, v.ownBlock = some b → w'.heap[b]? = w.heap[b]? ∧ ∀ o, H' b o = none) : Own k e w' base H' v xs := by
  obtain ⟨cs, h1, ⟨h2, h3⟩, h4⟩ := h
  refine ⟨cs, h1.mono hh, ⟨h2, ?_⟩, fun b o hb => (hw b hb).2 o⟩
  rcases h3 with h3 | ⟨g, cap, cur, rfl, hg, hhp, r⟩
  · exact Or.inl h3
  · exact Or.inr ⟨g, cap, cur, rfl, hg, by rw [(hw g (by simp [Value.ownBlock])).1]; exact hhp, r⟩

theorem Own.ext (h : Own k e w base H v xs) (hx : Ext H H' w w') : Own k e w' base H' v xs :=
  h.keep hx.le fun b hb => by
    obtain ⟨_, h2, h3⟩ := h.blk hb
    exact ⟨hx.below.block b h2, fun o => by rw [hx.old b o h2, h3 o]⟩

theorem Own.below (h : Own k e w base H v xs) (hs : Sat w H) (hx : Below w.heap.size w w') : Own k e w' base H v xs := h.ext (.of_below hs hx)
theorem Own.alloc (h : Own k e w base H v xs) (hs : Sat w H) (o : Obj) : Own k e (w.alloc o) base H v xs := h.below hs ((Below.refl _ _).alloc (Nat.le_refl _) _)
theorem Own.drew (h : Own k e w base H v xs) : Own k e w.drew base H v xs := h.keep (PH.le_refl H) fun b hb => ⟨rfl, (h.blk hb).2.2⟩
theorem Own.grown (h : Own k e w base H v xs) {row : Option Nat} (hg : w.grownBy w' row) (hne : v.ownBlock = none ∨ v.ownBlock ≠ row) : Own k e w' base H v xs :=
  h.keep (PH.le_refl H) fun b hb => ⟨hg.block b (h.blk hb).2.1 (fun e1 => hne.elim (fun h1 => by rw [h1] at hb; simp at hb) (fun h1 => h1 (hb.trans e1))), (h.blk hb).2.2⟩

theorem Own.cells (h : Own k e w base H v xs) (i : Nat) (hi : i < xs.length) : ∃ g c cs, v = .slice (some ⟨g, 0, none⟩) xs.length c ∧ xs.length ≤ c ∧ c ≤ maxLen ∧ k.rd H xs[i] cs ∧ (∀ j u, cs[j]? = some u → w.cell? ⟨g, i * k.sz + j, none⟩ = some u) ∧ (∀ j, w.frozen? ⟨g, j, none⟩ = false) := by
  obtain ⟨cs, h1, h2, _⟩ := h
  obtain ⟨c, h3, h4⟩ := h1.get i hi
  rcases h2.2 with ⟨_, hn⟩ | ⟨g, cap, cur, rfl, hg, hh, hc, hm, hcs, ht⟩
  · omega
  · refine ⟨g, cap, c, rfl, hc, hm, h3, fun j u hj => ?_, fun j => World.ownsRow.frozenAt h2 j⟩
    have := h4 j u hj
    rw [World.ownsRow.cellAt h2 _ ?_]
    · exact this
    · have := (List.getElem?_eq_some_iff.1 this).1; rw [h1.length] at this; exact this

/-- what is owned becomes what H knows -/
theorem Own.freeze (h : Own k e w base H v xs) (hs : Sat w H) (hl : xs.length ≤ 140737488355328) :
    ∃ H', H.le H' ∧ Sat w H' ∧ (kS k).rd H' xs [v] ∧ ∀ b o, v.ownBlock ≠ some b → H' b o = H b o := by
  obtain ⟨cs, h1, h2, h3⟩ := h
  have hle : H.le (fun b o => if v.ownBlock = some b then cs[o]? else H b o) := fun b o u hu => by
    show (if v.ownBlock = some b then cs[o]? else H b o) = some u
    by_cases hb : v.ownBlock = some b
    · rw [h3 b o hb] at hu; cases hu
    · rw [if_neg hb]; exact hu
  refine ⟨_, hle, ?_, ?_, fun b o hb => if_neg hb⟩
  · intro b o u hu
    by_cases hb : v.ownBlock = some b
    · simp only [hb, if_true] at hu
      have hc := h2.cells hb o u hu
      simpa [Addr.add_lit] using hc
    · simp only [if_neg hb] at hu; exact hs b o u hu
  · rcases h2.2 with ⟨rfl, hn⟩ | ⟨g, cap, cur, rfl, hg, hh, hc, hm, hcs, ht⟩
    · have : xs = [] := List.eq_nil_of_length_eq_zero hn
      subst this
      exact ⟨none, 0, rfl, SlR.nil _ _⟩
    · refine ⟨_, _, rfl, rfl, hc, hm, hl, fun h => by simp at h, Row.of_cells (cs := cs) (h1.mono hle) fun j u hj => ?_⟩
      simp [Value.ownBlock, hj]

theorem Own.freezeE {H0 : PH} {w0 : World} (h : Own k e w base H v xs) (hx : Ext H0 H w0 w) (hb : w0.heap.size ≤ base) (hl : xs.length ≤ 140737488355328) :
    ∃ H', Ext H0 H' w0 w ∧ H.le H' ∧ (kS k).rd H' xs [v] ∧ ∀ b o, v.ownBlock ≠ some b → H' b o = H b o := by
  obtain ⟨H', h1, h2, h3, h4⟩ := h.freeze hx.sat hl
  refine ⟨H', ⟨hx.below, PH.le_trans hx.le h1, h2, fun b o hlt => ?_⟩, h1, h3, h4⟩
  rw [h4 b o (fun hb' => by have := (h.blk hb').1; omega), hx.old b o hlt]

/-- a block just laid, with its cells -/
theorem Own.lit (hs : Sat w H) (cs : Array Value) (hb : base ≤ w.heap.size) (henc : EncL k H xs cs.toList) (hl : xs.length ≤ maxLen) :
    Own k e (w.alloc (.cells cs e)) base H (.slice (some ⟨w.heap.size, 0, none⟩) xs.length xs.length) xs :=
  ⟨cs.toList, henc, World.ownsRow_lit w cs xs.length hb hl (by have := henc.length; simpa using this), fun b o h => by simp [Value.ownBlock] at h; subst h; exact hs.new (Nat.le_refl _) o⟩

theorem EncL.replicate {z : α} {c : Value} (hz : k.rd H z [c]) (n : Nat) : EncL k H (List.replicate n z) (List.replicate n c) := by
  induction n with
  | zero => rfl
  | succ n ih => exact ⟨[c], _, rfl, hz, ih⟩

end

/-- APPEND, at the operation -/
theorem wpList_app {α : Type} (k : Kd α) {P : Program} {w : World} {ops : Array Oper} {rest : List Oper} {o : Oper} {a : Act} {Q : Exit → Act → World → Prop} (hgd : o.guard = none) (s x : Operand) (t : TypeId)
    (ho : o.op = .call { callee := .builtin .append, args := #[s, x], argTypes := #[t, t] })
    (e : TypeId) {z : Value} {bytes : Nat} (ht : P.underlying t = some (.slice e)) (hinfo : (P.info? e).map (fun i => (i.zero, i.size, i.bytes)) = some (some z, k.sz, bytes)) (hzs : z.cells.size = k.sz)
    {base : Nat} {H : PH} {v : Value} {xs : List α} (hs : a.eval s = v) (hown : Own k e w base H v xs) (hsat : Sat w H)
    {A : Option Addr} {m c : Nat} {ys : List α} {cs : List Value} (hx : a.eval x = .slice A m c) (hm : m = ys.length) (hA : A = none → c = 0) (hmc : m ≤ c) (henc : EncL k H ys cs)
    (hcs : ∀ j u, cs[j]? = some u → ∃ ad, A = some ad ∧ w.cell? (ad.add j) = some u)
    (hbytes : (xs.length + ys.length) * bytes ≤ 140737488355328) (hmax : xs.length + ys.length ≤ maxLen) (hbase : base ≤ w.heap.size)
    (h : ∀ v' w', Own k e w' base H v' (xs ++ ys) → w.grownBy w' v.ownBlock → (v'.ownBlock = v.ownBlock ∨ v'.ownBlock = some w.heap.size) → (v' = .slice none 0 0 ↔ v = .slice none 0 0 ∧ ys = []) → wpList P ops Q rest (a.put o.dst v') w') :
    wpList P ops Q (o :: rest) a w := by
  obtain ⟨i, hi, hz0, hz1, hz2⟩ := info_parts hinfo
  obtain ⟨cx, hcx, hrow, hnn⟩ := hown
  cases A with
  | none =>
    obtain rfl := hA rfl
    have hys : ys = [] := List.eq_nil_of_length_eq_zero (by omega)
    subst hys
    obtain rfl : m = 0 := hm
    refine wpList_plain hgd fun K hK => ?_
    have hr := run_append_owned_none (P := P) w base t o.type e i k.sz ht hi v xs.length cx hrow
    unfold Oper.wp execOp
    simp only [ho, resolve, invoke, builtin, Sem.run_bind, Sem.run_pure, Result.andThen_ok, List.map_toArray, List.map_cons, List.map_nil, hs, hx, hr]
    exact hK _ _ (h v w (by simpa using ⟨cx, hcx, hrow, hnn⟩) ⟨rfl, rfl, rfl, Nat.le_refl _, fun _ _ _ => rfl⟩ (Or.inl rfl) (by simp))
  | some ad =>
    refine wpList_append_own_at (P := P) w hgd s x t ho base e i z k.sz bytes ht hi hz0 hz1 hz2 hzs k.pos v xs.length cx hs hrow ad m c cs hx (by rw [henc.length, hm])
      (fun j u hj => by obtain ⟨ad', e1, h2⟩ := hcs j u hj; cases e1; exact h2) henc.one (by rw [hm]; exact hmax) (by rw [hm]; exact hbytes) hbase fun v' w' h1 h2 h3 h4 => ?_
    refine h v' w' ⟨cx ++ cs, EncL.append henc hcx, by rw [List.length_append, ← hm]; exact h1, fun b o hb => ?_⟩ h2 h4 (h3.trans (by subst hm; simp))
    rcases h4 with h4 | h4
    · exact hnn b o (h4 ▸ hb)
    · rw [h4] at hb; cases hb; exact hsat.new (Nat.le_refl _) o

end Go.Proofs.Ytbpophdfnlagdaa.B
