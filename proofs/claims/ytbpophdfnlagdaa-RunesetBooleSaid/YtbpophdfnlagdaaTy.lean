/- The program's own types as plain Lean types, how they read in memory, and what it means for them to be valid. No program is in sight here. -/
import Derived.Test.YtbpophdfnlagdaaBa
namespace Go.Proofs.Ytbpophdfnlagdaa.B
set_option linter.unusedVariables false
set_option linter.unusedSimpArgs false
open Go Go.RowKit

structure Span where
  lo : Int
  hi : Int
deriving DecidableEq, Inhabited

def kSpan : Kd Span := ⟨2, by decide, fun _ s cs => cs = [.int .i64 s.lo, .int .i64 s.hi], fun h => by subst h; rfl, fun _ h => h, fun h => by subst h; simp [Value.oneCell']⟩

inductive Re where
  | mk (kind : Int) (set : List Span) (args : List Re) (mn mx : Int) (neg : Bool)
deriving Inhabited

namespace Re
set_option linter.unusedVariables false
set_option linter.unusedSimpArgs false
def kind : Re → Int | mk k _ _ _ _ _ => k
def set : Re → List Span | mk _ s _ _ _ _ => s
def args : Re → List Re | mk _ _ a _ _ _ => a
def mn : Re → Int | mk _ _ _ x _ _ => x
def mx : Re → Int | mk _ _ _ _ x _ => x
def neg : Re → Bool | mk _ _ _ _ _ x => x
end Re

theorem Re.ind {P : Re → Prop} (h : ∀ kind set args mn mx neg, (∀ a ∈ args, P a) → P (.mk kind set args mn mx neg)) (r : Re) : P r := by
  have aux : ∀ (n : Nat) (r : Re), SizeOf.sizeOf r ≤ n → P r := by
    intro n
    induction n with
    | zero => intro r hr; cases r; simp at hr
    | succ n ih =>
      intro r hr
      cases r with
      | mk kind set args mn mx neg =>
        refine h _ _ _ _ _ _ fun a ha => ih a ?_
        have := List.sizeOf_lt_of_mem ha
        simp at hr
        omega
  exact aux _ r (Nat.le_refl _)

inductive RdRe (H : PH) : Re → List Value → Prop
  | mk (kind : Int) (set : List Span) (args : List Re) (mn mx : Int) (neg : Bool) (A1 : Option Addr) (c1 : Nat) (A : Option Addr) (c : Nat) (css : Nat → List Value)
    (h1 : SlR kSpan H A1 set.length c1 set)
    (h2 : args.length ≤ c) (h3 : c ≤ maxLen) (h4 : args.length ≤ 140737488355328) (h5 : A = none → c = 0)
    (h6 : ∀ i (h : i < args.length), RdRe H args[i] (css i))
    (h7 : ∀ i (_ : i < args.length), ∃ b off, A = some ⟨b, off, none⟩ ∧ ∀ j v, (css i)[j]? = some v → H b (off + i * 6 + j) = some v) :
    RdRe H (.mk kind set args mn mx neg) [.int .i64 kind, .slice A1 set.length c1, .slice A args.length c, .int .i64 mn, .int .i64 mx, .bool neg]

theorem RdRe.len {H : PH} {r : Re} {cs : List Value} (h : RdRe H r cs) : cs.length = 6 := by cases h; rfl
theorem RdRe.one {H : PH} {r : Re} {cs : List Value} (h : RdRe H r cs) : ∀ u ∈ cs, u.oneCell' = true := by cases h; simp [Value.oneCell']
theorem RdRe.mono {H H' : PH} (hh : H.le H') {r : Re} {cs : List Value} (h : RdRe H r cs) : RdRe H' r cs := by
  induction h with
  | mk kind set args mn mx neg A1 c1 A c css h1 h2 h3 h4 h5 h6 h7 ih =>
    exact .mk kind set args mn mx neg A1 c1 A c css (h1.mono hh) h2 h3 h4 h5 ih (fun i hi => by
      obtain ⟨b, off, e, hc⟩ := h7 i hi
      exact ⟨b, off, e, fun j v hj => hh _ _ _ (hc j v hj)⟩)

def kRe : Kd Re := ⟨6, by decide, RdRe, RdRe.len, fun hh h => h.mono hh, RdRe.one⟩

theorem RdRe.open {H : PH} {kind set args mn mx neg cs} (h : RdRe H (.mk kind set args mn mx neg) cs) :
    ∃ A1 c1 A c, cs = [.int .i64 kind, .slice A1 set.length c1, .slice A args.length c, .int .i64 mn, .int .i64 mx, .bool neg] ∧
      SlR kSpan H A1 set.length c1 set ∧ SlR kRe H A args.length c args := by
  cases h with
  | mk _ _ _ _ _ _ A1 c1 A c css h1 h2 h3 h4 h5 h6 h7 =>
    refine ⟨A1, c1, A, c, rfl, h1, rfl, h2, h3, h4, h5, fun i hi => ?_⟩
    obtain ⟨b, off, e, hc⟩ := h7 i hi
    exact ⟨b, off, css i, e, h6 i hi, hc⟩

theorem RdRe.shut {H : PH} {kind set args mn mx neg A1 n1 c1 A n c} (h1 : SlR kSpan H A1 n1 c1 set) (h2 : SlR kRe H A n c args) :
    RdRe H (.mk kind set args mn mx neg) [.int .i64 kind, .slice A1 n1 c1, .slice A n c, .int .i64 mn, .int .i64 mx, .bool neg] := by
  obtain ⟨rfl, g2, g3, g4, g5, g6⟩ := h2
  obtain ⟨rfl, r1⟩ := h1
  have hx : ∀ i, ∃ cs, ∀ (h : i < args.length), RdRe H args[i] cs ∧ ∃ b off, A = some ⟨b, off, none⟩ ∧ ∀ j v, cs[j]? = some v → H b (off + i * 6 + j) = some v := fun i => by
    by_cases h : i < args.length
    · obtain ⟨b, off, cs, e, p, q⟩ := g6 i h
      exact ⟨cs, fun _ => ⟨p, b, off, e, q⟩⟩
    · exact ⟨[], fun h' => absurd h' h⟩
  exact .mk kind set args mn mx neg A1 c1 A c (fun i => (hx i).choose) ⟨rfl, r1⟩ g2 g3 g4 g5 (fun i h => ((hx i).choose_spec h).1) (fun i h => ((hx i).choose_spec h).2)

/-! ### validity: error numbers: 0 OK, 1 ErrArg, 2 ErrLarge, 3 ErrForm -/
def goodSpan (s : Span) : Bool := decide (0 ≤ s.lo) && decide (s.lo ≤ s.hi) && decide (s.hi ≤ 1114111)
def setGo (e : Int) : List Span → Int
  | [] => 0
  | s :: l => if goodSpan s = false then 1 else if s.lo < e + 2 then 3 else setGo s.hi l
def setErr (l : List Span) : Int := if l.length > 16 then 2 else setGo (-2) l

def need (kind : Int) : Nat := if kind = 3 ∨ kind = 4 ∨ kind = 7 then 2 else if kind = 5 ∨ kind = 6 ∨ kind = 8 ∨ kind = 9 ∨ kind = 10 then 1 else 0
def nodeErr (kind : Int) (set : List Span) (n : Nat) (mn mx : Int) (neg : Bool) : Int :=
  if kind < 0 ∨ 10 < kind then 1
  else if n < need kind ∨ (n > need kind ∧ need kind ≠ 2) ∨ (kind ≠ 2 ∧ set.length > 0) ∨ (kind ≠ 6 ∧ kind ≠ 9 ∧ mn ≠ 0) ∨ (kind ≠ 6 ∧ mx ≠ 0) ∨ (kind ≠ 10 ∧ neg = true) then 3
  else if kind = 2 then (if setErr set ≠ 0 then setErr set else if set.length = 0 then 3 else 0)
  else if (kind = 6 ∧ (mn < 0 ∨ mx < mn ∨ 8 < mx)) ∨ (kind = 9 ∧ (mn < 0 ∨ 9 < mn)) then 1 else 0
def Re.err (r : Re) : Int := nodeErr r.kind r.set r.args.length r.mn r.mx r.neg

/-- the nodes in preorder -/
def pre : Re → List Re
  | .mk k s args mn mx neg => .mk k s args mn mx neg :: (args.attach.map fun ⟨a, _⟩ => pre a).flatten
decreasing_by simp_wf; have := List.sizeOf_lt_of_mem ‹_›; omega
theorem pre_eq (k s args mn mx neg) : pre (.mk k s args mn mx neg) = .mk k s args mn mx neg :: (args.map pre).flatten := by rw [pre]; simp

/-- the error of a list of nodes, of which left may still come -/
def errL : List Re → Int → Int
  | [], _ => 0
  | x :: l, left => if left < 1 then 2 else if x.err ≠ 0 then x.err else errL l (left - 1)
theorem errL_append (l m : List Re) (left : Int) : errL (l ++ m) left = if errL l left ≠ 0 then errL l left else errL m (left - l.length) := by
  induction l generalizing left with
  | nil => simp [errL]
  | cons x l ih =>
    simp only [List.cons_append, errL]
    by_cases h1 : left < 1
    · simp [h1]
    · by_cases h2 : x.err ≠ 0
      · simp [h1, h2]
      · simp only [h1, h2, if_false, ih, List.length_cons]
        rw [show left - 1 - (l.length : Int) = left - ((l.length + 1 : Nat) : Int) by omega]
def checkRe (r : Re) (most : Int) : Int := errL (pre r) most

end Go.Proofs.Ytbpophdfnlagdaa.B
