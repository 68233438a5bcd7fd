/- Contracts: slices.SortFunc over spans: a permutation in order of the lower bounds. -/
import Derived.Test.YtbpophdfnlagdaaZc
import Derived.Test.YtbpophdfnlagdaaBc
import Derived.Test.YtbpophdfnlagdaaC1
import Derived.Shelf.Lay
import Derived.Shelf.SlGeneric
import Derived.Shelf.SlicesG.Cmp
import Derived.Ground.SlsfProg
import Derived.Shelf.Small.Bits
import Derived.Ground.NamesProg
import Derived.Deep.RegionLaw
namespace Go.Proofs.Ytbpophdfnlagdaa.B
set_option linter.unusedVariables false
set_option linter.unusedSimpArgs false
open Go Go.RowKit Go.Sort Go.Shelf Go.Lib

shelf_lay_g SlLaysF0.n6 Slsf 6 at Try 54 as Try.sortSpan
shelf_lay Lays.n125 Nm 125 at Try as Try.bitsLen9

theorem info30 : (Try.prog.info? 30).map (fun i => (i.zero, i.size, i.bytes)) = some (some (.agg #[(.int .i64 0), (.int .i64 0)]), 2, 16) := by kernel_rfl

set_option maxRecDepth 100000 in
/-- slices.Clone, over spans -/
theorem cloneSpan_any (H : PH) (xs : List Span) (A : Option Addr) (n c : Nat) (w : World) (hl : SlR kSpan H A n c xs) (hs : Sat w H) (hb : n ≤ 1048576) :
    Calls Try.prog 72 #[.slice A n c] w fun e w' => ∃ v, e = .returned v ∧ Own kSpan 30 w' w.heap.size H v xs ∧ Below w.heap.size w w' := by
  have hl1 := hl.1
  cases A with
  | none =>
    obtain rfl : c = 0 := hl.2.2.2.2.1 rfl
    obtain rfl : n = 0 := Nat.le_zero.1 hl.2.1
    obtain rfl : xs = [] := List.eq_nil_of_length_eq_zero hl1.symm
    clear hl hl1
    have he := fun (w : World) (a : Option Addr) (l c n' c' : Nat) => Lib.run_eql_slice_nil (P := Try.prog) w 23 30 a l c n' c' Try.underlying23
    go_enter Try.func72, Try.ntmps72
    go_wp2_with fail
    go_ret
    exact ⟨_, rfl, Own.nil _ _ _ _ _, Below.refl _ _⟩
  | some a =>
    have ho := Own.lit (k := kSpan) (e := 30) (xs := []) (base := w.heap.size) hs #[] (Nat.le_refl _) rfl (by unfold maxLen; simp)
    have hs1 := hs.alloc (.cells #[] 30)
    have he := fun (w : World) (a : Option Addr) (l c n' c' : Nat) => Lib.run_eql_slice_nil (P := Try.prog) w 23 30 a l c n' c' Try.underlying23
    have HL := Aside.mk hl
    have HO := Aside.mk (And.intro ho hs1)
    clear hl ho hs1 hl1
    go_enter Try.func72, Try.ntmps72
    go_upto_region 2 with (at_builtin; go_must (refine wpList_appS kSpan rfl (.tmp 5) (.tmp 6) 23 rfl 30 Try.underlying23 info30 rfl HO.out.1 HO.out.2 HL.out rfl rfl (by rw [← HL.out.1]; simp; omega) (by rw [← HL.out.1]; unfold maxLen; simp; omega) (by simp) ?_); intro v8 w8 ho8 hg8 hs8 hn8 hnil8)
    go_wp2_with fail
    go_ret
    exact ⟨_, rfl, by simpa using ho8, below_grownBy (bA (Below.refl _ _) _) (Nat.le_refl _) (hg8)⟩

def cmpI (x y : Int) : Int := if x < y then -1 else if y < x then 1 else 0
theorem cmpI_lt {x y : Int} : cmpI x y < 0 ↔ x < y := by unfold cmpI; split; · simp [*]
                                                         split <;> simp <;> omega
theorem isNaN_any (x : Int) (w : World) : Calls Try.prog 115 #[.int .i64 x] w fun e w' => e = .returned (.bool false) ∧ w = w' := by
  go_enter Try.func115, Try.ntmps115
  go_wp2_with fail
  go_ret
  simp
set_option maxHeartbeats 1000000 in
theorem compare_any (x y : Int) (w : World) : Calls Try.prog 95 #[.int .i64 x, .int .i64 y] w fun e w' => e = .returned (.int .i64 (cmpI x y)) ∧ w = w' := by
  have hc : ∀ x : Int, Calls Try.prog 115 #[.int .i64 x] w fun e w' => e = .returned (.bool false) ∧ w = w' := fun x => isNaN_any x w
  have HC := Aside.mk hc
  clear hc
  obtain ⟨r, hr⟩ : ∃ r, r = cmpI x y := ⟨_, rfl⟩
  rw [← hr]
  unfold cmpI at hr
  replace hr := Aside.mk hr
  by_cases h1 : x < y
  · go_enter Try.func95, Try.ntmps95
    go_wp2_with (with_reducible refine (HC.out _).mono ?_; rintro e w1 ⟨rfl, rfl⟩)
    go_ret
    have := hr.out; rw [if_pos h1] at this; subst this; exact ⟨rfl, rfl⟩
  · by_cases h2 : y < x
    · go_enter Try.func95, Try.ntmps95
      go_wp2_with (with_reducible refine (HC.out _).mono ?_; rintro e w1 ⟨rfl, rfl⟩)
      go_ret
      have := hr.out; rw [if_neg (by omega), if_pos h2] at this; subst this; exact ⟨rfl, rfl⟩
    · go_enter Try.func95, Try.ntmps95
      go_wp2_with (with_reducible refine (HC.out _).mono ?_; rintro e w1 ⟨rfl, rfl⟩)
      go_ret
      have := hr.out; rw [if_neg (by omega), if_neg (by omega)] at this; subst this; exact ⟨rfl, rfl⟩


theorem joinCmp (x y : Span) (W : World) : Calls Try.prog 94 #[.agg #[.int .i64 x.lo, .int .i64 x.hi], .agg #[.int .i64 y.lo, .int .i64 y.hi]] W fun e w' => e = .returned (.int .i64 (cmpI x.lo y.lo)) ∧ ∃ q os', w' = grow (W.drewN q) os' := by
  have hc := fun W => compare_any x.lo y.lo W
  generalize cmpI x.lo y.lo = r at hc ⊢
  go_enter Try.func94, Try.ntmps94
  go_wp2_with (with_reducible refine (hc _).mono ?_; rintro e w1 ⟨rfl, rfl⟩)
  go_ret
  exact ⟨rfl, 0, _, by rw [alloc_eq_grow, alloc_eq_grow, grow_grow]; rfl⟩
theorem setCmp (x y : Span) (hx : -1000000 ≤ x.lo ∧ x.lo ≤ 1000000) (hy : -1000000 ≤ y.lo ∧ y.lo ≤ 1000000) (W : World) : Calls Try.prog 55 #[.agg #[.int .i64 x.lo, .int .i64 x.hi], .agg #[.int .i64 y.lo, .int .i64 y.hi]] W fun e w' => e = .returned (.int .i64 (x.lo - y.lo)) ∧ ∃ q os', w' = grow (W.drewN q) os' := by
  go_enter Try.func55, Try.ntmps55
  go_wp2
  go_ret
  exact ⟨rfl, 0, _, by rw [alloc_eq_grow, alloc_eq_grow, grow_grow]; rfl⟩

set_option maxHeartbeats 4000000 in
/-- nothing to be sorted -/
theorem sort_nil (c : Value) (W : World) : Calls Try.prog 54 #[.slice none 0 0, c] W fun e w' => e = .returned (.tuple #[]) ∧ w' = W := by
  have hl : ∀ W, Calls Try.prog 93 #[.int .u64 0] W fun e w' => (∃ l : Int, e = .returned (.int .i64 l)) ∧ w' = W := fun W =>
    (Any.bits_Len Try.bitsLen9 0 W (by omega) (by omega)).mono fun _ _ ⟨he, hw⟩ => ⟨⟨_, he⟩, hw⟩
  have h0 : ∀ W, Calls Try.prog 105 #[.slice none 0 0, .int .i64 0, .int .i64 0, c] W fun e w' => e = .returned (.tuple #[]) ∧ w' = W := by
    intro W
    go_enter Try.func105, Try.ntmps105
    go_wp2_with fail
    go_loopw [8] (fun i wr => i = .int .i64 1 ∧ wr = W) (fun _ _ => 0)
    case atStart => exact ⟨rfl, rfl⟩
    case round =>
      obtain ⟨rfl, rfl⟩ := hrel
      go_wp2_with fail
      go_end0
      exact ⟨rfl, rfl⟩
  have h1 : ∀ (l : Int) W, Calls Try.prog 92 #[.slice none 0 0, .int .i64 0, .int .i64 0, .int .i64 l, c] W fun e w' => e = .returned (.tuple #[]) ∧ w' = W := by
    intro l W
    go_enter Try.func92, Try.ntmps92
    go_wp2_with fail
    refine wp_loop_once ?_
    go_wp2_with (with_reducible refine (h0 _).mono ?_; rintro e w1 ⟨rfl, rfl⟩)
    refine bodyPost_ret (results_none rfl _ _ _) rfl ?_
    exact ⟨rfl, rfl⟩
  go_enter Try.func54, Try.ntmps54
  go_wp2_with (first | (refine (hl _).mono ?_; rintro e w1 ⟨⟨l, rfl⟩, rfl⟩) | (refine (h1 _ _).mono ?_; rintro e w1 ⟨rfl, rfl⟩))
  go_end0
  exact ⟨rfl, rfl⟩

/-- an order of spans and the closure that answers it -/
structure CmpFor {α : Type} (f : α → Span) (cf : α → α → Int) (g : Nat) : Prop where
  swo : SWO (ltOf cf)
  low : ∀ a b, ¬ cf b a < 0 → (f a).lo ≤ (f b).lo
  ent : ∀ args w, (callFunc g args).run Try.prog w = .ok (.enter g args) w
  run : ∀ x y W, Calls Try.prog g #[.agg (encS (f x)).toArray, .agg (encS (f y)).toArray] W fun e w' => e = .returned (.int .i64 (cf x y)) ∧ ∃ q os', w' = grow (W.drewN q) os'
theorem sort_any {α : Type} [Inhabited α] (f : α → Span) (cf : α → α → Int) (g : Nat) (hC : CmpFor f cf g) {H : PH} {base : Nat} {v : Value} {w : World} (l0 : List α) (h : Own kSpan 30 w base H v (l0.map f)) (hl : l0.length ≤ 100000) :
    Calls Try.prog 54 #[v, .func (.func g) #[] #[]] w fun e w' => e = .returned (.tuple #[]) ∧ ∃ l : List α, l.Perm l0 ∧ (l.map f).Pairwise (fun a b => a.lo ≤ b.lo) ∧ Own kSpan 30 w' base H v (l.map f) ∧ w.grownBy w' v.ownBlock := by
  obtain ⟨cs, h1, h2, h3⟩ := id h
  rcases h2.2 with ⟨h4, h5⟩ | ⟨g', cap, cur, e2, hg, hh, hc, hm, hcs, ht⟩
  · subst h4
    obtain rfl : l0 = [] := by
      simpa using h5
    exact (sort_nil _ w).mono fun e w' ⟨e1, e2⟩ => by subst e2; exact ⟨e1, [], List.Perm.refl _, by simp, h, grownBy_refl _ _⟩
  · subst e2
    have hd : l0 = l0.toArray.toList := by simp
    have hlen : (l0.map f).length = l0.toArray.size := by simp
    have hO := h
    rw [hd] at hO
    obtain ⟨hH, hb⟩ := hO.holdsS f (by simp)
    rw [hlen]
    refine (AnyQ.slices_SortFunc Try.sortSpan 2 Try.isAgg30 Try.sizeOf30 (fun a => encS (f a)) (fun _ => rfl) (fun x v hv => encS_one _ v hv) cf hC.swo g #[] g' 0 cap l0.toArray w hC.ent (fun m os dk hs x y => hC.run x y _) hH hb (by simp; omega)).mono ?_
    rintro e w' ⟨rfl, d', n, os, hp, hs, rfl⟩
    obtain ⟨p1, p2⟩ := permIn_all hp
    obtain ⟨o1, o2⟩ := hO.sorted f (by simp) (d := d') p2 n os
    exact ⟨rfl, d'.toList, by simpa using p1, sortedIn_all f p2 hs hC.low, by simpa using o1, o2⟩
/-! the two orders of the program -/
theorem swo_cmp {α : Type} (k : α → Int) (cf : α → α → Int) (h : ∀ a b, cf a b < 0 ↔ k a < k b) : SWO (ltOf cf) where
  irrefl x := by simp [ltOf, h]
  trans x y z h1 h2 := by simp [ltOf, h] at *; omega
  ntrans x y z h1 h2 := by simp [ltOf, h] at *; omega
theorem joinFor : CmpFor (id : Span → Span) (fun a b => cmpI a.lo b.lo) 94 where
  swo := swo_cmp (fun s => s.lo) _ fun a b => cmpI_lt
  low a b h := by rw [cmpI_lt] at h; simpa using h
  ent := enters_of Try.func94 (by kernel_rfl) rfl
  run x y W := joinCmp x y W
abbrev SmallS : Type := {s : Span // -1000000 ≤ s.lo ∧ s.lo ≤ 1000000}
instance : Inhabited SmallS := ⟨⟨⟨0, 0⟩, by simp⟩⟩
theorem setFor : CmpFor (fun s : SmallS => s.1) (fun a b => a.1.lo - b.1.lo) 55 where
  swo := swo_cmp (fun s => s.1.lo) _ fun a b => by omega
  low a b h := by omega
  ent := enters_of Try.func55 (by kernel_rfl) rfl
  run x y W := setCmp x.1 y.1 x.2 y.2 W
theorem sortJoin {H : PH} {base : Nat} {v : Value} {w : World} (l0 : List Span) (h : Own kSpan 30 w base H v l0) (hl : l0.length ≤ 100000) :
    Calls Try.prog 54 #[v, .func (.func 94) #[] #[]] w fun e w' => e = .returned (.tuple #[]) ∧ ∃ l : List Span, l.Perm l0 ∧ l.Pairwise (fun a b => a.lo ≤ b.lo) ∧ Own kSpan 30 w' base H v l ∧ w.grownBy w' v.ownBlock := by
  have := sort_any id _ _ joinFor l0 (by simpa using h) hl
  simpa using this
theorem sortSet {H : PH} {base : Nat} {v : Value} {w : World} (l0 : List Span) (h : Own kSpan 30 w base H v l0) (hl : l0.length ≤ 100000) (hb : ∀ s ∈ l0, -1000000 ≤ s.lo ∧ s.lo ≤ 1000000) :
    Calls Try.prog 54 #[v, .func (.func 55) #[] #[]] w fun e w' => e = .returned (.tuple #[]) ∧ ∃ l : List Span, l.Perm l0 ∧ l.Pairwise (fun a b => a.lo ≤ b.lo) ∧ Own kSpan 30 w' base H v l ∧ w.grownBy w' v.ownBlock := by
  obtain ⟨m, rfl⟩ : ∃ m : List SmallS, l0 = m.map (fun s => s.1) := ⟨l0.pmap (fun s hs => (⟨s, hs⟩ : SmallS)) hb, by simp [List.map_pmap]⟩
  refine (sort_any (fun s : SmallS => s.1) _ _ setFor m h (by simpa using hl)).mono ?_
  rintro e w' ⟨rfl, l, h1, h2, h3, h4⟩
  exact ⟨rfl, _, h1.map _, h2, h3, h4⟩
/-- a call that gives spans laid anew -/
def RetO (H : PH) (w : World) (l : List Span) (e : Ending) (w' : World) : Prop := ∃ v, e = .returned v ∧ Own kSpan 30 w' w.heap.size H v l ∧ Below w.heap.size w w'
theorem RetO.frozen {H : PH} {w w' : World} {l : List Span} {e : Ending} (h : RetO H w l e w') (hs : Sat w H) (hl : l.length ≤ 1000000) : ∃ H' A c, e = .returned (.slice A l.length c) ∧ Ext H H' w w' ∧ SlR kSpan H' A l.length c l := by
  obtain ⟨v, rfl, ho, hb⟩ := h
  obtain ⟨H', h1, h2, ⟨A, c, e1, h3⟩, h4⟩ := ho.freezeE (Ext.of_below hs hb) (Nat.le_refl _) (by omega)
  cases e1
  exact ⟨H', A, c, rfl, h1, h3⟩
end Go.Proofs.Ytbpophdfnlagdaa.B
