/- Plain law: what the definition of matching says, unfolded as the reference unfolds it. No program is in sight here. Contracts: parlmake.Re, ReAll, Text. Contracts: retree.Size; parlkeep1.re, good; slices.Equal over pairs. Contracts: parlkeep1.good, one, relationBegun, same. Contracts: parlkeep1.relationBegun, same. -/
import Derived.Test.YtbnahmeaeakhhaaRl
import Derived.Test.YtbnahmeaeakhhaaK2
import Derived.Test.YtbnahmeaeakhhaaD2
namespace Go.Proofs.Ytbnahmeaeakhhaa.B
set_option linter.unusedVariables false
set_option linter.unusedSimpArgs false
open Classical

theorem Pow_le {n : Nat} {R : Rel} (h : ∀ i j, R i j → i ≤ j) : ∀ k i j, Pow n R k i j → i ≤ j := by
  intro k
  induction k with
  | zero => rintro i j rfl; exact Nat.le_refl _
  | succ k ih => rintro i j ⟨l, -, h1, h2⟩; exact Nat.le_trans (ih _ _ h1) (h _ _ h2)
theorem cat_le {n : Nat} : ∀ (l : List Rel) (S : Rel), (∀ R ∈ l, ∀ i j, R i j → i ≤ j) → (∀ i j, S i j → i ≤ j) → ∀ i j, (l.foldl (Comp n) S) i j → i ≤ j := by
  intro l
  induction l with
  | nil => intro S _ h i j; exact h i j
  | cons R l ih =>
    intro S hl h
    exact ih (Comp n S R) (fun R' hR => hl R' (List.mem_cons_of_mem _ hR)) fun i j ⟨k, _, h1, h2⟩ => Nat.le_trans (h _ _ h1) (hl R (List.mem_cons_self ..) _ _ h2)
theorem M_le (t : List Int) (r : Re) : ∀ i j, M t r i j → i ≤ j := by
  induction r using Re.ind with
  | h kind set args mn mx neg ih =>
  have ih' : ∀ R ∈ args.map (M t), ∀ i j, R i j → i ≤ j := fun R hR => by
    obtain ⟨a, ha, rfl⟩ := List.mem_map.1 hR
    exact ih a ha
  have hh : ∀ i j, ((args.map (M t)).headD fun _ _ => False) i j → i ≤ j := by
    intro i j h
    cases hl : args.map (M t) with
    | nil => rw [hl] at h; exact absurd h id
    | cons R l => rw [hl] at h; exact ih' R (by rw [hl]; exact List.mem_cons_self ..) i j h
  intro i j
  rw [M_eq, opM]
  by_cases h1 : kind = 1
  · rw [if_pos h1]; rintro rfl; exact Nat.le_refl _
  rw [if_neg h1]
  by_cases h2 : kind = 2
  · rw [if_pos h2]; rintro ⟨h, -⟩; omega
  rw [if_neg h2]
  by_cases h3 : kind = 3
  · rw [if_pos h3]; exact cat_le _ _ ih' (fun i j h => by subst h; exact Nat.le_refl _) i j
  rw [if_neg h3]
  by_cases h4 : kind = 4
  · rw [if_pos h4]; rintro ⟨R, hR, h⟩; exact ih' R hR i j h
  rw [if_neg h4]
  by_cases h5 : kind = 5
  · rw [if_pos h5]; rintro ⟨k, h⟩; exact Pow_le hh k i j h
  rw [if_neg h5]
  by_cases h6 : kind = 6
  · rw [if_pos h6]; rintro ⟨k, -, -, h⟩; exact Pow_le hh k i j h
  rw [if_neg h6]
  by_cases h7 : kind = 7
  · rw [if_pos h7]; exact fun h => h.1
  rw [if_neg h7]
  by_cases h8 : kind = 8
  · rw [if_pos h8]; exact fun h => h.1
  rw [if_neg h8]
  by_cases h9 : kind = 9
  · rw [if_pos h9]; exact hh i j
  rw [if_neg h9]
  by_cases h10 : kind = 10
  · rw [if_pos h10]; rintro ⟨rfl, -⟩; exact Nat.le_refl _
  rw [if_neg h10]; exact fun h => absurd h id

theorem Comp_assoc {n : Nat} {R S T : Rel} : Comp n (Comp n R S) T = Comp n R (Comp n S T) := by
  funext i j
  refine propext ⟨?_, ?_⟩
  · rintro ⟨k, hk, ⟨l, hl, h1, h2⟩, h3⟩; exact ⟨l, hl, h1, k, hk, h2, h3⟩
  · rintro ⟨l, hl, h1, k, hk, h2, h3⟩; exact ⟨k, hk, ⟨l, hl, h1, h2⟩, h3⟩
theorem foldl_Comp {n : Nat} : ∀ (l : List Rel) (R S : Rel), l.foldl (Comp n) (Comp n R S) = Comp n R (l.foldl (Comp n) S) := by
  intro l
  induction l with
  | nil => intro R S; rfl
  | cons T l ih => intro R S; rw [List.foldl_cons, List.foldl_cons, Comp_assoc, ih]
/-- a concatenation: its first part and the rest -/
theorem cat_cons {n : Nat} (l : List Rel) (R : Rel) (i j : Nat) (hi : i ≤ n) : ((R :: l).foldl (Comp n) fun i j => i = j) i j ↔ (l.foldl (Comp n) R) i j := by
  rw [List.foldl_cons]
  have h : ∀ (l : List Rel) (S T : Rel), (∀ j, S i j ↔ T i j) → ∀ j, ((l.foldl (Comp n) S) i j ↔ (l.foldl (Comp n) T) i j) := by
    intro l
    induction l with
    | nil => intro S T h j; exact h j
    | cons U l ih =>
      intro S T h
      exact ih _ _ fun j => ⟨fun ⟨k, hk, h1, h2⟩ => ⟨k, hk, (h k).1 h1, h2⟩, fun ⟨k, hk, h1, h2⟩ => ⟨k, hk, (h k).2 h1, h2⟩⟩
  refine h l _ _ (fun j => ⟨?_, fun h => ⟨i, hi, rfl, h⟩⟩) j
  rintro ⟨k, -, rfl, h⟩; exact h
theorem cat_two {n : Nat} (l : List Rel) (R S : Rel) (i j : Nat) (hi : i ≤ n) : ((R :: S :: l).foldl (Comp n) fun i j => i = j) i j ↔ ∃ k, k ≤ n ∧ R i k ∧ ((S :: l).foldl (Comp n) fun i j => i = j) k j := by
  rw [cat_cons _ _ _ _ hi, List.foldl_cons, foldl_Comp]
  exact ⟨fun ⟨k, hk, h1, h2⟩ => ⟨k, hk, h1, (cat_cons l S k j hk).2 h2⟩, fun ⟨k, hk, h1, h2⟩ => ⟨k, hk, h1, (cat_cons l S k j hk).1 h2⟩⟩

theorem Pow_left {n : Nat} {R : Rel} : ∀ k i j, i ≤ n → j ≤ n → (Pow n R (k + 1) i j ↔ ∃ l, l ≤ n ∧ R i l ∧ Pow n R k l j) := by
  intro k
  induction k with
  | zero =>
    intro i j hi hj
    exact ⟨fun ⟨l, hl, h1, h2⟩ => ⟨j, hj, by obtain rfl : i = l := h1; exact h2, rfl⟩, fun ⟨l, hl, h1, h2⟩ => ⟨i, hi, rfl, by obtain rfl : l = j := h2; exact h1⟩⟩
  | succ k ih =>
    intro i j hi hj
    constructor
    · rintro ⟨l, hl, h1, h2⟩
      obtain ⟨m, hm, h3, h4⟩ := (ih i l hi hl).1 h1
      exact ⟨m, hm, h3, l, hl, h4, h2⟩
    · rintro ⟨m, hm, h3, l, hl, h4, h2⟩
      exact ⟨l, hl, (ih i l hi hl).2 ⟨m, hm, h3, h4⟩, h2⟩
/-- a star: nothing, or a part that is not empty and then the star -/
theorem Star_left {n : Nat} {R : Rel} (hR : ∀ i j, R i j → i ≤ j) (i j : Nat) (hi : i ≤ n) (hj : j ≤ n) : Star n R i j ↔ i = j ∨ ∃ k, i < k ∧ k ≤ n ∧ R i k ∧ Star n R k j := by
  constructor
  · rintro ⟨k, h⟩
    have aux : ∀ k i, i ≤ n → Pow n R k i j → i = j ∨ ∃ k, i < k ∧ k ≤ n ∧ R i k ∧ Star n R k j := by
      intro k
      induction k with
      | zero => intro i _ h; exact Or.inl h
      | succ k ih =>
        intro i hi h
        obtain ⟨l, hl, h1, h2⟩ := (Pow_left k i j hi hj).1 h
        by_cases e : i = l
        · subst e; exact ih i hi h2
        · exact Or.inr ⟨l, by have := hR _ _ h1; omega, hl, h1, k, h2⟩
    exact aux k i hi h
  · rintro (rfl | ⟨k, h1, h2, h3, m, h4⟩)
    · exact ⟨0, rfl⟩
    · exact ⟨m + 1, (Pow_left m i j hi hj).2 ⟨k, h2, h3, h4⟩⟩

/-- the repetition, from mn to mx times -/
def Rep (n : Nat) (R : Rel) (mn mx : Int) : Rel := fun i j => ∃ k : Nat, mn ≤ k ∧ (k : Int) ≤ mx ∧ Pow n R k i j
theorem Rep_left {n : Nat} {R : Rel} (mn mx : Int) (h0 : 0 ≤ mn) (h1 : 0 ≤ mx) (i j : Nat) (hi : i ≤ n) (hj : j ≤ n) :
    Rep n R mn mx i j ↔ (mn = 0 ∧ i = j) ∨ (mx ≠ 0 ∧ ∃ k, k ≤ n ∧ R i k ∧ Rep n R (max 0 (mn - 1)) (mx - 1) k j) := by
  constructor
  · rintro ⟨k, h2, h3, h4⟩
    cases k with
    | zero => exact Or.inl ⟨by omega, h4⟩
    | succ k =>
      obtain ⟨l, hl, h5, h6⟩ := (Pow_left k i j hi hj).1 h4
      exact Or.inr ⟨by omega, l, hl, h5, k, by omega, by omega, h6⟩
  · rintro (⟨h2, rfl⟩ | ⟨h2, l, hl, h5, k, h6, h7, h8⟩)
    · exact ⟨0, by omega, by omega, rfl⟩
    · exact ⟨k + 1, by omega, by omega, (Pow_left k i j hi hj).2 ⟨l, hl, h5, h8⟩⟩

section
variable (t : List Int) (set : List Span) (args : List Re) (mn mx : Int) (neg : Bool) (i j : Nat)
theorem M1 : M t (.mk 1 set args mn mx neg) i j ↔ i = j := by rw [M_eq, opM, if_pos rfl]
theorem M2 : M t (.mk 2 set args mn mx neg) i j ↔ j = i + 1 ∧ ∃ c, t[i]? = some c ∧ inSet set c := by rw [M_eq, opM, if_neg (by decide), if_pos rfl]
theorem M3 : M t (.mk 3 set args mn mx neg) i j ↔ ((args.map (M t)).foldl (Comp t.length) fun i j => i = j) i j := by
  rw [M_eq, opM, if_neg (by decide), if_neg (by decide), if_pos rfl]
theorem M4 : M t (.mk 4 set args mn mx neg) i j ↔ ∃ a ∈ args, M t a i j := by
  rw [M_eq, opM, if_neg (by decide), if_neg (by decide), if_neg (by decide), if_pos rfl]
  exact ⟨fun ⟨R, hR, h⟩ => by obtain ⟨a, ha, rfl⟩ := List.mem_map.1 hR; exact ⟨a, ha, h⟩, fun ⟨a, ha, h⟩ => ⟨_, List.mem_map.2 ⟨a, ha, rfl⟩, h⟩⟩
theorem M5 (a : Re) (l : List Re) : M t (.mk 5 set (a :: l) mn mx neg) i j ↔ Star t.length (M t a) i j := by
  rw [M_eq, opM, if_neg (by decide), if_neg (by decide), if_neg (by decide), if_neg (by decide), if_pos rfl]; rfl
theorem M6 (a : Re) (l : List Re) : M t (.mk 6 set (a :: l) mn mx neg) i j ↔ Rep t.length (M t a) mn mx i j := by
  rw [M_eq, opM, if_neg (by decide), if_neg (by decide), if_neg (by decide), if_neg (by decide), if_neg (by decide), if_pos rfl]; rfl
theorem M7 : M t (.mk 7 set args mn mx neg) i j ↔ i ≤ j ∧ ∀ a ∈ args, M t a i j := by
  rw [M_eq, opM, if_neg (by decide), if_neg (by decide), if_neg (by decide), if_neg (by decide), if_neg (by decide), if_neg (by decide), if_pos rfl]
  exact ⟨fun ⟨h0, h⟩ => ⟨h0, fun a ha => h _ (List.mem_map.2 ⟨a, ha, rfl⟩)⟩, fun ⟨h0, h⟩ => ⟨h0, fun R hR => by obtain ⟨a, ha, rfl⟩ := List.mem_map.1 hR; exact h a ha⟩⟩
theorem M8 (a : Re) : M t (.mk 8 set [a] mn mx neg) i j ↔ i ≤ j ∧ ¬ M t a i j := by
  rw [M_eq, opM, if_neg (by decide), if_neg (by decide), if_neg (by decide), if_neg (by decide), if_neg (by decide), if_neg (by decide), if_neg (by decide), if_pos rfl]; simp
theorem M9 (a : Re) (l : List Re) : M t (.mk 9 set (a :: l) mn mx neg) i j ↔ M t a i j := by
  rw [M_eq, opM, if_neg (by decide), if_neg (by decide), if_neg (by decide), if_neg (by decide), if_neg (by decide), if_neg (by decide), if_neg (by decide), if_neg (by decide), if_pos rfl]; rfl
theorem M10 (a : Re) (l : List Re) : M t (.mk 10 set (a :: l) mn mx neg) i j ↔ i = j ∧ ((∃ k, k ≤ t.length ∧ M t a i k) ↔ neg = false) := by
  rw [M_eq, opM, if_neg (by decide), if_neg (by decide), if_neg (by decide), if_neg (by decide), if_neg (by decide), if_neg (by decide), if_neg (by decide), if_neg (by decide), if_neg (by decide), if_pos rfl]; rfl
theorem M0 (k : Int) (h : k < 1 ∨ 10 < k) : ¬ M t (.mk k set args mn mx neg) i j := by
  rw [M_eq, opM, if_neg (by omega), if_neg (by omega), if_neg (by omega), if_neg (by omega), if_neg (by omega), if_neg (by omega), if_neg (by omega), if_neg (by omega), if_neg (by omega), if_neg (by omega)]; exact id
end

end Go.Proofs.Ytbnahmeaeakhhaa.B

namespace Go.Proofs.Ytbnahmeaeakhhaa.B
set_option linter.unusedVariables false
set_option linter.unusedSimpArgs false
open Go Go.RowKit Classical

theorem kExt6 {H H' : PH} {w w1 : World} (h : Ext H H' w w1) {b : Nat} (hb : w.heap.size ≤ b) (hn : ∀ o, H' b o = none) (u0 u1 u2 u3 u4 u5 : Value) :
    Ext H H' w ((((((w1.setCell ⟨b, 0, none⟩ u0).setCell ⟨b, 1, none⟩ u1).setCell ⟨b, 2, none⟩ u2).setCell ⟨b, 3, none⟩ u3).setCell ⟨b, 4, none⟩ u4).setCell ⟨b, 5, none⟩ u5) :=
  (((((h.setCell hb hn u0).setCell hb hn u1).setCell hb hn u2).setCell hb hn u3).setCell hb hn u4).setCell hb hn u5

def ReOfPost (K : Int) (H : PH) (w : World) (e : Ending) (w' : World) : Prop :=
  ∃ r H' cs, e = .returned (.agg cs.toArray) ∧ RdRe H' r cs ∧ Made K 4 r ∧ Ext H H' w w'

/-- what a new stream's draws come to, seen from before it was laid -/
theorem fl_ext {H H' : PH} {w w1 w2 : World} {p : Nat} (h1 : Ext H H w w1) (hp : w.heap.size ≤ p) (h : Fl p H H' w1 w2) : Ext H H' w w2 :=
  ⟨below_grownBy h1.below hp h.grown, h.le, h.sat, fun b o hb => h.old b o (Nat.lt_of_lt_of_le hb h1.size)⟩

set_option maxRecDepth 100000 in
set_option maxHeartbeats 4000000 in
theorem reOf_any (H : PH) (xs : List Int) (A : Option Addr) (n c : Nat) (w : World) (hl : SlR (kI .i64) H A n c xs) (hs : Sat w H) :
    Calls Try.prog 24 #[.slice A n c] w (ReOfPost 8 H w) := by
  have k0 := heap_alloc_new w (.cells #[.int .i64 0, .slice none 0 0, .slice none 0 0, .int .i64 0, .int .i64 0, .bool false] 25)
  have hx0 := (Ext.refl hs).alloc (.cells #[.int .i64 0, .slice none 0 0, .slice none 0 0, .int .i64 0, .int .i64 0, .bool false] 25)
  have hz0 : (w.alloc (.cells #[.int .i64 0, .slice none 0 0, .slice none 0 0, .int .i64 0, .int .i64 0, .bool false] 25)).heap.size = w.heap.size + 1 := by simp
  have K0 := Aside.mk (And.intro k0 (And.intro hx0 hz0))
  clear k0 hx0 hz0
  go_enter Try.func24, Try.ntmps24
  go_wp2_with fail
  generalize (w.alloc (.cells #[.int .i64 0, .slice none 0 0, .slice none 0 0, .int .i64 0, .int .i64 0, .bool false] 25)) = W0 at *
  have k1 := heap_alloc_new W0 (.cells #[.slice A n c] 119)
  have k2 := (heap_alloc_old W0 (.cells #[.slice A n c] 119) (show w.heap.size < W0.heap.size by rw [K0.out.2.2]; omega)).trans K0.out.1
  rw [K0.out.2.2] at k1
  have hx1 := K0.out.2.1.alloc (.cells #[.slice A n c] 119)
  generalize (W0.alloc (.cells #[.slice A n c] 119)) = W1 at *
  have hst : Strm H W1 (w.heap.size + 1) := ⟨fun o => hs.new (by omega) o, A, n, c, xs, k1, hl⟩
  have K1 := Aside.mk (And.intro k2 hx1)
  clear k1 k2 hx1
  refine (make_any (w.heap.size + 1) 8 (by omega) (by omega) 4 (by omega) H W1 K1.out.2.sat hst).mono ?_
  rintro e w2 ⟨r, H2, cs, rfl, hr, hm, hf⟩
  have hx2 := fl_ext K1.out.2 (by omega) hf
  have k3 := hf.box K1.out.1 (by omega)
  have hn : ∀ o, H2 w.heap.size o = none := fun o => by rw [hf.old _ _ (Array.getElem?_eq_some_iff.1 K1.out.1).1]; exact hs.new (Nat.le_refl _) o
  obtain ⟨kind, set, args, mn, mx, neg, hq⟩ : ∃ a b c d e f, r = Re.mk a b c d e f := by cases r; exact ⟨_, _, _, _, _, _, rfl⟩
  subst hq
  obtain ⟨A1, c1, A2, c2, rfl, -, -⟩ := hr.open
  obtain ⟨⟨a0, a1, a2, a3, a4, a5⟩, b0, b1, b2, b3, b4, b5⟩ := kbox6 k3
  have K2 := Aside.mk (And.intro k3 (And.intro hx2 (And.intro hn (And.intro hr hm))))
  clear k3 hx2 hn hr hm hf hst
  go_wp2_with fail
  refine bodyPost_ret (kresults_c1 rfl _ _ _ rfl (run_loadVar_row _ _ _ _ _ (0, 0) _ (kbox6_set K2.out.1 _ _ _ _ _ _) Try.underlying25 rfl (by kernel_rfl))) rfl ?_
  exact ⟨_, H2, _, rfl, K2.out.2.2.2.1, K2.out.2.2.2.2, kExt6 K2.out.2.1 (Nat.le_refl _) K2.out.2.2.1 _ _ _ _ _ _⟩

set_option maxRecDepth 100000 in
set_option maxHeartbeats 4000000 in
theorem reAllOf_any (H : PH) (xs : List Int) (A : Option Addr) (n c : Nat) (w : World) (hl : SlR (kI .i64) H A n c xs) (hs : Sat w H) :
    Calls Try.prog 65 #[.slice A n c] w (ReOfPost 10 H w) := by
  have k0 := heap_alloc_new w (.cells #[.int .i64 0, .slice none 0 0, .slice none 0 0, .int .i64 0, .int .i64 0, .bool false] 25)
  have hx0 := (Ext.refl hs).alloc (.cells #[.int .i64 0, .slice none 0 0, .slice none 0 0, .int .i64 0, .int .i64 0, .bool false] 25)
  have hz0 : (w.alloc (.cells #[.int .i64 0, .slice none 0 0, .slice none 0 0, .int .i64 0, .int .i64 0, .bool false] 25)).heap.size = w.heap.size + 1 := by simp
  have K0 := Aside.mk (And.intro k0 (And.intro hx0 hz0))
  clear k0 hx0 hz0
  go_enter Try.func65, Try.ntmps65
  go_wp2_with fail
  generalize (w.alloc (.cells #[.int .i64 0, .slice none 0 0, .slice none 0 0, .int .i64 0, .int .i64 0, .bool false] 25)) = W0 at *
  have k1 := heap_alloc_new W0 (.cells #[.slice A n c] 119)
  have k2 := (heap_alloc_old W0 (.cells #[.slice A n c] 119) (show w.heap.size < W0.heap.size by rw [K0.out.2.2]; omega)).trans K0.out.1
  rw [K0.out.2.2] at k1
  have hx1 := K0.out.2.1.alloc (.cells #[.slice A n c] 119)
  generalize (W0.alloc (.cells #[.slice A n c] 119)) = W1 at *
  have hst : Strm H W1 (w.heap.size + 1) := ⟨fun o => hs.new (by omega) o, A, n, c, xs, k1, hl⟩
  have K1 := Aside.mk (And.intro k2 hx1)
  clear k1 k2 hx1
  refine (make_any (w.heap.size + 1) 10 (by omega) (by omega) 4 (by omega) H W1 K1.out.2.sat hst).mono ?_
  rintro e w2 ⟨r, H2, cs, rfl, hr, hm, hf⟩
  have hx2 := fl_ext K1.out.2 (by omega) hf
  have k3 := hf.box K1.out.1 (by omega)
  have hn : ∀ o, H2 w.heap.size o = none := fun o => by rw [hf.old _ _ (Array.getElem?_eq_some_iff.1 K1.out.1).1]; exact hs.new (Nat.le_refl _) o
  obtain ⟨kind, set, args, mn, mx, neg, hq⟩ : ∃ a b c d e f, r = Re.mk a b c d e f := by cases r; exact ⟨_, _, _, _, _, _, rfl⟩
  subst hq
  obtain ⟨A1, c1, A2, c2, rfl, -, -⟩ := hr.open
  obtain ⟨⟨a0, a1, a2, a3, a4, a5⟩, b0, b1, b2, b3, b4, b5⟩ := kbox6 k3
  have K2 := Aside.mk (And.intro k3 (And.intro hx2 (And.intro hn (And.intro hr hm))))
  clear k3 hx2 hn hr hm hf hst
  go_wp2_with fail
  refine bodyPost_ret (kresults_c1 rfl _ _ _ rfl (run_loadVar_row _ _ _ _ _ (0, 0) _ (kbox6_set K2.out.1 _ _ _ _ _ _) Try.underlying25 rfl (by kernel_rfl))) rfl ?_
  exact ⟨_, H2, _, rfl, K2.out.2.2.2.1, K2.out.2.2.2.2, kExt6 K2.out.2.1 (Nat.le_refl _) K2.out.2.2.1 _ _ _ _ _ _⟩

/-- a text of runes, of at most 10 -/
def Runes (t : List Int) : Prop := t.length ≤ 10 ∧ ∀ x ∈ t, 0 ≤ x ∧ x ≤ 1114111

theorem tbl_get (k : Nat) (h : k < 10) : ∃ y : Int, (#[.int .i64 97, .int .i64 98, .int .i64 99, .int .i64 97, .int .i64 98, .int .i64 122, .int .i64 0, .int .i64 233, .int .i64 8364, .int .i64 1114111] : Array Value)[k]? = some (.int .i64 y) ∧ 0 ≤ y ∧ y ≤ 1114111 := by
  match k, h with
  | 0, _ => exact ⟨97, rfl, by omega, by omega⟩
  | 1, _ => exact ⟨98, rfl, by omega, by omega⟩
  | 2, _ => exact ⟨99, rfl, by omega, by omega⟩
  | 3, _ => exact ⟨97, rfl, by omega, by omega⟩
  | 4, _ => exact ⟨98, rfl, by omega, by omega⟩
  | 5, _ => exact ⟨122, rfl, by omega, by omega⟩
  | 6, _ => exact ⟨0, rfl, by omega, by omega⟩
  | 7, _ => exact ⟨233, rfl, by omega, by omega⟩
  | 8, _ => exact ⟨8364, rfl, by omega, by omega⟩
  | 9, _ => exact ⟨1114111, rfl, by omega, by omega⟩

def TextPost (w : World) (e : Ending) (w' : World) : Prop :=
  ∃ v t, e = .returned v ∧ Own (kI .i64) 3 w' w.heap.size emp v t ∧ Runes t ∧ Below w.heap.size w w'

set_option maxRecDepth 100000 in
set_option maxHeartbeats 8000000 in
theorem textOf_any (H : PH) (xs : List Int) (A : Option Addr) (n c : Nat) (w : World) (hl : SlR (kI .i64) H A n c xs) (hs : Sat w H) :
    Calls Try.prog 25 #[.slice A n c] w (TextPost w) := by
  have HNX := Aside.mk hl.1
  have hc := hl.2.1
  have hlen := hl.2.2.2.1
  have hnil := hl.2.2.2.2.1
  by_cases hten : (n : Int) < 10
  · have hten' : n < 10 := by omega
    go_enter Try.func25, Try.ntmps25
    go_wp2_with fail
    go_loopw [3, 12] (fun o i wr => ∃ (k : Nat) (A5 : Option Addr) (l5 c5 : Nat) (t : List Int), k ≤ n ∧ i = .int .i64 k ∧ o = .slice A5 l5 c5 ∧ Own (kI .i64) 3 wr w.heap.size emp o t ∧ Aside (t.length = k ∧ ∀ x ∈ t, 0 ≤ x ∧ x ≤ 1114111) ∧ Below w.heap.size w wr) (fun _ i _ => n - (intOf i).toNat)
    case atStart => exact ⟨0, _, _, _, [], by omega, rfl, rfl, Own.nil _ _ _ _ _, ⟨by simp⟩, Below.refl _ _⟩
    case round =>
      obtain ⟨k, A5, l5, c5, t, hk, rfl, rfl, ho5, ht, hb5⟩ := hrel
      by_cases hlt : k < n
      · obtain ⟨b, off, cs, rfl, hrd, hcell⟩ := hl.row k (by have := HNX.out; omega)
        generalize xs[k]'(by have := HNX.out; omega) = x at *
        obtain rfl : cs = [.int .i64 x] := hrd
        have g0 := at1 (hs.below hb5) hcell
        simp only [kI, Nat.mul_one] at g0
        have hbz : b < wr.heap.size := World.block_lt_of_cell? wr _ g0
        have HO := Aside.mk (And.intro ho5 hb5)
        clear hcell ho5 hb5
        go_wp2_with fail
        refine (below_any x 10 _ (by omega) (by omega)).mono ?_
        rintro e w1 ⟨rfl, rfl⟩
        obtain ⟨q1, q2⟩ := below_lt x 10 (by omega)
        obtain ⟨q, hq⟩ : ∃ q : Nat, below x 10 = q := ⟨(below x 10).toNat, by omega⟩
        rw [hq]
        have hq10 : q < 10 := by omega
        obtain ⟨y, hy, hy0, hy1⟩ := tbl_get q hq10
        have hcy : (wr.alloc (.cells #[.int .i64 97, .int .i64 98, .int .i64 99, .int .i64 97, .int .i64 98, .int .i64 122, .int .i64 0, .int .i64 233, .int .i64 8364, .int .i64 1114111] 3)).cell? ⟨wr.heap.size, q, none⟩ = some (.int .i64 y) := by rw [World.cell?_alloc_new]; exact hy
        have ho6 : Own (kI .i64) 3 (wr.alloc (.cells #[.int .i64 97, .int .i64 98, .int .i64 99, .int .i64 97, .int .i64 98, .int .i64 122, .int .i64 0, .int .i64 233, .int .i64 8364, .int .i64 1114111] 3)) w.heap.size emp (.slice A5 l5 c5) t := HO.out.1.alloc (sat_emp _) _
        have hb6 := bA HO.out.2 (.cells #[.int .i64 97, .int .i64 98, .int .i64 99, .int .i64 97, .int .i64 98, .int .i64 122, .int .i64 0, .int .i64 233, .int .i64 8364, .int .i64 1114111] 3)
        have hzz : wr.heap.size < (wr.alloc (.cells #[.int .i64 97, .int .i64 98, .int .i64 99, .int .i64 97, .int .i64 98, .int .i64 122, .int .i64 0, .int .i64 233, .int .i64 8364, .int .i64 1114111] 3)).heap.size := by simp
        have hlt10 := ht.out.1
        have HY := Aside.mk (And.intro hq (And.intro hy (And.intro hy0 hy1)))
        have HT := Aside.mk ht.out
        clear hq hy q1 q2 ht
        generalize (wr.alloc (.cells #[.int .i64 97, .int .i64 98, .int .i64 99, .int .i64 97, .int .i64 98, .int .i64 122, .int .i64 0, .int .i64 233, .int .i64 8364, .int .i64 1114111] 3)) = w2 at *
        have hby : Aside ((t.length + 1) * 8 ≤ 140737488355328 ∧ t.length + 1 ≤ maxLen) := ⟨by omega, by unfold maxLen; omega⟩
        have hbs : Aside (w.heap.size ≤ w2.heap.size) := ⟨hb6.size⟩
        have hse := sat_emp w2
        have hrd : Aside ((kI .i64).rd emp y (#[.int .i64 y] : Array Value).toList) := ⟨rfl⟩
        have hqi : (q : Int) < 10 := by omega
        clear hlt10
        go_upto_region 6 with (at_builtin; go_must (refine wpList_app1 (kI .i64) rfl (.tmp 16) (.tmp 22) 26 rfl 3 Try.underlying26 info3 rfl ho6 hse rfl rfl rfl hrd.out hby.out.1 hby.out.2 hbs.out ?_); intro v8 w8 ho8 hg8 hs8 hn8)
        have hb8 : Below w.heap.size w w8 := ho6.belowG hb6 (Nat.le_refl _) hg8
        obtain ⟨A8, c8, rfl, -, -, -, -⟩ := ho8.form
        go_wp2_with fail
        go_roundw
        case rel =>
          refine ⟨k + 1, A8, _, c8, t ++ [y], by omega, by go_num, rfl, ho8, ⟨by simp [HT.out.1], fun z hz => ?_⟩, hb8⟩
          rcases List.mem_append.1 hz with hz | hz
          · exact HT.out.2 z hz
          · simp at hz; subst hz; exact ⟨HY.out.2.2.1, HY.out.2.2.2⟩
        case measure => simp [intOf]; omega
      · obtain rfl : k = n := by omega
        go_wp2_with fail
        go_ret
        exact ⟨_, t, rfl, ho5, ⟨by have := ht.out.1; omega, ht.out.2⟩, hb5⟩
  · have hmx : max (10 : Int) 0 = 10 := by decide
    by_cases hten2 : (10 : Int) < n
    · have hten' : 10 < n := by omega
      go_enter Try.func25, Try.ntmps25
      go_wp2_with fail
      go_loopw [3, 12] (fun o i wr => ∃ (k : Nat) (A5 : Option Addr) (l5 c5 : Nat) (t : List Int), k ≤ 10 ∧ i = .int .i64 k ∧ o = .slice A5 l5 c5 ∧ Own (kI .i64) 3 wr w.heap.size emp o t ∧ Aside (t.length = k ∧ ∀ x ∈ t, 0 ≤ x ∧ x ≤ 1114111) ∧ Below w.heap.size w wr) (fun _ i _ => 10 - (intOf i).toNat)
      case atStart => exact ⟨0, _, _, _, [], by omega, rfl, rfl, Own.nil _ _ _ _ _, ⟨by simp⟩, Below.refl _ _⟩
      case round =>
        obtain ⟨k, A5, l5, c5, t, hk, rfl, rfl, ho5, ht, hb5⟩ := hrel
        by_cases hlt : k < 10
        · obtain ⟨b, off, cs, rfl, hrd, hcell⟩ := hl.row k (by have := HNX.out; omega)
          generalize xs[k]'(by have := HNX.out; omega) = x at *
          obtain rfl : cs = [.int .i64 x] := hrd
          have g0 := at1 (hs.below hb5) hcell
          simp only [kI, Nat.mul_one] at g0
          have hbz : b < wr.heap.size := World.block_lt_of_cell? wr _ g0
          have HO := Aside.mk (And.intro ho5 hb5)
          clear hcell ho5 hb5
          go_wp2_with fail
          refine (below_any x 10 _ (by omega) (by omega)).mono ?_
          rintro e w1 ⟨rfl, rfl⟩
          obtain ⟨q1, q2⟩ := below_lt x 10 (by omega)
          obtain ⟨q, hq⟩ : ∃ q : Nat, below x 10 = q := ⟨(below x 10).toNat, by omega⟩
          rw [hq]
          have hq10 : q < 10 := by omega
          obtain ⟨y, hy, hy0, hy1⟩ := tbl_get q hq10
          have hcy : (wr.alloc (.cells #[.int .i64 97, .int .i64 98, .int .i64 99, .int .i64 97, .int .i64 98, .int .i64 122, .int .i64 0, .int .i64 233, .int .i64 8364, .int .i64 1114111] 3)).cell? ⟨wr.heap.size, q, none⟩ = some (.int .i64 y) := by rw [World.cell?_alloc_new]; exact hy
          have ho6 : Own (kI .i64) 3 (wr.alloc (.cells #[.int .i64 97, .int .i64 98, .int .i64 99, .int .i64 97, .int .i64 98, .int .i64 122, .int .i64 0, .int .i64 233, .int .i64 8364, .int .i64 1114111] 3)) w.heap.size emp (.slice A5 l5 c5) t := HO.out.1.alloc (sat_emp _) _
          have hb6 := bA HO.out.2 (.cells #[.int .i64 97, .int .i64 98, .int .i64 99, .int .i64 97, .int .i64 98, .int .i64 122, .int .i64 0, .int .i64 233, .int .i64 8364, .int .i64 1114111] 3)
          have hzz : wr.heap.size < (wr.alloc (.cells #[.int .i64 97, .int .i64 98, .int .i64 99, .int .i64 97, .int .i64 98, .int .i64 122, .int .i64 0, .int .i64 233, .int .i64 8364, .int .i64 1114111] 3)).heap.size := by simp
          have hlt10 := ht.out.1
          have HY := Aside.mk (And.intro hq (And.intro hy (And.intro hy0 hy1)))
          have HT := Aside.mk ht.out
          clear hq hy q1 q2 ht
          generalize (wr.alloc (.cells #[.int .i64 97, .int .i64 98, .int .i64 99, .int .i64 97, .int .i64 98, .int .i64 122, .int .i64 0, .int .i64 233, .int .i64 8364, .int .i64 1114111] 3)) = w2 at *
          have hby : Aside ((t.length + 1) * 8 ≤ 140737488355328 ∧ t.length + 1 ≤ maxLen) := ⟨by omega, by unfold maxLen; omega⟩
          have hbs : Aside (w.heap.size ≤ w2.heap.size) := ⟨hb6.size⟩
          have hse := sat_emp w2
          have hrd : Aside ((kI .i64).rd emp y (#[.int .i64 y] : Array Value).toList) := ⟨rfl⟩
          have hqi : (q : Int) < 10 := by omega
          clear hlt10
          go_upto_region 6 with (at_builtin; go_must (refine wpList_app1 (kI .i64) rfl (.tmp 16) (.tmp 22) 26 rfl 3 Try.underlying26 info3 rfl ho6 hse rfl rfl rfl hrd.out hby.out.1 hby.out.2 hbs.out ?_); intro v8 w8 ho8 hg8 hs8 hn8)
          have hb8 : Below w.heap.size w w8 := ho6.belowG hb6 (Nat.le_refl _) hg8
          obtain ⟨A8, c8, rfl, -, -, -, -⟩ := ho8.form
          go_wp2_with fail
          go_roundw
          case rel =>
            refine ⟨k + 1, A8, _, c8, t ++ [y], by omega, by go_num, rfl, ho8, ⟨by simp [HT.out.1], fun z hz => ?_⟩, hb8⟩
            rcases List.mem_append.1 hz with hz | hz
            · exact HT.out.2 z hz
            · simp at hz; subst hz; exact ⟨HY.out.2.2.1, HY.out.2.2.2⟩
          case measure => simp [intOf]; omega
        · obtain rfl : k = 10 := by omega
          go_wp2_with fail
          go_ret
          exact ⟨_, t, rfl, ho5, ⟨by have := ht.out.1; omega, ht.out.2⟩, hb5⟩
    · have hten3 : n = 10 := by omega
      subst hten3
      clear hten hten2
      go_enter Try.func25, Try.ntmps25
      go_wp2_with fail
      go_loopw [3, 12] (fun o i wr => ∃ (k : Nat) (A5 : Option Addr) (l5 c5 : Nat) (t : List Int), k ≤ 10 ∧ i = .int .i64 k ∧ o = .slice A5 l5 c5 ∧ Own (kI .i64) 3 wr w.heap.size emp o t ∧ Aside (t.length = k ∧ ∀ x ∈ t, 0 ≤ x ∧ x ≤ 1114111) ∧ Below w.heap.size w wr) (fun _ i _ => 10 - (intOf i).toNat)
      case atStart => exact ⟨0, _, _, _, [], by omega, rfl, rfl, Own.nil _ _ _ _ _, ⟨by simp⟩, Below.refl _ _⟩
      case round =>
        obtain ⟨k, A5, l5, c5, t, hk, rfl, rfl, ho5, ht, hb5⟩ := hrel
        by_cases hlt : k < 10
        · obtain ⟨b, off, cs, rfl, hrd, hcell⟩ := hl.row k (by have := HNX.out; omega)
          generalize xs[k]'(by have := HNX.out; omega) = x at *
          obtain rfl : cs = [.int .i64 x] := hrd
          have g0 := at1 (hs.below hb5) hcell
          simp only [kI, Nat.mul_one] at g0
          have hbz : b < wr.heap.size := World.block_lt_of_cell? wr _ g0
          have HO := Aside.mk (And.intro ho5 hb5)
          clear hcell ho5 hb5
          go_wp2_with fail
          refine (below_any x 10 _ (by omega) (by omega)).mono ?_
          rintro e w1 ⟨rfl, rfl⟩
          obtain ⟨q1, q2⟩ := below_lt x 10 (by omega)
          obtain ⟨q, hq⟩ : ∃ q : Nat, below x 10 = q := ⟨(below x 10).toNat, by omega⟩
          rw [hq]
          have hq10 : q < 10 := by omega
          obtain ⟨y, hy, hy0, hy1⟩ := tbl_get q hq10
          have hcy : (wr.alloc (.cells #[.int .i64 97, .int .i64 98, .int .i64 99, .int .i64 97, .int .i64 98, .int .i64 122, .int .i64 0, .int .i64 233, .int .i64 8364, .int .i64 1114111] 3)).cell? ⟨wr.heap.size, q, none⟩ = some (.int .i64 y) := by rw [World.cell?_alloc_new]; exact hy
          have ho6 : Own (kI .i64) 3 (wr.alloc (.cells #[.int .i64 97, .int .i64 98, .int .i64 99, .int .i64 97, .int .i64 98, .int .i64 122, .int .i64 0, .int .i64 233, .int .i64 8364, .int .i64 1114111] 3)) w.heap.size emp (.slice A5 l5 c5) t := HO.out.1.alloc (sat_emp _) _
          have hb6 := bA HO.out.2 (.cells #[.int .i64 97, .int .i64 98, .int .i64 99, .int .i64 97, .int .i64 98, .int .i64 122, .int .i64 0, .int .i64 233, .int .i64 8364, .int .i64 1114111] 3)
          have hzz : wr.heap.size < (wr.alloc (.cells #[.int .i64 97, .int .i64 98, .int .i64 99, .int .i64 97, .int .i64 98, .int .i64 122, .int .i64 0, .int .i64 233, .int .i64 8364, .int .i64 1114111] 3)).heap.size := by simp
          have hlt10 := ht.out.1
          have HY := Aside.mk (And.intro hq (And.intro hy (And.intro hy0 hy1)))
          have HT := Aside.mk ht.out
          clear hq hy q1 q2 ht
          generalize (wr.alloc (.cells #[.int .i64 97, .int .i64 98, .int .i64 99, .int .i64 97, .int .i64 98, .int .i64 122, .int .i64 0, .int .i64 233, .int .i64 8364, .int .i64 1114111] 3)) = w2 at *
          have hby : Aside ((t.length + 1) * 8 ≤ 140737488355328 ∧ t.length + 1 ≤ maxLen) := ⟨by omega, by unfold maxLen; omega⟩
          have hbs : Aside (w.heap.size ≤ w2.heap.size) := ⟨hb6.size⟩
          have hse := sat_emp w2
          have hrd : Aside ((kI .i64).rd emp y (#[.int .i64 y] : Array Value).toList) := ⟨rfl⟩
          have hqi : (q : Int) < 10 := by omega
          clear hlt10
          go_upto_region 6 with (at_builtin; go_must (refine wpList_app1 (kI .i64) rfl (.tmp 16) (.tmp 22) 26 rfl 3 Try.underlying26 info3 rfl ho6 hse rfl rfl rfl hrd.out hby.out.1 hby.out.2 hbs.out ?_); intro v8 w8 ho8 hg8 hs8 hn8)
          have hb8 : Below w.heap.size w w8 := ho6.belowG hb6 (Nat.le_refl _) hg8
          obtain ⟨A8, c8, rfl, -, -, -, -⟩ := ho8.form
          go_wp2_with fail
          go_roundw
          case rel =>
            refine ⟨k + 1, A8, _, c8, t ++ [y], by omega, by go_num, rfl, ho8, ⟨by simp [HT.out.1], fun z hz => ?_⟩, hb8⟩
            rcases List.mem_append.1 hz with hz | hz
            · exact HT.out.2 z hz
            · simp at hz; subst hz; exact ⟨HY.out.2.2.1, HY.out.2.2.2⟩
          case measure => simp [intOf]; omega
        · obtain rfl : k = 10 := by omega
          go_wp2_with fail
          go_ret
          exact ⟨_, t, rfl, ho5, ⟨by have := ht.out.1; omega, ht.out.2⟩, hb5⟩
end Go.Proofs.Ytbnahmeaeakhhaa.B

namespace Go.Proofs.Ytbnahmeaeakhhaa.B
set_option linter.unusedVariables false
set_option linter.unusedSimpArgs false
open Go Go.RowKit Classical

set_option maxHeartbeats 2000000 in
theorem size_any (H : PH) : ∀ (r : Re) (cs : List Value) (w : World), RdRe H r cs → Sat w H → (pre r).length ≤ 1048576 →
    Calls Try.prog 26 #[.agg cs.toArray] w fun e w' => e = .returned (.int .i64 (pre r).length) ∧ Below w.heap.size w w' := by
  intro r
  induction r using Re.ind with
  | h kind set args mn mx neg ih =>
  intro cs w hr hs hbig
  obtain ⟨A1, c1, A, c, rfl, h1, h2⟩ := hr.open
  have hlen := h2.2.2.2.1
  have hc := h2.2.1
  rw [pre_eq, List.length_cons] at hbig
  have hpe : (pre (.mk kind set args mn mx neg)).length = ((args.map pre).flatten).length + 1 := by rw [pre_eq, List.length_cons]
  have HP := Aside.mk hpe
  clear hpe
  go_enter Try.func26, Try.ntmps26
  go_wp2_with fail
  go_loopw [3, 9] (fun m i wr => ∃ (k n : Nat), k ≤ args.length ∧ i = .int .i64 k ∧ m = .int .i64 n ∧ Aside (n = (((args.take k).map pre).flatten).length + 1) ∧ n ≤ 1048576 ∧ Below w.heap.size w wr) (fun _ i _ => args.length - (intOf i).toNat)
  case atStart => exact ⟨0, 1, by omega, rfl, rfl, ⟨by simp⟩, by omega, by repeat (first | exact Below.refl _ _ | apply bA)⟩
  case round =>
    obtain ⟨k, n, hk, rfl, rfl, hn, hnb, hbr⟩ := hrel
    by_cases hlt : k < args.length
    · obtain ⟨b, off, cs, rfl, hrd, hcell⟩ := h2.row k hlt
      have hfs := flat_succ args k hlt
      have hft := flat_take args k hlt
      have hle : (((args.take k).map pre).flatten).length + (pre args[k]).length + 1 ≤ 1048576 := by
        rw [hft] at hbig; simp only [List.length_append] at hbig; omega
      have HI := Aside.mk (fun w hs => ih _ (List.getElem_mem hlt) cs w hrd hs (by omega))
      have hsr := hs.below hbr
      obtain ⟨kind', set', args', mn', mx', neg', hq⟩ : ∃ a b c d e f, args[k] = Re.mk a b c d e f := by cases args[k]; exact ⟨_, _, _, _, _, _, rfl⟩
      rw [hq] at hrd
      obtain ⟨A1', c1', A2', c2', rfl, -, -⟩ := hrd.open
      obtain ⟨g0, g1, g2, g3, g4, g5⟩ := at6 hsr hcell
      simp only [kRe] at g0 g1 g2 g3 g4 g5
      have hbz : b < wr.heap.size := World.block_lt_of_cell? wr _ g0
      have HF := Aside.mk (And.intro hfs hle)
      have hnn := hn.out
      have hle2 : n + (pre args[k]).length ≤ 1048576 := by omega
      clear hcell hrd hfs hft hle hnn hq
      generalize hsz : (pre args[k]).length = s at *
      have HSZ := Aside.mk hsz
      clear hsz
      go_wp2_with fail
      refine (HI.out _ (hsr.alloc _)).mono ?_
      rintro e w2 ⟨rfl, hb2⟩
      go_wp2_with fail
      go_roundw
      case rel => exact ⟨k + 1, n + s, by omega, by go_num, by go_num, ⟨by rw [HF.out.1, List.length_append]; have h1 := hn.out; have h2 := HSZ.out; omega⟩, by omega, bT (bA hbr _) hb2⟩
      case measure => simp [intOf]; omega
    · obtain rfl : k = args.length := by omega
      go_wp2_with fail
      go_ret
      have hn' := hn.out
      rw [List.take_of_length_le (Nat.le_refl _)] at hn'
      exact ⟨by rw [HP.out, ← hn']; rfl, hbr⟩

set_option maxRecDepth 100000 in
theorem kre_any (k : Int) (A : Option Addr) (n c : Nat) (w : World) : Calls Try.prog 27 #[.int .i64 k, .slice A n c] w fun e w' => e = .returned (.agg #[.int .i64 k, .slice none 0 0, .slice A n c, .int .i64 0, .int .i64 0, .bool false]) ∧ Below w.heap.size w w' := by
  go_enter Try.func27, Try.ntmps27
  go_wp2_with fail
  refine bodyPost_ret (kresults_c1 rfl _ _ _ rfl (run_loadVar_row _ _ _ _ _ (0, 0) _ (heap_alloc_new _ _) Try.underlying25 rfl (by kernel_rfl))) rfl ?_
  exact ⟨rfl, bA (Below.refl _ _) _⟩

/-- slices.Equal, over pairs -/
theorem eqPairs2_any (H H2 : PH) (xs ys : List (Int × Int)) (A B : Option Addr) (n c m d : Nat) (w : World) (hx : SlR kP H A n c xs) (hy : SlR kP H2 B m d ys) (hs : Sat w H) (hs2 : Sat w H2) (he : xs = ys) :
    Calls Try.prog 67 #[.slice A n c, .slice B m d] w fun e w' => e = .returned (.bool true) ∧ Below w.heap.size w w' := by
  subst he
  obtain rfl := hx.1
  obtain rfl := hy.1
  have hc := hx.2.1
  have hd := hy.2.1
  have hlen := hx.2.2.2.1
  go_enter Try.func67, Try.ntmps67
  go_wp2_with fail
  go_loopw [13] (fun i wr => ∃ k : Nat, k ≤ xs.length ∧ i = .int .i64 k ∧ Below w.heap.size w wr) (fun i _ => xs.length - (intOf i).toNat)
  case atStart => exact ⟨0, by omega, rfl, Below.refl _ _⟩
  case round =>
    obtain ⟨k, hk, rfl, hbr⟩ := hrel
    by_cases hlt : k < xs.length
    · have hli : (k : Int) < (xs.length : Int) := by omega
      obtain ⟨b1, o1, cs1, rfl, hrd1, hcell1⟩ := hx.row k hlt
      obtain ⟨b2, o2, cs2, rfl, hrd2, hcell2⟩ := hy.row k hlt
      generalize xs[k] = q at *
      obtain rfl : cs1 = [.int .i64 q.1, .int .i64 q.2] := hrd1
      obtain rfl : cs2 = [.int .i64 q.1, .int .i64 q.2] := hrd2
      obtain ⟨g0, g1⟩ := at2 (hs.below hbr) hcell1
      obtain ⟨g2, g3⟩ := at2 (hs2.below hbr) hcell2
      simp only [kP] at g0 g1 g2 g3
      have HB := Aside.mk hbr
      clear hcell1 hcell2 hbr
      go_wp2_with fail
      go_quiet (fail)
      go_wp2_with fail
      go_roundw
      case rel => exact ⟨k + 1, by omega, by go_num, HB.out.drewN _⟩
      case measure => simp [intOf]; omega
    · obtain rfl : k = xs.length := by omega
      go_wp2_with fail
      go_ret
      exact ⟨rfl, hbr⟩
theorem eqPairs_any (H : PH) (xs ys : List (Int × Int)) (A B : Option Addr) (n c m d : Nat) (w : World) (hx : SlR kP H A n c xs) (hy : SlR kP H B m d ys) (hs : Sat w H) (he : xs = ys) :
    Calls Try.prog 67 #[.slice A n c, .slice B m d] w fun e w' => e = .returned (.bool true) ∧ Below w.heap.size w w' := eqPairs2_any H H xs ys A B n c m d w hx hy hs hs he
end Go.Proofs.Ytbnahmeaeakhhaa.B

namespace Go.Proofs.Ytbnahmeaeakhhaa.B
set_option linter.unusedVariables false
set_option linter.unusedSimpArgs false
open Go Go.RowKit Classical

theorem goodf_any (w : World) : Calls Try.prog 110 #[.int .i64 0] w fun e w' => e = .returned (.bool false) ∧ w = w' := by
  go_enter Try.func110, Try.ntmps110
  go_wp2_with fail
  go_ret
  exact ⟨rfl, rfl⟩

set_option maxHeartbeats 2000000 in
theorem indexGood_any (H : PH) (es : List Int) (A : Option Addr) (n c : Nat) (w : World) (hx : SlR (kI .i64) H A n c es) (hs : Sat w H) (he : ∀ e ∈ es, e = 0) :
    Calls Try.prog 162 #[.slice A n c, .func (.func 110) #[] #[]] w fun e w' => e = .returned (.int .i64 (-1)) ∧ w = w' := by
  obtain rfl := hx.1
  have hc := hx.2.1
  have hlen := hx.2.2.2.1
  have HE := Aside.mk he
  clear he
  go_enter Try.func162, Try.ntmps162
  go_wp2_with fail
  go_loop [8] (fun i => ∃ k : Nat, k ≤ es.length ∧ i = .int .i64 k) (fun i => es.length - (intOf i).toNat)
  case atStart => exact ⟨0, by omega, rfl⟩
  case round =>
    obtain ⟨k, hk, rfl⟩ := hrel
    by_cases hlt : k < es.length
    · have hli : (k : Int) < (es.length : Int) := by omega
      obtain ⟨b1, o1, cs1, rfl, hrd1, hcell1⟩ := hx.row k hlt
      have h0 : es[k] = 0 := HE.out _ (List.getElem_mem hlt)
      rw [h0] at hrd1
      obtain rfl : cs1 = [.int .i64 0] := hrd1
      have g0 := at1 hs hcell1
      simp only [kI, Nat.mul_one] at g0
      clear hcell1 h0
      go_wp2_with fail
      refine (goodf_any w).mono ?_
      rintro e w1 ⟨rfl, rfl⟩
      go_wp2_with fail
      go_round
      case rel => exact ⟨k + 1, by omega, by go_num⟩
      case measure => simp [intOf]; omega
    · obtain rfl : k = es.length := by omega
      go_wp2_with fail
      go_ret
      exact ⟨rfl, rfl⟩

theorem containsGood_any (H : PH) (es : List Int) (A : Option Addr) (n c : Nat) (w : World) (hx : SlR (kI .i64) H A n c es) (hs : Sat w H) (he : ∀ e ∈ es, e = 0) :
    Calls Try.prog 109 #[.slice A n c, .func (.func 110) #[] #[]] w fun e w' => e = .returned (.bool false) ∧ w = w' := by
  have HI := Aside.mk (indexGood_any H es A n c w hx hs he)
  clear hx he
  go_enter Try.func109, Try.ntmps109
  go_wp2_with fail
  refine HI.out.mono ?_
  rintro e w1 ⟨rfl, rfl⟩
  go_wp2_with fail
  go_ret
  exact ⟨rfl, rfl⟩
theorem good_any (H : PH) (es : List Int) (A : Option Addr) (n c : Nat) (w : World) (hx : SlR (kI .i64) H A n c es) (hs : Sat w H) (he : ∀ e ∈ es, e = 0) :
    Calls Try.prog 51 #[.slice A n c] w fun e w' => e = .returned (.bool true) ∧ w = w' := by
  have HI := Aside.mk (containsGood_any H es A n c w hx hs he)
  clear hx he
  go_enter Try.func51, Try.ntmps51
  go_wp2_with fail
  refine HI.out.mono ?_
  rintro e w1 ⟨rfl, rfl⟩
  go_wp2_with fail
  go_ret
  exact ⟨rfl, rfl⟩

theorem kspan_any (a b : Int) (w : World) : Calls Try.prog 101 #[.int .i64 a, .int .i64 b] w fun e w' => e = .returned (.slice (some ⟨w.heap.size, 0, none⟩) 1 1) ∧ w' = w.alloc (.cells #[.int .i64 a, .int .i64 b] 121) := by
  go_enter Try.func101, Try.ntmps101
  go_wp2_with fail
  go_ret
  exact ⟨rfl, rfl⟩

set_option maxRecDepth 100000 in
set_option maxHeartbeats 2000000 in
theorem kone_any (H : PH) (c : Int) (w : World) (hs : Sat w H) : Calls Try.prog 46 #[.int .i64 c] w fun e w' => ∃ H' cs, e = .returned (.agg cs.toArray) ∧ RdRe H' (oneRe c) cs ∧ Ext H H' w w' := by
  have k0 := heap_alloc_new w (.cells #[.int .i64 0, .slice none 0 0, .slice none 0 0, .int .i64 0, .int .i64 0, .bool false] 25)
  have hx0 := (Ext.refl hs).alloc (.cells #[.int .i64 0, .slice none 0 0, .slice none 0 0, .int .i64 0, .int .i64 0, .bool false] 25)
  have hz0 : (w.alloc (.cells #[.int .i64 0, .slice none 0 0, .slice none 0 0, .int .i64 0, .int .i64 0, .bool false] 25)).heap.size = w.heap.size + 1 := by simp
  have K0 := Aside.mk (And.intro k0 (And.intro hx0 hz0))
  clear k0 hx0 hz0
  go_enter Try.func46, Try.ntmps46
  go_wp2_with fail
  generalize (w.alloc (.cells #[.int .i64 0, .slice none 0 0, .slice none 0 0, .int .i64 0, .int .i64 0, .bool false] 25)) = W0 at *
  refine (kspan_any c c W0).mono ?_
  rintro e w1 ⟨rfl, rfl⟩
  have k2 := (heap_alloc_old W0 (.cells #[.int .i64 c, .int .i64 c] 121) (show w.heap.size < W0.heap.size by rw [K0.out.2.2]; omega)).trans K0.out.1
  have hx1 := K0.out.2.1.alloc (.cells #[.int .i64 c, .int .i64 c] 121)
  have ho := Own.lit (k := kSpan) (e := 121) (xs := [⟨c, c⟩]) (base := W0.heap.size) K0.out.2.1.sat #[.int .i64 c, .int .i64 c] (Nat.le_refl _) (EncL.single rfl) (by unfold maxLen; simp)
  obtain ⟨H', hx3, hle, ⟨A, c', e1, hsl⟩, hold⟩ := ho.freezeE hx1 (by rw [K0.out.2.2]; omega) (by simp)
  have hn : ∀ o, H' w.heap.size o = none := fun o => by rw [hold _ _ (by simp [Value.ownBlock]; rw [K0.out.2.2]; omega)]; exact hs.new (Nat.le_refl _) o
  cases e1
  obtain ⟨⟨a0, a1, a2, a3, a4, a5⟩, b0, b1, b2, b3, b4, b5⟩ := kbox6 k2
  have K2 := Aside.mk (And.intro k2 (And.intro hx3 (And.intro hn hsl)))
  clear k2 hx1 hx3 hn hsl ho hle hold
  generalize (W0.alloc (.cells #[.int .i64 c, .int .i64 c] 121)) = W1 at *
  go_wp2_with fail
  refine bodyPost_ret (kresults_c1 rfl _ _ _ rfl (run_loadVar_row _ _ _ _ _ (0, 0) _ (kbox6_set K2.out.1 _ _ _ _ _ _) Try.underlying25 rfl (by kernel_rfl))) rfl ?_
  exact ⟨H', _, rfl, RdRe.shut K2.out.2.2.2 (SlR.nil _ _), kExt6 K2.out.2.1 (Nat.le_refl _) K2.out.2.2.1 _ _ _ _ _ _⟩
end Go.Proofs.Ytbnahmeaeakhhaa.B

namespace Go.Proofs.Ytbnahmeaeakhhaa.B
set_option linter.unusedVariables false
set_option linter.unusedSimpArgs false
open Go Go.RowKit Classical

theorem kbeg_err : textErr (oneRe 97) [98, 97] 24 = 0 := by
  rw [textErr, err_one _ (by decide) (by decide)]; simp [runesErr]
theorem kbeg_prs : prs 2 (M [98, 97] (oneRe 97)) 3 = [(1, 2)] := by
  have h : M [98, 97] (oneRe 97) = fun i j => i = 1 ∧ j = 2 := by
    funext i j
    refine propext ((M_one _ _ _ _).trans ⟨?_, ?_⟩)
    · rintro ⟨h1, h2⟩
      match i, h2 with
      | 0, h2 => simp at h2
      | 1, _ => exact ⟨rfl, h1⟩
      | i + 2, h2 => simp at h2
    · rintro ⟨rfl, rfl⟩; exact ⟨rfl, rfl⟩
  rw [h]
  simp [prs, prow, List.range_succ]

set_option maxRecDepth 100000 in
set_option maxHeartbeats 2000000 in
theorem krelationBegun_any (w : World) : Calls Try.prog 23 #[] w fun e w' => e = .returned (.bool true) ∧ Below w.heap.size w w' := by
  go_enter Try.func23, Try.ntmps23
  go_wp2_with fail
  refine (kone_any emp 97 w (sat_emp w)).mono ?_
  rintro e w2 ⟨H2, cs2, rfl, hr2, hx2⟩
  have hb2 := hx2.below
  have hs2 := hx2.sat
  have HR := Aside.mk hr2
  clear hx2 hr2
  go_wp2_with fail
  obtain ⟨H3, hle3, hs3, ht3⟩ := lit_sl (k := kI .i64) (e := 3) (xs := [98, 97]) hs2 #[.int .i64 98, .int .i64 97] ⟨[.int .i64 98], [.int .i64 97], rfl, rfl, EncL.single rfl⟩ (by simp)
  have hpr := pairs_any H3 _ _ [98, 97] _ _ _ (HR.out.mono hle3) ht3 hs3
  rw [kbeg_err, if_pos rfl, List.length_cons, List.length_cons, List.length_nil, kbeg_prs] at hpr
  have hb3 := bA hb2 (.cells #[.int .i64 98, .int .i64 97] 3)
  clear ht3 hb2
  refine hpr.mono ?_
  rintro e w4 ⟨v, rfl, ho, hb4⟩
  have hb5 := bT hb3 hb4
  obtain ⟨H4, -, hs4, ⟨A3, c3, e1, hl⟩, -⟩ := ho.freeze (sat_emp w4) (by simp)
  cases e1
  obtain ⟨b, off, cs, rfl, hrd, hcell⟩ := hl.row 0 (by simp)
  obtain rfl : cs = [.int .i64 1, .int .i64 2] := hrd
  obtain ⟨g0, g1⟩ := at2 hs4 hcell
  simp only [kP, Nat.zero_mul, Nat.add_zero] at g0 g1
  have hc3 := hl.2.1
  clear hb4 hb3 hpr ho hs3 hle3 hl hcell hs4 hs2 HR
  go_wp2_with fail
  go_ret
  exact ⟨rfl, hb5⟩

set_option maxRecDepth 100000 in
set_option maxHeartbeats 4000000 in
theorem same_any (H : PH) (a b : Re) (ca cb : List Value) (t : List Int) (A : Option Addr) (n c : Nat) (w : World) (ha : RdRe H a ca) (hb : RdRe H b cb) (ht : SlR (kI .i64) H A n c t) (hs : Sat w H)
    (ea : textErr a t 24 = 0) (eb : textErr b t 24 = 0) (he : prs t.length (M t a) (t.length + 1) = prs t.length (M t b) (t.length + 1)) :
    Calls Try.prog 28 #[.agg ca.toArray, .agg cb.toArray, .slice A n c] w fun e w' => e = .returned (.bool true) ∧ Below w.heap.size w w' := by
  obtain rfl := ht.1
  have h1 := fun w hs => pairs_any H a ca t A c w ha ht hs
  have h2 := fun w hs => pairs_any H b cb t A c w hb ht hs
  have hln : (prs t.length (M t b) (t.length + 1)).length ≤ 625 := prs_le _ _ (by have := (textErr_ok eb).2.2; omega)
  rw [ea, if_pos rfl] at h1
  rw [eb, if_pos rfl] at h2
  rw [he] at h1
  generalize prs t.length (M t b) (t.length + 1) = L at *
  obtain ⟨kind, set, args, mn, mx, neg, hq⟩ : ∃ p q r s u v, a = Re.mk p q r s u v := by cases a; exact ⟨_, _, _, _, _, _, rfl⟩
  obtain ⟨kind2, set2, args2, mn2, mx2, neg2, hq2⟩ : ∃ p q r s u v, b = Re.mk p q r s u v := by cases b; exact ⟨_, _, _, _, _, _, rfl⟩
  subst hq
  subst hq2
  obtain ⟨A1, c1, A2, c2, rfl, -, -⟩ := ha.open
  obtain ⟨B1, d1, B2, d2, rfl, -, -⟩ := hb.open
  have HH := Aside.mk (And.intro h1 h2)
  clear h1 h2 ea eb he ha hb
  have k0 := heap_alloc_old (w.alloc (.cells #[.int .i64 kind, .slice A1 set.length c1, .slice A2 args.length c2, .int .i64 mn, .int .i64 mx, .bool neg] 25)) (.cells #[.int .i64 kind2, .slice B1 set2.length d1, .slice B2 args2.length d2, .int .i64 mn2, .int .i64 mx2, .bool neg2] 25) (show w.heap.size < _ by simp)
  rw [heap_alloc_new w] at k0
  have k1 := heap_alloc_new (w.alloc (.cells #[.int .i64 kind, .slice A1 set.length c1, .slice A2 args.length c2, .int .i64 mn, .int .i64 mx, .bool neg] 25)) (.cells #[.int .i64 kind2, .slice B1 set2.length d1, .slice B2 args2.length d2, .int .i64 mn2, .int .i64 mx2, .bool neg2] 25)
  have hx0 : Below w.heap.size w ((w.alloc (.cells #[.int .i64 kind, .slice A1 set.length c1, .slice A2 args.length c2, .int .i64 mn, .int .i64 mx, .bool neg] 25)).alloc (.cells #[.int .i64 kind2, .slice B1 set2.length d1, .slice B2 args2.length d2, .int .i64 mn2, .int .i64 mx2, .bool neg2] 25)) := bA (bA (Below.refl _ _) _) _
  rw [show (w.alloc (.cells #[.int .i64 kind, .slice A1 set.length c1, .slice A2 args.length c2, .int .i64 mn, .int .i64 mx, .bool neg] 25)).heap.size = w.heap.size + 1 by simp] at k1
  have K0 := Aside.mk (And.intro k1 hx0)
  clear k0 k1 hx0
  go_enter Try.func28, Try.ntmps28
  go_wp2_with fail
  generalize ((w.alloc (.cells #[.int .i64 kind, .slice A1 set.length c1, .slice A2 args.length c2, .int .i64 mn, .int .i64 mx, .bool neg] 25)).alloc (.cells #[.int .i64 kind2, .slice B1 set2.length d1, .slice B2 args2.length d2, .int .i64 mn2, .int .i64 mx2, .bool neg2] 25)) = W0 at *
  refine (HH.out.1 W0 (hs.below K0.out.2)).mono ?_
  rintro e w1 ⟨v1, rfl, ho1, hb1⟩
  have k1 := box_below K0.out.1 hb1
  have K1 := Aside.mk (And.intro k1 (bT K0.out.2 hb1))
  obtain ⟨⟨q0, q1, q2, q3, q4, q5⟩, -⟩ := box6 k1
  have HO1 := Aside.mk ho1
  clear k1 hb1 K0 ho1
  go_wp2_with fail
  refine (HH.out.2 _ (hs.below K1.out.2)).mono ?_
  rintro e w2 ⟨v2, rfl, ho2, hb2⟩
  have hbb := bT K1.out.2 hb2
  obtain ⟨L1, -, hs1, ⟨A3, c3, e1, hl1⟩, -⟩ := HO1.out.freeze (sat_emp w1) (by omega)
  cases e1
  obtain ⟨L2, -, hs2, ⟨A4, c4, e1, hl2⟩, -⟩ := ho2.freeze (sat_emp w2) (by omega)
  cases e1
  have hs12 := hs1.below hb2
  have HL := Aside.mk (And.intro hl1 (And.intro hl2 (And.intro hs12 (And.intro hs2 hbb))))
  clear hl1 hl2 hs12 hs1 hs2 hbb ho2 hb2 q0 q1 q2 q3 q4 q5
  go_wp2_with fail
  obtain ⟨H3, hle3, hs3, ht3⟩ := lit_sl (k := kI .i64) (e := 28) (xs := [0, 0]) HL.out.2.2.1 #[.int .i64 0, .int .i64 0] ⟨[.int .i64 0], [.int .i64 0], rfl, rfl, EncL.single rfl⟩ (by simp)
  refine (good_any H3 [0, 0] _ _ _ _ ht3 hs3 (by simp)).mono ?_
  rintro e w3 ⟨rfl, rfl⟩
  have hb3 := bA HL.out.2.2.2.2 (.cells #[.int .i64 0, .int .i64 0] 28)
  have hs4 := (HL.out.2.2.1.alloc (.cells #[.int .i64 0, .int .i64 0] 28))
  have hs5 := (HL.out.2.2.2.1.alloc (.cells #[.int .i64 0, .int .i64 0] 28))
  have HM := Aside.mk (And.intro hb3 (And.intro hs4 hs5))
  clear hs3 ht3 hle3 hb3 hs4 hs5
  go_wp2_with fail
  refine (eqPairs2_any L1 L2 _ _ _ _ _ _ _ _ _ HL.out.1 HL.out.2.1 HM.out.2.1 HM.out.2.2 rfl).mono ?_
  rintro e w4 ⟨rfl, hb4⟩
  go_wp2_with fail
  go_ret
  exact ⟨rfl, bT HM.out.1 hb4⟩
end Go.Proofs.Ytbnahmeaeakhhaa.B
