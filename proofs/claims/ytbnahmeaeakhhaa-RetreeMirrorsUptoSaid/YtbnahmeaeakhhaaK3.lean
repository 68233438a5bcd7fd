/- Contracts: parlmake.Re, ReAll, Text. -/
import Derived.Test.YtbnahmeaeakhhaaK2
namespace Go.Proofs.Ytbnahmeaeakhhaa.B
set_option linter.unusedVariables false
set_option linter.unusedSimpArgs false
open Go Go.RowKit Classical

theorem kExt6 {H H' : PH} {w w1 : World} (h : Ext H H' w w1) {b : Nat} (hb : w.heap.size ≤ b) (hn : ∀ o, H' b o = none) (u0 u1 u2 u3 u4 u5 : Value) :
    Ext H H' w ((((((w1.setCell ⟨b, 0, none⟩ u0).setCell ⟨b, 1, none⟩ u1).setCell ⟨b, 2, none⟩ u2).setCell ⟨b, 3, none⟩ u3).setCell ⟨b, 4, none⟩ u4).setCell ⟨b, 5, none⟩ u5) :=
  (((((h.setCell hb hn u0).setCell hb hn u1).setCell hb hn u2).setCell hb hn u3).setCell hb hn u4).setCell hb hn u5

def ReOfPost (K : Int) (H : PH) (w : World) (e : Ending) (w' : World) : Prop :=
  ∃ r H' cs, e = .returned (.agg cs.toArray) ∧ RdRe H' r cs ∧ Made K 4 r ∧ Ext H H' w w'

/-- what a new stream's draws come to, seen from before it was laid -/
theorem fl_ext {H H' : PH} {w w1 w2 : World} {p : Nat} (h1 : Ext H H w w1) (hp : w.heap.size ≤ p) (h : Fl p H H' w1 w2) : Ext H H' w w2 :=
  ⟨below_grownBy h1.below hp h.grown, h.le, h.sat, fun b o hb => h.old b o (Nat.lt_of_lt_of_le hb h1.size)⟩

set_option maxRecDepth 100000 in
set_option maxHeartbeats 4000000 in
theorem reOf_any (H : PH) (xs : List Int) (A : Option Addr) (n c : Nat) (w : World) (hl : SlR (kI .i64) H A n c xs) (hs : Sat w H) :
    Calls Try.prog 24 #[.slice A n c] w (ReOfPost 8 H w) := by
  have k0 := heap_alloc_new w (.cells #[.int .i64 0, .slice none 0 0, .slice none 0 0, .int .i64 0, .int .i64 0, .bool false] 25)
  have hx0 := (Ext.refl hs).alloc (.cells #[.int .i64 0, .slice none 0 0, .slice none 0 0, .int .i64 0, .int .i64 0, .bool false] 25)
  have hz0 : (w.alloc (.cells #[.int .i64 0, .slice none 0 0, .slice none 0 0, .int .i64 0, .int .i64 0, .bool false] 25)).heap.size = w.heap.size + 1 := by simp
  have K0 := Aside.mk (And.intro k0 (And.intro hx0 hz0))
  clear k0 hx0 hz0
  go_enter Try.func24, Try.ntmps24
  go_wp2_with fail
  generalize (w.alloc (.cells #[.int .i64 0, .slice none 0 0, .slice none 0 0, .int .i64 0, .int .i64 0, .bool false] 25)) = W0 at *
  have k1 := heap_alloc_new W0 (.cells #[.slice A n c] 119)
  have k2 := (heap_alloc_old W0 (.cells #[.slice A n c] 119) (show w.heap.size < W0.heap.size by rw [K0.out.2.2]; omega)).trans K0.out.1
  rw [K0.out.2.2] at k1
  have hx1 := K0.out.2.1.alloc (.cells #[.slice A n c] 119)
  generalize (W0.alloc (.cells #[.slice A n c] 119)) = W1 at *
  have hst : Strm H W1 (w.heap.size + 1) := ⟨fun o => hs.new (by omega) o, A, n, c, xs, k1, hl⟩
  have K1 := Aside.mk (And.intro k2 hx1)
  clear k1 k2 hx1
  refine (make_any (w.heap.size + 1) 8 (by omega) (by omega) 4 (by omega) H W1 K1.out.2.sat hst).mono ?_
  rintro e w2 ⟨r, H2, cs, rfl, hr, hm, hf⟩
  have hx2 := fl_ext K1.out.2 (by omega) hf
  have k3 := hf.box K1.out.1 (by omega)
  have hn : ∀ o, H2 w.heap.size o = none := fun o => by rw [hf.old _ _ (Array.getElem?_eq_some_iff.1 K1.out.1).1]; exact hs.new (Nat.le_refl _) o
  obtain ⟨kind, set, args, mn, mx, neg, hq⟩ : ∃ a b c d e f, r = Re.mk a b c d e f := by cases r; exact ⟨_, _, _, _, _, _, rfl⟩
  subst hq
  obtain ⟨A1, c1, A2, c2, rfl, -, -⟩ := hr.open
  obtain ⟨⟨a0, a1, a2, a3, a4, a5⟩, b0, b1, b2, b3, b4, b5⟩ := kbox6 k3
  have K2 := Aside.mk (And.intro k3 (And.intro hx2 (And.intro hn (And.intro hr hm))))
  clear k3 hx2 hn hr hm hf hst
  go_wp2_with fail
  refine bodyPost_ret (kresults_c1 rfl _ _ _ rfl (run_loadVar_row _ _ _ _ _ (0, 0) _ (kbox6_set K2.out.1 _ _ _ _ _ _) Try.underlying25 rfl (by kernel_rfl))) rfl ?_
  exact ⟨_, H2, _, rfl, K2.out.2.2.2.1, K2.out.2.2.2.2, kExt6 K2.out.2.1 (Nat.le_refl _) K2.out.2.2.1 _ _ _ _ _ _⟩

set_option maxRecDepth 100000 in
set_option maxHeartbeats 4000000 in
theorem reAllOf_any (H : PH) (xs : List Int) (A : Option Addr) (n c : Nat) (w : World) (hl : SlR (kI .i64) H A n c xs) (hs : Sat w H) :
    Calls Try.prog 65 #[.slice A n c] w (ReOfPost 10 H w) := by
  have k0 := heap_alloc_new w (.cells #[.int .i64 0, .slice none 0 0, .slice none 0 0, .int .i64 0, .int .i64 0, .bool false] 25)
  have hx0 := (Ext.refl hs).alloc (.cells #[.int .i64 0, .slice none 0 0, .slice none 0 0, .int .i64 0, .int .i64 0, .bool false] 25)
  have hz0 : (w.alloc (.cells #[.int .i64 0, .slice none 0 0, .slice none 0 0, .int .i64 0, .int .i64 0, .bool false] 25)).heap.size = w.heap.size + 1 := by simp
  have K0 := Aside.mk (And.intro k0 (And.intro hx0 hz0))
  clear k0 hx0 hz0
  go_enter Try.func65, Try.ntmps65
  go_wp2_with fail
  generalize (w.alloc (.cells #[.int .i64 0, .slice none 0 0, .slice none 0 0, .int .i64 0, .int .i64 0, .bool false] 25)) = W0 at *
  have k1 := heap_alloc_new W0 (.cells #[.slice A n c] 119)
  have k2 := (heap_alloc_old W0 (.cells #[.slice A n c] 119) (show w.heap.size < W0.heap.size by rw [K0.out.2.2]; omega)).trans K0.out.1
  rw [K0.out.2.2] at k1
  have hx1 := K0.out.2.1.alloc (.cells #[.slice A n c] 119)
  generalize (W0.alloc (.cells #[.slice A n c] 119)) = W1 at *
  have hst : Strm H W1 (w.heap.size + 1) := ⟨fun o => hs.new (by omega) o, A, n, c, xs, k1, hl⟩
  have K1 := Aside.mk (And.intro k2 hx1)
  clear k1 k2 hx1
  refine (make_any (w.heap.size + 1) 10 (by omega) (by omega) 4 (by omega) H W1 K1.out.2.sat hst).mono ?_
  rintro e w2 ⟨r, H2, cs, rfl, hr, hm, hf⟩
  have hx2 := fl_ext K1.out.2 (by omega) hf
  have k3 := hf.box K1.out.1 (by omega)
  have hn : ∀ o, H2 w.heap.size o = none := fun o => by rw [hf.old _ _ (Array.getElem?_eq_some_iff.1 K1.out.1).1]; exact hs.new (Nat.le_refl _) o
  obtain ⟨kind, set, args, mn, mx, neg, hq⟩ : ∃ a b c d e f, r = Re.mk a b c d e f := by cases r; exact ⟨_, _, _, _, _, _, rfl⟩
  subst hq
  obtain ⟨A1, c1, A2, c2, rfl, -, -⟩ := hr.open
  obtain ⟨⟨a0, a1, a2, a3, a4, a5⟩, b0, b1, b2, b3, b4, b5⟩ := kbox6 k3
  have K2 := Aside.mk (And.intro k3 (And.intro hx2 (And.intro hn (And.intro hr hm))))
  clear k3 hx2 hn hr hm hf hst
  go_wp2_with fail
  refine bodyPost_ret (kresults_c1 rfl _ _ _ rfl (run_loadVar_row _ _ _ _ _ (0, 0) _ (kbox6_set K2.out.1 _ _ _ _ _ _) Try.underlying25 rfl (by kernel_rfl))) rfl ?_
  exact ⟨_, H2, _, rfl, K2.out.2.2.2.1, K2.out.2.2.2.2, kExt6 K2.out.2.1 (Nat.le_refl _) K2.out.2.2.1 _ _ _ _ _ _⟩

/-- a text of runes, of at most 10 -/
def Runes (t : List Int) : Prop := t.length ≤ 10 ∧ ∀ x ∈ t, 0 ≤ x ∧ x ≤ 1114111

theorem tbl_get (k : Nat) (h : k < 10) : ∃ y : Int, (#[.int .i64 97, .int .i64 98, .int .i64 99, .int .i64 97, .int .i64 98, .int .i64 122, .int .i64 0, .int .i64 233, .int .i64 8364, .int .i64 1114111] : Array Value)[k]? = some (.int .i64 y) ∧ 0 ≤ y ∧ y ≤ 1114111 := by
  match k, h with
  | 0, _ => exact ⟨97, rfl, by omega, by omega⟩
  | 1, _ => exact ⟨98, rfl, by omega, by omega⟩
  | 2, _ => exact ⟨99, rfl, by omega, by omega⟩
  | 3, _ => exact ⟨97, rfl, by omega, by omega⟩
  | 4, _ => exact ⟨98, rfl, by omega, by omega⟩
  | 5, _ => exact ⟨122, rfl, by omega, by omega⟩
  | 6, _ => exact ⟨0, rfl, by omega, by omega⟩
  | 7, _ => exact ⟨233, rfl, by omega, by omega⟩
  | 8, _ => exact ⟨8364, rfl, by omega, by omega⟩
  | 9, _ => exact ⟨1114111, rfl, by omega, by omega⟩

def TextPost (w : World) (e : Ending) (w' : World) : Prop :=
  ∃ v t, e = .returned v ∧ Own (kI .i64) 3 w' w.heap.size emp v t ∧ Runes t ∧ Below w.heap.size w w'

set_option maxRecDepth 100000 in
set_option maxHeartbeats 8000000 in
theorem textOf_any (H : PH) (xs : List Int) (A : Option Addr) (n c : Nat) (w : World) (hl : SlR (kI .i64) H A n c xs) (hs : Sat w H) :
    Calls Try.prog 25 #[.slice A n c] w (TextPost w) := by
  have HNX := Aside.mk hl.1
  have hc := hl.2.1
  have hlen := hl.2.2.2.1
  have hnil := hl.2.2.2.2.1
  by_cases hten : (n : Int) < 10
  · have hten' : n < 10 := by omega
    go_enter Try.func25, Try.ntmps25
    go_wp2_with fail
    go_loopw [3, 12] (fun o i wr => ∃ (k : Nat) (A5 : Option Addr) (l5 c5 : Nat) (t : List Int), k ≤ n ∧ i = .int .i64 k ∧ o = .slice A5 l5 c5 ∧ Own (kI .i64) 3 wr w.heap.size emp o t ∧ Aside (t.length = k ∧ ∀ x ∈ t, 0 ≤ x ∧ x ≤ 1114111) ∧ Below w.heap.size w wr) (fun _ i _ => n - (intOf i).toNat)
    case atStart => exact ⟨0, _, _, _, [], by omega, rfl, rfl, Own.nil _ _ _ _ _, ⟨by simp⟩, Below.refl _ _⟩
    case round =>
      obtain ⟨k, A5, l5, c5, t, hk, rfl, rfl, ho5, ht, hb5⟩ := hrel
      by_cases hlt : k < n
      · obtain ⟨b, off, cs, rfl, hrd, hcell⟩ := hl.row k (by have := HNX.out; omega)
        generalize xs[k]'(by have := HNX.out; omega) = x at *
        obtain rfl : cs = [.int .i64 x] := hrd
        have g0 := at1 (hs.below hb5) hcell
        simp only [kI, Nat.mul_one] at g0
        have hbz : b < wr.heap.size := World.block_lt_of_cell? wr _ g0
        have HO := Aside.mk (And.intro ho5 hb5)
        clear hcell ho5 hb5
        go_wp2_with fail
        refine (below_any x 10 _ (by omega) (by omega)).mono ?_
        rintro e w1 ⟨rfl, rfl⟩
        obtain ⟨q1, q2⟩ := below_lt x 10 (by omega)
        obtain ⟨q, hq⟩ : ∃ q : Nat, below x 10 = q := ⟨(below x 10).toNat, by omega⟩
        rw [hq]
        have hq10 : q < 10 := by omega
        obtain ⟨y, hy, hy0, hy1⟩ := tbl_get q hq10
        have hcy : (wr.alloc (.cells #[.int .i64 97, .int .i64 98, .int .i64 99, .int .i64 97, .int .i64 98, .int .i64 122, .int .i64 0, .int .i64 233, .int .i64 8364, .int .i64 1114111] 3)).cell? ⟨wr.heap.size, q, none⟩ = some (.int .i64 y) := by rw [World.cell?_alloc_new]; exact hy
        have ho6 : Own (kI .i64) 3 (wr.alloc (.cells #[.int .i64 97, .int .i64 98, .int .i64 99, .int .i64 97, .int .i64 98, .int .i64 122, .int .i64 0, .int .i64 233, .int .i64 8364, .int .i64 1114111] 3)) w.heap.size emp (.slice A5 l5 c5) t := HO.out.1.alloc (sat_emp _) _
        have hb6 := bA HO.out.2 (.cells #[.int .i64 97, .int .i64 98, .int .i64 99, .int .i64 97, .int .i64 98, .int .i64 122, .int .i64 0, .int .i64 233, .int .i64 8364, .int .i64 1114111] 3)
        have hzz : wr.heap.size < (wr.alloc (.cells #[.int .i64 97, .int .i64 98, .int .i64 99, .int .i64 97, .int .i64 98, .int .i64 122, .int .i64 0, .int .i64 233, .int .i64 8364, .int .i64 1114111] 3)).heap.size := by simp
        have hlt10 := ht.out.1
        have HY := Aside.mk (And.intro hq (And.intro hy (And.intro hy0 hy1)))
        have HT := Aside.mk ht.out
        clear hq hy q1 q2 ht
        generalize (wr.alloc (.cells #[.int .i64 97, .int .i64 98, .int .i64 99, .int .i64 97, .int .i64 98, .int .i64 122, .int .i64 0, .int .i64 233, .int .i64 8364, .int .i64 1114111] 3)) = w2 at *
        have hby : Aside ((t.length + 1) * 8 ≤ 140737488355328 ∧ t.length + 1 ≤ maxLen) := ⟨by omega, by unfold maxLen; omega⟩
        have hbs : Aside (w.heap.size ≤ w2.heap.size) := ⟨hb6.size⟩
        have hse := sat_emp w2
        have hrd : Aside ((kI .i64).rd emp y (#[.int .i64 y] : Array Value).toList) := ⟨rfl⟩
        have hqi : (q : Int) < 10 := by omega
        clear hlt10
        go_upto_region 6 with (at_builtin; go_must (refine wpList_app1 (kI .i64) rfl (.tmp 16) (.tmp 22) 26 rfl 3 Try.underlying26 info3 rfl ho6 hse rfl rfl rfl hrd.out hby.out.1 hby.out.2 hbs.out ?_); intro v8 w8 ho8 hg8 hs8 hn8)
        have hb8 : Below w.heap.size w w8 := ho6.belowG hb6 (Nat.le_refl _) hg8
        obtain ⟨A8, c8, rfl, -, -, -, -⟩ := ho8.form
        go_wp2_with fail
        go_roundw
        case rel =>
          refine ⟨k + 1, A8, _, c8, t ++ [y], by omega, by go_num, rfl, ho8, ⟨by simp [HT.out.1], fun z hz => ?_⟩, hb8⟩
          rcases List.mem_append.1 hz with hz | hz
          · exact HT.out.2 z hz
          · simp at hz; subst hz; exact ⟨HY.out.2.2.1, HY.out.2.2.2⟩
        case measure => simp [intOf]; omega
      · obtain rfl : k = n := by omega
        go_wp2_with fail
        go_ret
        exact ⟨_, t, rfl, ho5, ⟨by have := ht.out.1; omega, ht.out.2⟩, hb5⟩
  · have hmx : max (10 : Int) 0 = 10 := by decide
    by_cases hten2 : (10 : Int) < n
    · have hten' : 10 < n := by omega
      go_enter Try.func25, Try.ntmps25
      go_wp2_with fail
      go_loopw [3, 12] (fun o i wr => ∃ (k : Nat) (A5 : Option Addr) (l5 c5 : Nat) (t : List Int), k ≤ 10 ∧ i = .int .i64 k ∧ o = .slice A5 l5 c5 ∧ Own (kI .i64) 3 wr w.heap.size emp o t ∧ Aside (t.length = k ∧ ∀ x ∈ t, 0 ≤ x ∧ x ≤ 1114111) ∧ Below w.heap.size w wr) (fun _ i _ => 10 - (intOf i).toNat)
      case atStart => exact ⟨0, _, _, _, [], by omega, rfl, rfl, Own.nil _ _ _ _ _, ⟨by simp⟩, Below.refl _ _⟩
      case round =>
        obtain ⟨k, A5, l5, c5, t, hk, rfl, rfl, ho5, ht, hb5⟩ := hrel
        by_cases hlt : k < 10
        · obtain ⟨b, off, cs, rfl, hrd, hcell⟩ := hl.row k (by have := HNX.out; omega)
          generalize xs[k]'(by have := HNX.out; omega) = x at *
          obtain rfl : cs = [.int .i64 x] := hrd
          have g0 := at1 (hs.below hb5) hcell
          simp only [kI, Nat.mul_one] at g0
          have hbz : b < wr.heap.size := World.block_lt_of_cell? wr _ g0
          have HO := Aside.mk (And.intro ho5 hb5)
          clear hcell ho5 hb5
          go_wp2_with fail
          refine (below_any x 10 _ (by omega) (by omega)).mono ?_
          rintro e w1 ⟨rfl, rfl⟩
          obtain ⟨q1, q2⟩ := below_lt x 10 (by omega)
          obtain ⟨q, hq⟩ : ∃ q : Nat, below x 10 = q := ⟨(below x 10).toNat, by omega⟩
          rw [hq]
          have hq10 : q < 10 := by omega
          obtain ⟨y, hy, hy0, hy1⟩ := tbl_get q hq10
          have hcy : (wr.alloc (.cells #[.int .i64 97, .int .i64 98, .int .i64 99, .int .i64 97, .int .i64 98, .int .i64 122, .int .i64 0, .int .i64 233, .int .i64 8364, .int .i64 1114111] 3)).cell? ⟨wr.heap.size, q, none⟩ = some (.int .i64 y) := by rw [World.cell?_alloc_new]; exact hy
          have ho6 : Own (kI .i64) 3 (wr.alloc (.cells #[.int .i64 97, .int .i64 98, .int .i64 99, .int .i64 97, .int .i64 98, .int .i64 122, .int .i64 0, .int .i64 233, .int .i64 8364, .int .i64 1114111] 3)) w.heap.size emp (.slice A5 l5 c5) t := HO.out.1.alloc (sat_emp _) _
          have hb6 := bA HO.out.2 (.cells #[.int .i64 97, .int .i64 98, .int .i64 99, .int .i64 97, .int .i64 98, .int .i64 122, .int .i64 0, .int .i64 233, .int .i64 8364, .int .i64 1114111] 3)
          have hzz : wr.heap.size < (wr.alloc (.cells #[.int .i64 97, .int .i64 98, .int .i64 99, .int .i64 97, .int .i64 98, .int .i64 122, .int .i64 0, .int .i64 233, .int .i64 8364, .int .i64 1114111] 3)).heap.size := by simp
          have hlt10 := ht.out.1
          have HY := Aside.mk (And.intro hq (And.intro hy (And.intro hy0 hy1)))
          have HT := Aside.mk ht.out
          clear hq hy q1 q2 ht
          generalize (wr.alloc (.cells #[.int .i64 97, .int .i64 98, .int .i64 99, .int .i64 97, .int .i64 98, .int .i64 122, .int .i64 0, .int .i64 233, .int .i64 8364, .int .i64 1114111] 3)) = w2 at *
          have hby : Aside ((t.length + 1) * 8 ≤ 140737488355328 ∧ t.length + 1 ≤ maxLen) := ⟨by omega, by unfold maxLen; omega⟩
          have hbs : Aside (w.heap.size ≤ w2.heap.size) := ⟨hb6.size⟩
          have hse := sat_emp w2
          have hrd : Aside ((kI .i64).rd emp y (#[.int .i64 y] : Array Value).toList) := ⟨rfl⟩
          have hqi : (q : Int) < 10 := by omega
          clear hlt10
          go_upto_region 6 with (at_builtin; go_must (refine wpList_app1 (kI .i64) rfl (.tmp 16) (.tmp 22) 26 rfl 3 Try.underlying26 info3 rfl ho6 hse rfl rfl rfl hrd.out hby.out.1 hby.out.2 hbs.out ?_); intro v8 w8 ho8 hg8 hs8 hn8)
          have hb8 : Below w.heap.size w w8 := ho6.belowG hb6 (Nat.le_refl _) hg8
          obtain ⟨A8, c8, rfl, -, -, -, -⟩ := ho8.form
          go_wp2_with fail
          go_roundw
          case rel =>
            refine ⟨k + 1, A8, _, c8, t ++ [y], by omega, by go_num, rfl, ho8, ⟨by simp [HT.out.1], fun z hz => ?_⟩, hb8⟩
            rcases List.mem_append.1 hz with hz | hz
            · exact HT.out.2 z hz
            · simp at hz; subst hz; exact ⟨HY.out.2.2.1, HY.out.2.2.2⟩
          case measure => simp [intOf]; omega
        · obtain rfl : k = 10 := by omega
          go_wp2_with fail
          go_ret
          exact ⟨_, t, rfl, ho5, ⟨by have := ht.out.1; omega, ht.out.2⟩, hb5⟩
    · have hten3 : n = 10 := by omega
      subst hten3
      clear hten hten2
      go_enter Try.func25, Try.ntmps25
      go_wp2_with fail
      go_loopw [3, 12] (fun o i wr => ∃ (k : Nat) (A5 : Option Addr) (l5 c5 : Nat) (t : List Int), k ≤ 10 ∧ i = .int .i64 k ∧ o = .slice A5 l5 c5 ∧ Own (kI .i64) 3 wr w.heap.size emp o t ∧ Aside (t.length = k ∧ ∀ x ∈ t, 0 ≤ x ∧ x ≤ 1114111) ∧ Below w.heap.size w wr) (fun _ i _ => 10 - (intOf i).toNat)
      case atStart => exact ⟨0, _, _, _, [], by omega, rfl, rfl, Own.nil _ _ _ _ _, ⟨by simp⟩, Below.refl _ _⟩
      case round =>
        obtain ⟨k, A5, l5, c5, t, hk, rfl, rfl, ho5, ht, hb5⟩ := hrel
        by_cases hlt : k < 10
        · obtain ⟨b, off, cs, rfl, hrd, hcell⟩ := hl.row k (by have := HNX.out; omega)
          generalize xs[k]'(by have := HNX.out; omega) = x at *
          obtain rfl : cs = [.int .i64 x] := hrd
          have g0 := at1 (hs.below hb5) hcell
          simp only [kI, Nat.mul_one] at g0
          have hbz : b < wr.heap.size := World.block_lt_of_cell? wr _ g0
          have HO := Aside.mk (And.intro ho5 hb5)
          clear hcell ho5 hb5
          go_wp2_with fail
          refine (below_any x 10 _ (by omega) (by omega)).mono ?_
          rintro e w1 ⟨rfl, rfl⟩
          obtain ⟨q1, q2⟩ := below_lt x 10 (by omega)
          obtain ⟨q, hq⟩ : ∃ q : Nat, below x 10 = q := ⟨(below x 10).toNat, by omega⟩
          rw [hq]
          have hq10 : q < 10 := by omega
          obtain ⟨y, hy, hy0, hy1⟩ := tbl_get q hq10
          have hcy : (wr.alloc (.cells #[.int .i64 97, .int .i64 98, .int .i64 99, .int .i64 97, .int .i64 98, .int .i64 122, .int .i64 0, .int .i64 233, .int .i64 8364, .int .i64 1114111] 3)).cell? ⟨wr.heap.size, q, none⟩ = some (.int .i64 y) := by rw [World.cell?_alloc_new]; exact hy
          have ho6 : Own (kI .i64) 3 (wr.alloc (.cells #[.int .i64 97, .int .i64 98, .int .i64 99, .int .i64 97, .int .i64 98, .int .i64 122, .int .i64 0, .int .i64 233, .int .i64 8364, .int .i64 1114111] 3)) w.heap.size emp (.slice A5 l5 c5) t := HO.out.1.alloc (sat_emp _) _
          have hb6 := bA HO.out.2 (.cells #[.int .i64 97, .int .i64 98, .int .i64 99, .int .i64 97, .int .i64 98, .int .i64 122, .int .i64 0, .int .i64 233, .int .i64 8364, .int .i64 1114111] 3)
          have hzz : wr.heap.size < (wr.alloc (.cells #[.int .i64 97, .int .i64 98, .int .i64 99, .int .i64 97, .int .i64 98, .int .i64 122, .int .i64 0, .int .i64 233, .int .i64 8364, .int .i64 1114111] 3)).heap.size := by simp
          have hlt10 := ht.out.1
          have HY := Aside.mk (And.intro hq (And.intro hy (And.intro hy0 hy1)))
          have HT := Aside.mk ht.out
          clear hq hy q1 q2 ht
          generalize (wr.alloc (.cells #[.int .i64 97, .int .i64 98, .int .i64 99, .int .i64 97, .int .i64 98, .int .i64 122, .int .i64 0, .int .i64 233, .int .i64 8364, .int .i64 1114111] 3)) = w2 at *
          have hby : Aside ((t.length + 1) * 8 ≤ 140737488355328 ∧ t.length + 1 ≤ maxLen) := ⟨by omega, by unfold maxLen; omega⟩
          have hbs : Aside (w.heap.size ≤ w2.heap.size) := ⟨hb6.size⟩
          have hse := sat_emp w2
          have hrd : Aside ((kI .i64).rd emp y (#[.int .i64 y] : Array Value).toList) := ⟨rfl⟩
          have hqi : (q : Int) < 10 := by omega
          clear hlt10
          go_upto_region 6 with (at_builtin; go_must (refine wpList_app1 (kI .i64) rfl (.tmp 16) (.tmp 22) 26 rfl 3 Try.underlying26 info3 rfl ho6 hse rfl rfl rfl hrd.out hby.out.1 hby.out.2 hbs.out ?_); intro v8 w8 ho8 hg8 hs8 hn8)
          have hb8 : Below w.heap.size w w8 := ho6.belowG hb6 (Nat.le_refl _) hg8
          obtain ⟨A8, c8, rfl, -, -, -, -⟩ := ho8.form
          go_wp2_with fail
          go_roundw
          case rel =>
            refine ⟨k + 1, A8, _, c8, t ++ [y], by omega, by go_num, rfl, ho8, ⟨by simp [HT.out.1], fun z hz => ?_⟩, hb8⟩
            rcases List.mem_append.1 hz with hz | hz
            · exact HT.out.2 z hz
            · simp at hz; subst hz; exact ⟨HY.out.2.2.1, HY.out.2.2.2⟩
          case measure => simp [intOf]; omega
        · obtain rfl : k = 10 := by omega
          go_wp2_with fail
          go_ret
          exact ⟨_, t, rfl, ho5, ⟨by have := ht.out.1; omega, ht.out.2⟩, hb5⟩
end Go.Proofs.Ytbnahmeaeakhhaa.B
