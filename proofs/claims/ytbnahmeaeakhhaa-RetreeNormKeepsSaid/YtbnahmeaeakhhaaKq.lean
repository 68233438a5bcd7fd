/- For the walks over algebra's laws: expressions made of expressions; a variable that is not written again, as H knows it. -/
import Derived.Test.YtbnahmeaeakhhaaKp
import Derived.Test.YtbnahmeaeakhhaaBc
namespace Go.Proofs.Ytbnahmeaeakhhaa.B
set_option linter.unusedVariables false
set_option linter.unusedSimpArgs false
open Go Go.RowKit Classical

theorem kthree (w : World) (o1 o2 o3 : Obj) : (((w.alloc o1).alloc o2).alloc o3).heap[w.heap.size]? = some o1 ∧ (((w.alloc o1).alloc o2).alloc o3).heap[w.heap.size + 1]? = some o2 ∧ (((w.alloc o1).alloc o2).alloc o3).heap[w.heap.size + 1 + 1]? = some o3 := by
  have e1 : (w.alloc o1).heap.size = w.heap.size + 1 := by simp
  have e2 : ((w.alloc o1).alloc o2).heap.size = w.heap.size + 1 + 1 := by simp
  refine ⟨?_, ?_, ?_⟩
  · rw [heap_alloc_old _ _ (by omega), heap_alloc_old _ _ (by omega), heap_alloc_new]
  · rw [heap_alloc_old _ _ (by omega), ← e1, heap_alloc_new]
  · rw [← e2, heap_alloc_new]
theorem ktwo (w : World) (o1 o2 : Obj) : ((w.alloc o1).alloc o2).heap[w.heap.size]? = some o1 ∧ ((w.alloc o1).alloc o2).heap[w.heap.size + 1]? = some o2 := by
  have e1 : (w.alloc o1).heap.size = w.heap.size + 1 := by simp
  refine ⟨?_, ?_⟩
  · rw [heap_alloc_old _ _ (by omega), heap_alloc_new]
  · rw [← e1, heap_alloc_new]

/-- the world at hand, under one name -/
theorem name_world {P : Program} {c : Code} {Q : Exit → Act → World → Prop} {a : Act} {w : World} (h : ∀ W, W = w → c.wp P Q a W) : c.wp P Q a w := h w rfl

/-- expressions of two, of one argument; the slice was laid last -/
theorem kre2 (K : Int) {H : PH} {W : World} {x y : Re} {cx cy : List Value} (hs : Sat W H) (hx : RdRe H x cx) (hy : RdRe H y cy) (b : Nat) (hb : b = W.heap.size) :
    Calls Try.prog 27 #[.int .i64 K, .slice (some ⟨b, 0, none⟩) 2 2] (W.alloc (.cells (cx ++ cy).toArray 25)) fun e w' => ∃ H' A c, e = .returned (.agg #[.int .i64 K, .slice none 0 0, .slice A 2 c, .int .i64 0, .int .i64 0, .bool false]) ∧
      RdRe H' (.mk K [] [x, y] 0 0 false) [.int .i64 K, .slice none 0 0, .slice A 2 c, .int .i64 0, .int .i64 0, .bool false] ∧ Ext H H' W w' := by
  subst hb
  obtain ⟨H', hx', hle, ⟨A, c, e1, hsl⟩, -⟩ := (Own.lit (k := kRe) (e := 25) (xs := [x, y]) (base := W.heap.size) hs (cx ++ cy).toArray (Nat.le_refl _) ⟨cx, cy, rfl, hx, EncL.single hy⟩ (by unfold maxLen; simp)).freezeE (Ext.alloc (Ext.refl hs) _) (Nat.le_refl _) (by simp)
  cases e1
  refine (kre_any K _ _ _ _).mono ?_
  rintro e w' ⟨rfl, hb⟩
  exact ⟨H', _, _, rfl, RdRe.shut (SlR.nil _ _) hsl, hx'.then_below hb⟩
theorem kre1 (K : Int) {H : PH} {W : World} {x : Re} {cx : List Value} (hs : Sat W H) (hx : RdRe H x cx) (b : Nat) (hb : b = W.heap.size) :
    Calls Try.prog 27 #[.int .i64 K, .slice (some ⟨b, 0, none⟩) 1 1] (W.alloc (.cells cx.toArray 25)) fun e w' => ∃ H' A c, e = .returned (.agg #[.int .i64 K, .slice none 0 0, .slice A 1 c, .int .i64 0, .int .i64 0, .bool false]) ∧
      RdRe H' (.mk K [] [x] 0 0 false) [.int .i64 K, .slice none 0 0, .slice A 1 c, .int .i64 0, .int .i64 0, .bool false] ∧ Ext H H' W w' := by
  subst hb
  obtain ⟨H', hx', hle, ⟨A, c, e1, hsl⟩, -⟩ := (Own.lit (k := kRe) (e := 25) (xs := [x]) (base := W.heap.size) hs cx.toArray (Nat.le_refl _) (EncL.single hx) (by unfold maxLen; simp)).freezeE (Ext.alloc (Ext.refl hs) _) (Nat.le_refl _) (by simp)
  cases e1
  refine (kre_any K _ _ _ _).mono ?_
  rintro e w' ⟨rfl, hb⟩
  exact ⟨H', _, _, rfl, RdRe.shut (SlR.nil _ _) hsl, hx'.then_below hb⟩
theorem kre0 (K : Int) {H : PH} {W : World} (hs : Sat W H) :
    Calls Try.prog 27 #[.int .i64 K, .slice none 0 0] W fun e w' => e = .returned (.agg #[.int .i64 K, .slice none 0 0, .slice none 0 0, .int .i64 0, .int .i64 0, .bool false]) ∧
      RdRe H (.mk K [] [] 0 0 false) [.int .i64 K, .slice none 0 0, .slice none 0 0, .int .i64 0, .int .i64 0, .bool false] ∧ Ext H H W w' := by
  refine (kre_any K _ _ _ _).mono ?_
  rintro e w' ⟨rfl, hb⟩
  exact ⟨rfl, RdRe.shut (SlR.nil _ _) (SlR.nil _ _), Ext.of_below hs hb⟩
theorem same_ok {H : PH} {a b : Re} {ca cb : List Value} {t : List Int} {A : Option Addr} {n c : Nat} {w : World} (ha : RdRe H a ca) (hb : RdRe H b cb) (ht : SlR (kI .i64) H A n c t) (hs : Sat w H) (h : Alike t a b) :
    Calls Try.prog 28 #[.agg ca.toArray, .agg cb.toArray, .slice A n c] w fun e w' => e = .returned (.bool true) ∧ Ext H H w w' :=
  (same_any H a b ca cb t A n c w ha hb ht hs h.1 h.2.1 h.2.2).mono fun _ _ h => ⟨h.1, Ext.of_below hs h.2⟩
set_option maxRecDepth 100000 in
theorem knot_any {H : PH} {W : World} {x : Re} {cx : List Value} (hs : Sat W H) (hx : RdRe H x cx) :
    Calls Try.prog 29 #[.agg cx.toArray] W fun e w' => ∃ H' A c, e = .returned (.agg #[.int .i64 8, .slice none 0 0, .slice A 1 c, .int .i64 0, .int .i64 0, .bool false]) ∧
      RdRe H' (.mk 8 [] [x] 0 0 false) [.int .i64 8, .slice none 0 0, .slice A 1 c, .int .i64 0, .int .i64 0, .bool false] ∧ Ext H H' W w' := by
  obtain ⟨k, s, a, u, v, g, rfl⟩ : ∃ a b c d e f, x = Re.mk a b c d e f := by cases x; exact ⟨_, _, _, _, _, _, rfl⟩
  have hx0 := hx
  obtain ⟨P1, p1, P2, p2, rfl, -, -⟩ := hx.open
  have kz := ktwo W (.cells #[.int .i64 k, .slice P1 s.length p1, .slice P2 a.length p2, .int .i64 u, .int .i64 v, .bool g] 25) (.cells #[.int .i64 0, .slice none 0 0, .slice none 0 0, .int .i64 0, .int .i64 0, .bool false] 25)
  have hxx := ((Ext.refl hs).alloc (.cells #[.int .i64 k, .slice P1 s.length p1, .slice P2 a.length p2, .int .i64 u, .int .i64 v, .bool g] 25)).alloc (.cells #[.int .i64 0, .slice none 0 0, .slice none 0 0, .int .i64 0, .int .i64 0, .bool false] 25)
  have KZ := Aside.mk (And.intro kz hxx)
  have HX := Aside.mk hx0
  clear kz hxx hx hx0
  go_enter Try.func29, Try.ntmps29
  go_wp2_with fail
  generalize hsz1 : ((W.alloc (.cells #[.int .i64 k, .slice P1 s.length p1, .slice P2 a.length p2, .int .i64 u, .int .i64 v, .bool g] 25)).alloc (.cells #[.int .i64 0, .slice none 0 0, .slice none 0 0, .int .i64 0, .int .i64 0, .bool false] 25)) = W1 at *
  have hlt0 : W1.heap.size = W.heap.size + 1 + 1 := by rw [← hsz1]; simp
  clear hsz1
  rw [← hlt0]
  refine (kre1 8 KZ.out.2.sat HX.out _ rfl).mono ?_
  rintro e w2 ⟨H', A, c, rfl, hr, hz⟩
  have hx2 := KZ.out.2.trans hz
  have hlt : W.heap.size + 1 < W1.heap.size := (Array.getElem?_eq_some_iff.1 KZ.out.1.2).1
  have k2 := box_below KZ.out.1.2 hz.below
  have hn : ∀ o, H' (W.heap.size + 1) o = none := fun o => by rw [hz.old _ _ hlt]; exact hs.new (by omega) o
  obtain ⟨⟨a0, a1, a2, a3, a4, a5⟩, b0, b1, b2, b3, b4, b5⟩ := kbox6 k2
  have K2 := Aside.mk (And.intro k2 (And.intro hx2 (And.intro hn hr)))
  clear k2 hx2 hz hr hn
  go_wp2_with fail
  refine bodyPost_ret (kresults_c1 rfl _ _ _ rfl (run_loadVar_row _ _ _ _ _ (0, 0) _ (kbox6_set K2.out.1 _ _ _ _ _ _) Try.underlying25 rfl (by kernel_rfl))) rfl ?_
  exact ⟨H', _, _, rfl, K2.out.2.2.2, kExt6 K2.out.2.1 (by omega) K2.out.2.2.1 _ _ _ _ _ _⟩
set_option maxRecDepth 100000 in
theorem klook_any (b : Bool) {H : PH} {W : World} {x : Re} {cx : List Value} (hs : Sat W H) (hx : RdRe H x cx) :
    Calls Try.prog 30 #[.agg cx.toArray, .bool b] W fun e w' => ∃ H' A c, e = .returned (.agg #[.int .i64 10, .slice none 0 0, .slice A 1 c, .int .i64 0, .int .i64 0, .bool b]) ∧
      RdRe H' (.mk 10 [] [x] 0 0 b) [.int .i64 10, .slice none 0 0, .slice A 1 c, .int .i64 0, .int .i64 0, .bool b] ∧ Ext H H' W w' := by
  obtain ⟨k, s, a, u, v, g, rfl⟩ : ∃ a b c d e f, x = Re.mk a b c d e f := by cases x; exact ⟨_, _, _, _, _, _, rfl⟩
  have hx0 := hx
  obtain ⟨P1, p1, P2, p2, rfl, -, -⟩ := hx.open
  have HX := Aside.mk hx0
  clear hx hx0
  go_enter Try.func30, Try.ntmps30
  go_wp2_with fail
  refine bodyPost_ret (kresults_c1 rfl _ _ _ rfl (run_loadVar_row _ _ _ _ #[.int .i64 10, .slice none 0 0, .slice (some ⟨W.heap.size + 1 + 1, 0, none⟩) 1 1, .int .i64 0, .int .i64 0, .bool b] (0, 0) _ (by rw [heap_alloc_old _ _ (by simp)]; exact (ktwo W _ _).2) Try.underlying25 rfl (by kernel_rfl))) rfl ?_
  obtain ⟨H', h1, h2, ⟨A, c, e1, h3⟩, -⟩ := (Own.lit (k := kRe) (e := 25) (xs := [.mk k s a u v g]) (base := W.heap.size + 1 + 1) (((Ext.refl hs).alloc (.cells #[.int .i64 k, .slice P1 s.length p1, .slice P2 a.length p2, .int .i64 u, .int .i64 v, .bool g] 25)).alloc (.cells #[.int .i64 10, .slice none 0 0, .slice (some ⟨W.heap.size + 1 + 1, 0, none⟩) 1 1, .int .i64 0, .int .i64 0, .bool b] 25)).sat
    #[.int .i64 k, .slice P1 s.length p1, .slice P2 a.length p2, .int .i64 u, .int .i64 v, .bool g] (by simp) (EncL.single HX.out) (by unfold maxLen; simp)).freezeE ((((Ext.refl hs).alloc _).alloc _).alloc _) (by omega) (by simp)
  have hz : ((W.alloc (.cells #[.int .i64 k, .slice P1 s.length p1, .slice P2 a.length p2, .int .i64 u, .int .i64 v, .bool g] 25)).alloc (.cells #[.int .i64 10, .slice none 0 0, .slice (some ⟨W.heap.size + 1 + 1, 0, none⟩) 1 1, .int .i64 0, .int .i64 0, .bool b] 25)).heap.size = W.heap.size + 1 + 1 := by simp
  rw [hz] at e1
  cases e1
  exact ⟨H', _, _, rfl, RdRe.shut (SlR.nil _ _) h3, h1⟩
/-- the expressions at hand -/
def Live (H : PH) (l : List (Re × List Value)) : Prop := ∀ p ∈ l, RdRe H p.1 p.2
theorem Live.get {H : PH} {l : List (Re × List Value)} (h : Live H l) {x : Re} {c : List Value} (hm : (x, c) ∈ l) : RdRe H x c := h _ hm
theorem Live.nil (H : PH) : Live H [] := fun p h => by simp at h
theorem Live.cons {H H' : PH} {l : List (Re × List Value)} (h : Live H l) (hh : H.le H') {x : Re} {c : List Value} (hr : RdRe H' x c) : Live H' ((x, c) :: l) := fun p hp => by
  rcases List.mem_cons.1 hp with rfl | hp
  · exact hr
  · exact (h p hp).mono hh
theorem kre2e (K : Int) {H : PH} {W : World} {x y : Re} {u0 u1 u2 u3 u4 u5 v0 v1 v2 v3 v4 v5 : Value} (hs : Sat W H) (b : Nat) (hb : b = W.heap.size) (hx : RdRe H x [u0, u1, u2, u3, u4, u5]) (hy : RdRe H y [v0, v1, v2, v3, v4, v5]) :
    Calls Try.prog 27 #[.int .i64 K, .slice (some ⟨b, 0, none⟩) 2 2] (W.alloc (.cells #[u0, u1, u2, u3, u4, u5, v0, v1, v2, v3, v4, v5] 25)) fun e w' => ∃ H' A c, e = .returned (.agg #[.int .i64 K, .slice none 0 0, .slice A 2 c, .int .i64 0, .int .i64 0, .bool false]) ∧
      RdRe H' (.mk K [] [x, y] 0 0 false) [.int .i64 K, .slice none 0 0, .slice A 2 c, .int .i64 0, .int .i64 0, .bool false] ∧ Ext H H' W w' := kre2 K hs hx hy b hb
theorem kre1e (K : Int) {H : PH} {W : World} {x : Re} {u0 u1 u2 u3 u4 u5 : Value} (hs : Sat W H) (b : Nat) (hb : b = W.heap.size) (hx : RdRe H x [u0, u1, u2, u3, u4, u5]) :
    Calls Try.prog 27 #[.int .i64 K, .slice (some ⟨b, 0, none⟩) 1 1] (W.alloc (.cells #[u0, u1, u2, u3, u4, u5] 25)) fun e w' => ∃ H' A c, e = .returned (.agg #[.int .i64 K, .slice none 0 0, .slice A 1 c, .int .i64 0, .int .i64 0, .bool false]) ∧
      RdRe H' (.mk K [] [x] 0 0 false) [.int .i64 K, .slice none 0 0, .slice A 1 c, .int .i64 0, .int .i64 0, .bool false] ∧ Ext H H' W w' := kre1 K hs hx b hb
theorem same_oke {H : PH} {a b : Re} {u0 u1 u2 u3 u4 u5 v0 v1 v2 v3 v4 v5 : Value} {t : List Int} {A : Option Addr} {n c : Nat} {w : World} (hs : Sat w H) (ht : SlR (kI .i64) H A n c t) (ha : RdRe H a [u0, u1, u2, u3, u4, u5]) (hb : RdRe H b [v0, v1, v2, v3, v4, v5]) (h : Alike t a b) :
    Calls Try.prog 28 #[.agg #[u0, u1, u2, u3, u4, u5], .agg #[v0, v1, v2, v3, v4, v5], .slice A n c] w fun e w' => e = .returned (.bool true) ∧ Ext H H w w' := same_ok ha hb ht hs h
theorem Ext.base {H0 H H' : PH} {w0 w w' : World} (h : Ext H0 H w0 w) (k : Ext H H' w w') : Ext H0 H' w0 w' := h.trans k
end Go.Proofs.Ytbnahmeaeakhhaa.B
