/- Contract: parlmake.re, Re, ReAll. -/
import Derived.Test.YtbnahmeaeakhhaaK1
import Derived.Test.YtbnahmeaeakhhaaCr5
import Derived.Laws.Rows
namespace Go.Proofs.Ytbnahmeaeakhhaa.B
set_option linter.unusedVariables false
set_option linter.unusedSimpArgs false
open Go Go.RowKit Classical

/-- a step that draws from the stream at p and lays new memory -/
structure Fl (p : Nat) (H H' : PH) (w w' : World) : Prop where
  le : H.le H'
  sat : Sat w' H'
  strm : Strm H' w' p
  grown : w.grownBy w' (some p)
  old : ∀ b o, b < w.heap.size → H' b o = H b o

section
variable {p : Nat} {H H1 H2 : PH} {w w1 w2 : World}
theorem Fl.refl (hs : Sat w H) (hp : Strm H w p) : Fl p H H w w := ⟨PH.le_refl _, hs, hp, grownBy_refl _ _, fun _ _ _ => rfl⟩
theorem Fl.trans (h : Fl p H H1 w w1) (k : Fl p H1 H2 w1 w2) : Fl p H H2 w w2 :=
  ⟨PH.le_trans h.le k.le, k.sat, k.strm, grownBy_trans h.grown k.grown, fun b o hb => by rw [k.old b o (Nat.lt_of_lt_of_le hb h.grown.size), h.old b o hb]⟩
theorem Strm.lt (h : Strm H w p) : p < w.heap.size := by obtain ⟨-, _, _, _, _, hh, -⟩ := h; exact (Array.getElem?_eq_some_iff.1 hh).1
theorem Fl.alloc (h : Fl p H H1 w w1) (o : Obj) : Fl p H H1 w (w1.alloc o) :=
  ⟨h.le, h.sat.alloc _, by obtain ⟨h1, A, n, c, xs, hh, hx⟩ := h.strm; exact ⟨h1, A, n, c, xs, by rw [Below.heap_alloc _ _ _ h.strm.lt]; exact hh, hx⟩, grownBy_trans h.grown (World.grownBy_alloc _ _ _), h.old⟩
theorem Fl.next (h : Fl p H H1 w w1) (hs : Sat w2 H1) (hp : Strm H1 w2 p) (hg : w1.grownBy w2 (some p)) : Fl p H H1 w w2 := ⟨h.le, hs, hp, grownBy_trans h.grown hg, h.old⟩
theorem Fl.set {b o : Nat} (h : Fl p H H1 w w1) (hb : w.heap.size ≤ b) (hn : ∀ o, H1 b o = none) (hne : b ≠ p) (v : Value) : Fl p H H1 w (w1.setCell ⟨b, o, none⟩ v) :=
  ⟨h.le, h.sat.grown (grownBy_setCell _ _ _ _) (fun b' hb' => by cases hb'; exact hn),
    by obtain ⟨h1, A, n, c, xs, hh, hx⟩ := h.strm; exact ⟨h1, A, n, c, xs, by rw [Below.heap_setCell _ _ _ _ (fun e => hne e.symm)]; exact hh, hx⟩,
    ⟨h.grown.os, h.grown.tape, h.grown.output, by simpa [World.setCell] using h.grown.size, fun i hi hr => by rw [Below.heap_setCell _ _ _ _ (by simp only; omega)]; exact h.grown.block i hi hr⟩, h.old⟩
theorem Fl.set6 {b : Nat} (h : Fl p H H1 w w1) (hb : w.heap.size ≤ b) (hn : ∀ o, H1 b o = none) (hne : b ≠ p) (u0 u1 u2 u3 u4 u5 : Value) :
    Fl p H H1 w ((((((w1.setCell ⟨b, 0, none⟩ u0).setCell ⟨b, 1, none⟩ u1).setCell ⟨b, 2, none⟩ u2).setCell ⟨b, 3, none⟩ u3).setCell ⟨b, 4, none⟩ u4).setCell ⟨b, 5, none⟩ u5) :=
  (((((h.set hb hn hne u0).set hb hn hne u1).set hb hn hne u2).set hb hn hne u3).set hb hn hne u4).set hb hn hne u5
theorem Fl.lit {α : Type} {k : Kd α} {e : TypeId} {xs : List α} (h : Fl p H H1 w w1) (cs : Array Value) (henc : EncL k H1 xs cs.toList) (hl : xs.length ≤ 140737488355328) :
    ∃ H2, Fl p H H2 w (w1.alloc (.cells cs e)) ∧ H1.le H2 ∧ SlR k H2 (some ⟨w1.heap.size, 0, none⟩) xs.length xs.length xs := by
  have ho := Own.lit (k := k) (e := e) (base := w1.heap.size) h.sat cs (Nat.le_refl _) henc (by unfold maxLen; omega)
  have ha := h.alloc (.cells cs e)
  obtain ⟨H2, h1, h2, ⟨A, c, e1, h3⟩, h4⟩ := ho.freeze ha.sat hl
  cases e1
  have h5 : ∀ b o, b < w1.heap.size → H2 b o = H1 b o := fun b o hb => h4 b o (by simp [Value.ownBlock]; omega)
  refine ⟨H2, ⟨PH.le_trans h.le h1, h2, ?_, ha.grown, fun b o hb => ?_⟩, h1, h3⟩
  · obtain ⟨s1, A, n, c, ys, hh, hx⟩ := ha.strm
    exact ⟨fun o => by rw [h5 p o h.strm.lt]; exact s1 o, A, n, c, ys, hh, hx.mono h1⟩
  · rw [h5 b o (Nat.lt_of_lt_of_le hb h.grown.size), h.old b o hb]
/-- a block of the call's own that the stream is not -/
theorem Fl.box {b : Nat} {o : Obj} (h : Fl p H1 H2 w1 w2) (hb : w1.heap[b]? = some o) (hne : b ≠ p) : w2.heap[b]? = some o := by
  rw [h.grown.block b (Array.getElem?_eq_some_iff.1 hb).1 (fun e => hne (by cases e; rfl))]; exact hb
end

/-- a variable of several cells in memory -/
theorem kbox6 {w : World} {b : Nat} {v0 v1 v2 v3 v4 v5 : Value} {T : TypeId} (h : w.heap[b]? = some (.cells #[v0, v1, v2, v3, v4, v5] T)) :
    (w.cell? ⟨b, 0, none⟩ = some v0 ∧ w.cell? ⟨b, 1, none⟩ = some v1 ∧ w.cell? ⟨b, 2, none⟩ = some v2 ∧ w.cell? ⟨b, 3, none⟩ = some v3 ∧ w.cell? ⟨b, 4, none⟩ = some v4 ∧ w.cell? ⟨b, 5, none⟩ = some v5) ∧
    (w.frozen? ⟨b, 0, none⟩ = false ∧ w.frozen? ⟨b, 1, none⟩ = false ∧ w.frozen? ⟨b, 2, none⟩ = false ∧ w.frozen? ⟨b, 3, none⟩ = false ∧ w.frozen? ⟨b, 4, none⟩ = false ∧ w.frozen? ⟨b, 5, none⟩ = false) := by
  simp [World.cell?, World.frozen?, h]

/-- what parlmake.re gives, d deep -/
def Made (K : Int) (d : Nat) (r : Re) : Prop := Good r ∧ (∀ x ∈ pre r, x.kind ≤ K) ∧ (pre r).length < 2 ^ (d + 1)

theorem six {H : PH} {r : Re} {cs : List Value} (h : RdRe H r cs) : ∃ a b c d e f, cs = [a, b, c, d, e, f] := by
  have := h.len
  match cs, this with
  | [a, b, c, d, e, f], _ => exact ⟨a, b, c, d, e, f, rfl⟩
theorem made_of {K kind : Int} {d : Nat} {set : List Span} {args : List Re} {mn mx : Int} {neg : Bool} (h : nodeErr kind set args.length mn mx neg = 0) (hk : kind ≤ K) (hl : args.length ≤ 2) (ha : ∀ a ∈ args, Made K d a) : Made K (d + 1) (.mk kind set args mn mx neg) := by
  have hx : ∀ x ∈ pre (.mk kind set args mn mx neg), x.err = 0 ∧ x.kind ≤ K := fun x hx => by
    rw [pre_eq] at hx
    rcases List.mem_cons.1 hx with rfl | hx
    · exact ⟨h, hk⟩
    · obtain ⟨l, hl, hx⟩ := List.mem_flatten.1 hx
      obtain ⟨a, ha', rfl⟩ := List.mem_map.1 hl
      exact ⟨(ha a ha').1 x hx, (ha a ha').2.1 x hx⟩
  refine ⟨fun x hx' => (hx x hx').1, fun x hx' => (hx x hx').2, ?_⟩
  rw [pre_eq, List.length_cons]
  have e2 : 2 ^ (d + 1 + 1) = 2 * 2 ^ (d + 1) := by rw [Nat.pow_succ, Nat.mul_comm]
  match args, hl with
  | [], _ => have h1 : 1 < 2 ^ (d + 1) := Nat.one_lt_two_pow (by omega); simp only [List.map_nil, List.flatten_nil, List.length_nil]; omega
  | [a], _ => have := (ha a (by simp)).2.2; simp; omega
  | [a, b], _ => have h1 := (ha a (by simp)).2.2; have h2 := (ha b (by simp)).2.2; simp; omega
theorem made_nil {K kind : Int} {d : Nat} {set : List Span} {mn mx : Int} {neg : Bool} (h : nodeErr kind set 0 mn mx neg = 0) (hk : kind ≤ K) : Made K d (.mk kind set [] mn mx neg) := by
  have hp : pre (.mk kind set [] mn mx neg) = [.mk kind set [] mn mx neg] := by rw [pre_eq]; rfl
  refine ⟨fun x hx => ?_, fun x hx => ?_, ?_⟩
  · rw [hp] at hx; simp at hx; subst hx; exact h
  · rw [hp] at hx; simp at hx; subst hx; exact hk
  · rw [hp]; exact Nat.one_lt_two_pow (n := d + 1) (by omega)
theorem made_leaf {K : Int} {d : Nat} (m : Int) (h : m = 0 ∨ m = 1) (hK : 8 ≤ K) : Made K d (.mk m [] [] 0 0 false) :=
  made_nil (by rcases h with rfl | rfl <;> simp [nodeErr, need]) (by omega)
theorem made_set {K x y : Int} {d : Nat} (hK : 8 ≤ K) (hx : 0 ≤ x ∧ x < 3) (hy : 0 ≤ y ∧ y < 2) : Made K d (.mk 2 [⟨97 + x, 97 + x + y⟩] [] 0 0 false) :=
  made_nil (by simp [nodeErr, need, setErr, setGo, goodSpan]; omega) (by omega)
theorem made_two {K m : Int} {d : Nat} {r s : Re} (h : m = 3 ∨ m = 4 ∨ m = 7) (hK : 8 ≤ K) (hr : Made K d r) (hs : Made K d s) : Made K (d + 1) (.mk m [] [r, s] 0 0 false) :=
  made_of (by rcases h with rfl | rfl | rfl <;> simp [nodeErr, need]) (by omega) (by simp) (by simp [hr, hs])
theorem made_one {K m : Int} {d : Nat} {r : Re} (h : m = 5 ∨ m = 8) (hK : m ≤ K) (hr : Made K d r) : Made K (d + 1) (.mk m [] [r] 0 0 false) :=
  made_of (by rcases h with rfl | rfl <;> simp [nodeErr, need]) hK (by simp) (by simp [hr])
theorem made_rep {K x y : Int} {d : Nat} {r : Re} (hK : 8 ≤ K) (h0 : 0 ≤ x ∧ x < 3) (h1 : 0 ≤ y ∧ y < 3) (h2 : 0 ≤ x) (hr : Made K d r) : Made K (d + 1) (.mk 6 [] [r] x (x + y) false) :=
  made_of (by simp [nodeErr, need]; omega) (by omega) (by simp) (by simp [hr])
theorem made_group {K x : Int} {d : Nat} {r : Re} (hK : 9 ≤ K) (h0 : 0 ≤ x ∧ x < 4) (h2 : 0 ≤ x) (hr : Made K d r) : Made K (d + 1) (.mk 9 [] [r] x 0 false) :=
  made_of (by simp [nodeErr, need]; omega) (by omega) (by simp) (by simp [hr])
theorem made_look {K : Int} {d : Nat} {b : Bool} {r : Re} (hK : 10 ≤ K) (hr : Made K d r) : Made K (d + 1) (.mk 10 [] [r] 0 0 b) :=
  made_of (by simp [nodeErr, need]) (by omega) (by simp) (by simp [hr])

def MakePost (p : Nat) (K : Int) (d : Nat) (H : PH) (w : World) (e : Ending) (w' : World) : Prop :=
  ∃ r H' cs, e = .returned (.agg cs.toArray) ∧ RdRe H' r cs ∧ Made K d r ∧ Fl p H H' w w'

-- GENERATED by mk_make.py
set_option maxRecDepth 100000 in
set_option maxHeartbeats 40000000 in
theorem make0_any (p : Nat) (K : Int) (hK8 : 8 ≤ K) (hK10 : K ≤ 10) (H : PH) (w : World) (hs : Sat w H) (hp : Strm H w p) :
    Calls Try.prog 86 #[.pointer (some ⟨p, 0, none⟩), .int .i64 0, .int .i64 K] w (MakePost p K 0 H w) := by
  have HP : Aside (w.heap.size ≠ p) := ⟨by have := hp.lt; omega⟩
  have K0 := Aside.mk (heap_alloc_new w (.cells #[.int .i64 0, .slice none 0 0, .slice none 0 0, .int .i64 0, .int .i64 0, .bool false] 25))
  have F00 := Aside.mk ((Fl.refl hs hp).alloc (.cells #[.int .i64 0, .slice none 0 0, .slice none 0 0, .int .i64 0, .int .i64 0, .bool false] 25))
  have F0 := Aside.mk (Fl.refl F00.out.sat F00.out.strm)
  have HN : Aside (∀ {H1 : PH} {wx : World}, Fl p H H1 (w.alloc (.cells #[.int .i64 0, .slice none 0 0, .slice none 0 0, .int .i64 0, .int .i64 0, .bool false] 25)) wx → (∀ o, H1 w.heap.size o = none)) := ⟨fun h o => by rw [h.old _ _ (by simp)]; exact hs.new (Nat.le_refl _) o⟩
  clear hs hp
  go_enter Try.func86, Try.ntmps86
  go_wp2_with fail
  generalize (w.alloc (.cells #[.int .i64 0, .slice none 0 0, .slice none 0 0, .int .i64 0, .int .i64 0, .bool false] 25)) = W0 at *
  refine (next_any H p (K + 1) W0 F0.out.sat F0.out.strm (by omega) (by omega)).mono ?_
  rintro e wv ⟨mv, rfl, hmva, hmvb, hg, hs2, hp2⟩
  have Fv := Aside.mk (F0.out.next hs2 hp2 hg)
  have Kv := Aside.mk ((Fl.next (Fl.refl F0.out.sat F0.out.strm) hs2 hp2 hg).box K0.out HP.out)
  have Zwv : w.heap.size < wv.heap.size := (Array.getElem?_eq_some_iff.1 Kv.out).1
  clear hg hs2 hp2
  go_wp2_with fail
  refine (next_any H p 3 wv Fv.out.sat Fv.out.strm (by omega) (by omega)).mono ?_
  rintro e w1 ⟨m, rfl, hma, hmb, hg, hs2, hp2⟩
  have F1 := Aside.mk (Fv.out.next hs2 hp2 hg)
  have K1 := Aside.mk ((Fl.next (Fl.refl Fv.out.sat Fv.out.strm) hs2 hp2 hg).box Kv.out HP.out)
  have Zw1 : w.heap.size < w1.heap.size := (Array.getElem?_eq_some_iff.1 K1.out).1
  clear hg hs2 hp2
  obtain rfl | rfl | rfl : m = 0 ∨ m = 1 ∨ m = 2 := by omega
  · obtain ⟨⟨a0, a1, a2, a3, a4, a5⟩, b0, b1, b2, b3, b4, b5⟩ := kbox6 K1.out
    go_wp2_with fail
    have hfin := (F00.out.trans F1.out).set6 (b := w.heap.size) (Nat.le_refl _) (HN.out F1.out) HP.out (.int .i64 0) (.slice none 0 0) (.slice none 0 0) (.int .i64 0) (.int .i64 0) (.bool false)
    refine bodyPost_ret (kresults_c1 rfl _ _ _ rfl (run_loadVar_row _ _ _ _ _ (0, 0) _ (kbox6_set K1.out (.int .i64 0) (.slice none 0 0) (.slice none 0 0) (.int .i64 0) (.int .i64 0) (.bool false)) Try.underlying25 rfl (by kernel_rfl))) rfl ?_
    exact ⟨_, H, _, rfl, RdRe.shut (SlR.nil _ _) (SlR.nil _ _), made_leaf 0 (by omega) hK8, hfin⟩
  · obtain ⟨⟨a0, a1, a2, a3, a4, a5⟩, b0, b1, b2, b3, b4, b5⟩ := kbox6 K1.out
    go_wp2_with fail
    have hfin := (F00.out.trans F1.out).set6 (b := w.heap.size) (Nat.le_refl _) (HN.out F1.out) HP.out (.int .i64 1) (.slice none 0 0) (.slice none 0 0) (.int .i64 0) (.int .i64 0) (.bool false)
    refine bodyPost_ret (kresults_c1 rfl _ _ _ rfl (run_loadVar_row _ _ _ _ _ (0, 0) _ (kbox6_set K1.out (.int .i64 1) (.slice none 0 0) (.slice none 0 0) (.int .i64 0) (.int .i64 0) (.bool false)) Try.underlying25 rfl (by kernel_rfl))) rfl ?_
    exact ⟨_, H, _, rfl, RdRe.shut (SlR.nil _ _) (SlR.nil _ _), made_leaf 1 (by omega) hK8, hfin⟩
  · go_wp2_with fail
    refine (next_any H p 3 w1 F1.out.sat F1.out.strm (by omega) (by omega)).mono ?_
    rintro e w1a ⟨xs, rfl, hxsa, hxsb, hg, hs2, hp2⟩
    have Fw1a := Aside.mk (F1.out.next hs2 hp2 hg)
    have Kw1a := Aside.mk ((Fl.next (Fl.refl F1.out.sat F1.out.strm) hs2 hp2 hg).box K1.out HP.out)
    have Zw1a : w.heap.size < w1a.heap.size := (Array.getElem?_eq_some_iff.1 Kw1a.out).1
    clear hg hs2 hp2
    go_wp2_with fail
    refine (next_any H p 2 w1a Fw1a.out.sat Fw1a.out.strm (by omega) (by omega)).mono ?_
    rintro e w1b ⟨ys, rfl, hysa, hysb, hg, hs2, hp2⟩
    have Fw1b := Aside.mk (Fw1a.out.next hs2 hp2 hg)
    have Kw1b := Aside.mk ((Fl.next (Fl.refl Fw1a.out.sat Fw1a.out.strm) hs2 hp2 hg).box Kw1a.out HP.out)
    have Zw1b : w.heap.size < w1b.heap.size := (Array.getElem?_eq_some_iff.1 Kw1b.out).1
    clear hg hs2 hp2
    obtain ⟨⟨a0, a1, a2, a3, a4, a5⟩, b0, b1, b2, b3, b4, b5⟩ := kbox6 Kw1b.out
    go_wp2_with fail
    have hset := (F00.out.trans Fw1b.out).set6 (b := w.heap.size) (Nat.le_refl _) (HN.out Fw1b.out) HP.out (.int .i64 2) (.slice (some ⟨w1b.heap.size, 0, none⟩) 1 1) (.slice none 0 0) (.int .i64 0) (.int .i64 0) (.bool false)
    have hbox := kbox6_set Kw1b.out (.int .i64 2) (.slice (some ⟨w1b.heap.size, 0, none⟩) 1 1) (.slice none 0 0) (.int .i64 0) (.int .i64 0) (.bool false)
    generalize hW : (((((w1b.setCell ⟨w.heap.size, 0, none⟩ (.int .i64 2)).setCell ⟨w.heap.size, 1, none⟩ (.slice (some ⟨w1b.heap.size, 0, none⟩) 1 1)).setCell ⟨w.heap.size, 2, none⟩ (.slice none 0 0)).setCell ⟨w.heap.size, 3, none⟩ (.int .i64 0)).setCell ⟨w.heap.size, 4, none⟩ (.int .i64 0)).setCell ⟨w.heap.size, 5, none⟩ (.bool false) = wS at *
    have hsz : wS.heap.size = w1b.heap.size := by rw [← hW]; simp
    obtain ⟨H9, hF9, hle9, hsl⟩ := hset.lit (k := kSpan) (e := 121) (xs := [⟨97 + xs, 97 + xs + ys⟩]) #[.int .i64 (97 + xs), .int .i64 (97 + xs + ys)] (EncL.single rfl) (by simp)
    rw [hsz] at hsl
    refine bodyPost_ret (kresults_c1 rfl _ _ _ rfl (run_loadVar_row _ _ _ _ _ (0, 0) _ (by rw [heap_alloc_old _ _ (by rw [hsz]; exact Zw1b)]; exact hbox) Try.underlying25 rfl (by kernel_rfl))) rfl ?_
    exact ⟨_, H9, _, rfl, RdRe.shut hsl (SlR.nil _ _), made_set hK8 (by omega) (by omega), hF9⟩

set_option maxRecDepth 100000 in
set_option maxHeartbeats 40000000 in
theorem make1_any (p : Nat) (K : Int) (hK8 : 8 ≤ K) (hK10 : K ≤ 10) (d : Nat) (hd : d ≤ 3) (ih : d ≤ 4 → ∀ (H : PH) (w : World), Sat w H → Strm H w p →
      Calls Try.prog 86 #[.pointer (some ⟨p, 0, none⟩), .int .i64 d, .int .i64 K] w (MakePost p K d H w)) (H : PH) (w : World) (hs : Sat w H) (hp : Strm H w p) :
    Calls Try.prog 86 #[.pointer (some ⟨p, 0, none⟩), .int .i64 ((d : Int) + 1), .int .i64 K] w (MakePost p K (d + 1) H w) := by
  have hd1 : ((d : Int) + 1 == 0) = false := by simp; omega
  have HP : Aside (w.heap.size ≠ p) := ⟨by have := hp.lt; omega⟩
  have K0 := Aside.mk (heap_alloc_new w (.cells #[.int .i64 0, .slice none 0 0, .slice none 0 0, .int .i64 0, .int .i64 0, .bool false] 25))
  have F00 := Aside.mk ((Fl.refl hs hp).alloc (.cells #[.int .i64 0, .slice none 0 0, .slice none 0 0, .int .i64 0, .int .i64 0, .bool false] 25))
  have F0 := Aside.mk (Fl.refl F00.out.sat F00.out.strm)
  have HN : Aside (∀ {H1 : PH} {wx : World}, Fl p H H1 (w.alloc (.cells #[.int .i64 0, .slice none 0 0, .slice none 0 0, .int .i64 0, .int .i64 0, .bool false] 25)) wx → (∀ o, H1 w.heap.size o = none)) := ⟨fun h o => by rw [h.old _ _ (by simp)]; exact hs.new (Nat.le_refl _) o⟩
  clear hs hp
  go_enter Try.func86, Try.ntmps86
  go_wp2_with fail
  generalize (w.alloc (.cells #[.int .i64 0, .slice none 0 0, .slice none 0 0, .int .i64 0, .int .i64 0, .bool false] 25)) = W0 at *
  refine (next_any H p (K + 1) W0 F0.out.sat F0.out.strm (by omega) (by omega)).mono ?_
  rintro e w1 ⟨m, rfl, hma, hmb, hg, hs2, hp2⟩
  have F1 := Aside.mk (F0.out.next hs2 hp2 hg)
  have K1 := Aside.mk ((Fl.next (Fl.refl F0.out.sat F0.out.strm) hs2 hp2 hg).box K0.out HP.out)
  have Zw1 : w.heap.size < w1.heap.size := (Array.getElem?_eq_some_iff.1 K1.out).1
  clear hg hs2 hp2
  obtain rfl | rfl | rfl | rfl | rfl | rfl | rfl | rfl | rfl | rfl | rfl : m = 0 ∨ m = 1 ∨ m = 2 ∨ m = 3 ∨ m = 4 ∨ m = 5 ∨ m = 6 ∨ m = 7 ∨ m = 8 ∨ m = 9 ∨ m = 10 := by omega
  · obtain ⟨⟨a0, a1, a2, a3, a4, a5⟩, b0, b1, b2, b3, b4, b5⟩ := kbox6 K1.out
    go_wp2_with fail
    have hfin := (F00.out.trans F1.out).set6 (b := w.heap.size) (Nat.le_refl _) (HN.out F1.out) HP.out (.int .i64 0) (.slice none 0 0) (.slice none 0 0) (.int .i64 0) (.int .i64 0) (.bool false)
    refine bodyPost_ret (kresults_c1 rfl _ _ _ rfl (run_loadVar_row _ _ _ _ _ (0, 0) _ (kbox6_set K1.out (.int .i64 0) (.slice none 0 0) (.slice none 0 0) (.int .i64 0) (.int .i64 0) (.bool false)) Try.underlying25 rfl (by kernel_rfl))) rfl ?_
    exact ⟨_, H, _, rfl, RdRe.shut (SlR.nil _ _) (SlR.nil _ _), made_leaf 0 (by omega) hK8, hfin⟩
  · obtain ⟨⟨a0, a1, a2, a3, a4, a5⟩, b0, b1, b2, b3, b4, b5⟩ := kbox6 K1.out
    go_wp2_with fail
    have hfin := (F00.out.trans F1.out).set6 (b := w.heap.size) (Nat.le_refl _) (HN.out F1.out) HP.out (.int .i64 1) (.slice none 0 0) (.slice none 0 0) (.int .i64 0) (.int .i64 0) (.bool false)
    refine bodyPost_ret (kresults_c1 rfl _ _ _ rfl (run_loadVar_row _ _ _ _ _ (0, 0) _ (kbox6_set K1.out (.int .i64 1) (.slice none 0 0) (.slice none 0 0) (.int .i64 0) (.int .i64 0) (.bool false)) Try.underlying25 rfl (by kernel_rfl))) rfl ?_
    exact ⟨_, H, _, rfl, RdRe.shut (SlR.nil _ _) (SlR.nil _ _), made_leaf 1 (by omega) hK8, hfin⟩
  · go_wp2_with fail
    refine (next_any H p 3 w1 F1.out.sat F1.out.strm (by omega) (by omega)).mono ?_
    rintro e w1a ⟨xs, rfl, hxsa, hxsb, hg, hs2, hp2⟩
    have Fw1a := Aside.mk (F1.out.next hs2 hp2 hg)
    have Kw1a := Aside.mk ((Fl.next (Fl.refl F1.out.sat F1.out.strm) hs2 hp2 hg).box K1.out HP.out)
    have Zw1a : w.heap.size < w1a.heap.size := (Array.getElem?_eq_some_iff.1 Kw1a.out).1
    clear hg hs2 hp2
    go_wp2_with fail
    refine (next_any H p 2 w1a Fw1a.out.sat Fw1a.out.strm (by omega) (by omega)).mono ?_
    rintro e w1b ⟨ys, rfl, hysa, hysb, hg, hs2, hp2⟩
    have Fw1b := Aside.mk (Fw1a.out.next hs2 hp2 hg)
    have Kw1b := Aside.mk ((Fl.next (Fl.refl Fw1a.out.sat Fw1a.out.strm) hs2 hp2 hg).box Kw1a.out HP.out)
    have Zw1b : w.heap.size < w1b.heap.size := (Array.getElem?_eq_some_iff.1 Kw1b.out).1
    clear hg hs2 hp2
    obtain ⟨⟨a0, a1, a2, a3, a4, a5⟩, b0, b1, b2, b3, b4, b5⟩ := kbox6 Kw1b.out
    go_wp2_with fail
    have hset := (F00.out.trans Fw1b.out).set6 (b := w.heap.size) (Nat.le_refl _) (HN.out Fw1b.out) HP.out (.int .i64 2) (.slice (some ⟨w1b.heap.size, 0, none⟩) 1 1) (.slice none 0 0) (.int .i64 0) (.int .i64 0) (.bool false)
    have hbox := kbox6_set Kw1b.out (.int .i64 2) (.slice (some ⟨w1b.heap.size, 0, none⟩) 1 1) (.slice none 0 0) (.int .i64 0) (.int .i64 0) (.bool false)
    generalize hW : (((((w1b.setCell ⟨w.heap.size, 0, none⟩ (.int .i64 2)).setCell ⟨w.heap.size, 1, none⟩ (.slice (some ⟨w1b.heap.size, 0, none⟩) 1 1)).setCell ⟨w.heap.size, 2, none⟩ (.slice none 0 0)).setCell ⟨w.heap.size, 3, none⟩ (.int .i64 0)).setCell ⟨w.heap.size, 4, none⟩ (.int .i64 0)).setCell ⟨w.heap.size, 5, none⟩ (.bool false) = wS at *
    have hsz : wS.heap.size = w1b.heap.size := by rw [← hW]; simp
    obtain ⟨H9, hF9, hle9, hsl⟩ := hset.lit (k := kSpan) (e := 121) (xs := [⟨97 + xs, 97 + xs + ys⟩]) #[.int .i64 (97 + xs), .int .i64 (97 + xs + ys)] (EncL.single rfl) (by simp)
    rw [hsz] at hsl
    refine bodyPost_ret (kresults_c1 rfl _ _ _ rfl (run_loadVar_row _ _ _ _ _ (0, 0) _ (by rw [heap_alloc_old _ _ (by rw [hsz]; exact Zw1b)]; exact hbox) Try.underlying25 rfl (by kernel_rfl))) rfl ?_
    exact ⟨_, H9, _, rfl, RdRe.shut hsl (SlR.nil _ _), made_set hK8 (by omega) (by omega), hF9⟩
  · go_wp2_with fail
    refine (ih (by omega) H w1 F1.out.sat F1.out.strm).mono ?_
    rintro e w2 ⟨r2, H2, c2, rfl, Rr2, Mr2, hf⟩
    have F2 := Aside.mk (F1.out.trans hf)
    have K2 := Aside.mk (hf.box K1.out HP.out)
    have Lr2 := Aside.mk hf.le
    have Zw2 : w.heap.size < w2.heap.size := (Array.getElem?_eq_some_iff.1 K2.out).1
    have Rr2 := Aside.mk Rr2
    have Mr2 := Aside.mk Mr2
    obtain ⟨c20, c21, c22, c23, c24, c25, rfl⟩ := six Rr2.out
    clear hf
    go_wp2_with fail
    refine (ih (by omega) H2 w2 F2.out.sat F2.out.strm).mono ?_
    rintro e w3 ⟨r3, H3, c3, rfl, Rr3, Mr3, hf⟩
    have F3 := Aside.mk (F2.out.trans hf)
    have K3 := Aside.mk (hf.box K2.out HP.out)
    have Lr3 := Aside.mk hf.le
    have Zw3 : w.heap.size < w3.heap.size := (Array.getElem?_eq_some_iff.1 K3.out).1
    have Rr3 := Aside.mk Rr3
    have Mr3 := Aside.mk Mr3
    obtain ⟨c30, c31, c32, c33, c34, c35, rfl⟩ := six Rr3.out
    clear hf
    obtain ⟨⟨a0, a1, a2, a3, a4, a5⟩, b0, b1, b2, b3, b4, b5⟩ := kbox6 K3.out
    go_wp2_with fail
    have hset := (F00.out.trans F3.out).set6 (b := w.heap.size) (Nat.le_refl _) (HN.out F3.out) HP.out (.int .i64 3) (.slice none 0 0) (.slice (some ⟨w3.heap.size, 0, none⟩) 2 2) (.int .i64 0) (.int .i64 0) (.bool false)
    have hbox := kbox6_set K3.out (.int .i64 3) (.slice none 0 0) (.slice (some ⟨w3.heap.size, 0, none⟩) 2 2) (.int .i64 0) (.int .i64 0) (.bool false)
    generalize hW : (((((w3.setCell ⟨w.heap.size, 0, none⟩ (.int .i64 3)).setCell ⟨w.heap.size, 1, none⟩ (.slice none 0 0)).setCell ⟨w.heap.size, 2, none⟩ (.slice (some ⟨w3.heap.size, 0, none⟩) 2 2)).setCell ⟨w.heap.size, 3, none⟩ (.int .i64 0)).setCell ⟨w.heap.size, 4, none⟩ (.int .i64 0)).setCell ⟨w.heap.size, 5, none⟩ (.bool false) = wS at *
    have hsz : wS.heap.size = w3.heap.size := by rw [← hW]; simp
    obtain ⟨H9, hF9, hle9, hsl⟩ := hset.lit (k := kRe) (e := 25) (xs := [r2, r3]) #[c20, c21, c22, c23, c24, c25, c30, c31, c32, c33, c34, c35] (⟨[c20, c21, c22, c23, c24, c25], [c30, c31, c32, c33, c34, c35], rfl, RdRe.mono Lr3.out Rr2.out, EncL.single Rr3.out⟩) (by simp)
    rw [hsz] at hsl
    refine bodyPost_ret (kresults_c1 rfl _ _ _ rfl (run_loadVar_row _ _ _ _ _ (0, 0) _ (by rw [heap_alloc_old _ _ (by rw [hsz]; exact Zw3)]; exact hbox) Try.underlying25 rfl (by kernel_rfl))) rfl ?_
    exact ⟨_, H9, _, rfl, RdRe.shut (SlR.nil _ _) hsl, made_two (by omega) hK8 Mr2.out Mr3.out, hF9⟩
  · go_wp2_with fail
    refine (ih (by omega) H w1 F1.out.sat F1.out.strm).mono ?_
    rintro e w2 ⟨r2, H2, c2, rfl, Rr2, Mr2, hf⟩
    have F2 := Aside.mk (F1.out.trans hf)
    have K2 := Aside.mk (hf.box K1.out HP.out)
    have Lr2 := Aside.mk hf.le
    have Zw2 : w.heap.size < w2.heap.size := (Array.getElem?_eq_some_iff.1 K2.out).1
    have Rr2 := Aside.mk Rr2
    have Mr2 := Aside.mk Mr2
    obtain ⟨c20, c21, c22, c23, c24, c25, rfl⟩ := six Rr2.out
    clear hf
    go_wp2_with fail
    refine (ih (by omega) H2 w2 F2.out.sat F2.out.strm).mono ?_
    rintro e w3 ⟨r3, H3, c3, rfl, Rr3, Mr3, hf⟩
    have F3 := Aside.mk (F2.out.trans hf)
    have K3 := Aside.mk (hf.box K2.out HP.out)
    have Lr3 := Aside.mk hf.le
    have Zw3 : w.heap.size < w3.heap.size := (Array.getElem?_eq_some_iff.1 K3.out).1
    have Rr3 := Aside.mk Rr3
    have Mr3 := Aside.mk Mr3
    obtain ⟨c30, c31, c32, c33, c34, c35, rfl⟩ := six Rr3.out
    clear hf
    obtain ⟨⟨a0, a1, a2, a3, a4, a5⟩, b0, b1, b2, b3, b4, b5⟩ := kbox6 K3.out
    go_wp2_with fail
    have hset := (F00.out.trans F3.out).set6 (b := w.heap.size) (Nat.le_refl _) (HN.out F3.out) HP.out (.int .i64 4) (.slice none 0 0) (.slice (some ⟨w3.heap.size, 0, none⟩) 2 2) (.int .i64 0) (.int .i64 0) (.bool false)
    have hbox := kbox6_set K3.out (.int .i64 4) (.slice none 0 0) (.slice (some ⟨w3.heap.size, 0, none⟩) 2 2) (.int .i64 0) (.int .i64 0) (.bool false)
    generalize hW : (((((w3.setCell ⟨w.heap.size, 0, none⟩ (.int .i64 4)).setCell ⟨w.heap.size, 1, none⟩ (.slice none 0 0)).setCell ⟨w.heap.size, 2, none⟩ (.slice (some ⟨w3.heap.size, 0, none⟩) 2 2)).setCell ⟨w.heap.size, 3, none⟩ (.int .i64 0)).setCell ⟨w.heap.size, 4, none⟩ (.int .i64 0)).setCell ⟨w.heap.size, 5, none⟩ (.bool false) = wS at *
    have hsz : wS.heap.size = w3.heap.size := by rw [← hW]; simp
    obtain ⟨H9, hF9, hle9, hsl⟩ := hset.lit (k := kRe) (e := 25) (xs := [r2, r3]) #[c20, c21, c22, c23, c24, c25, c30, c31, c32, c33, c34, c35] (⟨[c20, c21, c22, c23, c24, c25], [c30, c31, c32, c33, c34, c35], rfl, RdRe.mono Lr3.out Rr2.out, EncL.single Rr3.out⟩) (by simp)
    rw [hsz] at hsl
    refine bodyPost_ret (kresults_c1 rfl _ _ _ rfl (run_loadVar_row _ _ _ _ _ (0, 0) _ (by rw [heap_alloc_old _ _ (by rw [hsz]; exact Zw3)]; exact hbox) Try.underlying25 rfl (by kernel_rfl))) rfl ?_
    exact ⟨_, H9, _, rfl, RdRe.shut (SlR.nil _ _) hsl, made_two (by omega) hK8 Mr2.out Mr3.out, hF9⟩
  · go_wp2_with fail
    refine (ih (by omega) H w1 F1.out.sat F1.out.strm).mono ?_
    rintro e w2 ⟨r2, H2, c2, rfl, Rr2, Mr2, hf⟩
    have F2 := Aside.mk (F1.out.trans hf)
    have K2 := Aside.mk (hf.box K1.out HP.out)
    have Lr2 := Aside.mk hf.le
    have Zw2 : w.heap.size < w2.heap.size := (Array.getElem?_eq_some_iff.1 K2.out).1
    have Rr2 := Aside.mk Rr2
    have Mr2 := Aside.mk Mr2
    obtain ⟨c20, c21, c22, c23, c24, c25, rfl⟩ := six Rr2.out
    clear hf
    obtain ⟨⟨a0, a1, a2, a3, a4, a5⟩, b0, b1, b2, b3, b4, b5⟩ := kbox6 K2.out
    go_wp2_with fail
    have hset := (F00.out.trans F2.out).set6 (b := w.heap.size) (Nat.le_refl _) (HN.out F2.out) HP.out (.int .i64 5) (.slice none 0 0) (.slice (some ⟨w2.heap.size, 0, none⟩) 1 1) (.int .i64 0) (.int .i64 0) (.bool false)
    have hbox := kbox6_set K2.out (.int .i64 5) (.slice none 0 0) (.slice (some ⟨w2.heap.size, 0, none⟩) 1 1) (.int .i64 0) (.int .i64 0) (.bool false)
    generalize hW : (((((w2.setCell ⟨w.heap.size, 0, none⟩ (.int .i64 5)).setCell ⟨w.heap.size, 1, none⟩ (.slice none 0 0)).setCell ⟨w.heap.size, 2, none⟩ (.slice (some ⟨w2.heap.size, 0, none⟩) 1 1)).setCell ⟨w.heap.size, 3, none⟩ (.int .i64 0)).setCell ⟨w.heap.size, 4, none⟩ (.int .i64 0)).setCell ⟨w.heap.size, 5, none⟩ (.bool false) = wS at *
    have hsz : wS.heap.size = w2.heap.size := by rw [← hW]; simp
    obtain ⟨H9, hF9, hle9, hsl⟩ := hset.lit (k := kRe) (e := 25) (xs := [r2]) #[c20, c21, c22, c23, c24, c25] (EncL.single Rr2.out) (by simp)
    rw [hsz] at hsl
    refine bodyPost_ret (kresults_c1 rfl _ _ _ rfl (run_loadVar_row _ _ _ _ _ (0, 0) _ (by rw [heap_alloc_old _ _ (by rw [hsz]; exact Zw2)]; exact hbox) Try.underlying25 rfl (by kernel_rfl))) rfl ?_
    exact ⟨_, H9, _, rfl, RdRe.shut (SlR.nil _ _) hsl, made_one (by omega) (by omega) Mr2.out, hF9⟩
  · go_wp2_with fail
    refine (next_any H p 3 w1 F1.out.sat F1.out.strm (by omega) (by omega)).mono ?_
    rintro e wx ⟨x, rfl, hxa, hxb, hg, hs2, hp2⟩
    have Fx := Aside.mk (F1.out.next hs2 hp2 hg)
    have Kx := Aside.mk ((Fl.next (Fl.refl F1.out.sat F1.out.strm) hs2 hp2 hg).box K1.out HP.out)
    have Zwx : w.heap.size < wx.heap.size := (Array.getElem?_eq_some_iff.1 Kx.out).1
    clear hg hs2 hp2
    go_wp2_with fail
    refine (next_any H p 3 wx Fx.out.sat Fx.out.strm (by omega) (by omega)).mono ?_
    rintro e wy ⟨y, rfl, hya, hyb, hg, hs2, hp2⟩
    have Fy := Aside.mk (Fx.out.next hs2 hp2 hg)
    have Ky := Aside.mk ((Fl.next (Fl.refl Fx.out.sat Fx.out.strm) hs2 hp2 hg).box Kx.out HP.out)
    have Zwy : w.heap.size < wy.heap.size := (Array.getElem?_eq_some_iff.1 Ky.out).1
    clear hg hs2 hp2
    go_wp2_with fail
    refine (ih (by omega) H wy Fy.out.sat Fy.out.strm).mono ?_
    rintro e w2 ⟨r2, H2, c2, rfl, Rr2, Mr2, hf⟩
    have F2 := Aside.mk (Fy.out.trans hf)
    have K2 := Aside.mk (hf.box Ky.out HP.out)
    have Lr2 := Aside.mk hf.le
    have Zw2 : w.heap.size < w2.heap.size := (Array.getElem?_eq_some_iff.1 K2.out).1
    have Rr2 := Aside.mk Rr2
    have Mr2 := Aside.mk Mr2
    obtain ⟨c20, c21, c22, c23, c24, c25, rfl⟩ := six Rr2.out
    clear hf
    obtain ⟨⟨a0, a1, a2, a3, a4, a5⟩, b0, b1, b2, b3, b4, b5⟩ := kbox6 K2.out
    go_wp2_with fail
    have hset := (F00.out.trans F2.out).set6 (b := w.heap.size) (Nat.le_refl _) (HN.out F2.out) HP.out (.int .i64 6) (.slice none 0 0) (.slice (some ⟨w2.heap.size, 0, none⟩) 1 1) (.int .i64 x) (.int .i64 (x + y)) (.bool false)
    have hbox := kbox6_set K2.out (.int .i64 6) (.slice none 0 0) (.slice (some ⟨w2.heap.size, 0, none⟩) 1 1) (.int .i64 x) (.int .i64 (x + y)) (.bool false)
    generalize hW : (((((w2.setCell ⟨w.heap.size, 0, none⟩ (.int .i64 6)).setCell ⟨w.heap.size, 1, none⟩ (.slice none 0 0)).setCell ⟨w.heap.size, 2, none⟩ (.slice (some ⟨w2.heap.size, 0, none⟩) 1 1)).setCell ⟨w.heap.size, 3, none⟩ (.int .i64 x)).setCell ⟨w.heap.size, 4, none⟩ (.int .i64 (x + y))).setCell ⟨w.heap.size, 5, none⟩ (.bool false) = wS at *
    have hsz : wS.heap.size = w2.heap.size := by rw [← hW]; simp
    obtain ⟨H9, hF9, hle9, hsl⟩ := hset.lit (k := kRe) (e := 25) (xs := [r2]) #[c20, c21, c22, c23, c24, c25] (EncL.single Rr2.out) (by simp)
    rw [hsz] at hsl
    refine bodyPost_ret (kresults_c1 rfl _ _ _ rfl (run_loadVar_row _ _ _ _ _ (0, 0) _ (by rw [heap_alloc_old _ _ (by rw [hsz]; exact Zw2)]; exact hbox) Try.underlying25 rfl (by kernel_rfl))) rfl ?_
    exact ⟨_, H9, _, rfl, RdRe.shut (SlR.nil _ _) hsl, made_rep (by omega) (by omega) (by omega) (by omega) Mr2.out, hF9⟩
  · go_wp2_with fail
    refine (ih (by omega) H w1 F1.out.sat F1.out.strm).mono ?_
    rintro e w2 ⟨r2, H2, c2, rfl, Rr2, Mr2, hf⟩
    have F2 := Aside.mk (F1.out.trans hf)
    have K2 := Aside.mk (hf.box K1.out HP.out)
    have Lr2 := Aside.mk hf.le
    have Zw2 : w.heap.size < w2.heap.size := (Array.getElem?_eq_some_iff.1 K2.out).1
    have Rr2 := Aside.mk Rr2
    have Mr2 := Aside.mk Mr2
    obtain ⟨c20, c21, c22, c23, c24, c25, rfl⟩ := six Rr2.out
    clear hf
    go_wp2_with fail
    refine (ih (by omega) H2 w2 F2.out.sat F2.out.strm).mono ?_
    rintro e w3 ⟨r3, H3, c3, rfl, Rr3, Mr3, hf⟩
    have F3 := Aside.mk (F2.out.trans hf)
    have K3 := Aside.mk (hf.box K2.out HP.out)
    have Lr3 := Aside.mk hf.le
    have Zw3 : w.heap.size < w3.heap.size := (Array.getElem?_eq_some_iff.1 K3.out).1
    have Rr3 := Aside.mk Rr3
    have Mr3 := Aside.mk Mr3
    obtain ⟨c30, c31, c32, c33, c34, c35, rfl⟩ := six Rr3.out
    clear hf
    obtain ⟨⟨a0, a1, a2, a3, a4, a5⟩, b0, b1, b2, b3, b4, b5⟩ := kbox6 K3.out
    go_wp2_with fail
    have hset := (F00.out.trans F3.out).set6 (b := w.heap.size) (Nat.le_refl _) (HN.out F3.out) HP.out (.int .i64 7) (.slice none 0 0) (.slice (some ⟨w3.heap.size, 0, none⟩) 2 2) (.int .i64 0) (.int .i64 0) (.bool false)
    have hbox := kbox6_set K3.out (.int .i64 7) (.slice none 0 0) (.slice (some ⟨w3.heap.size, 0, none⟩) 2 2) (.int .i64 0) (.int .i64 0) (.bool false)
    generalize hW : (((((w3.setCell ⟨w.heap.size, 0, none⟩ (.int .i64 7)).setCell ⟨w.heap.size, 1, none⟩ (.slice none 0 0)).setCell ⟨w.heap.size, 2, none⟩ (.slice (some ⟨w3.heap.size, 0, none⟩) 2 2)).setCell ⟨w.heap.size, 3, none⟩ (.int .i64 0)).setCell ⟨w.heap.size, 4, none⟩ (.int .i64 0)).setCell ⟨w.heap.size, 5, none⟩ (.bool false) = wS at *
    have hsz : wS.heap.size = w3.heap.size := by rw [← hW]; simp
    obtain ⟨H9, hF9, hle9, hsl⟩ := hset.lit (k := kRe) (e := 25) (xs := [r2, r3]) #[c20, c21, c22, c23, c24, c25, c30, c31, c32, c33, c34, c35] (⟨[c20, c21, c22, c23, c24, c25], [c30, c31, c32, c33, c34, c35], rfl, RdRe.mono Lr3.out Rr2.out, EncL.single Rr3.out⟩) (by simp)
    rw [hsz] at hsl
    refine bodyPost_ret (kresults_c1 rfl _ _ _ rfl (run_loadVar_row _ _ _ _ _ (0, 0) _ (by rw [heap_alloc_old _ _ (by rw [hsz]; exact Zw3)]; exact hbox) Try.underlying25 rfl (by kernel_rfl))) rfl ?_
    exact ⟨_, H9, _, rfl, RdRe.shut (SlR.nil _ _) hsl, made_two (by omega) hK8 Mr2.out Mr3.out, hF9⟩
  · go_wp2_with fail
    refine (ih (by omega) H w1 F1.out.sat F1.out.strm).mono ?_
    rintro e w2 ⟨r2, H2, c2, rfl, Rr2, Mr2, hf⟩
    have F2 := Aside.mk (F1.out.trans hf)
    have K2 := Aside.mk (hf.box K1.out HP.out)
    have Lr2 := Aside.mk hf.le
    have Zw2 : w.heap.size < w2.heap.size := (Array.getElem?_eq_some_iff.1 K2.out).1
    have Rr2 := Aside.mk Rr2
    have Mr2 := Aside.mk Mr2
    obtain ⟨c20, c21, c22, c23, c24, c25, rfl⟩ := six Rr2.out
    clear hf
    obtain ⟨⟨a0, a1, a2, a3, a4, a5⟩, b0, b1, b2, b3, b4, b5⟩ := kbox6 K2.out
    go_wp2_with fail
    have hset := (F00.out.trans F2.out).set6 (b := w.heap.size) (Nat.le_refl _) (HN.out F2.out) HP.out (.int .i64 8) (.slice none 0 0) (.slice (some ⟨w2.heap.size, 0, none⟩) 1 1) (.int .i64 0) (.int .i64 0) (.bool false)
    have hbox := kbox6_set K2.out (.int .i64 8) (.slice none 0 0) (.slice (some ⟨w2.heap.size, 0, none⟩) 1 1) (.int .i64 0) (.int .i64 0) (.bool false)
    generalize hW : (((((w2.setCell ⟨w.heap.size, 0, none⟩ (.int .i64 8)).setCell ⟨w.heap.size, 1, none⟩ (.slice none 0 0)).setCell ⟨w.heap.size, 2, none⟩ (.slice (some ⟨w2.heap.size, 0, none⟩) 1 1)).setCell ⟨w.heap.size, 3, none⟩ (.int .i64 0)).setCell ⟨w.heap.size, 4, none⟩ (.int .i64 0)).setCell ⟨w.heap.size, 5, none⟩ (.bool false) = wS at *
    have hsz : wS.heap.size = w2.heap.size := by rw [← hW]; simp
    obtain ⟨H9, hF9, hle9, hsl⟩ := hset.lit (k := kRe) (e := 25) (xs := [r2]) #[c20, c21, c22, c23, c24, c25] (EncL.single Rr2.out) (by simp)
    rw [hsz] at hsl
    refine bodyPost_ret (kresults_c1 rfl _ _ _ rfl (run_loadVar_row _ _ _ _ _ (0, 0) _ (by rw [heap_alloc_old _ _ (by rw [hsz]; exact Zw2)]; exact hbox) Try.underlying25 rfl (by kernel_rfl))) rfl ?_
    exact ⟨_, H9, _, rfl, RdRe.shut (SlR.nil _ _) hsl, made_one (by omega) (by omega) Mr2.out, hF9⟩
  · go_wp2_with fail
    refine (next_any H p 4 w1 F1.out.sat F1.out.strm (by omega) (by omega)).mono ?_
    rintro e wx ⟨x, rfl, hxa, hxb, hg, hs2, hp2⟩
    have Fx := Aside.mk (F1.out.next hs2 hp2 hg)
    have Kx := Aside.mk ((Fl.next (Fl.refl F1.out.sat F1.out.strm) hs2 hp2 hg).box K1.out HP.out)
    have Zwx : w.heap.size < wx.heap.size := (Array.getElem?_eq_some_iff.1 Kx.out).1
    clear hg hs2 hp2
    go_wp2_with fail
    refine (ih (by omega) H wx Fx.out.sat Fx.out.strm).mono ?_
    rintro e w2 ⟨r2, H2, c2, rfl, Rr2, Mr2, hf⟩
    have F2 := Aside.mk (Fx.out.trans hf)
    have K2 := Aside.mk (hf.box Kx.out HP.out)
    have Lr2 := Aside.mk hf.le
    have Zw2 : w.heap.size < w2.heap.size := (Array.getElem?_eq_some_iff.1 K2.out).1
    have Rr2 := Aside.mk Rr2
    have Mr2 := Aside.mk Mr2
    obtain ⟨c20, c21, c22, c23, c24, c25, rfl⟩ := six Rr2.out
    clear hf
    obtain ⟨⟨a0, a1, a2, a3, a4, a5⟩, b0, b1, b2, b3, b4, b5⟩ := kbox6 K2.out
    go_wp2_with fail
    have hset := (F00.out.trans F2.out).set6 (b := w.heap.size) (Nat.le_refl _) (HN.out F2.out) HP.out (.int .i64 9) (.slice none 0 0) (.slice (some ⟨w2.heap.size, 0, none⟩) 1 1) (.int .i64 x) (.int .i64 0) (.bool false)
    have hbox := kbox6_set K2.out (.int .i64 9) (.slice none 0 0) (.slice (some ⟨w2.heap.size, 0, none⟩) 1 1) (.int .i64 x) (.int .i64 0) (.bool false)
    generalize hW : (((((w2.setCell ⟨w.heap.size, 0, none⟩ (.int .i64 9)).setCell ⟨w.heap.size, 1, none⟩ (.slice none 0 0)).setCell ⟨w.heap.size, 2, none⟩ (.slice (some ⟨w2.heap.size, 0, none⟩) 1 1)).setCell ⟨w.heap.size, 3, none⟩ (.int .i64 x)).setCell ⟨w.heap.size, 4, none⟩ (.int .i64 0)).setCell ⟨w.heap.size, 5, none⟩ (.bool false) = wS at *
    have hsz : wS.heap.size = w2.heap.size := by rw [← hW]; simp
    obtain ⟨H9, hF9, hle9, hsl⟩ := hset.lit (k := kRe) (e := 25) (xs := [r2]) #[c20, c21, c22, c23, c24, c25] (EncL.single Rr2.out) (by simp)
    rw [hsz] at hsl
    refine bodyPost_ret (kresults_c1 rfl _ _ _ rfl (run_loadVar_row _ _ _ _ _ (0, 0) _ (by rw [heap_alloc_old _ _ (by rw [hsz]; exact Zw2)]; exact hbox) Try.underlying25 rfl (by kernel_rfl))) rfl ?_
    exact ⟨_, H9, _, rfl, RdRe.shut (SlR.nil _ _) hsl, made_group (by omega) (by omega) (by omega) Mr2.out, hF9⟩
  · go_wp2_with fail
    refine (next_any H p 2 w1 F1.out.sat F1.out.strm (by omega) (by omega)).mono ?_
    rintro e wx ⟨x, rfl, hxa, hxb, hg, hs2, hp2⟩
    have Fx := Aside.mk (F1.out.next hs2 hp2 hg)
    have Kx := Aside.mk ((Fl.next (Fl.refl F1.out.sat F1.out.strm) hs2 hp2 hg).box K1.out HP.out)
    have Zwx : w.heap.size < wx.heap.size := (Array.getElem?_eq_some_iff.1 Kx.out).1
    clear hg hs2 hp2
    go_wp2_with fail
    refine (ih (by omega) H wx Fx.out.sat Fx.out.strm).mono ?_
    rintro e w2 ⟨r2, H2, c2, rfl, Rr2, Mr2, hf⟩
    have F2 := Aside.mk (Fx.out.trans hf)
    have K2 := Aside.mk (hf.box Kx.out HP.out)
    have Lr2 := Aside.mk hf.le
    have Zw2 : w.heap.size < w2.heap.size := (Array.getElem?_eq_some_iff.1 K2.out).1
    have Rr2 := Aside.mk Rr2
    have Mr2 := Aside.mk Mr2
    obtain ⟨c20, c21, c22, c23, c24, c25, rfl⟩ := six Rr2.out
    clear hf
    obtain ⟨⟨a0, a1, a2, a3, a4, a5⟩, b0, b1, b2, b3, b4, b5⟩ := kbox6 K2.out
    go_wp2_with fail
    have hset := (F00.out.trans F2.out).set6 (b := w.heap.size) (Nat.le_refl _) (HN.out F2.out) HP.out (.int .i64 10) (.slice none 0 0) (.slice (some ⟨w2.heap.size, 0, none⟩) 1 1) (.int .i64 0) (.int .i64 0) (.bool (x == 1))
    have hbox := kbox6_set K2.out (.int .i64 10) (.slice none 0 0) (.slice (some ⟨w2.heap.size, 0, none⟩) 1 1) (.int .i64 0) (.int .i64 0) (.bool (x == 1))
    generalize hW : (((((w2.setCell ⟨w.heap.size, 0, none⟩ (.int .i64 10)).setCell ⟨w.heap.size, 1, none⟩ (.slice none 0 0)).setCell ⟨w.heap.size, 2, none⟩ (.slice (some ⟨w2.heap.size, 0, none⟩) 1 1)).setCell ⟨w.heap.size, 3, none⟩ (.int .i64 0)).setCell ⟨w.heap.size, 4, none⟩ (.int .i64 0)).setCell ⟨w.heap.size, 5, none⟩ (.bool (x == 1)) = wS at *
    have hsz : wS.heap.size = w2.heap.size := by rw [← hW]; simp
    obtain ⟨H9, hF9, hle9, hsl⟩ := hset.lit (k := kRe) (e := 25) (xs := [r2]) #[c20, c21, c22, c23, c24, c25] (EncL.single Rr2.out) (by simp)
    rw [hsz] at hsl
    refine bodyPost_ret (kresults_c1 rfl _ _ _ rfl (run_loadVar_row _ _ _ _ _ (0, 0) _ (by rw [heap_alloc_old _ _ (by rw [hsz]; exact Zw2)]; exact hbox) Try.underlying25 rfl (by kernel_rfl))) rfl ?_
    exact ⟨_, H9, _, rfl, RdRe.shut (SlR.nil _ _) hsl, made_look (by omega) Mr2.out, hF9⟩

theorem make_any (p : Nat) (K : Int) (hK8 : 8 ≤ K) (hK10 : K ≤ 10) : ∀ (d : Nat), d ≤ 4 → ∀ (H : PH) (w : World), Sat w H → Strm H w p →
    Calls Try.prog 86 #[.pointer (some ⟨p, 0, none⟩), .int .i64 d, .int .i64 K] w (MakePost p K d H w) := by
  intro d
  induction d with
  | zero => intro _ H w hs hp; exact make0_any p K hK8 hK10 H w hs hp
  | succ d ih => intro hd H w hs hp; exact make1_any p K hK8 hK10 d (by omega) ih H w hs hp
end Go.Proofs.Ytbnahmeaeakhhaa.B
