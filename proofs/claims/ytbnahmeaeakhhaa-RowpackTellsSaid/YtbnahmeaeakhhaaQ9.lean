/- Contract: rowpack.Read. -/
import Derived.Test.YtbnahmeaeakhhaaQ8
import Derived.Test.YtbnahmeaeakhhaaV1
import Derived.Deep.RegionHeld3
import Derived.Laws.EntriesVeiled
namespace Go.Proofs.Ytbnahmeaeakhhaa.B
set_option linter.unusedVariables false
set_option linter.unusedSimpArgs false
open Go Go.RowKit Go.Proofs.Ytbnahmeaeakhhaa.Q Classical

theorem Ext.tu {p q : Nat} {H H' : PH} {w w1 w2 : World} (h : Ext H H' w w1) (k : Tu p q w1 w2) (hp : ∀ o, H' p o = none) (hq : ∀ o, H' q o = none) (h1 : w.heap.size ≤ p) (h2 : w.heap.size ≤ q) : Ext H H' w w2 :=
  ⟨k.below h.below h.size h1 h2, h.le, k.sat h.sat hp hq, h.old⟩
theorem St.mono {H H' : PH} {w : World} {p q : Nat} {l : List Int} {ok : Bool} (hh : H.le H') (h : St H w p q l ok) : St H' w p q l ok :=
  ⟨h.okc, by obtain ⟨A, n, c, h1, h2⟩ := h.cur; exact ⟨A, n, c, h1, h2.mono hh⟩, h.ne⟩
theorem NxL.app : ∀ {ys zs : List Int} {l l1 l2 : List Int} {ok ok1 ok2 : Bool}, NxL l ok ys l1 ok1 → NxL l1 ok1 zs l2 ok2 → NxL l ok (ys ++ zs) l2 ok2
  | [], zs, l, l1, l2, ok, ok1, ok2, h, k => by obtain ⟨rfl, rfl⟩ := h; exact k
  | y :: ys, zs, l, l1, l2, ok, ok1, ok2, ⟨l3, ok3, h1, h2⟩, k => ⟨l3, ok3, h1, h2.app k⟩
theorem rd_zeroTab (H : PH) : ∃ cs, cs = [Value.int .i64 0, .int .i64 0, .slice none 0 0, .slice none 0 0, .slice none 0 0, .slice none 0 0] ∧ True := ⟨_, rfl, trivial⟩
theorem NxL.inB : ∀ {ys : List Int} {l l' : List Int} {ok ok' : Bool}, NxL l ok ys l' ok' → InB l → InB l'
  | [], l, l', ok, ok', h, hb => by obtain ⟨rfl, rfl⟩ := h; exact hb
  | y :: ys, l, l', ok, ok', ⟨l3, ok3, h1, h2⟩, hb => h2.inB (h1.inB hb)

theorem St.set {H : PH} {w : World} {p q b : Nat} {l : List Int} {ok : Bool} (h : St H w p q l ok) (hp : b ≠ p) (hq : b ≠ q) (o : Nat) (v : Value) : St H (w.setCell ⟨b, o, none⟩ v) p q l ok :=
  h.keep (Below.heap_setCell _ _ _ _ (Ne.symm hp)) (Below.heap_setCell _ _ _ _ (Ne.symm hq))
theorem list_anyI (H : PH) (w : World) (p q p8 n : Nat) (x : Int) (l : List Int) (ok : Bool) (hx : x = n) (hst : St H w p q l ok) (hs : Sat w H) (hb : InB l) (hp : ∀ o, H p o = none) (hq : ∀ o, H q o = none)
    (hf : H p8 0 = some (.func (.func 126) #[] #[.pointer (some ⟨p, 0, none⟩), .pointer (some ⟨q, 0, none⟩)])) (hn : n ≤ 3200) :
    Calls Try.prog 128 #[.int .i64 x, .pointer (some ⟨p8, 0, none⟩)] w (ListPost H w p q n l ok) := by subst hx; exact list_any H w p q p8 n l ok hst hs hb hp hq hf hn
/-- a table, as it reads -/
structure Tab where
  st : Int
  cols : Int
  acc : List Int
  base : List Int
  own : List Int
  nxt : List Int
def zeroTab : Tab := ⟨0, 0, [], [], [], []⟩
def RdTab (H : PH) (t : Tab) (cs : List Value) : Prop := ∃ A1 c1 A2 c2 A3 c3 A4 c4, cs = [.int .i64 t.st, .int .i64 t.cols, .slice A1 t.acc.length c1, .slice A2 t.base.length c2, .slice A3 t.own.length c3, .slice A4 t.nxt.length c4] ∧
  SlR (kI .i64) H A1 t.acc.length c1 t.acc ∧ SlR (kI .i64) H A2 t.base.length c2 t.base ∧ SlR (kI .i64) H A3 t.own.length c3 t.own ∧ SlR (kI .i64) H A4 t.nxt.length c4 t.nxt
/-- what Read comes to -/
def ReadR (l : List Int) (err : Int) (T : Tab) : Prop := ∃ st cols n slots l1 ok1, NxL l true [st, cols, n, slots] l1 ok1 ∧
  (if ok1 = false ∨ n < 0 ∨ slots < 0 then err = 4 ∧ T = zeroTab
   else if 200 < n ∨ 3200 < slots then err = 2 ∧ T = zeroTab
   else ∃ a b o x l2 ok2, (a.length : Int) = n ∧ (b.length : Int) = n ∧ (o.length : Int) = slots ∧ (x.length : Int) = slots ∧ NxL l1 ok1 (a ++ b ++ o ++ x) l2 ok2 ∧
     (if ok2 = false ∨ l2 ≠ [] then err = 4 ∧ T = zeroTab else if tabErr st cols a b o x ≠ 0 then err = tabErr st cols a b o x ∧ T = zeroTab else err = 0 ∧ T = ⟨st, cols, a, b, o, x⟩))
def ReadPost (H : PH) (w : World) (l : List Int) (e : Ending) (w' : World) : Prop := ∃ H' cs err T, e = .returned (.tuple #[.agg cs.toArray, .int .i64 err]) ∧ RdTab H' T cs ∧ ReadR l err T ∧ Ext H H' w w'

set_option maxRecDepth 100000 in
set_option maxHeartbeats 16000000 in
theorem read_any (H : PH) (l : List Int) (A : Option Addr) (n c : Nat) (w : World) (hl : SlR (kI .u8) H A n c l) (hs : Sat w H) (hb : InB l) :
    Calls Try.prog 73 #[.slice A n c] w (ReadPost H w l) := by
  replace hb := Aside.mk hb
  have hx := Aside.mk (Ext.refl hs)
  replace hl := Aside.mk hl
  go_enter Try.func73, Try.ntmps73
  go_wp2_with fail
  have hszw := hx.out.size
  have kq_ : (((((w.alloc (.cells #[.slice A n c] 96)).alloc (.cells #[.int .i64 0, .int .i64 0, .slice none 0 0, .slice none 0 0, .slice none 0 0, .slice none 0 0] 85)).alloc (.cells #[.int .i64 0, .int .i64 0, .slice none 0 0, .slice none 0 0, .slice none 0 0, .slice none 0 0] 85)).alloc (.cells #[.bool true] 4)).alloc (.cells #[.func (.func 126) #[] #[.pointer (some ⟨w.heap.size + 1 + 1 + 1, 0, none⟩), .pointer (some ⟨w.heap.size, 0, none⟩)]] 173)).heap[w.heap.size]? = some (.cells #[.slice A n c] 96) := (boxA (boxA (boxA (boxA (heap_alloc_new _ _) (.cells #[.int .i64 0, .int .i64 0, .slice none 0 0, .slice none 0 0, .slice none 0 0, .slice none 0 0] 85)) (.cells #[.int .i64 0, .int .i64 0, .slice none 0 0, .slice none 0 0, .slice none 0 0, .slice none 0 0] 85)) (.cells #[.bool true] 4)) (.cells #[.func (.func 126) #[] #[.pointer (some ⟨w.heap.size + 1 + 1 + 1, 0, none⟩), .pointer (some ⟨w.heap.size, 0, none⟩)]] 173))
  have kz_ : (((((w.alloc (.cells #[.slice A n c] 96)).alloc (.cells #[.int .i64 0, .int .i64 0, .slice none 0 0, .slice none 0 0, .slice none 0 0, .slice none 0 0] 85)).alloc (.cells #[.int .i64 0, .int .i64 0, .slice none 0 0, .slice none 0 0, .slice none 0 0, .slice none 0 0] 85)).alloc (.cells #[.bool true] 4)).alloc (.cells #[.func (.func 126) #[] #[.pointer (some ⟨w.heap.size + 1 + 1 + 1, 0, none⟩), .pointer (some ⟨w.heap.size, 0, none⟩)]] 173)).heap[w.heap.size + 1]? = some (.cells #[.int .i64 0, .int .i64 0, .slice none 0 0, .slice none 0 0, .slice none 0 0, .slice none 0 0] 85) := (boxA (boxA (boxA (by rw [show w.heap.size + 1 = ((w.alloc (.cells #[.slice A n c] 96))).heap.size by simp]; exact heap_alloc_new _ _) (.cells #[.int .i64 0, .int .i64 0, .slice none 0 0, .slice none 0 0, .slice none 0 0, .slice none 0 0] 85)) (.cells #[.bool true] 4)) (.cells #[.func (.func 126) #[] #[.pointer (some ⟨w.heap.size + 1 + 1 + 1, 0, none⟩), .pointer (some ⟨w.heap.size, 0, none⟩)]] 173))
  have kt_ : (((((w.alloc (.cells #[.slice A n c] 96)).alloc (.cells #[.int .i64 0, .int .i64 0, .slice none 0 0, .slice none 0 0, .slice none 0 0, .slice none 0 0] 85)).alloc (.cells #[.int .i64 0, .int .i64 0, .slice none 0 0, .slice none 0 0, .slice none 0 0, .slice none 0 0] 85)).alloc (.cells #[.bool true] 4)).alloc (.cells #[.func (.func 126) #[] #[.pointer (some ⟨w.heap.size + 1 + 1 + 1, 0, none⟩), .pointer (some ⟨w.heap.size, 0, none⟩)]] 173)).heap[w.heap.size + 1 + 1]? = some (.cells #[.int .i64 0, .int .i64 0, .slice none 0 0, .slice none 0 0, .slice none 0 0, .slice none 0 0] 85) := (boxA (boxA (by rw [show w.heap.size + 1 + 1 = (((w.alloc (.cells #[.slice A n c] 96)).alloc (.cells #[.int .i64 0, .int .i64 0, .slice none 0 0, .slice none 0 0, .slice none 0 0, .slice none 0 0] 85))).heap.size by simp]; exact heap_alloc_new _ _) (.cells #[.bool true] 4)) (.cells #[.func (.func 126) #[] #[.pointer (some ⟨w.heap.size + 1 + 1 + 1, 0, none⟩), .pointer (some ⟨w.heap.size, 0, none⟩)]] 173))
  have kp_ : (((((w.alloc (.cells #[.slice A n c] 96)).alloc (.cells #[.int .i64 0, .int .i64 0, .slice none 0 0, .slice none 0 0, .slice none 0 0, .slice none 0 0] 85)).alloc (.cells #[.int .i64 0, .int .i64 0, .slice none 0 0, .slice none 0 0, .slice none 0 0, .slice none 0 0] 85)).alloc (.cells #[.bool true] 4)).alloc (.cells #[.func (.func 126) #[] #[.pointer (some ⟨w.heap.size + 1 + 1 + 1, 0, none⟩), .pointer (some ⟨w.heap.size, 0, none⟩)]] 173)).heap[w.heap.size + 1 + 1 + 1]? = some (.cells #[.bool true] 4) := (boxA (by rw [show w.heap.size + 1 + 1 + 1 = ((((w.alloc (.cells #[.slice A n c] 96)).alloc (.cells #[.int .i64 0, .int .i64 0, .slice none 0 0, .slice none 0 0, .slice none 0 0, .slice none 0 0] 85)).alloc (.cells #[.int .i64 0, .int .i64 0, .slice none 0 0, .slice none 0 0, .slice none 0 0, .slice none 0 0] 85))).heap.size by simp]; exact heap_alloc_new _ _) (.cells #[.func (.func 126) #[] #[.pointer (some ⟨w.heap.size + 1 + 1 + 1, 0, none⟩), .pointer (some ⟨w.heap.size, 0, none⟩)]] 173))
  have kf_ : (((((w.alloc (.cells #[.slice A n c] 96)).alloc (.cells #[.int .i64 0, .int .i64 0, .slice none 0 0, .slice none 0 0, .slice none 0 0, .slice none 0 0] 85)).alloc (.cells #[.int .i64 0, .int .i64 0, .slice none 0 0, .slice none 0 0, .slice none 0 0, .slice none 0 0] 85)).alloc (.cells #[.bool true] 4)).alloc (.cells #[.func (.func 126) #[] #[.pointer (some ⟨w.heap.size + 1 + 1 + 1, 0, none⟩), .pointer (some ⟨w.heap.size, 0, none⟩)]] 173)).heap[w.heap.size + 1 + 1 + 1 + 1]? = some (.cells #[.func (.func 126) #[] #[.pointer (some ⟨w.heap.size + 1 + 1 + 1, 0, none⟩), .pointer (some ⟨w.heap.size, 0, none⟩)]] 173) := (by rw [show w.heap.size + 1 + 1 + 1 + 1 = (((((w.alloc (.cells #[.slice A n c] 96)).alloc (.cells #[.int .i64 0, .int .i64 0, .slice none 0 0, .slice none 0 0, .slice none 0 0, .slice none 0 0] 85)).alloc (.cells #[.int .i64 0, .int .i64 0, .slice none 0 0, .slice none 0 0, .slice none 0 0, .slice none 0 0] 85)).alloc (.cells #[.bool true] 4))).heap.size by simp]; exact heap_alloc_new _ _)
  have nq := Aside.mk (fun o => hx.out.sat.new (b := w.heap.size) (show w.heap.size ≤ _ by omega) o)
  have nz := Aside.mk (fun o => hx.out.sat.new (b := w.heap.size + 1) (show w.heap.size ≤ _ by omega) o)
  have nt := Aside.mk (fun o => hx.out.sat.new (b := w.heap.size + 1 + 1) (show w.heap.size ≤ _ by omega) o)
  have np := Aside.mk (fun o => hx.out.sat.new (b := w.heap.size + 1 + 1 + 1) (show w.heap.size ≤ _ by omega) o)
  have nf := Aside.mk (fun o => hx.out.sat.new (b := w.heap.size + 1 + 1 + 1 + 1) (show w.heap.size ≤ _ by omega) o)
  replace hx := Aside.mk ((((((hx.out.alloc (.cells #[.slice A n c] 96)).alloc (.cells #[.int .i64 0, .int .i64 0, .slice none 0 0, .slice none 0 0, .slice none 0 0, .slice none 0 0] 85)).alloc (.cells #[.int .i64 0, .int .i64 0, .slice none 0 0, .slice none 0 0, .slice none 0 0, .slice none 0 0] 85)).alloc (.cells #[.bool true] 4)).alloc (.cells #[.func (.func 126) #[] #[.pointer (some ⟨w.heap.size + 1 + 1 + 1, 0, none⟩), .pointer (some ⟨w.heap.size, 0, none⟩)]] 173)))
  generalize (((((w.alloc (.cells #[.slice A n c] 96)).alloc (.cells #[.int .i64 0, .int .i64 0, .slice none 0 0, .slice none 0 0, .slice none 0 0, .slice none 0 0] 85)).alloc (.cells #[.int .i64 0, .int .i64 0, .slice none 0 0, .slice none 0 0, .slice none 0 0, .slice none 0 0] 85)).alloc (.cells #[.bool true] 4)).alloc (.cells #[.func (.func 126) #[] #[.pointer (some ⟨w.heap.size + 1 + 1 + 1, 0, none⟩), .pointer (some ⟨w.heap.size, 0, none⟩)]] 173)) = W1 at *
  have kq := Aside.mk kq_
  clear kq_
  have kz := Aside.mk kz_
  clear kz_
  have kt := Aside.mk kt_
  clear kt_
  have kp := Aside.mk kp_
  clear kp_
  have kf := Aside.mk kf_
  clear kf_
  obtain ⟨H1, hx2, hle, Bf, hold⟩ := box_freeze hx.out (by omega) kf.out nf.out
  replace hl := Aside.mk (hl.out.mono hle)
  replace nq := Aside.mk (fun o => (hold _ o (by omega)).trans (nq.out o))
  replace nz := Aside.mk (fun o => (hold _ o (by omega)).trans (nz.out o))
  replace nt := Aside.mk (fun o => (hold _ o (by omega)).trans (nt.out o))
  replace np := Aside.mk (fun o => (hold _ o (by omega)).trans (np.out o))
  replace hx := Aside.mk hx2
  replace Bf := Aside.mk Bf
  clear hle hold hx2 kf nf
  have hst := Aside.mk (show St _ W1 (w.heap.size + 1 + 1 + 1) (w.heap.size) l true from ⟨kp.out, ⟨A, n, c, kq.out, hl.out⟩, by omega⟩)
  clear kp kq
  clear hl
  have zt := boxL kt.out
  have HS2 := Aside.mk (fun (w' : World) (hb : Sat w' H1) => show w'.cell? ⟨w.heap.size + 1 + 1 + 1 + 1, 0, none⟩ = some (.func (.func 126) #[] #[.pointer (some ⟨w.heap.size + 1 + 1 + 1, 0, none⟩), .pointer (some ⟨w.heap.size, 0, none⟩)]) from hb _ _ _ (Bf.out 0 _ rfl))
  go_region_held3 (fun w' => w'.cell? ⟨w.heap.size + 1 + 1 + 1 + 1, 0, none⟩ = some (.func (.func 126) #[] #[.pointer (some ⟨w.heap.size + 1 + 1 + 1, 0, none⟩), .pointer (some ⟨w.heap.size, 0, none⟩)]))
    (first | with_reducible exact HS2.out _ hx.out.sat | with_reducible exact HS2.out _ hx.out.sat.drew | with_reducible exact HS2.out _ hs2a | with_reducible exact HS2.out _ hs1a | exact HS2.out _ (hs2a.setCell nt.out _ _) | exact HS2.out _ ((hs2a.setCell nt.out _ _).setCell nt.out _ _))
    ((first
    | (have _t := hst1a; go_simp; go_at_call 126; refine (next_any _ _ (w.heap.size + 1 + 1 + 1) (w.heap.size) _ _ hst1a hs1a hib1a np.out nq.out).mono ?_; rintro e w2 ⟨y2, l2, ok2, rfl, hn2, hst2a, ht2a⟩; have hs2a := ht2a.sat hs1a np.out nq.out; have hib2a := hn2.inB hib1a; have kt2a := (ht2a.block (w.heap.size + 1 + 1) (Nat.lt_of_lt_of_le zt ht1a.size) (by omega) (by omega)).trans ((ht1a.block (w.heap.size + 1 + 1) zt (by omega) (by omega)).trans kt.out); obtain ⟨⟨x0, x1, x2, x3, x4, x5⟩, x6, x7, x8, x9, x10, x11⟩ := kb6 kt2a; have zt2 := boxL kt2a)
    | (go_simp; go_at_call 126; refine (next_any _ (W1.drew) (w.heap.size + 1 + 1 + 1) (w.heap.size) _ _ (hst.out.keep (w' := W1.drew) rfl rfl) hx.out.sat.drew hb.out np.out nq.out).mono ?_; rintro e w1 ⟨y1, l1, ok1, rfl, hn1, hst1a, ht1a⟩; have hs1a := ht1a.sat hx.out.sat.drew np.out nq.out; have hib1a := hn1.inB hb.out)))
  clear x0 x1 x2 x3 x4 x5 x6 x7 x8 x9 x10 x11 zt2 kt2a HS2
  have kz_ : W1.drew.heap[w.heap.size + 1]? = some (.cells #[.int .i64 0, .int .i64 0, .slice none 0 0, .slice none 0 0, .slice none 0 0, .slice none 0 0] 85) := kz.out
  have kt_ : W1.drew.heap[w.heap.size + 1 + 1]? = some (.cells #[.int .i64 0, .int .i64 0, .slice none 0 0, .slice none 0 0, .slice none 0 0, .slice none 0 0] 85) := kt.out
  replace hx := Aside.mk ((hx.out.drew))
  generalize W1.drew = W2 at *
  replace kz := Aside.mk kz_
  clear kz_
  replace kt := Aside.mk kt_
  clear kt_
  replace kz := Aside.mk ((ht1a.block _ (boxL kz.out) (by omega) (by omega)).trans kz.out)
  replace kt := Aside.mk ((ht1a.block _ (boxL kt.out) (by omega) (by omega)).trans kt.out)
  replace hx := Aside.mk (hx.out.tu ht1a np.out nq.out (by omega) (by omega))
  replace kz := Aside.mk ((ht2a.block _ (boxL kz.out) (by omega) (by omega)).trans kz.out)
  replace kt := Aside.mk ((ht2a.block _ (boxL kt.out) (by omega) (by omega)).trans kt.out)
  replace hx := Aside.mk (hx.out.tu ht2a np.out nq.out (by omega) (by omega))
  replace hst := Aside.mk hst2a
  replace hb := Aside.mk hib2a
  clear hst1a hst2a hs1a hs2a hib1a hib2a ht1a ht2a
  have hN := Aside.mk (show NxL l true [y1, y2] l2 ok2 from ⟨_, _, hn1, _, _, hn2, rfl, rfl⟩)
  clear hn1 hn2
  replace hst := Aside.mk ((hst.out.set (b := w.heap.size + 1 + 1) (by omega) (by omega) 0 (.int .i64 y1)).set (b := w.heap.size + 1 + 1) (by omega) (by omega) 1 (.int .i64 y2))
  have kz_ : ((w2.setCell ⟨w.heap.size + 1 + 1, 0, none⟩ (.int .i64 y1)).setCell ⟨w.heap.size + 1 + 1, 1, none⟩ (.int .i64 y2)).heap[w.heap.size + 1]? = some (.cells #[.int .i64 0, .int .i64 0, .slice none 0 0, .slice none 0 0, .slice none 0 0, .slice none 0 0] 85) := (boxS_ne (boxS_ne kz.out (by first | omega | (simp; omega)) 0 (.int .i64 y1)) (by first | omega | (simp; omega)) 1 (.int .i64 y2))
  have kt_ : ((w2.setCell ⟨w.heap.size + 1 + 1, 0, none⟩ (.int .i64 y1)).setCell ⟨w.heap.size + 1 + 1, 1, none⟩ (.int .i64 y2)).heap[w.heap.size + 1 + 1]? = some (.cells #[.int .i64 y1, .int .i64 y2, .slice none 0 0, .slice none 0 0, .slice none 0 0, .slice none 0 0] 85) := (boxS (boxS kt.out 0 (.int .i64 y1)) 1 (.int .i64 y2))
  replace hx := Aside.mk (((hx.out.setCell (b := w.heap.size + 1 + 1) (o := 0) (by first | omega | (simp; omega)) nt.out (.int .i64 y1)).setCell (b := w.heap.size + 1 + 1) (o := 1) (by first | omega | (simp; omega)) nt.out (.int .i64 y2)))
  generalize ((w2.setCell ⟨w.heap.size + 1 + 1, 0, none⟩ (.int .i64 y1)).setCell ⟨w.heap.size + 1 + 1, 1, none⟩ (.int .i64 y2)) = W3 at *
  replace kz := Aside.mk kz_
  clear kz_
  replace kt := Aside.mk kt_
  clear kt_
  have hNa := hN
  clear hN
  have zt := boxL kt.out
  generalize y1 = st at *
  generalize y2 = cols at *
  generalize l2 = lA at *
  generalize ok2 = okA at *
  go_wp2_with fail
  have HS2 := Aside.mk (fun (w' : World) (hb : Sat w' H1) => show w'.cell? ⟨w.heap.size + 1 + 1 + 1 + 1, 0, none⟩ = some (.func (.func 126) #[] #[.pointer (some ⟨w.heap.size + 1 + 1 + 1, 0, none⟩), .pointer (some ⟨w.heap.size, 0, none⟩)]) from hb _ _ _ (Bf.out 0 _ rfl))
  go_region_held3 (fun w' => w'.cell? ⟨w.heap.size + 1 + 1 + 1 + 1, 0, none⟩ = some (.func (.func 126) #[] #[.pointer (some ⟨w.heap.size + 1 + 1 + 1, 0, none⟩), .pointer (some ⟨w.heap.size, 0, none⟩)]))
    (first | with_reducible exact HS2.out _ hx.out.sat | with_reducible exact HS2.out _ hx.out.sat.drew | with_reducible exact HS2.out _ hs2b | with_reducible exact HS2.out _ hs1b | exact HS2.out _ (hs2b.setCell nt.out _ _) | exact HS2.out _ ((hs2b.setCell nt.out _ _).setCell nt.out _ _))
    ((first
    | (have _t := hst1b; go_simp; go_at_call 126; refine (next_any _ _ (w.heap.size + 1 + 1 + 1) (w.heap.size) _ _ hst1b hs1b hib1b np.out nq.out).mono ?_; rintro e w2 ⟨y2, l2, ok2, rfl, hn2, hst2b, ht2b⟩; have hs2b := ht2b.sat hs1b np.out nq.out; have hib2b := hn2.inB hib1b; have kt2b := (ht2b.block (w.heap.size + 1 + 1) (Nat.lt_of_lt_of_le zt ht1b.size) (by omega) (by omega)).trans ((ht1b.block (w.heap.size + 1 + 1) zt (by omega) (by omega)).trans kt.out); obtain ⟨⟨x0, x1, x2, x3, x4, x5⟩, x6, x7, x8, x9, x10, x11⟩ := kb6 kt2b; have zt2 := boxL kt2b)
    | (go_simp; go_at_call 126; refine (next_any _ (W3.drew) (w.heap.size + 1 + 1 + 1) (w.heap.size) _ _ (hst.out.keep (w' := W3.drew) rfl rfl) hx.out.sat.drew hb.out np.out nq.out).mono ?_; rintro e w1 ⟨y1, l1, ok1, rfl, hn1, hst1b, ht1b⟩; have hs1b := ht1b.sat hx.out.sat.drew np.out nq.out; have hib1b := hn1.inB hb.out)))
  clear x0 x1 x2 x3 x4 x5 x6 x7 x8 x9 x10 x11 zt2 kt2b HS2
  have kz_ : W3.drew.heap[w.heap.size + 1]? = some (.cells #[.int .i64 0, .int .i64 0, .slice none 0 0, .slice none 0 0, .slice none 0 0, .slice none 0 0] 85) := kz.out
  have kt_ : W3.drew.heap[w.heap.size + 1 + 1]? = some (.cells #[.int .i64 st, .int .i64 cols, .slice none 0 0, .slice none 0 0, .slice none 0 0, .slice none 0 0] 85) := kt.out
  replace hx := Aside.mk ((hx.out.drew))
  generalize W3.drew = W4 at *
  replace kz := Aside.mk kz_
  clear kz_
  replace kt := Aside.mk kt_
  clear kt_
  replace kz := Aside.mk ((ht1b.block _ (boxL kz.out) (by omega) (by omega)).trans kz.out)
  replace kt := Aside.mk ((ht1b.block _ (boxL kt.out) (by omega) (by omega)).trans kt.out)
  replace hx := Aside.mk (hx.out.tu ht1b np.out nq.out (by omega) (by omega))
  replace kz := Aside.mk ((ht2b.block _ (boxL kz.out) (by omega) (by omega)).trans kz.out)
  replace kt := Aside.mk ((ht2b.block _ (boxL kt.out) (by omega) (by omega)).trans kt.out)
  replace hx := Aside.mk (hx.out.tu ht2b np.out nq.out (by omega) (by omega))
  replace hst := Aside.mk hst2b
  replace hb := Aside.mk hib2b
  clear hst1b hst2b hs1b hs2b hib1b hib2b ht1b ht2b
  have hN := Aside.mk (show NxL l true [st, cols, y1, y2] l2 ok2 from NxL.app hNa.out ⟨_, _, hn1, _, _, hn2, rfl, rfl⟩)
  clear hn1 hn2 hNa
  cases ok2
  case false =>
    have cp := (boxC hst.out.okc 0).1
    simp only [List.getElem?_toArray, List.getElem?_cons_zero] at cp
    have lqz : w.heap.size + 1 < w2.heap.size := boxL kz.out
    have cz0 : w2.cell? ⟨w.heap.size + 1, 0, none⟩ = some (.int .i64 0) := (boxC kz.out 0).1
    have fz0 : w2.frozen? ⟨w.heap.size + 1, 0, none⟩ = false := (boxC kz.out 0).2
    have cz1 : w2.cell? ⟨w.heap.size + 1, 1, none⟩ = some (.int .i64 0) := (boxC kz.out 1).1
    have fz1 : w2.frozen? ⟨w.heap.size + 1, 1, none⟩ = false := (boxC kz.out 1).2
    have cz2 : w2.cell? ⟨w.heap.size + 1, 2, none⟩ = some (.slice none 0 0) := (boxC kz.out 2).1
    have fz2 : w2.frozen? ⟨w.heap.size + 1, 2, none⟩ = false := (boxC kz.out 2).2
    have cz3 : w2.cell? ⟨w.heap.size + 1, 3, none⟩ = some (.slice none 0 0) := (boxC kz.out 3).1
    have fz3 : w2.frozen? ⟨w.heap.size + 1, 3, none⟩ = false := (boxC kz.out 3).2
    have cz4 : w2.cell? ⟨w.heap.size + 1, 4, none⟩ = some (.slice none 0 0) := (boxC kz.out 4).1
    have fz4 : w2.frozen? ⟨w.heap.size + 1, 4, none⟩ = false := (boxC kz.out 4).2
    have cz5 : w2.cell? ⟨w.heap.size + 1, 5, none⟩ = some (.slice none 0 0) := (boxC kz.out 5).1
    have fz5 : w2.frozen? ⟨w.heap.size + 1, 5, none⟩ = false := (boxC kz.out 5).2
    have lqt : w.heap.size + 1 + 1 < w2.heap.size := boxL kt.out
    have ct0 : w2.cell? ⟨w.heap.size + 1 + 1, 0, none⟩ = some (.int .i64 st) := (boxC kt.out 0).1
    have ft0 : w2.frozen? ⟨w.heap.size + 1 + 1, 0, none⟩ = false := (boxC kt.out 0).2
    have ct1 : w2.cell? ⟨w.heap.size + 1 + 1, 1, none⟩ = some (.int .i64 cols) := (boxC kt.out 1).1
    have ft1 : w2.frozen? ⟨w.heap.size + 1 + 1, 1, none⟩ = false := (boxC kt.out 1).2
    have ct2 : w2.cell? ⟨w.heap.size + 1 + 1, 2, none⟩ = some (.slice none 0 0) := (boxC kt.out 2).1
    have ft2 : w2.frozen? ⟨w.heap.size + 1 + 1, 2, none⟩ = false := (boxC kt.out 2).2
    have ct3 : w2.cell? ⟨w.heap.size + 1 + 1, 3, none⟩ = some (.slice none 0 0) := (boxC kt.out 3).1
    have ft3 : w2.frozen? ⟨w.heap.size + 1 + 1, 3, none⟩ = false := (boxC kt.out 3).2
    have ct4 : w2.cell? ⟨w.heap.size + 1 + 1, 4, none⟩ = some (.slice none 0 0) := (boxC kt.out 4).1
    have ft4 : w2.frozen? ⟨w.heap.size + 1 + 1, 4, none⟩ = false := (boxC kt.out 4).2
    have ct5 : w2.cell? ⟨w.heap.size + 1 + 1, 5, none⟩ = some (.slice none 0 0) := (boxC kt.out 5).1
    have ft5 : w2.frozen? ⟨w.heap.size + 1 + 1, 5, none⟩ = false := (boxC kt.out 5).2
    have lqf : w.heap.size + 1 + 1 + 1 + 1 < w2.heap.size := hx.out.sat.lt (Bf.out 0 _ rfl)
    have cf0 : w2.cell? ⟨w.heap.size + 1 + 1 + 1 + 1, 0, none⟩ = some (.func (.func 126) #[] #[.pointer (some ⟨w.heap.size + 1 + 1 + 1, 0, none⟩), .pointer (some ⟨w.heap.size, 0, none⟩)]) := hx.out.sat _ _ _ (Bf.out 0 _ rfl)
    go_wp2_with fail
    clear lqz cz0 fz0 cz1 fz1 cz2 fz2 cz3 fz3 cz4 fz4 cz5 fz5 lqt ct0 ft0 ct1 ft1 ct2 ft2 ct3 ft3 ct4 ft4 ct5 ft5 lqf cf0
    clear cp
    have kz_ : ((((((w2.setCell ⟨w.heap.size + 1, 0, none⟩ (.int .i64 0)).setCell ⟨w.heap.size + 1, 1, none⟩ (.int .i64 0)).setCell ⟨w.heap.size + 1, 2, none⟩ (.slice none 0 0)).setCell ⟨w.heap.size + 1, 3, none⟩ (.slice none 0 0)).setCell ⟨w.heap.size + 1, 4, none⟩ (.slice none 0 0)).setCell ⟨w.heap.size + 1, 5, none⟩ (.slice none 0 0)).heap[w.heap.size + 1]? = some (.cells #[.int .i64 0, .int .i64 0, .slice none 0 0, .slice none 0 0, .slice none 0 0, .slice none 0 0] 85) := (boxS (boxS (boxS (boxS (boxS (boxS kz.out 0 (.int .i64 0)) 1 (.int .i64 0)) 2 (.slice none 0 0)) 3 (.slice none 0 0)) 4 (.slice none 0 0)) 5 (.slice none 0 0))
    have kt_ : ((((((w2.setCell ⟨w.heap.size + 1, 0, none⟩ (.int .i64 0)).setCell ⟨w.heap.size + 1, 1, none⟩ (.int .i64 0)).setCell ⟨w.heap.size + 1, 2, none⟩ (.slice none 0 0)).setCell ⟨w.heap.size + 1, 3, none⟩ (.slice none 0 0)).setCell ⟨w.heap.size + 1, 4, none⟩ (.slice none 0 0)).setCell ⟨w.heap.size + 1, 5, none⟩ (.slice none 0 0)).heap[w.heap.size + 1 + 1]? = some (.cells #[.int .i64 st, .int .i64 cols, .slice none 0 0, .slice none 0 0, .slice none 0 0, .slice none 0 0] 85) := (boxS_ne (boxS_ne (boxS_ne (boxS_ne (boxS_ne (boxS_ne kt.out (by first | omega | (simp; omega)) 0 (.int .i64 0)) (by first | omega | (simp; omega)) 1 (.int .i64 0)) (by first | omega | (simp; omega)) 2 (.slice none 0 0)) (by first | omega | (simp; omega)) 3 (.slice none 0 0)) (by first | omega | (simp; omega)) 4 (.slice none 0 0)) (by first | omega | (simp; omega)) 5 (.slice none 0 0))
    replace hx := Aside.mk (((((((hx.out.setCell (b := w.heap.size + 1) (o := 0) (by first | omega | (simp; omega)) nz.out (.int .i64 0)).setCell (b := w.heap.size + 1) (o := 1) (by first | omega | (simp; omega)) nz.out (.int .i64 0)).setCell (b := w.heap.size + 1) (o := 2) (by first | omega | (simp; omega)) nz.out (.slice none 0 0)).setCell (b := w.heap.size + 1) (o := 3) (by first | omega | (simp; omega)) nz.out (.slice none 0 0)).setCell (b := w.heap.size + 1) (o := 4) (by first | omega | (simp; omega)) nz.out (.slice none 0 0)).setCell (b := w.heap.size + 1) (o := 5) (by first | omega | (simp; omega)) nz.out (.slice none 0 0)))
    generalize ((((((w2.setCell ⟨w.heap.size + 1, 0, none⟩ (.int .i64 0)).setCell ⟨w.heap.size + 1, 1, none⟩ (.int .i64 0)).setCell ⟨w.heap.size + 1, 2, none⟩ (.slice none 0 0)).setCell ⟨w.heap.size + 1, 3, none⟩ (.slice none 0 0)).setCell ⟨w.heap.size + 1, 4, none⟩ (.slice none 0 0)).setCell ⟨w.heap.size + 1, 5, none⟩ (.slice none 0 0)) = W5 at *
    replace kz := Aside.mk kz_
    clear kz_
    replace kt := Aside.mk kt_
    clear kt_
    refine bodyPost_ret (resC2 rfl _ _ _ rfl (run_loadVar_row _ _ _ _ _ (0, 0) _ kz.out Try.underlying85 rfl (by kernel_rfl))) rfl ?_
    exact ⟨_, _, 4, zeroTab, rfl, ⟨none, 0, none, 0, none, 0, none, 0, rfl, SlR.nil _ _, SlR.nil _ _, SlR.nil _ _, SlR.nil _ _⟩, ⟨st, cols, y1, y2, l2, false, hN.out, by rw [if_pos (Or.inl rfl)]; exact ⟨rfl, rfl⟩⟩, hx.out⟩
  case true =>
    by_cases h1 : y1 < 0
    case pos =>
      have cp := (boxC hst.out.okc 0).1
      simp only [List.getElem?_toArray, List.getElem?_cons_zero] at cp
      have lqz : w.heap.size + 1 < w2.heap.size := boxL kz.out
      have cz0 : w2.cell? ⟨w.heap.size + 1, 0, none⟩ = some (.int .i64 0) := (boxC kz.out 0).1
      have fz0 : w2.frozen? ⟨w.heap.size + 1, 0, none⟩ = false := (boxC kz.out 0).2
      have cz1 : w2.cell? ⟨w.heap.size + 1, 1, none⟩ = some (.int .i64 0) := (boxC kz.out 1).1
      have fz1 : w2.frozen? ⟨w.heap.size + 1, 1, none⟩ = false := (boxC kz.out 1).2
      have cz2 : w2.cell? ⟨w.heap.size + 1, 2, none⟩ = some (.slice none 0 0) := (boxC kz.out 2).1
      have fz2 : w2.frozen? ⟨w.heap.size + 1, 2, none⟩ = false := (boxC kz.out 2).2
      have cz3 : w2.cell? ⟨w.heap.size + 1, 3, none⟩ = some (.slice none 0 0) := (boxC kz.out 3).1
      have fz3 : w2.frozen? ⟨w.heap.size + 1, 3, none⟩ = false := (boxC kz.out 3).2
      have cz4 : w2.cell? ⟨w.heap.size + 1, 4, none⟩ = some (.slice none 0 0) := (boxC kz.out 4).1
      have fz4 : w2.frozen? ⟨w.heap.size + 1, 4, none⟩ = false := (boxC kz.out 4).2
      have cz5 : w2.cell? ⟨w.heap.size + 1, 5, none⟩ = some (.slice none 0 0) := (boxC kz.out 5).1
      have fz5 : w2.frozen? ⟨w.heap.size + 1, 5, none⟩ = false := (boxC kz.out 5).2
      have lqt : w.heap.size + 1 + 1 < w2.heap.size := boxL kt.out
      have ct0 : w2.cell? ⟨w.heap.size + 1 + 1, 0, none⟩ = some (.int .i64 st) := (boxC kt.out 0).1
      have ft0 : w2.frozen? ⟨w.heap.size + 1 + 1, 0, none⟩ = false := (boxC kt.out 0).2
      have ct1 : w2.cell? ⟨w.heap.size + 1 + 1, 1, none⟩ = some (.int .i64 cols) := (boxC kt.out 1).1
      have ft1 : w2.frozen? ⟨w.heap.size + 1 + 1, 1, none⟩ = false := (boxC kt.out 1).2
      have ct2 : w2.cell? ⟨w.heap.size + 1 + 1, 2, none⟩ = some (.slice none 0 0) := (boxC kt.out 2).1
      have ft2 : w2.frozen? ⟨w.heap.size + 1 + 1, 2, none⟩ = false := (boxC kt.out 2).2
      have ct3 : w2.cell? ⟨w.heap.size + 1 + 1, 3, none⟩ = some (.slice none 0 0) := (boxC kt.out 3).1
      have ft3 : w2.frozen? ⟨w.heap.size + 1 + 1, 3, none⟩ = false := (boxC kt.out 3).2
      have ct4 : w2.cell? ⟨w.heap.size + 1 + 1, 4, none⟩ = some (.slice none 0 0) := (boxC kt.out 4).1
      have ft4 : w2.frozen? ⟨w.heap.size + 1 + 1, 4, none⟩ = false := (boxC kt.out 4).2
      have ct5 : w2.cell? ⟨w.heap.size + 1 + 1, 5, none⟩ = some (.slice none 0 0) := (boxC kt.out 5).1
      have ft5 : w2.frozen? ⟨w.heap.size + 1 + 1, 5, none⟩ = false := (boxC kt.out 5).2
      have lqf : w.heap.size + 1 + 1 + 1 + 1 < w2.heap.size := hx.out.sat.lt (Bf.out 0 _ rfl)
      have cf0 : w2.cell? ⟨w.heap.size + 1 + 1 + 1 + 1, 0, none⟩ = some (.func (.func 126) #[] #[.pointer (some ⟨w.heap.size + 1 + 1 + 1, 0, none⟩), .pointer (some ⟨w.heap.size, 0, none⟩)]) := hx.out.sat _ _ _ (Bf.out 0 _ rfl)
      go_wp2_with fail
      clear lqz cz0 fz0 cz1 fz1 cz2 fz2 cz3 fz3 cz4 fz4 cz5 fz5 lqt ct0 ft0 ct1 ft1 ct2 ft2 ct3 ft3 ct4 ft4 ct5 ft5 lqf cf0
      clear cp
      have kz_ : ((((((w2.setCell ⟨w.heap.size + 1, 0, none⟩ (.int .i64 0)).setCell ⟨w.heap.size + 1, 1, none⟩ (.int .i64 0)).setCell ⟨w.heap.size + 1, 2, none⟩ (.slice none 0 0)).setCell ⟨w.heap.size + 1, 3, none⟩ (.slice none 0 0)).setCell ⟨w.heap.size + 1, 4, none⟩ (.slice none 0 0)).setCell ⟨w.heap.size + 1, 5, none⟩ (.slice none 0 0)).heap[w.heap.size + 1]? = some (.cells #[.int .i64 0, .int .i64 0, .slice none 0 0, .slice none 0 0, .slice none 0 0, .slice none 0 0] 85) := (boxS (boxS (boxS (boxS (boxS (boxS kz.out 0 (.int .i64 0)) 1 (.int .i64 0)) 2 (.slice none 0 0)) 3 (.slice none 0 0)) 4 (.slice none 0 0)) 5 (.slice none 0 0))
      have kt_ : ((((((w2.setCell ⟨w.heap.size + 1, 0, none⟩ (.int .i64 0)).setCell ⟨w.heap.size + 1, 1, none⟩ (.int .i64 0)).setCell ⟨w.heap.size + 1, 2, none⟩ (.slice none 0 0)).setCell ⟨w.heap.size + 1, 3, none⟩ (.slice none 0 0)).setCell ⟨w.heap.size + 1, 4, none⟩ (.slice none 0 0)).setCell ⟨w.heap.size + 1, 5, none⟩ (.slice none 0 0)).heap[w.heap.size + 1 + 1]? = some (.cells #[.int .i64 st, .int .i64 cols, .slice none 0 0, .slice none 0 0, .slice none 0 0, .slice none 0 0] 85) := (boxS_ne (boxS_ne (boxS_ne (boxS_ne (boxS_ne (boxS_ne kt.out (by first | omega | (simp; omega)) 0 (.int .i64 0)) (by first | omega | (simp; omega)) 1 (.int .i64 0)) (by first | omega | (simp; omega)) 2 (.slice none 0 0)) (by first | omega | (simp; omega)) 3 (.slice none 0 0)) (by first | omega | (simp; omega)) 4 (.slice none 0 0)) (by first | omega | (simp; omega)) 5 (.slice none 0 0))
      replace hx := Aside.mk (((((((hx.out.setCell (b := w.heap.size + 1) (o := 0) (by first | omega | (simp; omega)) nz.out (.int .i64 0)).setCell (b := w.heap.size + 1) (o := 1) (by first | omega | (simp; omega)) nz.out (.int .i64 0)).setCell (b := w.heap.size + 1) (o := 2) (by first | omega | (simp; omega)) nz.out (.slice none 0 0)).setCell (b := w.heap.size + 1) (o := 3) (by first | omega | (simp; omega)) nz.out (.slice none 0 0)).setCell (b := w.heap.size + 1) (o := 4) (by first | omega | (simp; omega)) nz.out (.slice none 0 0)).setCell (b := w.heap.size + 1) (o := 5) (by first | omega | (simp; omega)) nz.out (.slice none 0 0)))
      generalize ((((((w2.setCell ⟨w.heap.size + 1, 0, none⟩ (.int .i64 0)).setCell ⟨w.heap.size + 1, 1, none⟩ (.int .i64 0)).setCell ⟨w.heap.size + 1, 2, none⟩ (.slice none 0 0)).setCell ⟨w.heap.size + 1, 3, none⟩ (.slice none 0 0)).setCell ⟨w.heap.size + 1, 4, none⟩ (.slice none 0 0)).setCell ⟨w.heap.size + 1, 5, none⟩ (.slice none 0 0)) = W6 at *
      replace kz := Aside.mk kz_
      clear kz_
      replace kt := Aside.mk kt_
      clear kt_
      refine bodyPost_ret (resC2 rfl _ _ _ rfl (run_loadVar_row _ _ _ _ _ (0, 0) _ kz.out Try.underlying85 rfl (by kernel_rfl))) rfl ?_
      exact ⟨_, _, 4, zeroTab, rfl, ⟨none, 0, none, 0, none, 0, none, 0, rfl, SlR.nil _ _, SlR.nil _ _, SlR.nil _ _, SlR.nil _ _⟩, ⟨st, cols, y1, y2, l2, true, hN.out, by rw [if_pos (Or.inr (Or.inl h1))]; exact ⟨rfl, rfl⟩⟩, hx.out⟩
    case neg =>
      by_cases h2 : y2 < 0
      case pos =>
        have cp := (boxC hst.out.okc 0).1
        simp only [List.getElem?_toArray, List.getElem?_cons_zero] at cp
        have lqz : w.heap.size + 1 < w2.heap.size := boxL kz.out
        have cz0 : w2.cell? ⟨w.heap.size + 1, 0, none⟩ = some (.int .i64 0) := (boxC kz.out 0).1
        have fz0 : w2.frozen? ⟨w.heap.size + 1, 0, none⟩ = false := (boxC kz.out 0).2
        have cz1 : w2.cell? ⟨w.heap.size + 1, 1, none⟩ = some (.int .i64 0) := (boxC kz.out 1).1
        have fz1 : w2.frozen? ⟨w.heap.size + 1, 1, none⟩ = false := (boxC kz.out 1).2
        have cz2 : w2.cell? ⟨w.heap.size + 1, 2, none⟩ = some (.slice none 0 0) := (boxC kz.out 2).1
        have fz2 : w2.frozen? ⟨w.heap.size + 1, 2, none⟩ = false := (boxC kz.out 2).2
        have cz3 : w2.cell? ⟨w.heap.size + 1, 3, none⟩ = some (.slice none 0 0) := (boxC kz.out 3).1
        have fz3 : w2.frozen? ⟨w.heap.size + 1, 3, none⟩ = false := (boxC kz.out 3).2
        have cz4 : w2.cell? ⟨w.heap.size + 1, 4, none⟩ = some (.slice none 0 0) := (boxC kz.out 4).1
        have fz4 : w2.frozen? ⟨w.heap.size + 1, 4, none⟩ = false := (boxC kz.out 4).2
        have cz5 : w2.cell? ⟨w.heap.size + 1, 5, none⟩ = some (.slice none 0 0) := (boxC kz.out 5).1
        have fz5 : w2.frozen? ⟨w.heap.size + 1, 5, none⟩ = false := (boxC kz.out 5).2
        have lqt : w.heap.size + 1 + 1 < w2.heap.size := boxL kt.out
        have ct0 : w2.cell? ⟨w.heap.size + 1 + 1, 0, none⟩ = some (.int .i64 st) := (boxC kt.out 0).1
        have ft0 : w2.frozen? ⟨w.heap.size + 1 + 1, 0, none⟩ = false := (boxC kt.out 0).2
        have ct1 : w2.cell? ⟨w.heap.size + 1 + 1, 1, none⟩ = some (.int .i64 cols) := (boxC kt.out 1).1
        have ft1 : w2.frozen? ⟨w.heap.size + 1 + 1, 1, none⟩ = false := (boxC kt.out 1).2
        have ct2 : w2.cell? ⟨w.heap.size + 1 + 1, 2, none⟩ = some (.slice none 0 0) := (boxC kt.out 2).1
        have ft2 : w2.frozen? ⟨w.heap.size + 1 + 1, 2, none⟩ = false := (boxC kt.out 2).2
        have ct3 : w2.cell? ⟨w.heap.size + 1 + 1, 3, none⟩ = some (.slice none 0 0) := (boxC kt.out 3).1
        have ft3 : w2.frozen? ⟨w.heap.size + 1 + 1, 3, none⟩ = false := (boxC kt.out 3).2
        have ct4 : w2.cell? ⟨w.heap.size + 1 + 1, 4, none⟩ = some (.slice none 0 0) := (boxC kt.out 4).1
        have ft4 : w2.frozen? ⟨w.heap.size + 1 + 1, 4, none⟩ = false := (boxC kt.out 4).2
        have ct5 : w2.cell? ⟨w.heap.size + 1 + 1, 5, none⟩ = some (.slice none 0 0) := (boxC kt.out 5).1
        have ft5 : w2.frozen? ⟨w.heap.size + 1 + 1, 5, none⟩ = false := (boxC kt.out 5).2
        have lqf : w.heap.size + 1 + 1 + 1 + 1 < w2.heap.size := hx.out.sat.lt (Bf.out 0 _ rfl)
        have cf0 : w2.cell? ⟨w.heap.size + 1 + 1 + 1 + 1, 0, none⟩ = some (.func (.func 126) #[] #[.pointer (some ⟨w.heap.size + 1 + 1 + 1, 0, none⟩), .pointer (some ⟨w.heap.size, 0, none⟩)]) := hx.out.sat _ _ _ (Bf.out 0 _ rfl)
        go_wp2_with fail
        clear lqz cz0 fz0 cz1 fz1 cz2 fz2 cz3 fz3 cz4 fz4 cz5 fz5 lqt ct0 ft0 ct1 ft1 ct2 ft2 ct3 ft3 ct4 ft4 ct5 ft5 lqf cf0
        clear cp
        have kz_ : ((((((w2.setCell ⟨w.heap.size + 1, 0, none⟩ (.int .i64 0)).setCell ⟨w.heap.size + 1, 1, none⟩ (.int .i64 0)).setCell ⟨w.heap.size + 1, 2, none⟩ (.slice none 0 0)).setCell ⟨w.heap.size + 1, 3, none⟩ (.slice none 0 0)).setCell ⟨w.heap.size + 1, 4, none⟩ (.slice none 0 0)).setCell ⟨w.heap.size + 1, 5, none⟩ (.slice none 0 0)).heap[w.heap.size + 1]? = some (.cells #[.int .i64 0, .int .i64 0, .slice none 0 0, .slice none 0 0, .slice none 0 0, .slice none 0 0] 85) := (boxS (boxS (boxS (boxS (boxS (boxS kz.out 0 (.int .i64 0)) 1 (.int .i64 0)) 2 (.slice none 0 0)) 3 (.slice none 0 0)) 4 (.slice none 0 0)) 5 (.slice none 0 0))
        have kt_ : ((((((w2.setCell ⟨w.heap.size + 1, 0, none⟩ (.int .i64 0)).setCell ⟨w.heap.size + 1, 1, none⟩ (.int .i64 0)).setCell ⟨w.heap.size + 1, 2, none⟩ (.slice none 0 0)).setCell ⟨w.heap.size + 1, 3, none⟩ (.slice none 0 0)).setCell ⟨w.heap.size + 1, 4, none⟩ (.slice none 0 0)).setCell ⟨w.heap.size + 1, 5, none⟩ (.slice none 0 0)).heap[w.heap.size + 1 + 1]? = some (.cells #[.int .i64 st, .int .i64 cols, .slice none 0 0, .slice none 0 0, .slice none 0 0, .slice none 0 0] 85) := (boxS_ne (boxS_ne (boxS_ne (boxS_ne (boxS_ne (boxS_ne kt.out (by first | omega | (simp; omega)) 0 (.int .i64 0)) (by first | omega | (simp; omega)) 1 (.int .i64 0)) (by first | omega | (simp; omega)) 2 (.slice none 0 0)) (by first | omega | (simp; omega)) 3 (.slice none 0 0)) (by first | omega | (simp; omega)) 4 (.slice none 0 0)) (by first | omega | (simp; omega)) 5 (.slice none 0 0))
        replace hx := Aside.mk (((((((hx.out.setCell (b := w.heap.size + 1) (o := 0) (by first | omega | (simp; omega)) nz.out (.int .i64 0)).setCell (b := w.heap.size + 1) (o := 1) (by first | omega | (simp; omega)) nz.out (.int .i64 0)).setCell (b := w.heap.size + 1) (o := 2) (by first | omega | (simp; omega)) nz.out (.slice none 0 0)).setCell (b := w.heap.size + 1) (o := 3) (by first | omega | (simp; omega)) nz.out (.slice none 0 0)).setCell (b := w.heap.size + 1) (o := 4) (by first | omega | (simp; omega)) nz.out (.slice none 0 0)).setCell (b := w.heap.size + 1) (o := 5) (by first | omega | (simp; omega)) nz.out (.slice none 0 0)))
        generalize ((((((w2.setCell ⟨w.heap.size + 1, 0, none⟩ (.int .i64 0)).setCell ⟨w.heap.size + 1, 1, none⟩ (.int .i64 0)).setCell ⟨w.heap.size + 1, 2, none⟩ (.slice none 0 0)).setCell ⟨w.heap.size + 1, 3, none⟩ (.slice none 0 0)).setCell ⟨w.heap.size + 1, 4, none⟩ (.slice none 0 0)).setCell ⟨w.heap.size + 1, 5, none⟩ (.slice none 0 0)) = W7 at *
        replace kz := Aside.mk kz_
        clear kz_
        replace kt := Aside.mk kt_
        clear kt_
        refine bodyPost_ret (resC2 rfl _ _ _ rfl (run_loadVar_row _ _ _ _ _ (0, 0) _ kz.out Try.underlying85 rfl (by kernel_rfl))) rfl ?_
        exact ⟨_, _, 4, zeroTab, rfl, ⟨none, 0, none, 0, none, 0, none, 0, rfl, SlR.nil _ _, SlR.nil _ _, SlR.nil _ _, SlR.nil _ _⟩, ⟨st, cols, y1, y2, l2, true, hN.out, by rw [if_pos (Or.inr (Or.inr h2))]; exact ⟨rfl, rfl⟩⟩, hx.out⟩
      case neg =>
        have hg0 : ¬ (true = false ∨ y1 < 0 ∨ y2 < 0) := by rintro (h | h | h); cases h; exact h1 h; exact h2 h
        replace hg0 := Aside.mk hg0
        by_cases h3 : y1 > 200
        case pos =>
          have cp := (boxC hst.out.okc 0).1
          simp only [List.getElem?_toArray, List.getElem?_cons_zero] at cp
          have lqz : w.heap.size + 1 < w2.heap.size := boxL kz.out
          have cz0 : w2.cell? ⟨w.heap.size + 1, 0, none⟩ = some (.int .i64 0) := (boxC kz.out 0).1
          have fz0 : w2.frozen? ⟨w.heap.size + 1, 0, none⟩ = false := (boxC kz.out 0).2
          have cz1 : w2.cell? ⟨w.heap.size + 1, 1, none⟩ = some (.int .i64 0) := (boxC kz.out 1).1
          have fz1 : w2.frozen? ⟨w.heap.size + 1, 1, none⟩ = false := (boxC kz.out 1).2
          have cz2 : w2.cell? ⟨w.heap.size + 1, 2, none⟩ = some (.slice none 0 0) := (boxC kz.out 2).1
          have fz2 : w2.frozen? ⟨w.heap.size + 1, 2, none⟩ = false := (boxC kz.out 2).2
          have cz3 : w2.cell? ⟨w.heap.size + 1, 3, none⟩ = some (.slice none 0 0) := (boxC kz.out 3).1
          have fz3 : w2.frozen? ⟨w.heap.size + 1, 3, none⟩ = false := (boxC kz.out 3).2
          have cz4 : w2.cell? ⟨w.heap.size + 1, 4, none⟩ = some (.slice none 0 0) := (boxC kz.out 4).1
          have fz4 : w2.frozen? ⟨w.heap.size + 1, 4, none⟩ = false := (boxC kz.out 4).2
          have cz5 : w2.cell? ⟨w.heap.size + 1, 5, none⟩ = some (.slice none 0 0) := (boxC kz.out 5).1
          have fz5 : w2.frozen? ⟨w.heap.size + 1, 5, none⟩ = false := (boxC kz.out 5).2
          have lqt : w.heap.size + 1 + 1 < w2.heap.size := boxL kt.out
          have ct0 : w2.cell? ⟨w.heap.size + 1 + 1, 0, none⟩ = some (.int .i64 st) := (boxC kt.out 0).1
          have ft0 : w2.frozen? ⟨w.heap.size + 1 + 1, 0, none⟩ = false := (boxC kt.out 0).2
          have ct1 : w2.cell? ⟨w.heap.size + 1 + 1, 1, none⟩ = some (.int .i64 cols) := (boxC kt.out 1).1
          have ft1 : w2.frozen? ⟨w.heap.size + 1 + 1, 1, none⟩ = false := (boxC kt.out 1).2
          have ct2 : w2.cell? ⟨w.heap.size + 1 + 1, 2, none⟩ = some (.slice none 0 0) := (boxC kt.out 2).1
          have ft2 : w2.frozen? ⟨w.heap.size + 1 + 1, 2, none⟩ = false := (boxC kt.out 2).2
          have ct3 : w2.cell? ⟨w.heap.size + 1 + 1, 3, none⟩ = some (.slice none 0 0) := (boxC kt.out 3).1
          have ft3 : w2.frozen? ⟨w.heap.size + 1 + 1, 3, none⟩ = false := (boxC kt.out 3).2
          have ct4 : w2.cell? ⟨w.heap.size + 1 + 1, 4, none⟩ = some (.slice none 0 0) := (boxC kt.out 4).1
          have ft4 : w2.frozen? ⟨w.heap.size + 1 + 1, 4, none⟩ = false := (boxC kt.out 4).2
          have ct5 : w2.cell? ⟨w.heap.size + 1 + 1, 5, none⟩ = some (.slice none 0 0) := (boxC kt.out 5).1
          have ft5 : w2.frozen? ⟨w.heap.size + 1 + 1, 5, none⟩ = false := (boxC kt.out 5).2
          have lqf : w.heap.size + 1 + 1 + 1 + 1 < w2.heap.size := hx.out.sat.lt (Bf.out 0 _ rfl)
          have cf0 : w2.cell? ⟨w.heap.size + 1 + 1 + 1 + 1, 0, none⟩ = some (.func (.func 126) #[] #[.pointer (some ⟨w.heap.size + 1 + 1 + 1, 0, none⟩), .pointer (some ⟨w.heap.size, 0, none⟩)]) := hx.out.sat _ _ _ (Bf.out 0 _ rfl)
          go_wp2_with fail
          clear lqz cz0 fz0 cz1 fz1 cz2 fz2 cz3 fz3 cz4 fz4 cz5 fz5 lqt ct0 ft0 ct1 ft1 ct2 ft2 ct3 ft3 ct4 ft4 ct5 ft5 lqf cf0
          clear cp
          have kz_ : ((((((w2.setCell ⟨w.heap.size + 1, 0, none⟩ (.int .i64 0)).setCell ⟨w.heap.size + 1, 1, none⟩ (.int .i64 0)).setCell ⟨w.heap.size + 1, 2, none⟩ (.slice none 0 0)).setCell ⟨w.heap.size + 1, 3, none⟩ (.slice none 0 0)).setCell ⟨w.heap.size + 1, 4, none⟩ (.slice none 0 0)).setCell ⟨w.heap.size + 1, 5, none⟩ (.slice none 0 0)).heap[w.heap.size + 1]? = some (.cells #[.int .i64 0, .int .i64 0, .slice none 0 0, .slice none 0 0, .slice none 0 0, .slice none 0 0] 85) := (boxS (boxS (boxS (boxS (boxS (boxS kz.out 0 (.int .i64 0)) 1 (.int .i64 0)) 2 (.slice none 0 0)) 3 (.slice none 0 0)) 4 (.slice none 0 0)) 5 (.slice none 0 0))
          have kt_ : ((((((w2.setCell ⟨w.heap.size + 1, 0, none⟩ (.int .i64 0)).setCell ⟨w.heap.size + 1, 1, none⟩ (.int .i64 0)).setCell ⟨w.heap.size + 1, 2, none⟩ (.slice none 0 0)).setCell ⟨w.heap.size + 1, 3, none⟩ (.slice none 0 0)).setCell ⟨w.heap.size + 1, 4, none⟩ (.slice none 0 0)).setCell ⟨w.heap.size + 1, 5, none⟩ (.slice none 0 0)).heap[w.heap.size + 1 + 1]? = some (.cells #[.int .i64 st, .int .i64 cols, .slice none 0 0, .slice none 0 0, .slice none 0 0, .slice none 0 0] 85) := (boxS_ne (boxS_ne (boxS_ne (boxS_ne (boxS_ne (boxS_ne kt.out (by first | omega | (simp; omega)) 0 (.int .i64 0)) (by first | omega | (simp; omega)) 1 (.int .i64 0)) (by first | omega | (simp; omega)) 2 (.slice none 0 0)) (by first | omega | (simp; omega)) 3 (.slice none 0 0)) (by first | omega | (simp; omega)) 4 (.slice none 0 0)) (by first | omega | (simp; omega)) 5 (.slice none 0 0))
          replace hx := Aside.mk (((((((hx.out.setCell (b := w.heap.size + 1) (o := 0) (by first | omega | (simp; omega)) nz.out (.int .i64 0)).setCell (b := w.heap.size + 1) (o := 1) (by first | omega | (simp; omega)) nz.out (.int .i64 0)).setCell (b := w.heap.size + 1) (o := 2) (by first | omega | (simp; omega)) nz.out (.slice none 0 0)).setCell (b := w.heap.size + 1) (o := 3) (by first | omega | (simp; omega)) nz.out (.slice none 0 0)).setCell (b := w.heap.size + 1) (o := 4) (by first | omega | (simp; omega)) nz.out (.slice none 0 0)).setCell (b := w.heap.size + 1) (o := 5) (by first | omega | (simp; omega)) nz.out (.slice none 0 0)))
          generalize ((((((w2.setCell ⟨w.heap.size + 1, 0, none⟩ (.int .i64 0)).setCell ⟨w.heap.size + 1, 1, none⟩ (.int .i64 0)).setCell ⟨w.heap.size + 1, 2, none⟩ (.slice none 0 0)).setCell ⟨w.heap.size + 1, 3, none⟩ (.slice none 0 0)).setCell ⟨w.heap.size + 1, 4, none⟩ (.slice none 0 0)).setCell ⟨w.heap.size + 1, 5, none⟩ (.slice none 0 0)) = W8 at *
          replace kz := Aside.mk kz_
          clear kz_
          replace kt := Aside.mk kt_
          clear kt_
          refine bodyPost_ret (resC2 rfl _ _ _ rfl (run_loadVar_row _ _ _ _ _ (0, 0) _ kz.out Try.underlying85 rfl (by kernel_rfl))) rfl ?_
          exact ⟨_, _, 2, zeroTab, rfl, ⟨none, 0, none, 0, none, 0, none, 0, rfl, SlR.nil _ _, SlR.nil _ _, SlR.nil _ _, SlR.nil _ _⟩, ⟨st, cols, y1, y2, l2, true, hN.out, by rw [if_neg hg0.out, if_pos (Or.inl h3)]; exact ⟨rfl, rfl⟩⟩, hx.out⟩
        case neg =>
          by_cases h4 : y2 > 3200
          case pos =>
            have cp := (boxC hst.out.okc 0).1
            simp only [List.getElem?_toArray, List.getElem?_cons_zero] at cp
            have lqz : w.heap.size + 1 < w2.heap.size := boxL kz.out
            have cz0 : w2.cell? ⟨w.heap.size + 1, 0, none⟩ = some (.int .i64 0) := (boxC kz.out 0).1
            have fz0 : w2.frozen? ⟨w.heap.size + 1, 0, none⟩ = false := (boxC kz.out 0).2
            have cz1 : w2.cell? ⟨w.heap.size + 1, 1, none⟩ = some (.int .i64 0) := (boxC kz.out 1).1
            have fz1 : w2.frozen? ⟨w.heap.size + 1, 1, none⟩ = false := (boxC kz.out 1).2
            have cz2 : w2.cell? ⟨w.heap.size + 1, 2, none⟩ = some (.slice none 0 0) := (boxC kz.out 2).1
            have fz2 : w2.frozen? ⟨w.heap.size + 1, 2, none⟩ = false := (boxC kz.out 2).2
            have cz3 : w2.cell? ⟨w.heap.size + 1, 3, none⟩ = some (.slice none 0 0) := (boxC kz.out 3).1
            have fz3 : w2.frozen? ⟨w.heap.size + 1, 3, none⟩ = false := (boxC kz.out 3).2
            have cz4 : w2.cell? ⟨w.heap.size + 1, 4, none⟩ = some (.slice none 0 0) := (boxC kz.out 4).1
            have fz4 : w2.frozen? ⟨w.heap.size + 1, 4, none⟩ = false := (boxC kz.out 4).2
            have cz5 : w2.cell? ⟨w.heap.size + 1, 5, none⟩ = some (.slice none 0 0) := (boxC kz.out 5).1
            have fz5 : w2.frozen? ⟨w.heap.size + 1, 5, none⟩ = false := (boxC kz.out 5).2
            have lqt : w.heap.size + 1 + 1 < w2.heap.size := boxL kt.out
            have ct0 : w2.cell? ⟨w.heap.size + 1 + 1, 0, none⟩ = some (.int .i64 st) := (boxC kt.out 0).1
            have ft0 : w2.frozen? ⟨w.heap.size + 1 + 1, 0, none⟩ = false := (boxC kt.out 0).2
            have ct1 : w2.cell? ⟨w.heap.size + 1 + 1, 1, none⟩ = some (.int .i64 cols) := (boxC kt.out 1).1
            have ft1 : w2.frozen? ⟨w.heap.size + 1 + 1, 1, none⟩ = false := (boxC kt.out 1).2
            have ct2 : w2.cell? ⟨w.heap.size + 1 + 1, 2, none⟩ = some (.slice none 0 0) := (boxC kt.out 2).1
            have ft2 : w2.frozen? ⟨w.heap.size + 1 + 1, 2, none⟩ = false := (boxC kt.out 2).2
            have ct3 : w2.cell? ⟨w.heap.size + 1 + 1, 3, none⟩ = some (.slice none 0 0) := (boxC kt.out 3).1
            have ft3 : w2.frozen? ⟨w.heap.size + 1 + 1, 3, none⟩ = false := (boxC kt.out 3).2
            have ct4 : w2.cell? ⟨w.heap.size + 1 + 1, 4, none⟩ = some (.slice none 0 0) := (boxC kt.out 4).1
            have ft4 : w2.frozen? ⟨w.heap.size + 1 + 1, 4, none⟩ = false := (boxC kt.out 4).2
            have ct5 : w2.cell? ⟨w.heap.size + 1 + 1, 5, none⟩ = some (.slice none 0 0) := (boxC kt.out 5).1
            have ft5 : w2.frozen? ⟨w.heap.size + 1 + 1, 5, none⟩ = false := (boxC kt.out 5).2
            have lqf : w.heap.size + 1 + 1 + 1 + 1 < w2.heap.size := hx.out.sat.lt (Bf.out 0 _ rfl)
            have cf0 : w2.cell? ⟨w.heap.size + 1 + 1 + 1 + 1, 0, none⟩ = some (.func (.func 126) #[] #[.pointer (some ⟨w.heap.size + 1 + 1 + 1, 0, none⟩), .pointer (some ⟨w.heap.size, 0, none⟩)]) := hx.out.sat _ _ _ (Bf.out 0 _ rfl)
            go_wp2_with fail
            clear lqz cz0 fz0 cz1 fz1 cz2 fz2 cz3 fz3 cz4 fz4 cz5 fz5 lqt ct0 ft0 ct1 ft1 ct2 ft2 ct3 ft3 ct4 ft4 ct5 ft5 lqf cf0
            clear cp
            have kz_ : ((((((w2.setCell ⟨w.heap.size + 1, 0, none⟩ (.int .i64 0)).setCell ⟨w.heap.size + 1, 1, none⟩ (.int .i64 0)).setCell ⟨w.heap.size + 1, 2, none⟩ (.slice none 0 0)).setCell ⟨w.heap.size + 1, 3, none⟩ (.slice none 0 0)).setCell ⟨w.heap.size + 1, 4, none⟩ (.slice none 0 0)).setCell ⟨w.heap.size + 1, 5, none⟩ (.slice none 0 0)).heap[w.heap.size + 1]? = some (.cells #[.int .i64 0, .int .i64 0, .slice none 0 0, .slice none 0 0, .slice none 0 0, .slice none 0 0] 85) := (boxS (boxS (boxS (boxS (boxS (boxS kz.out 0 (.int .i64 0)) 1 (.int .i64 0)) 2 (.slice none 0 0)) 3 (.slice none 0 0)) 4 (.slice none 0 0)) 5 (.slice none 0 0))
            have kt_ : ((((((w2.setCell ⟨w.heap.size + 1, 0, none⟩ (.int .i64 0)).setCell ⟨w.heap.size + 1, 1, none⟩ (.int .i64 0)).setCell ⟨w.heap.size + 1, 2, none⟩ (.slice none 0 0)).setCell ⟨w.heap.size + 1, 3, none⟩ (.slice none 0 0)).setCell ⟨w.heap.size + 1, 4, none⟩ (.slice none 0 0)).setCell ⟨w.heap.size + 1, 5, none⟩ (.slice none 0 0)).heap[w.heap.size + 1 + 1]? = some (.cells #[.int .i64 st, .int .i64 cols, .slice none 0 0, .slice none 0 0, .slice none 0 0, .slice none 0 0] 85) := (boxS_ne (boxS_ne (boxS_ne (boxS_ne (boxS_ne (boxS_ne kt.out (by first | omega | (simp; omega)) 0 (.int .i64 0)) (by first | omega | (simp; omega)) 1 (.int .i64 0)) (by first | omega | (simp; omega)) 2 (.slice none 0 0)) (by first | omega | (simp; omega)) 3 (.slice none 0 0)) (by first | omega | (simp; omega)) 4 (.slice none 0 0)) (by first | omega | (simp; omega)) 5 (.slice none 0 0))
            replace hx := Aside.mk (((((((hx.out.setCell (b := w.heap.size + 1) (o := 0) (by first | omega | (simp; omega)) nz.out (.int .i64 0)).setCell (b := w.heap.size + 1) (o := 1) (by first | omega | (simp; omega)) nz.out (.int .i64 0)).setCell (b := w.heap.size + 1) (o := 2) (by first | omega | (simp; omega)) nz.out (.slice none 0 0)).setCell (b := w.heap.size + 1) (o := 3) (by first | omega | (simp; omega)) nz.out (.slice none 0 0)).setCell (b := w.heap.size + 1) (o := 4) (by first | omega | (simp; omega)) nz.out (.slice none 0 0)).setCell (b := w.heap.size + 1) (o := 5) (by first | omega | (simp; omega)) nz.out (.slice none 0 0)))
            generalize ((((((w2.setCell ⟨w.heap.size + 1, 0, none⟩ (.int .i64 0)).setCell ⟨w.heap.size + 1, 1, none⟩ (.int .i64 0)).setCell ⟨w.heap.size + 1, 2, none⟩ (.slice none 0 0)).setCell ⟨w.heap.size + 1, 3, none⟩ (.slice none 0 0)).setCell ⟨w.heap.size + 1, 4, none⟩ (.slice none 0 0)).setCell ⟨w.heap.size + 1, 5, none⟩ (.slice none 0 0)) = W9 at *
            replace kz := Aside.mk kz_
            clear kz_
            replace kt := Aside.mk kt_
            clear kt_
            refine bodyPost_ret (resC2 rfl _ _ _ rfl (run_loadVar_row _ _ _ _ _ (0, 0) _ kz.out Try.underlying85 rfl (by kernel_rfl))) rfl ?_
            exact ⟨_, _, 2, zeroTab, rfl, ⟨none, 0, none, 0, none, 0, none, 0, rfl, SlR.nil _ _, SlR.nil _ _, SlR.nil _ _, SlR.nil _ _⟩, ⟨st, cols, y1, y2, l2, true, hN.out, by rw [if_neg hg0.out, if_pos (Or.inr h4)]; exact ⟨rfl, rfl⟩⟩, hx.out⟩
          case neg =>
            have hg1 : ¬ (200 < y1 ∨ 3200 < y2) := by rintro (h | h); exact h3 h; exact h4 h
            replace hg1 := Aside.mk hg1
            have hy1 : y1 = (y1.toNat : Int) := by omega
            have hy2 : y2 = (y2.toNat : Int) := by omega
            have hm1 : y1.toNat ≤ 3200 := by omega
            have hm2 : y2.toNat ≤ 3200 := by omega
            have HY := Aside.mk (And.intro hy1 (And.intro hy2 (And.intro hm1 hm2)))
            clear hy1 hy2 hm1 hm2
            have cp := (boxC hst.out.okc 0).1
            simp only [List.getElem?_toArray, List.getElem?_cons_zero] at cp
            go_wp2_with fail
            clear cp
            have hsz_ := hx.out.size
            have hlt_ := hst.out.lt.1
            refine (list_anyI _ w2 (w.heap.size + 1 + 1 + 1) (w.heap.size) (w.heap.size + 1 + 1 + 1 + 1) _ y1 _ _ HY.out.1 hst.out hx.out.sat hb.out np.out nq.out (Bf.out 0 _ rfl) HY.out.2.2.1).mono ?_
            rintro e w10 ⟨v1, ra, l1, ok1, rfl, ho1, hlra, hnra, hst1, ht1⟩
            obtain ⟨Bra, dra, e1, -, -, -, -⟩ := ho1.form
            generalize hm1 : ra.length = m1 at e1
            subst e1
            subst hm1
            replace kz := Aside.mk ((ht1.block _ (boxL kz.out) (by omega) (by omega)).trans kz.out)
            replace kt := Aside.mk ((ht1.block _ (boxL kt.out) (by omega) (by omega)).trans kt.out)
            replace hx := Aside.mk (hx.out.tu ht1 np.out nq.out (by omega) (by omega))
            replace hst := Aside.mk hst1
            replace hb := Aside.mk (hnra.inB hb.out)
            replace hnra := Aside.mk hnra
            obtain ⟨H5, hx5, hle, ⟨A_, c_, e1, hra⟩, hold⟩ := ho1.freezeE hx.out (by omega) (by rw [hlra]; omega)
            simp only [List.cons.injEq, Value.slice.injEq, and_true, true_and] at e1
            obtain ⟨rfl, rfl⟩ := e1
            replace Bf := Aside.mk (Bf.out.mono hle)
            replace nz := Aside.mk (fun o => (hold _ o (fun e => by have h1 := (ho1.blk e).1; omega)).trans (nz.out o))
            replace nt := Aside.mk (fun o => (hold _ o (fun e => by have h1 := (ho1.blk e).1; omega)).trans (nt.out o))
            replace np := Aside.mk (fun o => (hold _ o (fun e => by have h1 := (ho1.blk e).1; omega)).trans (np.out o))
            replace nq := Aside.mk (fun o => (hold _ o (fun e => by have h1 := (ho1.blk e).1; omega)).trans (nq.out o))
            replace hst := Aside.mk (hst.out.mono hle)
            replace hx := Aside.mk hx5
            replace hra := Aside.mk hra
            replace hlra := Aside.mk hlra
            clear hle hold hx5 ho1 hst1 ht1 hsz_ hlt_
            generalize l1 = l_ra at *
            generalize ok1 = ok_ra at *
            go_wp2_with fail
            have hsz_ := hx.out.size
            have hlt_ := hst.out.lt.1
            refine (list_anyI _ w10 (w.heap.size + 1 + 1 + 1) (w.heap.size) (w.heap.size + 1 + 1 + 1 + 1) _ y1 _ _ HY.out.1 hst.out hx.out.sat hb.out np.out nq.out (Bf.out 0 _ rfl) HY.out.2.2.1).mono ?_
            rintro e w11 ⟨v1, rb, l1, ok1, rfl, ho1, hlrb, hnrb, hst1, ht1⟩
            obtain ⟨Brb, drb, e1, -, -, -, -⟩ := ho1.form
            generalize hm1 : rb.length = m1 at e1
            subst e1
            subst hm1
            replace kz := Aside.mk ((ht1.block _ (boxL kz.out) (by omega) (by omega)).trans kz.out)
            replace kt := Aside.mk ((ht1.block _ (boxL kt.out) (by omega) (by omega)).trans kt.out)
            replace hx := Aside.mk (hx.out.tu ht1 np.out nq.out (by omega) (by omega))
            replace hst := Aside.mk hst1
            replace hb := Aside.mk (hnrb.inB hb.out)
            replace hnrb := Aside.mk hnrb
            obtain ⟨H5, hx5, hle, ⟨A_, c_, e1, hrb⟩, hold⟩ := ho1.freezeE hx.out (by omega) (by rw [hlrb]; omega)
            simp only [List.cons.injEq, Value.slice.injEq, and_true, true_and] at e1
            obtain ⟨rfl, rfl⟩ := e1
            replace hra := Aside.mk (hra.out.mono hle)
            replace Bf := Aside.mk (Bf.out.mono hle)
            replace nz := Aside.mk (fun o => (hold _ o (fun e => by have h1 := (ho1.blk e).1; omega)).trans (nz.out o))
            replace nt := Aside.mk (fun o => (hold _ o (fun e => by have h1 := (ho1.blk e).1; omega)).trans (nt.out o))
            replace np := Aside.mk (fun o => (hold _ o (fun e => by have h1 := (ho1.blk e).1; omega)).trans (np.out o))
            replace nq := Aside.mk (fun o => (hold _ o (fun e => by have h1 := (ho1.blk e).1; omega)).trans (nq.out o))
            replace hst := Aside.mk (hst.out.mono hle)
            replace hx := Aside.mk hx5
            replace hrb := Aside.mk hrb
            replace hlrb := Aside.mk hlrb
            clear hle hold hx5 ho1 hst1 ht1 hsz_ hlt_
            generalize l1 = l_rb at *
            generalize ok1 = ok_rb at *
            replace hst := Aside.mk ((hst.out.set (b := w.heap.size + 1 + 1) (by omega) (by omega) 2 (.slice Bra ra.length dra)).set (b := w.heap.size + 1 + 1) (by omega) (by omega) 3 (.slice Brb rb.length drb))
            have lqz : w.heap.size + 1 < w11.heap.size := boxL kz.out
            have cz0 : w11.cell? ⟨w.heap.size + 1, 0, none⟩ = some (.int .i64 0) := (boxC kz.out 0).1
            have fz0 : w11.frozen? ⟨w.heap.size + 1, 0, none⟩ = false := (boxC kz.out 0).2
            have cz1 : w11.cell? ⟨w.heap.size + 1, 1, none⟩ = some (.int .i64 0) := (boxC kz.out 1).1
            have fz1 : w11.frozen? ⟨w.heap.size + 1, 1, none⟩ = false := (boxC kz.out 1).2
            have cz2 : w11.cell? ⟨w.heap.size + 1, 2, none⟩ = some (.slice none 0 0) := (boxC kz.out 2).1
            have fz2 : w11.frozen? ⟨w.heap.size + 1, 2, none⟩ = false := (boxC kz.out 2).2
            have cz3 : w11.cell? ⟨w.heap.size + 1, 3, none⟩ = some (.slice none 0 0) := (boxC kz.out 3).1
            have fz3 : w11.frozen? ⟨w.heap.size + 1, 3, none⟩ = false := (boxC kz.out 3).2
            have cz4 : w11.cell? ⟨w.heap.size + 1, 4, none⟩ = some (.slice none 0 0) := (boxC kz.out 4).1
            have fz4 : w11.frozen? ⟨w.heap.size + 1, 4, none⟩ = false := (boxC kz.out 4).2
            have cz5 : w11.cell? ⟨w.heap.size + 1, 5, none⟩ = some (.slice none 0 0) := (boxC kz.out 5).1
            have fz5 : w11.frozen? ⟨w.heap.size + 1, 5, none⟩ = false := (boxC kz.out 5).2
            have lqt : w.heap.size + 1 + 1 < w11.heap.size := boxL kt.out
            have ct0 : w11.cell? ⟨w.heap.size + 1 + 1, 0, none⟩ = some (.int .i64 st) := (boxC kt.out 0).1
            have ft0 : w11.frozen? ⟨w.heap.size + 1 + 1, 0, none⟩ = false := (boxC kt.out 0).2
            have ct1 : w11.cell? ⟨w.heap.size + 1 + 1, 1, none⟩ = some (.int .i64 cols) := (boxC kt.out 1).1
            have ft1 : w11.frozen? ⟨w.heap.size + 1 + 1, 1, none⟩ = false := (boxC kt.out 1).2
            have ct2 : w11.cell? ⟨w.heap.size + 1 + 1, 2, none⟩ = some (.slice none 0 0) := (boxC kt.out 2).1
            have ft2 : w11.frozen? ⟨w.heap.size + 1 + 1, 2, none⟩ = false := (boxC kt.out 2).2
            have ct3 : w11.cell? ⟨w.heap.size + 1 + 1, 3, none⟩ = some (.slice none 0 0) := (boxC kt.out 3).1
            have ft3 : w11.frozen? ⟨w.heap.size + 1 + 1, 3, none⟩ = false := (boxC kt.out 3).2
            have ct4 : w11.cell? ⟨w.heap.size + 1 + 1, 4, none⟩ = some (.slice none 0 0) := (boxC kt.out 4).1
            have ft4 : w11.frozen? ⟨w.heap.size + 1 + 1, 4, none⟩ = false := (boxC kt.out 4).2
            have ct5 : w11.cell? ⟨w.heap.size + 1 + 1, 5, none⟩ = some (.slice none 0 0) := (boxC kt.out 5).1
            have ft5 : w11.frozen? ⟨w.heap.size + 1 + 1, 5, none⟩ = false := (boxC kt.out 5).2
            have lqf : w.heap.size + 1 + 1 + 1 + 1 < w11.heap.size := hx.out.sat.lt (Bf.out 0 _ rfl)
            have cf0 : w11.cell? ⟨w.heap.size + 1 + 1 + 1 + 1, 0, none⟩ = some (.func (.func 126) #[] #[.pointer (some ⟨w.heap.size + 1 + 1 + 1, 0, none⟩), .pointer (some ⟨w.heap.size, 0, none⟩)]) := hx.out.sat _ _ _ (Bf.out 0 _ rfl)
            go_wp2_with fail
            clear lqz cz0 fz0 cz1 fz1 cz2 fz2 cz3 fz3 cz4 fz4 cz5 fz5 lqt ct0 ft0 ct1 ft1 ct2 ft2 ct3 ft3 ct4 ft4 ct5 ft5 lqf cf0
            have kz_ : ((w11.setCell ⟨w.heap.size + 1 + 1, 2, none⟩ (.slice Bra ra.length dra)).setCell ⟨w.heap.size + 1 + 1, 3, none⟩ (.slice Brb rb.length drb)).heap[w.heap.size + 1]? = some (.cells #[.int .i64 0, .int .i64 0, .slice none 0 0, .slice none 0 0, .slice none 0 0, .slice none 0 0] 85) := (boxS_ne (boxS_ne kz.out (by first | omega | (simp; omega)) 2 (.slice Bra ra.length dra)) (by first | omega | (simp; omega)) 3 (.slice Brb rb.length drb))
            have kt_ : ((w11.setCell ⟨w.heap.size + 1 + 1, 2, none⟩ (.slice Bra ra.length dra)).setCell ⟨w.heap.size + 1 + 1, 3, none⟩ (.slice Brb rb.length drb)).heap[w.heap.size + 1 + 1]? = some (.cells #[.int .i64 st, .int .i64 cols, .slice Bra ra.length dra, .slice Brb rb.length drb, .slice none 0 0, .slice none 0 0] 85) := (boxS (boxS kt.out 2 (.slice Bra ra.length dra)) 3 (.slice Brb rb.length drb))
            replace hx := Aside.mk (((hx.out.setCell (b := w.heap.size + 1 + 1) (o := 2) (by first | omega | (simp; omega)) nt.out (.slice Bra ra.length dra)).setCell (b := w.heap.size + 1 + 1) (o := 3) (by first | omega | (simp; omega)) nt.out (.slice Brb rb.length drb)))
            generalize ((w11.setCell ⟨w.heap.size + 1 + 1, 2, none⟩ (.slice Bra ra.length dra)).setCell ⟨w.heap.size + 1 + 1, 3, none⟩ (.slice Brb rb.length drb)) = W12 at *
            replace kz := Aside.mk kz_
            clear kz_
            replace kt := Aside.mk kt_
            clear kt_
            go_wp2_with fail
            have hsz_ := hx.out.size
            have hlt_ := hst.out.lt.1
            refine (list_anyI _ W12 (w.heap.size + 1 + 1 + 1) (w.heap.size) (w.heap.size + 1 + 1 + 1 + 1) _ y2 _ _ HY.out.2.1 hst.out hx.out.sat hb.out np.out nq.out (Bf.out 0 _ rfl) HY.out.2.2.2).mono ?_
            rintro e w13 ⟨v1, ro, l1, ok1, rfl, ho1, hlro, hnro, hst1, ht1⟩
            obtain ⟨Bro, dro, e1, -, -, -, -⟩ := ho1.form
            generalize hm1 : ro.length = m1 at e1
            subst e1
            subst hm1
            replace kz := Aside.mk ((ht1.block _ (boxL kz.out) (by omega) (by omega)).trans kz.out)
            replace kt := Aside.mk ((ht1.block _ (boxL kt.out) (by omega) (by omega)).trans kt.out)
            replace hx := Aside.mk (hx.out.tu ht1 np.out nq.out (by omega) (by omega))
            replace hst := Aside.mk hst1
            replace hb := Aside.mk (hnro.inB hb.out)
            replace hnro := Aside.mk hnro
            obtain ⟨H5, hx5, hle, ⟨A_, c_, e1, hro⟩, hold⟩ := ho1.freezeE hx.out (by omega) (by rw [hlro]; omega)
            simp only [List.cons.injEq, Value.slice.injEq, and_true, true_and] at e1
            obtain ⟨rfl, rfl⟩ := e1
            replace hra := Aside.mk (hra.out.mono hle)
            replace hrb := Aside.mk (hrb.out.mono hle)
            replace Bf := Aside.mk (Bf.out.mono hle)
            replace nz := Aside.mk (fun o => (hold _ o (fun e => by have h1 := (ho1.blk e).1; omega)).trans (nz.out o))
            replace nt := Aside.mk (fun o => (hold _ o (fun e => by have h1 := (ho1.blk e).1; omega)).trans (nt.out o))
            replace np := Aside.mk (fun o => (hold _ o (fun e => by have h1 := (ho1.blk e).1; omega)).trans (np.out o))
            replace nq := Aside.mk (fun o => (hold _ o (fun e => by have h1 := (ho1.blk e).1; omega)).trans (nq.out o))
            replace hst := Aside.mk (hst.out.mono hle)
            replace hx := Aside.mk hx5
            replace hro := Aside.mk hro
            replace hlro := Aside.mk hlro
            clear hle hold hx5 ho1 hst1 ht1 hsz_ hlt_
            generalize l1 = l_ro at *
            generalize ok1 = ok_ro at *
            go_wp2_with fail
            have hsz_ := hx.out.size
            have hlt_ := hst.out.lt.1
            refine (list_anyI _ w13 (w.heap.size + 1 + 1 + 1) (w.heap.size) (w.heap.size + 1 + 1 + 1 + 1) _ y2 _ _ HY.out.2.1 hst.out hx.out.sat hb.out np.out nq.out (Bf.out 0 _ rfl) HY.out.2.2.2).mono ?_
            rintro e w14 ⟨v1, rx, l1, ok1, rfl, ho1, hlrx, hnrx, hst1, ht1⟩
            obtain ⟨Brx, drx, e1, -, -, -, -⟩ := ho1.form
            generalize hm1 : rx.length = m1 at e1
            subst e1
            subst hm1
            replace kz := Aside.mk ((ht1.block _ (boxL kz.out) (by omega) (by omega)).trans kz.out)
            replace kt := Aside.mk ((ht1.block _ (boxL kt.out) (by omega) (by omega)).trans kt.out)
            replace hx := Aside.mk (hx.out.tu ht1 np.out nq.out (by omega) (by omega))
            replace hst := Aside.mk hst1
            replace hb := Aside.mk (hnrx.inB hb.out)
            replace hnrx := Aside.mk hnrx
            obtain ⟨H5, hx5, hle, ⟨A_, c_, e1, hrx⟩, hold⟩ := ho1.freezeE hx.out (by omega) (by rw [hlrx]; omega)
            simp only [List.cons.injEq, Value.slice.injEq, and_true, true_and] at e1
            obtain ⟨rfl, rfl⟩ := e1
            replace hra := Aside.mk (hra.out.mono hle)
            replace hrb := Aside.mk (hrb.out.mono hle)
            replace hro := Aside.mk (hro.out.mono hle)
            replace Bf := Aside.mk (Bf.out.mono hle)
            replace nz := Aside.mk (fun o => (hold _ o (fun e => by have h1 := (ho1.blk e).1; omega)).trans (nz.out o))
            replace nt := Aside.mk (fun o => (hold _ o (fun e => by have h1 := (ho1.blk e).1; omega)).trans (nt.out o))
            replace np := Aside.mk (fun o => (hold _ o (fun e => by have h1 := (ho1.blk e).1; omega)).trans (np.out o))
            replace nq := Aside.mk (fun o => (hold _ o (fun e => by have h1 := (ho1.blk e).1; omega)).trans (nq.out o))
            replace hst := Aside.mk (hst.out.mono hle)
            replace hx := Aside.mk hx5
            replace hrx := Aside.mk hrx
            replace hlrx := Aside.mk hlrx
            clear hle hold hx5 ho1 hst1 ht1 hsz_ hlt_
            generalize l1 = l_rx at *
            generalize ok1 = ok_rx at *
            have hNl := Aside.mk (show NxL l2 true (ra ++ rb ++ ro ++ rx) l_rx ok_rx from ((hnra.out.app hnrb.out).app hnro.out).app hnrx.out)
            have hLn := Aside.mk (show (ra.length : Int) = y1 ∧ (rb.length : Int) = y1 ∧ (ro.length : Int) = y2 ∧ (rx.length : Int) = y2 from ⟨by rw [hlra.out]; exact HY.out.1.symm, by rw [hlrb.out]; exact HY.out.1.symm, by rw [hlro.out]; exact HY.out.2.1.symm, by rw [hlrx.out]; exact HY.out.2.1.symm⟩)
            clear hnra hnrb hnro hnrx hlra hlrb hlro hlrx
            obtain ⟨A9, n9, c9, hq9, hr9⟩ := hst.out.cur
            have cq := (boxC hq9 0).1
            simp only [List.getElem?_toArray, List.getElem?_cons_zero] at cq
            have hn9 := hr9.1
            clear hq9 hr9
            have cp := (boxC hst.out.okc 0).1
            simp only [List.getElem?_toArray, List.getElem?_cons_zero] at cp
            clear hst
            cases ok_rx
            case false =>
              have lqz : w.heap.size + 1 < w14.heap.size := boxL kz.out
              have cz0 : w14.cell? ⟨w.heap.size + 1, 0, none⟩ = some (.int .i64 0) := (boxC kz.out 0).1
              have fz0 : w14.frozen? ⟨w.heap.size + 1, 0, none⟩ = false := (boxC kz.out 0).2
              have cz1 : w14.cell? ⟨w.heap.size + 1, 1, none⟩ = some (.int .i64 0) := (boxC kz.out 1).1
              have fz1 : w14.frozen? ⟨w.heap.size + 1, 1, none⟩ = false := (boxC kz.out 1).2
              have cz2 : w14.cell? ⟨w.heap.size + 1, 2, none⟩ = some (.slice none 0 0) := (boxC kz.out 2).1
              have fz2 : w14.frozen? ⟨w.heap.size + 1, 2, none⟩ = false := (boxC kz.out 2).2
              have cz3 : w14.cell? ⟨w.heap.size + 1, 3, none⟩ = some (.slice none 0 0) := (boxC kz.out 3).1
              have fz3 : w14.frozen? ⟨w.heap.size + 1, 3, none⟩ = false := (boxC kz.out 3).2
              have cz4 : w14.cell? ⟨w.heap.size + 1, 4, none⟩ = some (.slice none 0 0) := (boxC kz.out 4).1
              have fz4 : w14.frozen? ⟨w.heap.size + 1, 4, none⟩ = false := (boxC kz.out 4).2
              have cz5 : w14.cell? ⟨w.heap.size + 1, 5, none⟩ = some (.slice none 0 0) := (boxC kz.out 5).1
              have fz5 : w14.frozen? ⟨w.heap.size + 1, 5, none⟩ = false := (boxC kz.out 5).2
              have lqt : w.heap.size + 1 + 1 < w14.heap.size := boxL kt.out
              have ct0 : w14.cell? ⟨w.heap.size + 1 + 1, 0, none⟩ = some (.int .i64 st) := (boxC kt.out 0).1
              have ft0 : w14.frozen? ⟨w.heap.size + 1 + 1, 0, none⟩ = false := (boxC kt.out 0).2
              have ct1 : w14.cell? ⟨w.heap.size + 1 + 1, 1, none⟩ = some (.int .i64 cols) := (boxC kt.out 1).1
              have ft1 : w14.frozen? ⟨w.heap.size + 1 + 1, 1, none⟩ = false := (boxC kt.out 1).2
              have ct2 : w14.cell? ⟨w.heap.size + 1 + 1, 2, none⟩ = some (.slice Bra ra.length dra) := (boxC kt.out 2).1
              have ft2 : w14.frozen? ⟨w.heap.size + 1 + 1, 2, none⟩ = false := (boxC kt.out 2).2
              have ct3 : w14.cell? ⟨w.heap.size + 1 + 1, 3, none⟩ = some (.slice Brb rb.length drb) := (boxC kt.out 3).1
              have ft3 : w14.frozen? ⟨w.heap.size + 1 + 1, 3, none⟩ = false := (boxC kt.out 3).2
              have ct4 : w14.cell? ⟨w.heap.size + 1 + 1, 4, none⟩ = some (.slice none 0 0) := (boxC kt.out 4).1
              have ft4 : w14.frozen? ⟨w.heap.size + 1 + 1, 4, none⟩ = false := (boxC kt.out 4).2
              have ct5 : w14.cell? ⟨w.heap.size + 1 + 1, 5, none⟩ = some (.slice none 0 0) := (boxC kt.out 5).1
              have ft5 : w14.frozen? ⟨w.heap.size + 1 + 1, 5, none⟩ = false := (boxC kt.out 5).2
              have lqf : w.heap.size + 1 + 1 + 1 + 1 < w14.heap.size := hx.out.sat.lt (Bf.out 0 _ rfl)
              have cf0 : w14.cell? ⟨w.heap.size + 1 + 1 + 1 + 1, 0, none⟩ = some (.func (.func 126) #[] #[.pointer (some ⟨w.heap.size + 1 + 1 + 1, 0, none⟩), .pointer (some ⟨w.heap.size, 0, none⟩)]) := hx.out.sat _ _ _ (Bf.out 0 _ rfl)
              go_wp2_with fail
              clear lqz cz0 fz0 cz1 fz1 cz2 fz2 cz3 fz3 cz4 fz4 cz5 fz5 lqt ct0 ft0 ct1 ft1 ct2 ft2 ct3 ft3 ct4 ft4 ct5 ft5 lqf cf0
              clear cp cq hn9
              have kz_ : ((((((((w14.setCell ⟨w.heap.size + 1 + 1, 4, none⟩ (.slice Bro ro.length dro)).setCell ⟨w.heap.size + 1 + 1, 5, none⟩ (.slice Brx rx.length drx)).setCell ⟨w.heap.size + 1, 0, none⟩ (.int .i64 0)).setCell ⟨w.heap.size + 1, 1, none⟩ (.int .i64 0)).setCell ⟨w.heap.size + 1, 2, none⟩ (.slice none 0 0)).setCell ⟨w.heap.size + 1, 3, none⟩ (.slice none 0 0)).setCell ⟨w.heap.size + 1, 4, none⟩ (.slice none 0 0)).setCell ⟨w.heap.size + 1, 5, none⟩ (.slice none 0 0)).heap[w.heap.size + 1]? = some (.cells #[.int .i64 0, .int .i64 0, .slice none 0 0, .slice none 0 0, .slice none 0 0, .slice none 0 0] 85) := (boxS (boxS (boxS (boxS (boxS (boxS (boxS_ne (boxS_ne kz.out (by first | omega | (simp; omega)) 4 (.slice Bro ro.length dro)) (by first | omega | (simp; omega)) 5 (.slice Brx rx.length drx)) 0 (.int .i64 0)) 1 (.int .i64 0)) 2 (.slice none 0 0)) 3 (.slice none 0 0)) 4 (.slice none 0 0)) 5 (.slice none 0 0))
              have kt_ : ((((((((w14.setCell ⟨w.heap.size + 1 + 1, 4, none⟩ (.slice Bro ro.length dro)).setCell ⟨w.heap.size + 1 + 1, 5, none⟩ (.slice Brx rx.length drx)).setCell ⟨w.heap.size + 1, 0, none⟩ (.int .i64 0)).setCell ⟨w.heap.size + 1, 1, none⟩ (.int .i64 0)).setCell ⟨w.heap.size + 1, 2, none⟩ (.slice none 0 0)).setCell ⟨w.heap.size + 1, 3, none⟩ (.slice none 0 0)).setCell ⟨w.heap.size + 1, 4, none⟩ (.slice none 0 0)).setCell ⟨w.heap.size + 1, 5, none⟩ (.slice none 0 0)).heap[w.heap.size + 1 + 1]? = some (.cells #[.int .i64 st, .int .i64 cols, .slice Bra ra.length dra, .slice Brb rb.length drb, .slice Bro ro.length dro, .slice Brx rx.length drx] 85) := (boxS_ne (boxS_ne (boxS_ne (boxS_ne (boxS_ne (boxS_ne (boxS (boxS kt.out 4 (.slice Bro ro.length dro)) 5 (.slice Brx rx.length drx)) (by first | omega | (simp; omega)) 0 (.int .i64 0)) (by first | omega | (simp; omega)) 1 (.int .i64 0)) (by first | omega | (simp; omega)) 2 (.slice none 0 0)) (by first | omega | (simp; omega)) 3 (.slice none 0 0)) (by first | omega | (simp; omega)) 4 (.slice none 0 0)) (by first | omega | (simp; omega)) 5 (.slice none 0 0))
              replace hx := Aside.mk (((((((((hx.out.setCell (b := w.heap.size + 1 + 1) (o := 4) (by first | omega | (simp; omega)) nt.out (.slice Bro ro.length dro)).setCell (b := w.heap.size + 1 + 1) (o := 5) (by first | omega | (simp; omega)) nt.out (.slice Brx rx.length drx)).setCell (b := w.heap.size + 1) (o := 0) (by first | omega | (simp; omega)) nz.out (.int .i64 0)).setCell (b := w.heap.size + 1) (o := 1) (by first | omega | (simp; omega)) nz.out (.int .i64 0)).setCell (b := w.heap.size + 1) (o := 2) (by first | omega | (simp; omega)) nz.out (.slice none 0 0)).setCell (b := w.heap.size + 1) (o := 3) (by first | omega | (simp; omega)) nz.out (.slice none 0 0)).setCell (b := w.heap.size + 1) (o := 4) (by first | omega | (simp; omega)) nz.out (.slice none 0 0)).setCell (b := w.heap.size + 1) (o := 5) (by first | omega | (simp; omega)) nz.out (.slice none 0 0)))
              generalize ((((((((w14.setCell ⟨w.heap.size + 1 + 1, 4, none⟩ (.slice Bro ro.length dro)).setCell ⟨w.heap.size + 1 + 1, 5, none⟩ (.slice Brx rx.length drx)).setCell ⟨w.heap.size + 1, 0, none⟩ (.int .i64 0)).setCell ⟨w.heap.size + 1, 1, none⟩ (.int .i64 0)).setCell ⟨w.heap.size + 1, 2, none⟩ (.slice none 0 0)).setCell ⟨w.heap.size + 1, 3, none⟩ (.slice none 0 0)).setCell ⟨w.heap.size + 1, 4, none⟩ (.slice none 0 0)).setCell ⟨w.heap.size + 1, 5, none⟩ (.slice none 0 0)) = W15 at *
              replace kz := Aside.mk kz_
              clear kz_
              replace kt := Aside.mk kt_
              clear kt_
              refine bodyPost_ret (resC2 rfl _ _ _ rfl (run_loadVar_row _ _ _ _ _ (0, 0) _ kz.out Try.underlying85 rfl (by kernel_rfl))) rfl ?_
              exact ⟨_, _, 4, zeroTab, rfl, ⟨none, 0, none, 0, none, 0, none, 0, rfl, SlR.nil _ _, SlR.nil _ _, SlR.nil _ _, SlR.nil _ _⟩, ⟨st, cols, y1, y2, l2, true, hN.out, by rw [if_neg hg0.out, if_neg hg1.out]; exact ⟨ra, rb, ro, rx, _, _, hLn.out.1, hLn.out.2.1, hLn.out.2.2.1, hLn.out.2.2.2, hNl.out, by rw [if_pos (Or.inl rfl)]; exact ⟨rfl, rfl⟩⟩⟩, hx.out⟩
            case true =>
              by_cases h5 : (n9 : Int) > 0
              case pos =>
                have lqz : w.heap.size + 1 < w14.heap.size := boxL kz.out
                have cz0 : w14.cell? ⟨w.heap.size + 1, 0, none⟩ = some (.int .i64 0) := (boxC kz.out 0).1
                have fz0 : w14.frozen? ⟨w.heap.size + 1, 0, none⟩ = false := (boxC kz.out 0).2
                have cz1 : w14.cell? ⟨w.heap.size + 1, 1, none⟩ = some (.int .i64 0) := (boxC kz.out 1).1
                have fz1 : w14.frozen? ⟨w.heap.size + 1, 1, none⟩ = false := (boxC kz.out 1).2
                have cz2 : w14.cell? ⟨w.heap.size + 1, 2, none⟩ = some (.slice none 0 0) := (boxC kz.out 2).1
                have fz2 : w14.frozen? ⟨w.heap.size + 1, 2, none⟩ = false := (boxC kz.out 2).2
                have cz3 : w14.cell? ⟨w.heap.size + 1, 3, none⟩ = some (.slice none 0 0) := (boxC kz.out 3).1
                have fz3 : w14.frozen? ⟨w.heap.size + 1, 3, none⟩ = false := (boxC kz.out 3).2
                have cz4 : w14.cell? ⟨w.heap.size + 1, 4, none⟩ = some (.slice none 0 0) := (boxC kz.out 4).1
                have fz4 : w14.frozen? ⟨w.heap.size + 1, 4, none⟩ = false := (boxC kz.out 4).2
                have cz5 : w14.cell? ⟨w.heap.size + 1, 5, none⟩ = some (.slice none 0 0) := (boxC kz.out 5).1
                have fz5 : w14.frozen? ⟨w.heap.size + 1, 5, none⟩ = false := (boxC kz.out 5).2
                have lqt : w.heap.size + 1 + 1 < w14.heap.size := boxL kt.out
                have ct0 : w14.cell? ⟨w.heap.size + 1 + 1, 0, none⟩ = some (.int .i64 st) := (boxC kt.out 0).1
                have ft0 : w14.frozen? ⟨w.heap.size + 1 + 1, 0, none⟩ = false := (boxC kt.out 0).2
                have ct1 : w14.cell? ⟨w.heap.size + 1 + 1, 1, none⟩ = some (.int .i64 cols) := (boxC kt.out 1).1
                have ft1 : w14.frozen? ⟨w.heap.size + 1 + 1, 1, none⟩ = false := (boxC kt.out 1).2
                have ct2 : w14.cell? ⟨w.heap.size + 1 + 1, 2, none⟩ = some (.slice Bra ra.length dra) := (boxC kt.out 2).1
                have ft2 : w14.frozen? ⟨w.heap.size + 1 + 1, 2, none⟩ = false := (boxC kt.out 2).2
                have ct3 : w14.cell? ⟨w.heap.size + 1 + 1, 3, none⟩ = some (.slice Brb rb.length drb) := (boxC kt.out 3).1
                have ft3 : w14.frozen? ⟨w.heap.size + 1 + 1, 3, none⟩ = false := (boxC kt.out 3).2
                have ct4 : w14.cell? ⟨w.heap.size + 1 + 1, 4, none⟩ = some (.slice none 0 0) := (boxC kt.out 4).1
                have ft4 : w14.frozen? ⟨w.heap.size + 1 + 1, 4, none⟩ = false := (boxC kt.out 4).2
                have ct5 : w14.cell? ⟨w.heap.size + 1 + 1, 5, none⟩ = some (.slice none 0 0) := (boxC kt.out 5).1
                have ft5 : w14.frozen? ⟨w.heap.size + 1 + 1, 5, none⟩ = false := (boxC kt.out 5).2
                have lqf : w.heap.size + 1 + 1 + 1 + 1 < w14.heap.size := hx.out.sat.lt (Bf.out 0 _ rfl)
                have cf0 : w14.cell? ⟨w.heap.size + 1 + 1 + 1 + 1, 0, none⟩ = some (.func (.func 126) #[] #[.pointer (some ⟨w.heap.size + 1 + 1 + 1, 0, none⟩), .pointer (some ⟨w.heap.size, 0, none⟩)]) := hx.out.sat _ _ _ (Bf.out 0 _ rfl)
                go_wp2_with fail
                clear lqz cz0 fz0 cz1 fz1 cz2 fz2 cz3 fz3 cz4 fz4 cz5 fz5 lqt ct0 ft0 ct1 ft1 ct2 ft2 ct3 ft3 ct4 ft4 ct5 ft5 lqf cf0
                clear cp cq
                have kz_ : ((((((((w14.setCell ⟨w.heap.size + 1 + 1, 4, none⟩ (.slice Bro ro.length dro)).setCell ⟨w.heap.size + 1 + 1, 5, none⟩ (.slice Brx rx.length drx)).setCell ⟨w.heap.size + 1, 0, none⟩ (.int .i64 0)).setCell ⟨w.heap.size + 1, 1, none⟩ (.int .i64 0)).setCell ⟨w.heap.size + 1, 2, none⟩ (.slice none 0 0)).setCell ⟨w.heap.size + 1, 3, none⟩ (.slice none 0 0)).setCell ⟨w.heap.size + 1, 4, none⟩ (.slice none 0 0)).setCell ⟨w.heap.size + 1, 5, none⟩ (.slice none 0 0)).heap[w.heap.size + 1]? = some (.cells #[.int .i64 0, .int .i64 0, .slice none 0 0, .slice none 0 0, .slice none 0 0, .slice none 0 0] 85) := (boxS (boxS (boxS (boxS (boxS (boxS (boxS_ne (boxS_ne kz.out (by first | omega | (simp; omega)) 4 (.slice Bro ro.length dro)) (by first | omega | (simp; omega)) 5 (.slice Brx rx.length drx)) 0 (.int .i64 0)) 1 (.int .i64 0)) 2 (.slice none 0 0)) 3 (.slice none 0 0)) 4 (.slice none 0 0)) 5 (.slice none 0 0))
                have kt_ : ((((((((w14.setCell ⟨w.heap.size + 1 + 1, 4, none⟩ (.slice Bro ro.length dro)).setCell ⟨w.heap.size + 1 + 1, 5, none⟩ (.slice Brx rx.length drx)).setCell ⟨w.heap.size + 1, 0, none⟩ (.int .i64 0)).setCell ⟨w.heap.size + 1, 1, none⟩ (.int .i64 0)).setCell ⟨w.heap.size + 1, 2, none⟩ (.slice none 0 0)).setCell ⟨w.heap.size + 1, 3, none⟩ (.slice none 0 0)).setCell ⟨w.heap.size + 1, 4, none⟩ (.slice none 0 0)).setCell ⟨w.heap.size + 1, 5, none⟩ (.slice none 0 0)).heap[w.heap.size + 1 + 1]? = some (.cells #[.int .i64 st, .int .i64 cols, .slice Bra ra.length dra, .slice Brb rb.length drb, .slice Bro ro.length dro, .slice Brx rx.length drx] 85) := (boxS_ne (boxS_ne (boxS_ne (boxS_ne (boxS_ne (boxS_ne (boxS (boxS kt.out 4 (.slice Bro ro.length dro)) 5 (.slice Brx rx.length drx)) (by first | omega | (simp; omega)) 0 (.int .i64 0)) (by first | omega | (simp; omega)) 1 (.int .i64 0)) (by first | omega | (simp; omega)) 2 (.slice none 0 0)) (by first | omega | (simp; omega)) 3 (.slice none 0 0)) (by first | omega | (simp; omega)) 4 (.slice none 0 0)) (by first | omega | (simp; omega)) 5 (.slice none 0 0))
                replace hx := Aside.mk (((((((((hx.out.setCell (b := w.heap.size + 1 + 1) (o := 4) (by first | omega | (simp; omega)) nt.out (.slice Bro ro.length dro)).setCell (b := w.heap.size + 1 + 1) (o := 5) (by first | omega | (simp; omega)) nt.out (.slice Brx rx.length drx)).setCell (b := w.heap.size + 1) (o := 0) (by first | omega | (simp; omega)) nz.out (.int .i64 0)).setCell (b := w.heap.size + 1) (o := 1) (by first | omega | (simp; omega)) nz.out (.int .i64 0)).setCell (b := w.heap.size + 1) (o := 2) (by first | omega | (simp; omega)) nz.out (.slice none 0 0)).setCell (b := w.heap.size + 1) (o := 3) (by first | omega | (simp; omega)) nz.out (.slice none 0 0)).setCell (b := w.heap.size + 1) (o := 4) (by first | omega | (simp; omega)) nz.out (.slice none 0 0)).setCell (b := w.heap.size + 1) (o := 5) (by first | omega | (simp; omega)) nz.out (.slice none 0 0)))
                generalize ((((((((w14.setCell ⟨w.heap.size + 1 + 1, 4, none⟩ (.slice Bro ro.length dro)).setCell ⟨w.heap.size + 1 + 1, 5, none⟩ (.slice Brx rx.length drx)).setCell ⟨w.heap.size + 1, 0, none⟩ (.int .i64 0)).setCell ⟨w.heap.size + 1, 1, none⟩ (.int .i64 0)).setCell ⟨w.heap.size + 1, 2, none⟩ (.slice none 0 0)).setCell ⟨w.heap.size + 1, 3, none⟩ (.slice none 0 0)).setCell ⟨w.heap.size + 1, 4, none⟩ (.slice none 0 0)).setCell ⟨w.heap.size + 1, 5, none⟩ (.slice none 0 0)) = W16 at *
                replace kz := Aside.mk kz_
                clear kz_
                replace kt := Aside.mk kt_
                clear kt_
                refine bodyPost_ret (resC2 rfl _ _ _ rfl (run_loadVar_row _ _ _ _ _ (0, 0) _ kz.out Try.underlying85 rfl (by kernel_rfl))) rfl ?_
                exact ⟨_, _, 4, zeroTab, rfl, ⟨none, 0, none, 0, none, 0, none, 0, rfl, SlR.nil _ _, SlR.nil _ _, SlR.nil _ _, SlR.nil _ _⟩, ⟨st, cols, y1, y2, l2, true, hN.out, by rw [if_neg hg0.out, if_neg hg1.out]; exact ⟨ra, rb, ro, rx, _, _, hLn.out.1, hLn.out.2.1, hLn.out.2.2.1, hLn.out.2.2.2, hNl.out, by rw [if_pos (Or.inr (by rintro rfl; simp only [List.length_nil] at hn9; omega))]; exact ⟨rfl, rfl⟩⟩⟩, hx.out⟩
              case neg =>
                have hg2 : ¬ (true = false ∨ l_rx ≠ []) := by rintro (h | h); cases h; exact h (List.length_eq_zero_iff.1 (by omega))
                replace hg2 := Aside.mk hg2
                have lqz : w.heap.size + 1 < w14.heap.size := boxL kz.out
                have cz0 : w14.cell? ⟨w.heap.size + 1, 0, none⟩ = some (.int .i64 0) := (boxC kz.out 0).1
                have fz0 : w14.frozen? ⟨w.heap.size + 1, 0, none⟩ = false := (boxC kz.out 0).2
                have cz1 : w14.cell? ⟨w.heap.size + 1, 1, none⟩ = some (.int .i64 0) := (boxC kz.out 1).1
                have fz1 : w14.frozen? ⟨w.heap.size + 1, 1, none⟩ = false := (boxC kz.out 1).2
                have cz2 : w14.cell? ⟨w.heap.size + 1, 2, none⟩ = some (.slice none 0 0) := (boxC kz.out 2).1
                have fz2 : w14.frozen? ⟨w.heap.size + 1, 2, none⟩ = false := (boxC kz.out 2).2
                have cz3 : w14.cell? ⟨w.heap.size + 1, 3, none⟩ = some (.slice none 0 0) := (boxC kz.out 3).1
                have fz3 : w14.frozen? ⟨w.heap.size + 1, 3, none⟩ = false := (boxC kz.out 3).2
                have cz4 : w14.cell? ⟨w.heap.size + 1, 4, none⟩ = some (.slice none 0 0) := (boxC kz.out 4).1
                have fz4 : w14.frozen? ⟨w.heap.size + 1, 4, none⟩ = false := (boxC kz.out 4).2
                have cz5 : w14.cell? ⟨w.heap.size + 1, 5, none⟩ = some (.slice none 0 0) := (boxC kz.out 5).1
                have fz5 : w14.frozen? ⟨w.heap.size + 1, 5, none⟩ = false := (boxC kz.out 5).2
                have lqt : w.heap.size + 1 + 1 < w14.heap.size := boxL kt.out
                have ct0 : w14.cell? ⟨w.heap.size + 1 + 1, 0, none⟩ = some (.int .i64 st) := (boxC kt.out 0).1
                have ft0 : w14.frozen? ⟨w.heap.size + 1 + 1, 0, none⟩ = false := (boxC kt.out 0).2
                have ct1 : w14.cell? ⟨w.heap.size + 1 + 1, 1, none⟩ = some (.int .i64 cols) := (boxC kt.out 1).1
                have ft1 : w14.frozen? ⟨w.heap.size + 1 + 1, 1, none⟩ = false := (boxC kt.out 1).2
                have ct2 : w14.cell? ⟨w.heap.size + 1 + 1, 2, none⟩ = some (.slice Bra ra.length dra) := (boxC kt.out 2).1
                have ft2 : w14.frozen? ⟨w.heap.size + 1 + 1, 2, none⟩ = false := (boxC kt.out 2).2
                have ct3 : w14.cell? ⟨w.heap.size + 1 + 1, 3, none⟩ = some (.slice Brb rb.length drb) := (boxC kt.out 3).1
                have ft3 : w14.frozen? ⟨w.heap.size + 1 + 1, 3, none⟩ = false := (boxC kt.out 3).2
                have ct4 : w14.cell? ⟨w.heap.size + 1 + 1, 4, none⟩ = some (.slice none 0 0) := (boxC kt.out 4).1
                have ft4 : w14.frozen? ⟨w.heap.size + 1 + 1, 4, none⟩ = false := (boxC kt.out 4).2
                have ct5 : w14.cell? ⟨w.heap.size + 1 + 1, 5, none⟩ = some (.slice none 0 0) := (boxC kt.out 5).1
                have ft5 : w14.frozen? ⟨w.heap.size + 1 + 1, 5, none⟩ = false := (boxC kt.out 5).2
                have lqf : w.heap.size + 1 + 1 + 1 + 1 < w14.heap.size := hx.out.sat.lt (Bf.out 0 _ rfl)
                have cf0 : w14.cell? ⟨w.heap.size + 1 + 1 + 1 + 1, 0, none⟩ = some (.func (.func 126) #[] #[.pointer (some ⟨w.heap.size + 1 + 1 + 1, 0, none⟩), .pointer (some ⟨w.heap.size, 0, none⟩)]) := hx.out.sat _ _ _ (Bf.out 0 _ rfl)
                go_wp2_with fail
                clear lqz cz0 fz0 cz1 fz1 cz2 fz2 cz3 fz3 cz4 fz4 cz5 fz5 lqt ct0 ft0 ct1 ft1 ct2 ft2 ct3 ft3 ct4 ft4 ct5 ft5 lqf cf0
                clear cp cq hn9
                have kz_ : ((w14.setCell ⟨w.heap.size + 1 + 1, 4, none⟩ (.slice Bro ro.length dro)).setCell ⟨w.heap.size + 1 + 1, 5, none⟩ (.slice Brx rx.length drx)).heap[w.heap.size + 1]? = some (.cells #[.int .i64 0, .int .i64 0, .slice none 0 0, .slice none 0 0, .slice none 0 0, .slice none 0 0] 85) := (boxS_ne (boxS_ne kz.out (by first | omega | (simp; omega)) 4 (.slice Bro ro.length dro)) (by first | omega | (simp; omega)) 5 (.slice Brx rx.length drx))
                have kt_ : ((w14.setCell ⟨w.heap.size + 1 + 1, 4, none⟩ (.slice Bro ro.length dro)).setCell ⟨w.heap.size + 1 + 1, 5, none⟩ (.slice Brx rx.length drx)).heap[w.heap.size + 1 + 1]? = some (.cells #[.int .i64 st, .int .i64 cols, .slice Bra ra.length dra, .slice Brb rb.length drb, .slice Bro ro.length dro, .slice Brx rx.length drx] 85) := (boxS (boxS kt.out 4 (.slice Bro ro.length dro)) 5 (.slice Brx rx.length drx))
                replace hx := Aside.mk (((hx.out.setCell (b := w.heap.size + 1 + 1) (o := 4) (by first | omega | (simp; omega)) nt.out (.slice Bro ro.length dro)).setCell (b := w.heap.size + 1 + 1) (o := 5) (by first | omega | (simp; omega)) nt.out (.slice Brx rx.length drx)))
                generalize ((w14.setCell ⟨w.heap.size + 1 + 1, 4, none⟩ (.slice Bro ro.length dro)).setCell ⟨w.heap.size + 1 + 1, 5, none⟩ (.slice Brx rx.length drx)) = W17 at *
                replace kz := Aside.mk kz_
                clear kz_
                replace kt := Aside.mk kt_
                clear kt_
                have hadrz := boxL kz.out
                have hadrt := boxL kt.out
                have hsz := hx.out.size
                refine (check_any _ st cols ra rb ro rx _ _ _ _ _ _ _ _ _ hra.out hrb.out hro.out hrx.out hx.out.sat).mono ?_
                rintro e w18 ⟨rfl, hb9⟩
                replace kz := Aside.mk (box_below kz.out hb9)
                replace kt := Aside.mk (box_below kt.out hb9)
                replace hx := Aside.mk (hx.out.then_below hb9)
                clear hb9
                clear hsz hadrz hadrt
                generalize hte : tabErr st cols ra rb ro rx = te
                replace hte := Aside.mk hte
                by_cases h6 : te = 0
                case neg =>
                  have lqz : w.heap.size + 1 < w18.heap.size := boxL kz.out
                  have cz0 : w18.cell? ⟨w.heap.size + 1, 0, none⟩ = some (.int .i64 0) := (boxC kz.out 0).1
                  have fz0 : w18.frozen? ⟨w.heap.size + 1, 0, none⟩ = false := (boxC kz.out 0).2
                  have cz1 : w18.cell? ⟨w.heap.size + 1, 1, none⟩ = some (.int .i64 0) := (boxC kz.out 1).1
                  have fz1 : w18.frozen? ⟨w.heap.size + 1, 1, none⟩ = false := (boxC kz.out 1).2
                  have cz2 : w18.cell? ⟨w.heap.size + 1, 2, none⟩ = some (.slice none 0 0) := (boxC kz.out 2).1
                  have fz2 : w18.frozen? ⟨w.heap.size + 1, 2, none⟩ = false := (boxC kz.out 2).2
                  have cz3 : w18.cell? ⟨w.heap.size + 1, 3, none⟩ = some (.slice none 0 0) := (boxC kz.out 3).1
                  have fz3 : w18.frozen? ⟨w.heap.size + 1, 3, none⟩ = false := (boxC kz.out 3).2
                  have cz4 : w18.cell? ⟨w.heap.size + 1, 4, none⟩ = some (.slice none 0 0) := (boxC kz.out 4).1
                  have fz4 : w18.frozen? ⟨w.heap.size + 1, 4, none⟩ = false := (boxC kz.out 4).2
                  have cz5 : w18.cell? ⟨w.heap.size + 1, 5, none⟩ = some (.slice none 0 0) := (boxC kz.out 5).1
                  have fz5 : w18.frozen? ⟨w.heap.size + 1, 5, none⟩ = false := (boxC kz.out 5).2
                  have lqt : w.heap.size + 1 + 1 < w18.heap.size := boxL kt.out
                  have ct0 : w18.cell? ⟨w.heap.size + 1 + 1, 0, none⟩ = some (.int .i64 st) := (boxC kt.out 0).1
                  have ft0 : w18.frozen? ⟨w.heap.size + 1 + 1, 0, none⟩ = false := (boxC kt.out 0).2
                  have ct1 : w18.cell? ⟨w.heap.size + 1 + 1, 1, none⟩ = some (.int .i64 cols) := (boxC kt.out 1).1
                  have ft1 : w18.frozen? ⟨w.heap.size + 1 + 1, 1, none⟩ = false := (boxC kt.out 1).2
                  have ct2 : w18.cell? ⟨w.heap.size + 1 + 1, 2, none⟩ = some (.slice Bra ra.length dra) := (boxC kt.out 2).1
                  have ft2 : w18.frozen? ⟨w.heap.size + 1 + 1, 2, none⟩ = false := (boxC kt.out 2).2
                  have ct3 : w18.cell? ⟨w.heap.size + 1 + 1, 3, none⟩ = some (.slice Brb rb.length drb) := (boxC kt.out 3).1
                  have ft3 : w18.frozen? ⟨w.heap.size + 1 + 1, 3, none⟩ = false := (boxC kt.out 3).2
                  have ct4 : w18.cell? ⟨w.heap.size + 1 + 1, 4, none⟩ = some (.slice Bro ro.length dro) := (boxC kt.out 4).1
                  have ft4 : w18.frozen? ⟨w.heap.size + 1 + 1, 4, none⟩ = false := (boxC kt.out 4).2
                  have ct5 : w18.cell? ⟨w.heap.size + 1 + 1, 5, none⟩ = some (.slice Brx rx.length drx) := (boxC kt.out 5).1
                  have ft5 : w18.frozen? ⟨w.heap.size + 1 + 1, 5, none⟩ = false := (boxC kt.out 5).2
                  have lqf : w.heap.size + 1 + 1 + 1 + 1 < w18.heap.size := hx.out.sat.lt (Bf.out 0 _ rfl)
                  have cf0 : w18.cell? ⟨w.heap.size + 1 + 1 + 1 + 1, 0, none⟩ = some (.func (.func 126) #[] #[.pointer (some ⟨w.heap.size + 1 + 1 + 1, 0, none⟩), .pointer (some ⟨w.heap.size, 0, none⟩)]) := hx.out.sat _ _ _ (Bf.out 0 _ rfl)
                  go_wp2_with fail
                  clear lqz cz0 fz0 cz1 fz1 cz2 fz2 cz3 fz3 cz4 fz4 cz5 fz5 lqt ct0 ft0 ct1 ft1 ct2 ft2 ct3 ft3 ct4 ft4 ct5 ft5 lqf cf0
                  have kz_ : ((((((w18.setCell ⟨w.heap.size + 1, 0, none⟩ (.int .i64 0)).setCell ⟨w.heap.size + 1, 1, none⟩ (.int .i64 0)).setCell ⟨w.heap.size + 1, 2, none⟩ (.slice none 0 0)).setCell ⟨w.heap.size + 1, 3, none⟩ (.slice none 0 0)).setCell ⟨w.heap.size + 1, 4, none⟩ (.slice none 0 0)).setCell ⟨w.heap.size + 1, 5, none⟩ (.slice none 0 0)).heap[w.heap.size + 1]? = some (.cells #[.int .i64 0, .int .i64 0, .slice none 0 0, .slice none 0 0, .slice none 0 0, .slice none 0 0] 85) := (boxS (boxS (boxS (boxS (boxS (boxS kz.out 0 (.int .i64 0)) 1 (.int .i64 0)) 2 (.slice none 0 0)) 3 (.slice none 0 0)) 4 (.slice none 0 0)) 5 (.slice none 0 0))
                  have kt_ : ((((((w18.setCell ⟨w.heap.size + 1, 0, none⟩ (.int .i64 0)).setCell ⟨w.heap.size + 1, 1, none⟩ (.int .i64 0)).setCell ⟨w.heap.size + 1, 2, none⟩ (.slice none 0 0)).setCell ⟨w.heap.size + 1, 3, none⟩ (.slice none 0 0)).setCell ⟨w.heap.size + 1, 4, none⟩ (.slice none 0 0)).setCell ⟨w.heap.size + 1, 5, none⟩ (.slice none 0 0)).heap[w.heap.size + 1 + 1]? = some (.cells #[.int .i64 st, .int .i64 cols, .slice Bra ra.length dra, .slice Brb rb.length drb, .slice Bro ro.length dro, .slice Brx rx.length drx] 85) := (boxS_ne (boxS_ne (boxS_ne (boxS_ne (boxS_ne (boxS_ne kt.out (by first | omega | (simp; omega)) 0 (.int .i64 0)) (by first | omega | (simp; omega)) 1 (.int .i64 0)) (by first | omega | (simp; omega)) 2 (.slice none 0 0)) (by first | omega | (simp; omega)) 3 (.slice none 0 0)) (by first | omega | (simp; omega)) 4 (.slice none 0 0)) (by first | omega | (simp; omega)) 5 (.slice none 0 0))
                  replace hx := Aside.mk (((((((hx.out.setCell (b := w.heap.size + 1) (o := 0) (by first | omega | (simp; omega)) nz.out (.int .i64 0)).setCell (b := w.heap.size + 1) (o := 1) (by first | omega | (simp; omega)) nz.out (.int .i64 0)).setCell (b := w.heap.size + 1) (o := 2) (by first | omega | (simp; omega)) nz.out (.slice none 0 0)).setCell (b := w.heap.size + 1) (o := 3) (by first | omega | (simp; omega)) nz.out (.slice none 0 0)).setCell (b := w.heap.size + 1) (o := 4) (by first | omega | (simp; omega)) nz.out (.slice none 0 0)).setCell (b := w.heap.size + 1) (o := 5) (by first | omega | (simp; omega)) nz.out (.slice none 0 0)))
                  generalize ((((((w18.setCell ⟨w.heap.size + 1, 0, none⟩ (.int .i64 0)).setCell ⟨w.heap.size + 1, 1, none⟩ (.int .i64 0)).setCell ⟨w.heap.size + 1, 2, none⟩ (.slice none 0 0)).setCell ⟨w.heap.size + 1, 3, none⟩ (.slice none 0 0)).setCell ⟨w.heap.size + 1, 4, none⟩ (.slice none 0 0)).setCell ⟨w.heap.size + 1, 5, none⟩ (.slice none 0 0)) = W19 at *
                  replace kz := Aside.mk kz_
                  clear kz_
                  replace kt := Aside.mk kt_
                  clear kt_
                  refine bodyPost_ret (resC2 rfl _ _ _ rfl (run_loadVar_row _ _ _ _ _ (0, 0) _ kz.out Try.underlying85 rfl (by kernel_rfl))) rfl ?_
                  exact ⟨_, _, te, zeroTab, rfl, ⟨none, 0, none, 0, none, 0, none, 0, rfl, SlR.nil _ _, SlR.nil _ _, SlR.nil _ _, SlR.nil _ _⟩, ⟨st, cols, y1, y2, l2, true, hN.out, by rw [if_neg hg0.out, if_neg hg1.out]; exact ⟨ra, rb, ro, rx, _, _, hLn.out.1, hLn.out.2.1, hLn.out.2.2.1, hLn.out.2.2.2, hNl.out, by rw [if_neg hg2.out, hte.out, if_pos h6]; exact ⟨rfl, rfl⟩⟩⟩, hx.out⟩
                case pos =>
                  have lqz : w.heap.size + 1 < w18.heap.size := boxL kz.out
                  have cz0 : w18.cell? ⟨w.heap.size + 1, 0, none⟩ = some (.int .i64 0) := (boxC kz.out 0).1
                  have fz0 : w18.frozen? ⟨w.heap.size + 1, 0, none⟩ = false := (boxC kz.out 0).2
                  have cz1 : w18.cell? ⟨w.heap.size + 1, 1, none⟩ = some (.int .i64 0) := (boxC kz.out 1).1
                  have fz1 : w18.frozen? ⟨w.heap.size + 1, 1, none⟩ = false := (boxC kz.out 1).2
                  have cz2 : w18.cell? ⟨w.heap.size + 1, 2, none⟩ = some (.slice none 0 0) := (boxC kz.out 2).1
                  have fz2 : w18.frozen? ⟨w.heap.size + 1, 2, none⟩ = false := (boxC kz.out 2).2
                  have cz3 : w18.cell? ⟨w.heap.size + 1, 3, none⟩ = some (.slice none 0 0) := (boxC kz.out 3).1
                  have fz3 : w18.frozen? ⟨w.heap.size + 1, 3, none⟩ = false := (boxC kz.out 3).2
                  have cz4 : w18.cell? ⟨w.heap.size + 1, 4, none⟩ = some (.slice none 0 0) := (boxC kz.out 4).1
                  have fz4 : w18.frozen? ⟨w.heap.size + 1, 4, none⟩ = false := (boxC kz.out 4).2
                  have cz5 : w18.cell? ⟨w.heap.size + 1, 5, none⟩ = some (.slice none 0 0) := (boxC kz.out 5).1
                  have fz5 : w18.frozen? ⟨w.heap.size + 1, 5, none⟩ = false := (boxC kz.out 5).2
                  have lqt : w.heap.size + 1 + 1 < w18.heap.size := boxL kt.out
                  have ct0 : w18.cell? ⟨w.heap.size + 1 + 1, 0, none⟩ = some (.int .i64 st) := (boxC kt.out 0).1
                  have ft0 : w18.frozen? ⟨w.heap.size + 1 + 1, 0, none⟩ = false := (boxC kt.out 0).2
                  have ct1 : w18.cell? ⟨w.heap.size + 1 + 1, 1, none⟩ = some (.int .i64 cols) := (boxC kt.out 1).1
                  have ft1 : w18.frozen? ⟨w.heap.size + 1 + 1, 1, none⟩ = false := (boxC kt.out 1).2
                  have ct2 : w18.cell? ⟨w.heap.size + 1 + 1, 2, none⟩ = some (.slice Bra ra.length dra) := (boxC kt.out 2).1
                  have ft2 : w18.frozen? ⟨w.heap.size + 1 + 1, 2, none⟩ = false := (boxC kt.out 2).2
                  have ct3 : w18.cell? ⟨w.heap.size + 1 + 1, 3, none⟩ = some (.slice Brb rb.length drb) := (boxC kt.out 3).1
                  have ft3 : w18.frozen? ⟨w.heap.size + 1 + 1, 3, none⟩ = false := (boxC kt.out 3).2
                  have ct4 : w18.cell? ⟨w.heap.size + 1 + 1, 4, none⟩ = some (.slice Bro ro.length dro) := (boxC kt.out 4).1
                  have ft4 : w18.frozen? ⟨w.heap.size + 1 + 1, 4, none⟩ = false := (boxC kt.out 4).2
                  have ct5 : w18.cell? ⟨w.heap.size + 1 + 1, 5, none⟩ = some (.slice Brx rx.length drx) := (boxC kt.out 5).1
                  have ft5 : w18.frozen? ⟨w.heap.size + 1 + 1, 5, none⟩ = false := (boxC kt.out 5).2
                  have lqf : w.heap.size + 1 + 1 + 1 + 1 < w18.heap.size := hx.out.sat.lt (Bf.out 0 _ rfl)
                  have cf0 : w18.cell? ⟨w.heap.size + 1 + 1 + 1 + 1, 0, none⟩ = some (.func (.func 126) #[] #[.pointer (some ⟨w.heap.size + 1 + 1 + 1, 0, none⟩), .pointer (some ⟨w.heap.size, 0, none⟩)]) := hx.out.sat _ _ _ (Bf.out 0 _ rfl)
                  go_wp2_with fail
                  clear lqz cz0 fz0 cz1 fz1 cz2 fz2 cz3 fz3 cz4 fz4 cz5 fz5 lqt ct0 ft0 ct1 ft1 ct2 ft2 ct3 ft3 ct4 ft4 ct5 ft5 lqf cf0
                  have kz_ : ((((((w18.setCell ⟨w.heap.size + 1, 0, none⟩ (.int .i64 st)).setCell ⟨w.heap.size + 1, 1, none⟩ (.int .i64 cols)).setCell ⟨w.heap.size + 1, 2, none⟩ (.slice Bra ra.length dra)).setCell ⟨w.heap.size + 1, 3, none⟩ (.slice Brb rb.length drb)).setCell ⟨w.heap.size + 1, 4, none⟩ (.slice Bro ro.length dro)).setCell ⟨w.heap.size + 1, 5, none⟩ (.slice Brx rx.length drx)).heap[w.heap.size + 1]? = some (.cells #[.int .i64 st, .int .i64 cols, .slice Bra ra.length dra, .slice Brb rb.length drb, .slice Bro ro.length dro, .slice Brx rx.length drx] 85) := (boxS (boxS (boxS (boxS (boxS (boxS kz.out 0 (.int .i64 st)) 1 (.int .i64 cols)) 2 (.slice Bra ra.length dra)) 3 (.slice Brb rb.length drb)) 4 (.slice Bro ro.length dro)) 5 (.slice Brx rx.length drx))
                  have kt_ : ((((((w18.setCell ⟨w.heap.size + 1, 0, none⟩ (.int .i64 st)).setCell ⟨w.heap.size + 1, 1, none⟩ (.int .i64 cols)).setCell ⟨w.heap.size + 1, 2, none⟩ (.slice Bra ra.length dra)).setCell ⟨w.heap.size + 1, 3, none⟩ (.slice Brb rb.length drb)).setCell ⟨w.heap.size + 1, 4, none⟩ (.slice Bro ro.length dro)).setCell ⟨w.heap.size + 1, 5, none⟩ (.slice Brx rx.length drx)).heap[w.heap.size + 1 + 1]? = some (.cells #[.int .i64 st, .int .i64 cols, .slice Bra ra.length dra, .slice Brb rb.length drb, .slice Bro ro.length dro, .slice Brx rx.length drx] 85) := (boxS_ne (boxS_ne (boxS_ne (boxS_ne (boxS_ne (boxS_ne kt.out (by first | omega | (simp; omega)) 0 (.int .i64 st)) (by first | omega | (simp; omega)) 1 (.int .i64 cols)) (by first | omega | (simp; omega)) 2 (.slice Bra ra.length dra)) (by first | omega | (simp; omega)) 3 (.slice Brb rb.length drb)) (by first | omega | (simp; omega)) 4 (.slice Bro ro.length dro)) (by first | omega | (simp; omega)) 5 (.slice Brx rx.length drx))
                  replace hx := Aside.mk (((((((hx.out.setCell (b := w.heap.size + 1) (o := 0) (by first | omega | (simp; omega)) nz.out (.int .i64 st)).setCell (b := w.heap.size + 1) (o := 1) (by first | omega | (simp; omega)) nz.out (.int .i64 cols)).setCell (b := w.heap.size + 1) (o := 2) (by first | omega | (simp; omega)) nz.out (.slice Bra ra.length dra)).setCell (b := w.heap.size + 1) (o := 3) (by first | omega | (simp; omega)) nz.out (.slice Brb rb.length drb)).setCell (b := w.heap.size + 1) (o := 4) (by first | omega | (simp; omega)) nz.out (.slice Bro ro.length dro)).setCell (b := w.heap.size + 1) (o := 5) (by first | omega | (simp; omega)) nz.out (.slice Brx rx.length drx)))
                  generalize ((((((w18.setCell ⟨w.heap.size + 1, 0, none⟩ (.int .i64 st)).setCell ⟨w.heap.size + 1, 1, none⟩ (.int .i64 cols)).setCell ⟨w.heap.size + 1, 2, none⟩ (.slice Bra ra.length dra)).setCell ⟨w.heap.size + 1, 3, none⟩ (.slice Brb rb.length drb)).setCell ⟨w.heap.size + 1, 4, none⟩ (.slice Bro ro.length dro)).setCell ⟨w.heap.size + 1, 5, none⟩ (.slice Brx rx.length drx)) = W20 at *
                  replace kz := Aside.mk kz_
                  clear kz_
                  replace kt := Aside.mk kt_
                  clear kt_
                  refine bodyPost_ret (resC2 rfl _ _ _ rfl (run_loadVar_row _ _ _ _ _ (0, 0) _ kz.out Try.underlying85 rfl (by kernel_rfl))) rfl ?_
                  exact ⟨_, _, 0, ⟨st, cols, ra, rb, ro, rx⟩, rfl, ⟨_, _, _, _, _, _, _, _, rfl, hra.out, hrb.out, hro.out, hrx.out⟩, ⟨st, cols, y1, y2, l2, true, hN.out, by rw [if_neg hg0.out, if_neg hg1.out]; exact ⟨ra, rb, ro, rx, _, _, hLn.out.1, hLn.out.2.1, hLn.out.2.2.1, hLn.out.2.2.2, hNl.out, by rw [if_neg hg2.out, hte.out, if_neg (fun h => h h6)]; exact ⟨rfl, rfl⟩⟩⟩, hx.out⟩
end Go.Proofs.Ytbnahmeaeakhhaa.B
