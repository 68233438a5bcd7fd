/- Contracts: slices.ContainsFunc over expressions. Contracts: retree.once. -/
import Derived.Test.YtbnahmeaeakhhaaBc
import Derived.Test.YtbnahmeaeakhhaaK2
import Derived.Test.YtbnahmeaeakhhaaN4
namespace Go.Proofs.Ytbnahmeaeakhhaa.B
set_option linter.unusedVariables false
set_option linter.unusedSimpArgs false
open Go Go.RowKit Classical

set_option maxRecDepth 100000 in
theorem several1_any (cs : List Value) (a : Re) (H : PH) (w : World) (hr : RdRe H a cs) : Calls Try.prog 167 #[.agg cs.toArray] w fun e w' => e = .returned (.bool (decide (a.kind = 0))) ∧ Below w.heap.size w w' := by
  obtain ⟨k, s, l, u, v, g, rfl⟩ : ∃ a1 b c d e f, a = Re.mk a1 b c d e f := by cases a; exact ⟨_, _, _, _, _, _, rfl⟩
  obtain ⟨A1, c1, A2, c2, rfl, -, -⟩ := hr.open
  show Calls Try.prog 167 _ w fun e w' => e = .returned (.bool (decide (k = 0))) ∧ _
  clear hr
  by_cases hk : k = 0
  · subst hk
    go_enter Try.func167, Try.ntmps167
    go_wp2_with fail
    go_ret
    exact ⟨rfl, bA (Below.refl _ _) _⟩
  · go_enter Try.func167, Try.ntmps167
    go_wp2_with fail
    go_ret
    exact ⟨by simp [hk], bA (Below.refl _ _) _⟩

/-- slices.IndexFunc, ContainsFunc with retree.several$1 -/
def Idx_sev (l : List Re) (p : Re → Prop) (w : World) (e : Ending) (w' : World) : Prop := ∃ k : Int, e = .returned (.int .i64 k) ∧ ((0 ≤ k ∧ ∃ a ∈ l, p a) ∨ (k = -1 ∧ ¬ ∃ a ∈ l, p a)) ∧ k ≤ 1048576 ∧ Below w.heap.size w w'
set_option maxRecDepth 100000 in
set_option maxHeartbeats 4000000 in
theorem idx_sev (p : Re → Prop) (H : PH) (l : List Re) (A : Option Addr) (n c : Nat) (w : World) (hl : SlR kRe H A n c l) (hs : Sat w H) (hb : n ≤ 1048576)
    (hf : ∀ a ∈ l, ∀ (cs' : List Value) (w' : World), RdRe H a cs' → Sat w' H → Calls Try.prog 167 #[.agg cs'.toArray] w' fun e w'' => e = .returned (.bool (decide (p a))) ∧ Below w'.heap.size w' w'') :
    Calls Try.prog 171 #[.slice A n c, .func (.func 167) #[] #[]] w (Idx_sev l p w) := by
  obtain rfl := hl.1
  have hc := hl.2.1
  have hf := Aside.mk hf
  go_enter Try.func171, Try.ntmps171
  go_wp2_with fail
  go_loopw [8] (fun i wr => ∃ k : Nat, k ≤ l.length ∧ i = .int .i64 k ∧ Aside (∀ a ∈ l.take k, ¬ p a) ∧ Aside (Below w.heap.size w wr)) (fun i _ => l.length - (intOf i).toNat)
  case atStart => exact ⟨0, by omega, rfl, ⟨by simp⟩, ⟨Below.refl _ _⟩⟩
  case round =>
    obtain ⟨k, hk, rfl, hno, hbr⟩ := hrel
    by_cases hlt : k < l.length
    · have hsr := hs.below hbr.out
      obtain ⟨b, off, k1, s1, a1, u1, v1, g1, P1, d1, P2, d2, rfl, hq, hrd, g0, g1_, g2, g3, g4, g5⟩ := cell_elem hl hsr k hlt
      have hmem : l[k] ∈ l := List.getElem_mem hlt
      have htk : l.take (k + 1) = l.take k ++ [l[k]] := List.take_succ_eq_append_getElem hlt
      rw [hq] at hmem htk
      have hcall := hf.out _ hmem _ wr hrd hsr
      have HM := Aside.mk (And.intro hmem htk)
      have HC := Aside.mk hcall
      have hlt2 := Aside.mk hlt
      clear hmem htk hq hrd hcall
      by_cases hp : p (Re.mk k1 s1 a1 u1 v1 g1)
      · have HP := Aside.mk hp
        clear hp
        go_wp2_with fail
        refine HC.out.mono ?_
        rintro e w1 ⟨rfl, hb1⟩
        rw [decide_eq_true HP.out]
        go_wp2_with fail
        go_ret
        exact ⟨_, rfl, Or.inl ⟨by omega, _, HM.out.1, HP.out⟩, by omega, bT hbr.out hb1⟩
      · have HP := Aside.mk hp
        clear hp
        go_wp2_with fail
        refine HC.out.mono ?_
        rintro e w1 ⟨rfl, hb1⟩
        rw [decide_eq_false HP.out]
        go_wp2_with fail
        go_roundw
        case rel =>
          refine ⟨k + 1, hlt2.out, by go_num, ⟨fun a ha => ?_⟩, ⟨bT hbr.out hb1⟩⟩
          rw [HM.out.2] at ha
          rcases List.mem_append.1 ha with h | h
          · exact hno.out a h
          · rw [List.mem_singleton.1 h]; exact HP.out
        case measure => (have := hlt2.out; simp [intOf]; omega)
    · obtain rfl : k = l.length := by omega
      go_wp2_with fail
      go_ret
      refine ⟨_, rfl, Or.inr ⟨rfl, ?_⟩, by omega, hbr.out⟩
      rintro ⟨a, ha, hpa⟩
      have := hno.out a
      rw [List.take_of_length_le (Nat.le_refl _)] at this
      exact this ha hpa
set_option maxRecDepth 100000 in
theorem has_sev (p : Re → Prop) (H : PH) (l : List Re) (A : Option Addr) (n c : Nat) (w : World) (hl : SlR kRe H A n c l) (hs : Sat w H) (hb : n ≤ 1048576)
    (hf : ∀ a ∈ l, ∀ (cs' : List Value) (w' : World), RdRe H a cs' → Sat w' H → Calls Try.prog 167 #[.agg cs'.toArray] w' fun e w'' => e = .returned (.bool (decide (p a))) ∧ Below w'.heap.size w' w'') :
    Calls Try.prog 143 #[.slice A n c, .func (.func 167) #[] #[]] w fun e w' => e = .returned (.bool (decide (∃ a ∈ l, p a))) ∧ Below w.heap.size w w' := by
  have HI := Aside.mk (idx_sev p H l A n c w hl hs hb hf)
  clear hl hs hf
  go_enter Try.func143, Try.ntmps143
  go_wp2_with fail
  refine HI.out.mono ?_
  rintro e w1 ⟨k, rfl, hk, hk2, hb1⟩
  rcases hk with ⟨h0, hx⟩ | ⟨rfl, hx⟩
  · have HX := Aside.mk hx
    clear hx
    go_wp2_with fail
    go_ret
    exact ⟨by rw [decide_eq_true HX.out]; rfl, hb1⟩
  · have HX := Aside.mk hx
    clear hx
    go_wp2_with fail
    go_ret
    exact ⟨by rw [decide_eq_false HX.out]; rfl, hb1⟩

/-- slices.IndexFunc, ContainsFunc with retree.once$1 -/
def Idx_once (l : List Re) (p : Re → Prop) (w : World) (e : Ending) (w' : World) : Prop := ∃ k : Int, e = .returned (.int .i64 k) ∧ ((0 ≤ k ∧ ∃ a ∈ l, p a) ∨ (k = -1 ∧ ¬ ∃ a ∈ l, p a)) ∧ k ≤ 1048576 ∧ Below w.heap.size w w'
set_option maxRecDepth 100000 in
set_option maxHeartbeats 4000000 in
theorem idx_once (p : Re → Prop) (H : PH) (l : List Re) (A : Option Addr) (n c : Nat) (w : World) (pb : Nat) (hl : SlR kRe H A n c l) (hs : Sat w H) (hb : n ≤ 1048576)
    (hf : ∀ a ∈ l, ∀ (cs' : List Value) (w' : World), RdRe H a cs' → Sat w' H → Calls Try.prog 182 #[.agg cs'.toArray, .pointer (some ⟨pb, 0, none⟩)] w' fun e w'' => e = .returned (.bool (decide (p a))) ∧ Below w'.heap.size w' w'') :
    Calls Try.prog 171 #[.slice A n c, .func (.func 182) #[] #[.pointer (some ⟨pb, 0, none⟩)]] w (Idx_once l p w) := by
  obtain rfl := hl.1
  have hc := hl.2.1
  have hf := Aside.mk hf
  go_enter Try.func171, Try.ntmps171
  go_wp2_with fail
  go_loopw [8] (fun i wr => ∃ k : Nat, k ≤ l.length ∧ i = .int .i64 k ∧ Aside (∀ a ∈ l.take k, ¬ p a) ∧ Aside (Below w.heap.size w wr)) (fun i _ => l.length - (intOf i).toNat)
  case atStart => exact ⟨0, by omega, rfl, ⟨by simp⟩, ⟨Below.refl _ _⟩⟩
  case round =>
    obtain ⟨k, hk, rfl, hno, hbr⟩ := hrel
    by_cases hlt : k < l.length
    · have hsr := hs.below hbr.out
      obtain ⟨b, off, k1, s1, a1, u1, v1, g1, P1, d1, P2, d2, rfl, hq, hrd, g0, g1_, g2, g3, g4, g5⟩ := cell_elem hl hsr k hlt
      have hmem : l[k] ∈ l := List.getElem_mem hlt
      have htk : l.take (k + 1) = l.take k ++ [l[k]] := List.take_succ_eq_append_getElem hlt
      rw [hq] at hmem htk
      have hcall := hf.out _ hmem _ wr hrd hsr
      have HM := Aside.mk (And.intro hmem htk)
      have HC := Aside.mk hcall
      have hlt2 := Aside.mk hlt
      clear hmem htk hq hrd hcall
      by_cases hp : p (Re.mk k1 s1 a1 u1 v1 g1)
      · have HP := Aside.mk hp
        clear hp
        go_wp2_with fail
        refine HC.out.mono ?_
        rintro e w1 ⟨rfl, hb1⟩
        rw [decide_eq_true HP.out]
        go_wp2_with fail
        go_ret
        exact ⟨_, rfl, Or.inl ⟨by omega, _, HM.out.1, HP.out⟩, by omega, bT hbr.out hb1⟩
      · have HP := Aside.mk hp
        clear hp
        go_wp2_with fail
        refine HC.out.mono ?_
        rintro e w1 ⟨rfl, hb1⟩
        rw [decide_eq_false HP.out]
        go_wp2_with fail
        go_roundw
        case rel =>
          refine ⟨k + 1, hlt2.out, by go_num, ⟨fun a ha => ?_⟩, ⟨bT hbr.out hb1⟩⟩
          rw [HM.out.2] at ha
          rcases List.mem_append.1 ha with h | h
          · exact hno.out a h
          · rw [List.mem_singleton.1 h]; exact HP.out
        case measure => (have := hlt2.out; simp [intOf]; omega)
    · obtain rfl : k = l.length := by omega
      go_wp2_with fail
      go_ret
      refine ⟨_, rfl, Or.inr ⟨rfl, ?_⟩, by omega, hbr.out⟩
      rintro ⟨a, ha, hpa⟩
      have := hno.out a
      rw [List.take_of_length_le (Nat.le_refl _)] at this
      exact this ha hpa
set_option maxRecDepth 100000 in
theorem has_once (p : Re → Prop) (H : PH) (l : List Re) (A : Option Addr) (n c : Nat) (w : World) (pb : Nat) (hl : SlR kRe H A n c l) (hs : Sat w H) (hb : n ≤ 1048576)
    (hf : ∀ a ∈ l, ∀ (cs' : List Value) (w' : World), RdRe H a cs' → Sat w' H → Calls Try.prog 182 #[.agg cs'.toArray, .pointer (some ⟨pb, 0, none⟩)] w' fun e w'' => e = .returned (.bool (decide (p a))) ∧ Below w'.heap.size w' w'') :
    Calls Try.prog 143 #[.slice A n c, .func (.func 182) #[] #[.pointer (some ⟨pb, 0, none⟩)]] w fun e w' => e = .returned (.bool (decide (∃ a ∈ l, p a))) ∧ Below w.heap.size w w' := by
  have HI := Aside.mk (idx_once p H l A n c w pb hl hs hb hf)
  clear hl hs hf
  go_enter Try.func143, Try.ntmps143
  go_wp2_with fail
  refine HI.out.mono ?_
  rintro e w1 ⟨k, rfl, hk, hk2, hb1⟩
  rcases hk with ⟨h0, hx⟩ | ⟨rfl, hx⟩
  · have HX := Aside.mk hx
    clear hx
    go_wp2_with fail
    go_ret
    exact ⟨by rw [decide_eq_true HX.out]; rfl, hb1⟩
  · have HX := Aside.mk hx
    clear hx
    go_wp2_with fail
    go_ret
    exact ⟨by rw [decide_eq_false HX.out]; rfl, hb1⟩
end Go.Proofs.Ytbnahmeaeakhhaa.B

namespace Go.Proofs.Ytbnahmeaeakhhaa.B
set_option linter.unusedVariables false
set_option linter.unusedSimpArgs false
open Go Go.RowKit Classical

/-- each expression once -/
noncomputable def onceL (l : List Re) : List Re := l.foldl (fun o a => if a ∈ o then o else o ++ [a]) []
theorem onceL_snoc (l : List Re) (a : Re) : onceL (l ++ [a]) = if a ∈ onceL l then onceL l else onceL l ++ [a] := by
  unfold onceL
  rw [List.foldl_append]; rfl
theorem foldOnce_len (l o : List Re) : (l.foldl (fun o a => if a ∈ o then o else o ++ [a]) o).length ≤ o.length + l.length := by
  induction l generalizing o with
  | nil => simp
  | cons x l ih =>
    simp only [List.foldl_cons, List.length_cons]
    refine Nat.le_trans (ih _) ?_
    split <;> simp <;> omega
theorem onceL_len (l : List Re) : (onceL l).length ≤ l.length := by simpa [onceL] using foldOnce_len l []

set_option maxRecDepth 100000 in
set_option maxHeartbeats 4000000 in
theorem once1_any (H : PH) (a b : Re) (ca cb : List Value) (pb : Nat) (w : World) (hbx : BoxH H pb ca) (ha : RdRe H a ca) (hb : RdRe H b cb) (hs : Sat w H) :
    Calls Try.prog 182 #[.agg cb.toArray, .pointer (some ⟨pb, 0, none⟩)] w fun e w' => e = .returned (.bool (decide (a = b))) ∧ Below w.heap.size w w' := by
  have hsame := fun w hs => same_re a H b ca cb w ha hb hs
  obtain ⟨k1, s1, l1, m1, x1, n1, rfl⟩ : ∃ p q r s u v, a = Re.mk p q r s u v := by cases a; exact ⟨_, _, _, _, _, _, rfl⟩
  obtain ⟨k2, s2, l2, m2, x2, n2, rfl⟩ : ∃ p q r s u v, b = Re.mk p q r s u v := by cases b; exact ⟨_, _, _, _, _, _, rfl⟩
  obtain ⟨A1, c1, A2, c2, rfl, h1, h2⟩ := ha.open
  obtain ⟨B1, d1, B2, d2, rfl, h3, h4⟩ := hb.open
  have HS := Aside.mk hsame
  obtain ⟨c0, c1_, c2_, c3, c4, c5⟩ := at6 hs hbx
  have hlt := hs.lt (hbx 0 _ rfl)
  clear hsame ha hb h1 h2 h3 h4 hbx
  go_enter Try.func182, Try.ntmps182
  go_wp2_with fail
  refine (HS.out _ (hs.alloc _)).mono ?_
  rintro e w1 ⟨rfl, hb1⟩
  by_cases e6 : Re.mk k1 s1 l1 m1 x1 n1 = Re.mk k2 s2 l2 m2 x2 n2
  · have HB := Aside.mk e6
    rw [decide_eq_true e6]
    clear e6
    go_wp2_with fail
    go_ret
    exact ⟨decT HB.out, bT (bA (Below.refl _ _) _) hb1⟩
  · have HB := Aside.mk e6
    rw [decide_eq_false e6]
    clear e6
    go_wp2_with fail
    go_ret
    exact ⟨decF HB.out, bT (bA (Below.refl _ _) _) hb1⟩

set_option maxRecDepth 100000 in
set_option maxHeartbeats 8000000 in
theorem once_any (H : PH) (l : List Re) (A : Option Addr) (n c : Nat) (w : World) (hl : SlR kRe H A n c l) (hs : Sat w H) (hb : n ≤ 1048576) :
    Calls Try.prog 168 #[.slice A n c] w fun e w' => ∃ v, e = .returned v ∧ Own kRe 25 w' w.heap.size H v (onceL l) ∧ Below w.heap.size w w' := by
  obtain rfl := hl.1
  have hc := hl.2.1
  go_enter Try.func168, Try.ntmps168
  go_wp2_with fail
  go_loopw [3, 8] (fun o i wr => ∃ (k : Nat) (A5 : Option Addr) (l5 c5 : Nat), k ≤ l.length ∧ i = .int .i64 k ∧ o = .slice A5 l5 c5 ∧ Aside (Own kRe 25 wr w.heap.size H o (onceL (l.take k))) ∧ Aside (Below w.heap.size w wr)) (fun _ i _ => l.length - (intOf i).toNat)
  case atStart => exact ⟨0, _, _, _, by omega, rfl, rfl, ⟨by simpa [onceL] using Own.nil _ _ _ _ _⟩, ⟨Below.refl _ _⟩⟩
  case round =>
    obtain ⟨k, A5, l5, c5, hk, rfl, rfl, ho, hbr⟩ := hrel
    by_cases hlt : k < l.length
    · have hsr := hs.below hbr.out
      obtain ⟨b, off, k1, s1, a1, u1, v1, g1, P1, d1, P2, d2, rfl, hq, hrd, g0, g1_, g2, g3, g4, g5⟩ := cell_elem hl hsr k hlt
      have htk : onceL (l.take (k + 1)) = if l[k] ∈ onceL (l.take k) then onceL (l.take k) else onceL (l.take k) ++ [l[k]] := by rw [List.take_succ_eq_append_getElem hlt, onceL_snoc]
      rw [hq] at htk
      have hln : (onceL (l.take k)).length ≤ 1048576 := by have := onceL_len (l.take k); simp at this; omega
      have hlt2 := Aside.mk hlt
      have hbz : b < wr.heap.size := World.block_lt_of_cell? wr _ g0
      obtain ⟨A6, c6, e6, hl6, -, hA6, -⟩ := ho.out.form
      cases e6
      -- what is borrowed for the search
      obtain ⟨H1, hx1, hle1, BB, hold1⟩ := box_freeze (w := wr.alloc (.cells #[.int .i64 k1, .slice P1 s1.length d1, .slice P2 a1.length d2, .int .i64 u1, .int .i64 v1, .bool g1] 25)) ((Ext.of_below hs hbr.out).alloc _) hbr.out.size (heap_alloc_new _ _) (fun o => hsr.new (Nat.le_refl _) o)
      have ho1 := (ho.out.alloc hsr (.cells #[.int .i64 k1, .slice P1 s1.length d1, .slice P2 a1.length d2, .int .i64 u1, .int .i64 v1, .bool g1] 25)).keep (w' := wr.alloc (.cells #[.int .i64 k1, .slice P1 s1.length d1, .slice P2 a1.length d2, .int .i64 u1, .int .i64 v1, .bool g1] 25)) hle1 fun bb hbb => ⟨rfl, fun o => (hold1 bb o (by have := (ho.out.blk hbb).2.1; omega)).trans ((ho.out.blk hbb).2.2 o)⟩
      obtain ⟨H2, hle2, hs2, ⟨A7, c7, e7, hsl⟩, -⟩ := ho1.freeze hx1.sat (by omega)
      cases e7
      have hhas := has_once (fun x => Re.mk k1 s1 a1 u1 v1 g1 = x) H2 (onceL (l.take k)) _ _ _ _ wr.heap.size hsl hs2 hln (fun a ha cs' w' hr' hs' => once1_any H2 (Re.mk k1 s1 a1 u1 v1 g1) a _ cs' wr.heap.size w' (BB.mono hle2) (hrd.mono (PH.le_trans hle1 hle2)) hr' hs')
      have hmm : (∃ a ∈ onceL (l.take k), Re.mk k1 s1 a1 u1 v1 g1 = a) ↔ Re.mk k1 s1 a1 u1 v1 g1 ∈ onceL (l.take k) := by simp
      have hby : Aside (((onceL (l.take k)).length + 1) * 80 ≤ 140737488355328 ∧ (onceL (l.take k)).length + 1 ≤ maxLen) := ⟨by omega, by unfold maxLen; omega⟩
      have kb := heap_alloc_new wr (.cells #[.int .i64 k1, .slice P1 s1.length d1, .slice P2 a1.length d2, .int .i64 u1, .int .i64 v1, .bool g1] 25)
      have HH := Aside.mk (And.intro hhas (And.intro htk (And.intro hrd (And.intro kb (ho.out.alloc hsr (.cells #[.int .i64 k1, .slice P1 s1.length d1, .slice P2 a1.length d2, .int .i64 u1, .int .i64 v1, .bool g1] 25))))))
      have HX := Aside.mk (bA hbr.out (.cells #[.int .i64 k1, .slice P1 s1.length d1, .slice P2 a1.length d2, .int .i64 u1, .int .i64 v1, .bool g1] 25))
      clear hx1 hle1 BB hold1 ho1 hle2 hs2 hsl hhas htk hrd kb hq
      generalize hoo : onceL (l.take k) = oo at *
      clear hoo
      go_wp2_with fail
      generalize (wr.alloc (.cells #[.int .i64 k1, .slice P1 s1.length d1, .slice P2 a1.length d2, .int .i64 u1, .int .i64 v1, .bool g1] 25)) = W1 at *
      refine HH.out.1.mono ?_
      rintro e w2 ⟨rfl, hb2⟩
      have ho2 := HH.out.2.2.2.2.below (hs.below HX.out) hb2
      have hx2 := bT HX.out hb2
      have k2 := box_below HH.out.2.2.2.1 hb2
      obtain ⟨⟨c0, c1, c2, c3, c4, c5⟩, -⟩ := kbox6 k2
      by_cases hp : Re.mk k1 s1 a1 u1 v1 g1 ∈ oo
      · rw [decide_eq_true (hmm.2 hp)]
        have HP := Aside.mk hp
        have HO := Aside.mk (And.intro ho2 (And.intro hx2 hmm))
        clear hp ho2 hx2 hb2 hmm k2
        go_wp2_with fail
        go_roundw
        case rel => exact ⟨k + 1, _, _, _, hlt2.out, by go_num, rfl, ⟨by rw [HH.out.2.1, if_pos HP.out]; exact HO.out.1⟩, ⟨HO.out.2.1⟩⟩
        case measure => (have := hlt2.out; simp [intOf]; omega)
      · rw [decide_eq_false (fun h => hp (hmm.1 h))]
        have HP := Aside.mk hp
        have hs3 := hs.below hx2
        have HO := Aside.mk (And.intro hx2 hmm)
        have hsz2 := hx2.size
        clear hp hb2 hmm k2 hx2
        have hrd2 := HH.out.2.2.1
        go_upto_region 7 with (at_builtin; go_must (refine wpList_app1 kRe rfl (.tmp 16) (.tmp 18) 23 rfl 25 Try.underlying23 info25 rfl ho2 hs3 rfl rfl rfl hrd2 hby.out.1 hby.out.2 hsz2 ?_); intro v9 w9 ho9 hg9 hs9 hn9)
        have hx9 := ho2.belowG HO.out.1 (Nat.le_refl _) hg9
        obtain ⟨A9, c9, rfl, -, -, -, -⟩ := ho9.form
        have HO9 := Aside.mk (And.intro ho9 hx9)
        clear ho9 hx9 hg9 hs9 hn9 ho2 hrd2
        go_wp2_with fail
        go_roundw
        case rel => exact ⟨k + 1, _, _, _, hlt2.out, by go_num, rfl, ⟨by rw [HH.out.2.1, if_neg HP.out]; exact HO9.out.1⟩, ⟨HO9.out.2⟩⟩
        case measure => (have := hlt2.out; simp [intOf]; omega)
    · obtain rfl : k = l.length := by omega
      go_wp2_with fail
      go_ret
      have h9 := ho.out
      rw [List.take_of_length_le (Nat.le_refl _)] at h9
      exact ⟨_, rfl, h9, hbr.out⟩
end Go.Proofs.Ytbnahmeaeakhhaa.B
