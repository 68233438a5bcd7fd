/- Contracts: slices.Index, Contains, Clone over ints; retree.Uses. -/
import Derived.Test.YtbnahmeaeakhhaaBc
import Derived.Test.YtbnahmeaeakhhaaOpr
import Derived.Test.YtbnahmeaeakhhaaK1
import Derived.Test.YtbnahmeaeakhhaaC7
import Derived.Test.YtbnahmeaeakhhaaN5
import Derived.Test.YtbnahmeaeakhhaaNf
namespace Go.Proofs.Ytbnahmeaeakhhaa.B
set_option linter.unusedVariables false
set_option linter.unusedSimpArgs false
open Go Go.RowKit Classical

def IdxI (l : List Int) (x : Int) (e : Ending) : Prop := ∃ k : Int, e = .returned (.int .i64 k) ∧ ((0 ≤ k ∧ x ∈ l) ∨ (k = -1 ∧ x ∉ l))
set_option maxRecDepth 100000 in
set_option maxHeartbeats 4000000 in
theorem idxInt_any (H : PH) (l : List Int) (x : Int) (A : Option Addr) (n c : Nat) (w : World) (hl : SlR (kI .i64) H A n c l) (hs : Sat w H) :
    Calls Try.prog 170 #[.slice A n c, .int .i64 x] w fun e w' => IdxI l x e ∧ w = w' := by
  obtain rfl := hl.1
  have hc := hl.2.1
  have hlen := hl.2.2.2.1
  go_enter Try.func170, Try.ntmps170
  go_wp2_with fail
  go_loop [8] (fun i => ∃ k : Nat, k ≤ l.length ∧ i = .int .i64 k ∧ Aside (x ∉ l.take k)) (fun i => l.length - (intOf i).toNat)
  case atStart => exact ⟨0, by omega, rfl, ⟨by simp⟩⟩
  case round =>
    obtain ⟨k, hk, rfl, hno⟩ := hrel
    by_cases hlt : k < l.length
    · obtain ⟨b, off, cs, rfl, hrd, hcell⟩ := hl.row k hlt
      have htk : l.take (k + 1) = l.take k ++ [l[k]] := List.take_succ_eq_append_getElem hlt
      have hmem : l[k] ∈ l := List.getElem_mem hlt
      generalize l[k] = z at *
      obtain rfl : cs = [.int .i64 z] := hrd
      have g0 := at1 hs hcell
      simp only [kI, Nat.mul_one] at g0
      have HM := Aside.mk (And.intro htk (And.intro hmem hlt))
      clear htk hmem hcell
      by_cases hq : x = z
      · subst hq
        go_wp2_with fail
        go_ret
        exact ⟨⟨_, rfl, Or.inl ⟨by omega, HM.out.2.1⟩⟩, rfl⟩
      · go_wp2_with fail
        go_round
        case rel =>
          refine ⟨k + 1, HM.out.2.2, by go_num, ⟨?_⟩⟩
          rw [HM.out.1, List.mem_append, List.mem_singleton]
          exact fun h => h.elim hno.out hq
        case measure => (have := HM.out.2.2; simp [intOf]; omega)
    · obtain rfl : k = l.length := by omega
      go_wp2_with fail
      go_ret
      have h9 := hno.out
      rw [List.take_of_length_le (Nat.le_refl _)] at h9
      exact ⟨⟨_, rfl, Or.inr ⟨rfl, h9⟩⟩, rfl⟩
set_option maxRecDepth 100000 in
theorem hasInt_any (H : PH) (l : List Int) (x : Int) (A : Option Addr) (n c : Nat) (w : World) (hl : SlR (kI .i64) H A n c l) (hs : Sat w H) :
    Calls Try.prog 142 #[.slice A n c, .int .i64 x] w fun e w' => e = .returned (.bool (decide (x ∈ l))) ∧ w = w' := by
  have HI := Aside.mk (idxInt_any H l x A n c w hl hs)
  clear hl
  go_enter Try.func142, Try.ntmps142
  go_wp2_with fail
  refine HI.out.mono ?_
  rintro e w1 ⟨⟨k, rfl, hk⟩, rfl⟩
  rcases hk with ⟨h0, hx⟩ | ⟨rfl, hx⟩
  · have HX := Aside.mk hx
    clear hx
    go_wp2_with fail
    go_ret
    exact ⟨(retT HX.out).symm, rfl⟩
  · have HX := Aside.mk hx
    clear hx
    go_wp2_with fail
    go_ret
    exact ⟨(retF HX.out).symm, rfl⟩

set_option maxRecDepth 100000 in
/-- slices.Clone, over ints -/
theorem cloneInt_any (H : PH) (xs : List Int) (A : Option Addr) (n c : Nat) (w : World) (hl : SlR (kI .i64) H A n c xs) (hs : Sat w H) (hb : n ≤ 1048576) :
    Calls Try.prog 69 #[.slice A n c] w fun e w' => ∃ v, e = .returned v ∧ Own (kI .i64) 3 w' w.heap.size H v xs ∧ Below w.heap.size w w' := by
  have hl1 := hl.1
  cases A with
  | none =>
    obtain rfl : c = 0 := hl.2.2.2.2.1 rfl
    obtain rfl : n = 0 := Nat.le_zero.1 hl.2.1
    obtain rfl : xs = [] := List.eq_nil_of_length_eq_zero hl1.symm
    clear hl hl1
    have he := fun (w : World) (a : Option Addr) (l c n' c' : Nat) => Lib.run_eql_slice_nil (P := Try.prog) w 26 3 a l c n' c' Try.underlying26
    go_enter Try.func69, Try.ntmps69
    go_wp2_with fail
    go_ret
    exact ⟨_, rfl, Own.nil _ _ _ _ _, Below.refl _ _⟩
  | some a =>
    have ho := Own.lit (k := kI .i64) (e := 3) (xs := []) (base := w.heap.size) hs #[] (Nat.le_refl _) rfl (by unfold maxLen; simp)
    have hs1 := hs.alloc (.cells #[] 3)
    have he := fun (w : World) (a : Option Addr) (l c n' c' : Nat) => Lib.run_eql_slice_nil (P := Try.prog) w 26 3 a l c n' c' Try.underlying26
    have HL := Aside.mk hl
    have HO := Aside.mk (And.intro ho hs1)
    clear hl ho hs1 hl1
    go_enter Try.func69, Try.ntmps69
    go_upto_region 4 with (at_builtin; go_must (refine wpList_appS (kI .i64) rfl (.tmp 5) (.tmp 6) 26 rfl 3 Try.underlying26 info3 rfl HO.out.1 HO.out.2 HL.out rfl rfl (by rw [← HL.out.1]; simp; omega) (by rw [← HL.out.1]; unfold maxLen; simp; omega) (by simp) ?_); intro v8 w8 ho8 hg8 hs8 hn8 hnil8)
    go_wp2_with fail
    go_ret
    exact ⟨_, rfl, by simpa using ho8, below_grownBy (bA (Below.refl _ _) _) (Nat.le_refl _) (hg8)⟩
end Go.Proofs.Ytbnahmeaeakhhaa.B
namespace Go.Proofs.Ytbnahmeaeakhhaa.B
set_option linter.unusedVariables false
set_option linter.unusedSimpArgs false
open Go Go.RowKit Classical

/-- slices.IndexFunc, ContainsFunc with retree.Uses$1 -/
def Idx_uses (l : List Re) (p : Re → Prop) (w : World) (e : Ending) (w' : World) : Prop := ∃ k : Int, e = .returned (.int .i64 k) ∧ ((0 ≤ k ∧ ∃ a ∈ l, p a) ∨ (k = -1 ∧ ¬ ∃ a ∈ l, p a)) ∧ k ≤ 1048576 ∧ Below w.heap.size w w'
set_option maxRecDepth 100000 in
set_option maxHeartbeats 4000000 in
theorem idx_uses (p : Re → Prop) (H : PH) (l : List Re) (A : Option Addr) (n c : Nat) (w : World) (pb : Nat) (hl : SlR kRe H A n c l) (hs : Sat w H) (hb : n ≤ 1048576)
    (hf : ∀ a ∈ l, ∀ (cs' : List Value) (w' : World), RdRe H a cs' → Sat w' H → Calls Try.prog 144 #[.agg cs'.toArray, .pointer (some ⟨pb, 0, none⟩)] w' fun e w'' => e = .returned (.bool (decide (p a))) ∧ Below w'.heap.size w' w'') :
    Calls Try.prog 171 #[.slice A n c, .func (.func 144) #[] #[.pointer (some ⟨pb, 0, none⟩)]] w (Idx_uses l p w) := by
  obtain rfl := hl.1
  have hc := hl.2.1
  have hf := Aside.mk hf
  go_enter Try.func171, Try.ntmps171
  go_wp2_with fail
  go_loopw [8] (fun i wr => ∃ k : Nat, k ≤ l.length ∧ i = .int .i64 k ∧ Aside (∀ a ∈ l.take k, ¬ p a) ∧ Aside (Below w.heap.size w wr)) (fun i _ => l.length - (intOf i).toNat)
  case atStart => exact ⟨0, by omega, rfl, ⟨by simp⟩, ⟨Below.refl _ _⟩⟩
  case round =>
    obtain ⟨k, hk, rfl, hno, hbr⟩ := hrel
    by_cases hlt : k < l.length
    · have hsr := hs.below hbr.out
      obtain ⟨b, off, k1, s1, a1, u1, v1, g1, P1, d1, P2, d2, rfl, hq, hrd, g0, g1_, g2, g3, g4, g5⟩ := cell_elem hl hsr k hlt
      have hmem : l[k] ∈ l := List.getElem_mem hlt
      have htk : l.take (k + 1) = l.take k ++ [l[k]] := List.take_succ_eq_append_getElem hlt
      rw [hq] at hmem htk
      have hcall := hf.out _ hmem _ wr hrd hsr
      have HM := Aside.mk (And.intro hmem htk)
      have HC := Aside.mk hcall
      have hlt2 := Aside.mk hlt
      clear hmem htk hq hrd hcall
      by_cases hp : p (Re.mk k1 s1 a1 u1 v1 g1)
      · have HP := Aside.mk hp
        clear hp
        go_wp2_with fail
        refine HC.out.mono ?_
        rintro e w1 ⟨rfl, hb1⟩
        rw [decide_eq_true HP.out]
        go_wp2_with fail
        go_ret
        exact ⟨_, rfl, Or.inl ⟨by omega, _, HM.out.1, HP.out⟩, by omega, bT hbr.out hb1⟩
      · have HP := Aside.mk hp
        clear hp
        go_wp2_with fail
        refine HC.out.mono ?_
        rintro e w1 ⟨rfl, hb1⟩
        rw [decide_eq_false HP.out]
        go_wp2_with fail
        go_roundw
        case rel =>
          refine ⟨k + 1, hlt2.out, by go_num, ⟨fun a ha => ?_⟩, ⟨bT hbr.out hb1⟩⟩
          rw [HM.out.2] at ha
          rcases List.mem_append.1 ha with h | h
          · exact hno.out a h
          · rw [List.mem_singleton.1 h]; exact HP.out
        case measure => (have := hlt2.out; simp [intOf]; omega)
    · obtain rfl : k = l.length := by omega
      go_wp2_with fail
      go_ret
      refine ⟨_, rfl, Or.inr ⟨rfl, ?_⟩, by omega, hbr.out⟩
      rintro ⟨a, ha, hpa⟩
      have := hno.out a
      rw [List.take_of_length_le (Nat.le_refl _)] at this
      exact this ha hpa
set_option maxRecDepth 100000 in
theorem has_uses (p : Re → Prop) (H : PH) (l : List Re) (A : Option Addr) (n c : Nat) (w : World) (pb : Nat) (hl : SlR kRe H A n c l) (hs : Sat w H) (hb : n ≤ 1048576)
    (hf : ∀ a ∈ l, ∀ (cs' : List Value) (w' : World), RdRe H a cs' → Sat w' H → Calls Try.prog 144 #[.agg cs'.toArray, .pointer (some ⟨pb, 0, none⟩)] w' fun e w'' => e = .returned (.bool (decide (p a))) ∧ Below w'.heap.size w' w'') :
    Calls Try.prog 143 #[.slice A n c, .func (.func 144) #[] #[.pointer (some ⟨pb, 0, none⟩)]] w fun e w' => e = .returned (.bool (decide (∃ a ∈ l, p a))) ∧ Below w.heap.size w w' := by
  have HI := Aside.mk (idx_uses p H l A n c w pb hl hs hb hf)
  clear hl hs hf
  go_enter Try.func143, Try.ntmps143
  go_wp2_with fail
  refine HI.out.mono ?_
  rintro e w1 ⟨k, rfl, hk, hk2, hb1⟩
  rcases hk with ⟨h0, hx⟩ | ⟨rfl, hx⟩
  · have HX := Aside.mk hx
    clear hx
    go_wp2_with fail
    go_ret
    exact ⟨by rw [decide_eq_true HX.out]; rfl, hb1⟩
  · have HX := Aside.mk hx
    clear hx
    go_wp2_with fail
    go_ret
    exact ⟨by rw [decide_eq_false HX.out]; rfl, hb1⟩

/-- some node has one of the kinds -/
def usesP (r : Re) (ks : List Int) : Prop := ∃ x ∈ pre r, x.kind ∈ ks
theorem usesP_mk (k s args mn mx ng) (ks : List Int) : usesP (.mk k s args mn mx ng) ks ↔ k ∈ ks ∨ ∃ a ∈ args, usesP a ks := by
  unfold usesP
  rw [pre_eq]
  constructor
  · rintro ⟨x, hx, h⟩
    rcases List.mem_cons.1 hx with rfl | hx
    · exact Or.inl h
    · obtain ⟨l, hl, hx⟩ := List.mem_flatten.1 hx
      obtain ⟨a, ha, rfl⟩ := List.mem_map.1 hl
      exact Or.inr ⟨a, ha, x, hx, h⟩
  · rintro (h | ⟨a, ha, x, hx, h⟩)
    · exact ⟨_, List.mem_cons_self .., h⟩
    · exact ⟨x, List.mem_cons_of_mem _ (List.mem_flatten.2 ⟨_, List.mem_map.2 ⟨a, ha, rfl⟩, hx⟩), h⟩
theorem sz_le_szL {a : Re} {l : List Re} (h : a ∈ l) : sz a ≤ szL l := by
  induction l with
  | nil => simp at h
  | cons b l ih =>
    rw [szL_cons]
    rcases List.mem_cons.1 h with rfl | h
    · omega
    · have := ih h; omega
def UsesS (r : Re) : Prop := ∀ (H : PH) (cs : List Value) (ks : List Int) (A : Option Addr) (n c : Nat) (w : World), RdRe H r cs → SlR (kI .i64) H A n c ks → Sat w H →
  Calls Try.prog 91 #[.agg cs.toArray, .slice A n c] w fun e w' => e = .returned (.bool (decide (usesP r ks))) ∧ Below w.heap.size w w'

set_option maxRecDepth 100000 in
theorem uses1_any (H : PH) (a : Re) (cs : List Value) (ks : List Int) (A : Option Addr) (n c pb : Nat) (w : World) (ih : UsesS a) (ha : RdRe H a cs) (hk : SlR (kI .i64) H A n c ks) (hb : H pb 0 = some (.slice A n c)) (hs : Sat w H) :
    Calls Try.prog 144 #[.agg cs.toArray, .pointer (some ⟨pb, 0, none⟩)] w fun e w' => e = .returned (.bool (decide (usesP a ks))) ∧ Below w.heap.size w w' := by
  have hcall := fun w hs => ih H cs ks A n c w ha hk hs
  obtain ⟨k1, s1, l1, m1, x1, n1, rfl⟩ : ∃ y1 y2 y3 y4 y5 y6, a = Re.mk y1 y2 y3 y4 y5 y6 := by cases a; exact ⟨_, _, _, _, _, _, rfl⟩
  obtain ⟨A1, c1, A2, c2, rfl, -, -⟩ := ha.open
  have g0 := hs _ _ _ hb
  have hlt := hs.lt hb
  have HC := Aside.mk hcall
  clear hcall ih ha hk hb
  go_enter Try.func144, Try.ntmps144
  go_wp2_with fail
  refine (HC.out _ (hs.alloc _)).mono ?_
  rintro e w1 ⟨rfl, hb1⟩
  by_cases hp : usesP (Re.mk k1 s1 l1 m1 x1 n1) ks
  · have HP := Aside.mk hp
    rw [decide_eq_true hp]
    clear hp
    go_wp2_with fail
    go_ret
    exact ⟨(retT HP.out).symm, bT (bA (Below.refl _ _) _) hb1⟩
  · have HP := Aside.mk hp
    rw [decide_eq_false hp]
    clear hp
    go_wp2_with fail
    go_ret
    exact ⟨(retF HP.out).symm, bT (bA (Below.refl _ _) _) hb1⟩

set_option maxRecDepth 100000 in
set_option maxHeartbeats 8000000 in
theorem uses_any (r : Re) : sz r ≤ 1048576 → UsesS r := by
  induction r using Re.ind with
  | h k s args mn mx ng ih =>
  intro hz H cs ks A n c w hr hk hs
  have hln := len_szL args
  rw [sz_mk] at hz
  have ihh : ∀ a ∈ args, UsesS a := fun a ha => ih a ha (by have := sz_le_szL ha; omega)
  have hkc := hk.2.1
  obtain ⟨A1, c1, A2, c2, rfl, -, h2⟩ := hr.open
  have HI := Aside.mk (And.intro ihh (And.intro hz hln))
  clear ih ihh hz hln hr
  have hx := Aside.mk (Ext.refl hs)
  replace h2 := Aside.mk h2
  replace hk := Aside.mk hk
  go_enter Try.func91, Try.ntmps91
  go_wp2_with fail
  have hszw := hx.out.size
  have kr_ : ((w.alloc (.cells #[.int .i64 k, .slice A1 s.length c1, .slice A2 args.length c2, .int .i64 mn, .int .i64 mx, .bool ng] 25)).alloc (.cells #[.slice A n c] 26)).heap[w.heap.size]? = some (.cells #[.int .i64 k, .slice A1 s.length c1, .slice A2 args.length c2, .int .i64 mn, .int .i64 mx, .bool ng] 25) := (boxA (heap_alloc_new _ _) (.cells #[.slice A n c] 26))
  have kq_ : ((w.alloc (.cells #[.int .i64 k, .slice A1 s.length c1, .slice A2 args.length c2, .int .i64 mn, .int .i64 mx, .bool ng] 25)).alloc (.cells #[.slice A n c] 26)).heap[w.heap.size + 1]? = some (.cells #[.slice A n c] 26) := (by rw [show w.heap.size + 1 = ((w.alloc (.cells #[.int .i64 k, .slice A1 s.length c1, .slice A2 args.length c2, .int .i64 mn, .int .i64 mx, .bool ng] 25))).heap.size by simp]; exact heap_alloc_new _ _)
  have nr := Aside.mk (fun o => hx.out.sat.new (b := w.heap.size) (show w.heap.size ≤ _ by omega) o)
  have nq := Aside.mk (fun o => hx.out.sat.new (b := w.heap.size + 1) (show w.heap.size ≤ _ by omega) o)
  replace hx := Aside.mk (((hx.out.alloc (.cells #[.int .i64 k, .slice A1 s.length c1, .slice A2 args.length c2, .int .i64 mn, .int .i64 mx, .bool ng] 25)).alloc (.cells #[.slice A n c] 26)))
  generalize ((w.alloc (.cells #[.int .i64 k, .slice A1 s.length c1, .slice A2 args.length c2, .int .i64 mn, .int .i64 mx, .bool ng] 25)).alloc (.cells #[.slice A n c] 26)) = W1 at *
  have kr := Aside.mk kr_
  clear kr_
  have kq := Aside.mk kq_
  clear kq_
  obtain ⟨H1, hx2, hle, Br, hold⟩ := box_freeze hx.out (by omega) kr.out nr.out
  replace h2 := Aside.mk (h2.out.mono hle)
  replace hk := Aside.mk (hk.out.mono hle)
  replace nq := Aside.mk (fun o => (hold _ o (by omega)).trans (nq.out o))
  replace hx := Aside.mk hx2
  replace Br := Aside.mk Br
  clear hle hold hx2 kr nr
  obtain ⟨H1, hx2, hle, Bq, hold⟩ := box_freeze hx.out (by omega) kq.out nq.out
  replace h2 := Aside.mk (h2.out.mono hle)
  replace hk := Aside.mk (hk.out.mono hle)
  replace Br := Aside.mk (Br.out.mono hle)
  replace hx := Aside.mk hx2
  replace Bq := Aside.mk Bq
  clear hle hold hx2 kq nq
  refine (hasInt_any _ ks k A n c _ hk.out hx.out.sat).mono ?_
  rintro e w2 ⟨he, rfl⟩
  by_cases hkk : k ∈ ks
  case pos =>
    obtain rfl : e = .returned (.bool true) := he.trans (retT hkk)
    replace hkk := Aside.mk hkk
    have lqr : w.heap.size < W1.heap.size := hx.out.sat.lt (Br.out 0 _ rfl)
    have cr0 : W1.cell? ⟨w.heap.size, 0, none⟩ = some (.int .i64 k) := hx.out.sat _ _ _ (Br.out 0 _ rfl)
    have cr1 : W1.cell? ⟨w.heap.size, 1, none⟩ = some (.slice A1 s.length c1) := hx.out.sat _ _ _ (Br.out 1 _ rfl)
    have cr2 : W1.cell? ⟨w.heap.size, 2, none⟩ = some (.slice A2 args.length c2) := hx.out.sat _ _ _ (Br.out 2 _ rfl)
    have cr3 : W1.cell? ⟨w.heap.size, 3, none⟩ = some (.int .i64 mn) := hx.out.sat _ _ _ (Br.out 3 _ rfl)
    have cr4 : W1.cell? ⟨w.heap.size, 4, none⟩ = some (.int .i64 mx) := hx.out.sat _ _ _ (Br.out 4 _ rfl)
    have cr5 : W1.cell? ⟨w.heap.size, 5, none⟩ = some (.bool ng) := hx.out.sat _ _ _ (Br.out 5 _ rfl)
    have lqq : w.heap.size + 1 < W1.heap.size := hx.out.sat.lt (Bq.out 0 _ rfl)
    have cq0 : W1.cell? ⟨w.heap.size + 1, 0, none⟩ = some (.slice A n c) := hx.out.sat _ _ _ (Bq.out 0 _ rfl)
    go_wp2_with fail
    go_ret
    exact ⟨(retT ((usesP_mk ..).2 (Or.inl hkk.out))).symm, hx.out.below⟩
  obtain rfl : e = .returned (.bool false) := he.trans (retF hkk)
  replace hkk := Aside.mk hkk
  have lqr : w.heap.size < W1.heap.size := hx.out.sat.lt (Br.out 0 _ rfl)
  have cr0 : W1.cell? ⟨w.heap.size, 0, none⟩ = some (.int .i64 k) := hx.out.sat _ _ _ (Br.out 0 _ rfl)
  have cr1 : W1.cell? ⟨w.heap.size, 1, none⟩ = some (.slice A1 s.length c1) := hx.out.sat _ _ _ (Br.out 1 _ rfl)
  have cr2 : W1.cell? ⟨w.heap.size, 2, none⟩ = some (.slice A2 args.length c2) := hx.out.sat _ _ _ (Br.out 2 _ rfl)
  have cr3 : W1.cell? ⟨w.heap.size, 3, none⟩ = some (.int .i64 mn) := hx.out.sat _ _ _ (Br.out 3 _ rfl)
  have cr4 : W1.cell? ⟨w.heap.size, 4, none⟩ = some (.int .i64 mx) := hx.out.sat _ _ _ (Br.out 4 _ rfl)
  have cr5 : W1.cell? ⟨w.heap.size, 5, none⟩ = some (.bool ng) := hx.out.sat _ _ _ (Br.out 5 _ rfl)
  have lqq : w.heap.size + 1 < W1.heap.size := hx.out.sat.lt (Bq.out 0 _ rfl)
  have cq0 : W1.cell? ⟨w.heap.size + 1, 0, none⟩ = some (.slice A n c) := hx.out.sat _ _ _ (Bq.out 0 _ rfl)
  go_wp2_with fail
  clear lqr cr0 cr1 cr2 cr3 cr4 cr5 lqq cq0
  refine (has_uses (fun a => usesP a ks) _ args A2 _ c2 _ (w.heap.size + 1) h2.out hx.out.sat (by have := HI.out.2.1; have := HI.out.2.2; omega) (fun a ha cs' w' hr' hs' => uses1_any _ a cs' ks A n c _ w' (HI.out.1 a ha) hr' hk.out (Bq.out 0 _ rfl) hs')).mono ?_
  rintro e w3 ⟨he, hb3⟩
  replace hx := Aside.mk (hx.out.then_below hb3)
  clear hb3
  by_cases hx2 : ∃ a ∈ args, usesP a ks
  · obtain rfl : e = .returned (.bool true) := he.trans (retT hx2)
    replace hx2 := Aside.mk hx2
    go_wp2_with fail
    go_ret
    exact ⟨(retT ((usesP_mk ..).2 (Or.inr hx2.out))).symm, hx.out.below⟩
  · obtain rfl : e = .returned (.bool false) := he.trans (retF hx2)
    replace hx2 := Aside.mk hx2
    go_wp2_with fail
    go_ret
    exact ⟨(retF (fun h => ((usesP_mk ..).1 h).elim hkk.out hx2.out)).symm, hx.out.below⟩
end Go.Proofs.Ytbnahmeaeakhhaa.B
