/- parlkeep1.PackTight: the walk. -/
import Derived.Test.YtbnahmeaeakhhaaU4
import Derived.Test.YtbnahmeaeakhhaaU5
namespace Go.Proofs.Ytbnahmeaeakhhaa.B
set_option linter.unusedVariables false
set_option linter.unusedSimpArgs false
open Go Go.RowKit Go.Proofs.Ytbnahmeaeakhhaa.Q Go.Proofs.Ytbnahmeaeakhhaa.S Classical

theorem atV_aut {T : Tab} {D : Aut} (h0 : errT T = 0) (hd : autT T = D) {s c : Nat} (hs : s < D.next.length) (hc : c < (D.next.getD 0 []).length) : atV T s c = ((D.next.getD s []).getD c 0, 0) := by
  subst hd
  have hl : (autT T).next.length = T.base.length := by simp [autT]
  have ok := tabErr_ok h0
  have hrow : ∀ i, i < T.base.length → (autT T).next.getD i [] = rowT T i := fun i hi => by
    rw [List.getD_eq_getElem?_getD, List.getElem?_eq_getElem (by rw [hl]; exact hi)]; simp [autT]
  rw [hl] at hs
  rw [hrow 0 (by omega)] at hc
  have hc2 : c < T.cols.toNat := by simpa [rowT] using hc
  have hcol : 1 ≤ T.cols := ok.2.2.1
  rw [hrow s hs]
  have he : (rowT T s).getD c 0 = entF T.base T.own T.nxt s c := by
    rw [List.getD_eq_getElem?_getD, List.getElem?_eq_getElem (by simpa [rowT] using hc2)]; simp [rowT]
  unfold atV
  rw [if_neg (fun h => h h0), if_neg (by omega), he]
def sumR (next : List (List Int)) (k : Nat) : Int := ((rangeI k).map fun s => cntF (next.getD s.toNat [])).sum
theorem sumR_succ (next : List (List Int)) (k : Nat) : sumR next (k + 1) = sumR next k + cntF (next.getD k []) := by
  unfold sumR
  rw [rangeI_succ, List.map_append, List.sum_append]
  simp
theorem tightAt_any {H : PH} {T : Tab} {D : Aut} {cs : List Value} {w : World} {s c : Nat} (hT : RdTab H T cs) (hs : Sat w H) (h0 : errT T = 0) (hd : autT T = D) (h1 : s < D.next.length) (h2 : c < (D.next.getD 0 []).length) :
    Calls Try.prog 56 #[.agg cs.toArray, .int .i64 (s : Int), .int .i64 (c : Int)] w fun e w' => e = .returned (.tuple #[.int .i64 ((D.next.getD s []).getD c 0), .int .i64 0]) ∧ Below w.heap.size w w' := by
  have := At_any (s : Int) (c : Int) hT hs
  rw [atV_aut h0 hd h1 h2] at this
  exact this
theorem belowN_any (x : Int) (n : Nat) (w : World) (h : 0 < n) (hn : n ≤ 1000000) : Calls Try.prog 55 #[.int .i64 x, .int .i64 (n : Int)] w fun e w' => e = .returned (.int .i64 (((M.below x n).toNat : Nat) : Int)) ∧ w' = w := by
  have h1 := M.below_lt x n (by omega)
  refine (M.below_any x n w (by omega) (by omega)).mono ?_
  rintro e w' ⟨rfl, rfl⟩
  exact ⟨by rw [Int.toNat_of_nonneg h1.1], rfl⟩

set_option maxRecDepth 100000 in
set_option maxHeartbeats 32000000 in
theorem packTight_any (H : PH) (k : List Int) (A : Option Addr) (n0 c0 : Nat) (s c : Int) (w : World) (hk : SlR (kI .i64) H A n0 c0 k) (hs : Sat w H) :
    Calls Try.prog 9 #[.slice A n0 c0, .int .i64 s, .int .i64 c] w fun e w' => e = .returned (.bool true) ∧ Below w.heap.size w w' := by
  have hx := Aside.mk (Ext.refl hs)
  replace hk := Aside.mk hk
  go_enter Try.func9, Try.ntmps9
  go_wp2_with fail
  have hsz := hx.out.size
  refine (even_any _ _ hx.out.sat).mono ?_
  rintro e w1 ⟨H2, E1, E2, rfl, hE1, hE2, hx9⟩
  have hle := hx9.le
  replace hk := Aside.mk (hk.out.mono hle)
  replace hx := Aside.mk (hx.out.trans hx9)
  clear hle hx9
  clear hsz 
  replace hE1 := Aside.mk hE1
  replace hE2 := Aside.mk hE2
  go_wp2_with fail
  have hsz := hx.out.size
  refine (packEv_any hE1.out hE2.out hx.out.sat).mono ?_
  rintro e w2 ⟨H3, F1, f1, F2, f2, F3, f3, F4, f4, rfl, hF, hx9⟩
  have hle := hx9.le
  replace hk := Aside.mk (hk.out.mono hle)
  replace hE1 := Aside.mk (hE1.out.mono hle)
  replace hE2 := Aside.mk (hE2.out.mono hle)
  replace hx := Aside.mk (hx.out.trans hx9)
  clear hle hx9
  clear hsz 
  clear hF
  clear hE1 hE2
  have hsz := hx.out.size
  go_upto_region 2 with (fail)
  have hszw2 := hx.out.size
  have kt_ : (w2.alloc (.cells #[.int .i64 0, .int .i64 1, .slice F1 2 f1, .slice F2 2 f2, .slice F3 2 f3, .slice F4 2 f4] 85)).heap[w2.heap.size]? = some (.cells #[.int .i64 0, .int .i64 1, .slice F1 2 f1, .slice F2 2 f2, .slice F3 2 f3, .slice F4 2 f4] 85) := (heap_alloc_new _ _)
  have nt := Aside.mk (fun o => hx.out.sat.new (b := w2.heap.size) (show w2.heap.size ≤ _ by omega) o)
  replace hx := Aside.mk ((hx.out.alloc (.cells #[.int .i64 0, .int .i64 1, .slice F1 2 f1, .slice F2 2 f2, .slice F3 2 f3, .slice F4 2 f4] 85)))
  generalize (w2.alloc (.cells #[.int .i64 0, .int .i64 1, .slice F1 2 f1, .slice F2 2 f2, .slice F3 2 f3, .slice F4 2 f4] 85)) = W1 at *
  have kt := Aside.mk kt_
  clear kt_
  obtain ⟨H1, hx2, hle, Bt, hold⟩ := box_freeze hx.out (by omega) kt.out nt.out
  replace hk := Aside.mk (hk.out.mono hle)
  replace hx := Aside.mk hx2
  replace Bt := Aside.mk Bt
  clear hle hold hx2 kt nt
  clear hsz
  have lqt : w2.heap.size < W1.heap.size := hx.out.sat.lt (Bt.out 0 _ rfl)
  have ct0 : W1.cell? ⟨w2.heap.size, 0, none⟩ = some (.int .i64 0) := hx.out.sat _ _ _ (Bt.out 0 _ rfl)
  have ct1 : W1.cell? ⟨w2.heap.size, 1, none⟩ = some (.int .i64 1) := hx.out.sat _ _ _ (Bt.out 1 _ rfl)
  have ct2 : W1.cell? ⟨w2.heap.size, 2, none⟩ = some (.slice F1 2 f1) := hx.out.sat _ _ _ (Bt.out 2 _ rfl)
  have ct3 : W1.cell? ⟨w2.heap.size, 3, none⟩ = some (.slice F2 2 f2) := hx.out.sat _ _ _ (Bt.out 3 _ rfl)
  have ct4 : W1.cell? ⟨w2.heap.size, 4, none⟩ = some (.slice F3 2 f3) := hx.out.sat _ _ _ (Bt.out 4 _ rfl)
  have ct5 : W1.cell? ⟨w2.heap.size, 5, none⟩ = some (.slice F4 2 f4) := hx.out.sat _ _ _ (Bt.out 5 _ rfl)
  go_wp2_with fail
  clear lqt ct0 ct1 ct2 ct3 ct4 ct5
  clear Bt
  have hsz := hx.out.size
  refine (makeDfa_any _ k A n0 c0 _ hk.out hx.out.sat).mono ?_
  rintro e w3 ⟨H4, D, G1, g1, G2, g2, rfl, hD, hD0, hD1, hD2, -, hx9⟩
  have hle := hx9.le
  replace hk := Aside.mk (hk.out.mono hle)
  replace hx := Aside.mk (hx.out.trans hx9)
  clear hle hx9
  clear hsz 
  obtain ⟨st, al, nx⟩ := D
  dsimp only at hD0 hD1 hD2 hD ⊢
  have hDn : SlR (kS (kI .i64)) H4 G2 nx.length g2 nx := by obtain ⟨B1, b1, B2, b2, e, -, g⟩ := hD; simp only [List.cons.injEq, Value.slice.injEq, and_true, true_and] at e; obtain ⟨-, e2, e3⟩ := e; rw [e2, e3]; exact g
  replace hD := Aside.mk hD
  replace hDn := Aside.mk hDn
  have OK := Aside.mk (dfaErr_ok hD0)
  replace hD0 := Aside.mk hD0
  clear hk
  have hsz := hx.out.size
  go_wp2_with fail
  have hszw3 := hx.out.size
  have kd_ : (w3.alloc (.cells #[.int .i64 st, .slice G1 al.length g1, .slice G2 nx.length g2] 58)).heap[w3.heap.size]? = some (.cells #[.int .i64 st, .slice G1 al.length g1, .slice G2 nx.length g2] 58) := (heap_alloc_new _ _)
  have nd := Aside.mk (fun o => hx.out.sat.new (b := w3.heap.size) (show w3.heap.size ≤ _ by omega) o)
  replace hx := Aside.mk ((hx.out.alloc (.cells #[.int .i64 st, .slice G1 al.length g1, .slice G2 nx.length g2] 58)))
  generalize (w3.alloc (.cells #[.int .i64 st, .slice G1 al.length g1, .slice G2 nx.length g2] 58)) = W2 at *
  have kd := Aside.mk kd_
  clear kd_
  obtain ⟨H1, hx2, hle, Bd, hold⟩ := box_freeze hx.out (by omega) kd.out nd.out
  replace hD := Aside.mk (hD.out.mono hle)
  replace hDn := Aside.mk (hDn.out.mono hle)
  replace hx := Aside.mk hx2
  replace Bd := Aside.mk Bd
  clear hle hold hx2 kd nd
  have lqd : w3.heap.size < W2.heap.size := hx.out.sat.lt (Bd.out 0 _ rfl)
  have cd0 : W2.cell? ⟨w3.heap.size, 0, none⟩ = some (.int .i64 st) := hx.out.sat _ _ _ (Bd.out 0 _ rfl)
  have cd1 : W2.cell? ⟨w3.heap.size, 1, none⟩ = some (.slice G1 al.length g1) := hx.out.sat _ _ _ (Bd.out 1 _ rfl)
  have cd2 : W2.cell? ⟨w3.heap.size, 2, none⟩ = some (.slice G2 nx.length g2) := hx.out.sat _ _ _ (Bd.out 2 _ rfl)
  go_wp2_with fail
  clear lqd cd0 cd1 cd2
  have hsz := hx.out.size
  refine (packOk_any hD.out hx.out.sat hD0.out).mono ?_
  rintro e w4 ⟨H5, T, K1, k1, K2, k2, K3, k3, K4, k4, rfl, hK, hK0, hKd, -, hKl, hKc, hx9⟩
  have hle := hx9.le
  replace hD := Aside.mk (hD.out.mono hle)
  replace hDn := Aside.mk (hDn.out.mono hle)
  replace Bd := Aside.mk (Bd.out.mono hle)
  replace hx := Aside.mk (hx.out.trans hx9)
  clear hle hx9
  clear hsz 
  dsimp only at hKl hKc
  have hKo : SlR (kI .i64) H5 K3 T.own.length k3 T.own := by obtain ⟨B1, b1, B2, b2, B3, b3, B4, b4, e, -, -, g, -⟩ := hK; simp only [List.cons.injEq, Value.slice.injEq, and_true, true_and] at e; obtain ⟨-, -, ⟨e2, e3⟩, -⟩ := e; rw [e2, e3]; exact g
  replace hK := Aside.mk hK
  replace hKo := Aside.mk hKo
  replace hK0 := Aside.mk hK0
  replace hKd := Aside.mk hKd
  replace hKc : Aside (cntF T.own = sumR nx nx.length) := ⟨hKc⟩
  obtain ⟨C, hC⟩ : ∃ C, C = (nx.getD 0 []).length := ⟨_, rfl⟩
  rw [← hC] at hKl hD2
  have hn0 : 0 < nx.length := OK.out.1
  have hC0 : 0 < C := by rw [hC]; exact OK.out.2.2.2.2.1
  have hrow := Aside.mk (fun i (hi : i < nx.length) => show (nx.getD i []).length = C from by rw [hC]; exact (OK.out.2.2.2.2.2.1 i (Nat.zero_le _) hi).1)
  have hol : T.own.length ≤ 18 := Nat.le_trans hKl (Nat.mul_le_mul hD1 hD2)
  replace hKl := Aside.mk hKl
  replace hC := Aside.mk hC
  have hsz := hx.out.size
  have lqd : w3.heap.size < w4.heap.size := hx.out.sat.lt (Bd.out 0 _ rfl)
  have cd0 : w4.cell? ⟨w3.heap.size, 0, none⟩ = some (.int .i64 st) := hx.out.sat _ _ _ (Bd.out 0 _ rfl)
  have cd1 : w4.cell? ⟨w3.heap.size, 1, none⟩ = some (.slice G1 al.length g1) := hx.out.sat _ _ _ (Bd.out 1 _ rfl)
  have cd2 : w4.cell? ⟨w3.heap.size, 2, none⟩ = some (.slice G2 nx.length g2) := hx.out.sat _ _ _ (Bd.out 2 _ rfl)
  go_upto_region 6 with (fail)
  clear lqd cd0 cd1 cd2
  have hszw4 := hx.out.size
  have ku_ : (w4.alloc (.cells #[.int .i64 T.st, .int .i64 T.cols, .slice K1 T.acc.length k1, .slice K2 T.base.length k2, .slice K3 T.own.length k3, .slice K4 T.nxt.length k4] 85)).heap[w4.heap.size]? = some (.cells #[.int .i64 T.st, .int .i64 T.cols, .slice K1 T.acc.length k1, .slice K2 T.base.length k2, .slice K3 T.own.length k3, .slice K4 T.nxt.length k4] 85) := (heap_alloc_new _ _)
  have nu := Aside.mk (fun o => hx.out.sat.new (b := w4.heap.size) (show w4.heap.size ≤ _ by omega) o)
  replace hx := Aside.mk ((hx.out.alloc (.cells #[.int .i64 T.st, .int .i64 T.cols, .slice K1 T.acc.length k1, .slice K2 T.base.length k2, .slice K3 T.own.length k3, .slice K4 T.nxt.length k4] 85)))
  generalize (w4.alloc (.cells #[.int .i64 T.st, .int .i64 T.cols, .slice K1 T.acc.length k1, .slice K2 T.base.length k2, .slice K3 T.own.length k3, .slice K4 T.nxt.length k4] 85)) = W3 at *
  have ku := Aside.mk ku_
  clear ku_
  obtain ⟨H1, hx2, hle, Bu, hold⟩ := box_freeze hx.out (by omega) ku.out nu.out
  replace hD := Aside.mk (hD.out.mono hle)
  replace hDn := Aside.mk (hDn.out.mono hle)
  replace hK := Aside.mk (hK.out.mono hle)
  replace hKo := Aside.mk (hKo.out.mono hle)
  replace Bd := Aside.mk (Bd.out.mono hle)
  replace hx := Aside.mk hx2
  replace Bu := Aside.mk Bu
  clear hle hold hx2 ku nu
  clear hsz
  have lqd : w3.heap.size < W3.heap.size := hx.out.sat.lt (Bd.out 0 _ rfl)
  have cd0 : W3.cell? ⟨w3.heap.size, 0, none⟩ = some (.int .i64 st) := hx.out.sat _ _ _ (Bd.out 0 _ rfl)
  have cd1 : W3.cell? ⟨w3.heap.size, 1, none⟩ = some (.slice G1 al.length g1) := hx.out.sat _ _ _ (Bd.out 1 _ rfl)
  have cd2 : W3.cell? ⟨w3.heap.size, 2, none⟩ = some (.slice G2 nx.length g2) := hx.out.sat _ _ _ (Bd.out 2 _ rfl)
  have lqu : w4.heap.size < W3.heap.size := hx.out.sat.lt (Bu.out 0 _ rfl)
  have cu0 : W3.cell? ⟨w4.heap.size, 0, none⟩ = some (.int .i64 T.st) := hx.out.sat _ _ _ (Bu.out 0 _ rfl)
  have cu1 : W3.cell? ⟨w4.heap.size, 1, none⟩ = some (.int .i64 T.cols) := hx.out.sat _ _ _ (Bu.out 1 _ rfl)
  have cu2 : W3.cell? ⟨w4.heap.size, 2, none⟩ = some (.slice K1 T.acc.length k1) := hx.out.sat _ _ _ (Bu.out 2 _ rfl)
  have cu3 : W3.cell? ⟨w4.heap.size, 3, none⟩ = some (.slice K2 T.base.length k2) := hx.out.sat _ _ _ (Bu.out 3 _ rfl)
  have cu4 : W3.cell? ⟨w4.heap.size, 4, none⟩ = some (.slice K3 T.own.length k3) := hx.out.sat _ _ _ (Bu.out 4 _ rfl)
  have cu5 : W3.cell? ⟨w4.heap.size, 5, none⟩ = some (.slice K4 T.nxt.length k4) := hx.out.sat _ _ _ (Bu.out 5 _ rfl)
  go_wp2_with fail
  clear lqd cd0 cd1 cd2 lqu cu0 cu1 cu2 cu3 cu4 cu5
  go_loopw [12, 46] (fun s12 s46 wr => ∃ (i : Nat) (m : Int) (Hk : PH), i ≤ nx.length ∧ s12 = .int .i64 m ∧ s46 = .int .i64 i ∧ (0 ≤ m ∧ m ≤ 3 * i) ∧ Aside (m = sumR nx i) ∧ Aside (Ext H Hk w wr) ∧ Aside (RdAut Hk ⟨st, al, nx⟩ [.int .i64 st, .slice G1 al.length g1, .slice G2 nx.length g2]) ∧ Aside (SlR (kS (kI .i64)) Hk G2 nx.length g2 nx) ∧ Aside (RdTab Hk T [.int .i64 T.st, .int .i64 T.cols, .slice K1 T.acc.length k1, .slice K2 T.base.length k2, .slice K3 T.own.length k3, .slice K4 T.nxt.length k4]) ∧ Aside (SlR (kI .i64) Hk K3 T.own.length k3 T.own) ∧ Aside (BoxH Hk (w3.heap.size) [.int .i64 st, .slice G1 al.length g1, .slice G2 nx.length g2]) ∧ Aside (BoxH Hk (w4.heap.size) [.int .i64 T.st, .int .i64 T.cols, .slice K1 T.acc.length k1, .slice K2 T.base.length k2, .slice K3 T.own.length k3, .slice K4 T.nxt.length k4])) (fun _ s46 _ => nx.length - (intOf s46).toNat)
  case atStart => exact ⟨0, 0, _, by omega, rfl, rfl, by omega, ⟨rfl⟩, hx, hD, hDn, hK, hKo, Bd, Bu⟩
  case round =>
    clear hx hD hDn hK hKo Bd Bu
    obtain ⟨i, m, Hk, hi, rfl, rfl, hm, hms, hx, hD, hDn, hK, hKo, Bd, Bu⟩ := hrel
    by_cases hlt : i < nx.length
    case pos =>
      have hli : (i : Int) < (nx.length : Int) := by omega
      obtain ⟨b9, o9, Ar, cr, eA, hcr, hrw⟩ := hDn.out.rowD hx.out.sat i hlt
      subst eA
      have hrl := hrow.out i hlt
      have hss := sumR_succ nx i
      generalize nx.getD i [] = row at *
      replace hrw := Aside.mk hrw
      replace hss := Aside.mk hss
      obtain ⟨wo, rfl⟩ : ∃ wo : World, wo = wr := ⟨_, rfl⟩
      have lqd : w3.heap.size < wo.heap.size := hx.out.sat.lt (Bd.out 0 _ rfl)
      have cd0 : wo.cell? ⟨w3.heap.size, 0, none⟩ = some (.int .i64 st) := hx.out.sat _ _ _ (Bd.out 0 _ rfl)
      have cd1 : wo.cell? ⟨w3.heap.size, 1, none⟩ = some (.slice G1 al.length g1) := hx.out.sat _ _ _ (Bd.out 1 _ rfl)
      have cd2 : wo.cell? ⟨w3.heap.size, 2, none⟩ = some (.slice (some ⟨b9, o9, none⟩) nx.length g2) := hx.out.sat _ _ _ (Bd.out 2 _ rfl)
      have lqu : w4.heap.size < wo.heap.size := hx.out.sat.lt (Bu.out 0 _ rfl)
      have cu0 : wo.cell? ⟨w4.heap.size, 0, none⟩ = some (.int .i64 T.st) := hx.out.sat _ _ _ (Bu.out 0 _ rfl)
      have cu1 : wo.cell? ⟨w4.heap.size, 1, none⟩ = some (.int .i64 T.cols) := hx.out.sat _ _ _ (Bu.out 1 _ rfl)
      have cu2 : wo.cell? ⟨w4.heap.size, 2, none⟩ = some (.slice K1 T.acc.length k1) := hx.out.sat _ _ _ (Bu.out 2 _ rfl)
      have cu3 : wo.cell? ⟨w4.heap.size, 3, none⟩ = some (.slice K2 T.base.length k2) := hx.out.sat _ _ _ (Bu.out 3 _ rfl)
      have cu4 : wo.cell? ⟨w4.heap.size, 4, none⟩ = some (.slice K3 T.own.length k3) := hx.out.sat _ _ _ (Bu.out 4 _ rfl)
      have cu5 : wo.cell? ⟨w4.heap.size, 5, none⟩ = some (.slice K4 T.nxt.length k4) := hx.out.sat _ _ _ (Bu.out 5 _ rfl)
      go_wp2_with fail
      clear lqd cd0 cd1 cd2 lqu cu0 cu1 cu2 cu3 cu4 cu5
      clear hcr
      go_loopw [12, 52] (fun s12 s52 wr => ∃ (j : Nat) (q : Int) (Hq : PH), j ≤ row.length ∧ s12 = .int .i64 q ∧ s52 = .int .i64 j ∧ (0 ≤ q ∧ q ≤ 3 * i + j) ∧ Aside (q = sumR nx i + cntF (row.take j)) ∧ Aside (Ext H Hq w wr) ∧ Aside (RdAut Hq ⟨st, al, nx⟩ [.int .i64 st, .slice G1 al.length g1, .slice (some ⟨b9, o9, none⟩) nx.length g2]) ∧ Aside (SlR (kS (kI .i64)) Hq (some ⟨b9, o9, none⟩) nx.length g2 nx) ∧ Aside (RdTab Hq T [.int .i64 T.st, .int .i64 T.cols, .slice K1 T.acc.length k1, .slice K2 T.base.length k2, .slice K3 T.own.length k3, .slice K4 T.nxt.length k4]) ∧ Aside (SlR (kI .i64) Hq K3 T.own.length k3 T.own) ∧ Aside (SlR (kI .i64) Hq Ar row.length cr row) ∧ Aside (BoxH Hq (w3.heap.size) [.int .i64 st, .slice G1 al.length g1, .slice (some ⟨b9, o9, none⟩) nx.length g2]) ∧ Aside (BoxH Hq (w4.heap.size) [.int .i64 T.st, .int .i64 T.cols, .slice K1 T.acc.length k1, .slice K2 T.base.length k2, .slice K3 T.own.length k3, .slice K4 T.nxt.length k4])) (fun _ s52 _ => row.length - (intOf s52).toNat)
      case atStart => exact ⟨0, m, _, by omega, rfl, rfl, by omega, ⟨by rw [hms.out]; simp [cntF]⟩, hx, hD, hDn, hK, hKo, hrw, Bd, Bu⟩
      case round =>
        clear hx hD hDn hK hKo hrw Bd Bu
        obtain ⟨j, q, Hq, hj, rfl, rfl, hq, hqs, hx, hD, hDn, hK, hKo, hrw, Bd, Bu⟩ := hrel
        by_cases hlj : j < row.length
        case pos =>
          have hlji : (j : Int) < (row.length : Int) := by omega
          obtain ⟨b6, o6, eA, hcj⟩ := (hrw.out.wr hx.out.sat).atD j hlj
          subst eA
          have hct := cntF_take hlj
          generalize row.getD j 0 = y at *
          replace hct := Aside.mk hct
          by_cases y0 : 0 ≤ y
          case pos =>
            have hq2 : Aside (q + 1 = sumR nx i + cntF (row.take (j + 1))) := ⟨by rw [hct.out, if_pos y0, hqs.out]; omega⟩
            have lqd : w3.heap.size < wr.heap.size := hx.out.sat.lt (Bd.out 0 _ rfl)
            have cd0 : wr.cell? ⟨w3.heap.size, 0, none⟩ = some (.int .i64 st) := hx.out.sat _ _ _ (Bd.out 0 _ rfl)
            have cd1 : wr.cell? ⟨w3.heap.size, 1, none⟩ = some (.slice G1 al.length g1) := hx.out.sat _ _ _ (Bd.out 1 _ rfl)
            have cd2 : wr.cell? ⟨w3.heap.size, 2, none⟩ = some (.slice (some ⟨b9, o9, none⟩) nx.length g2) := hx.out.sat _ _ _ (Bd.out 2 _ rfl)
            have lqu : w4.heap.size < wr.heap.size := hx.out.sat.lt (Bu.out 0 _ rfl)
            have cu0 : wr.cell? ⟨w4.heap.size, 0, none⟩ = some (.int .i64 T.st) := hx.out.sat _ _ _ (Bu.out 0 _ rfl)
            have cu1 : wr.cell? ⟨w4.heap.size, 1, none⟩ = some (.int .i64 T.cols) := hx.out.sat _ _ _ (Bu.out 1 _ rfl)
            have cu2 : wr.cell? ⟨w4.heap.size, 2, none⟩ = some (.slice K1 T.acc.length k1) := hx.out.sat _ _ _ (Bu.out 2 _ rfl)
            have cu3 : wr.cell? ⟨w4.heap.size, 3, none⟩ = some (.slice K2 T.base.length k2) := hx.out.sat _ _ _ (Bu.out 3 _ rfl)
            have cu4 : wr.cell? ⟨w4.heap.size, 4, none⟩ = some (.slice K3 T.own.length k3) := hx.out.sat _ _ _ (Bu.out 4 _ rfl)
            have cu5 : wr.cell? ⟨w4.heap.size, 5, none⟩ = some (.slice K4 T.nxt.length k4) := hx.out.sat _ _ _ (Bu.out 5 _ rfl)
            go_wp2_with fail
            clear lqd cd0 cd1 cd2 lqu cu0 cu1 cu2 cu3 cu4 cu5
            go_roundw
            case rel => exact ⟨j + 1, q + 1, _, by omega, by go_num, by go_num, by omega, hq2, hx, hD, hDn, hK, hKo, hrw, Bd, Bu⟩
            case measure => (first | (simp [intOf]; done) | (simp [intOf]; omega))
          case neg =>
            have hq2 : Aside (q = sumR nx i + cntF (row.take (j + 1))) := ⟨by rw [hct.out, if_neg y0, hqs.out]; omega⟩
            have lqd : w3.heap.size < wr.heap.size := hx.out.sat.lt (Bd.out 0 _ rfl)
            have cd0 : wr.cell? ⟨w3.heap.size, 0, none⟩ = some (.int .i64 st) := hx.out.sat _ _ _ (Bd.out 0 _ rfl)
            have cd1 : wr.cell? ⟨w3.heap.size, 1, none⟩ = some (.slice G1 al.length g1) := hx.out.sat _ _ _ (Bd.out 1 _ rfl)
            have cd2 : wr.cell? ⟨w3.heap.size, 2, none⟩ = some (.slice (some ⟨b9, o9, none⟩) nx.length g2) := hx.out.sat _ _ _ (Bd.out 2 _ rfl)
            have lqu : w4.heap.size < wr.heap.size := hx.out.sat.lt (Bu.out 0 _ rfl)
            have cu0 : wr.cell? ⟨w4.heap.size, 0, none⟩ = some (.int .i64 T.st) := hx.out.sat _ _ _ (Bu.out 0 _ rfl)
            have cu1 : wr.cell? ⟨w4.heap.size, 1, none⟩ = some (.int .i64 T.cols) := hx.out.sat _ _ _ (Bu.out 1 _ rfl)
            have cu2 : wr.cell? ⟨w4.heap.size, 2, none⟩ = some (.slice K1 T.acc.length k1) := hx.out.sat _ _ _ (Bu.out 2 _ rfl)
            have cu3 : wr.cell? ⟨w4.heap.size, 3, none⟩ = some (.slice K2 T.base.length k2) := hx.out.sat _ _ _ (Bu.out 3 _ rfl)
            have cu4 : wr.cell? ⟨w4.heap.size, 4, none⟩ = some (.slice K3 T.own.length k3) := hx.out.sat _ _ _ (Bu.out 4 _ rfl)
            have cu5 : wr.cell? ⟨w4.heap.size, 5, none⟩ = some (.slice K4 T.nxt.length k4) := hx.out.sat _ _ _ (Bu.out 5 _ rfl)
            go_wp2_with fail
            clear lqd cd0 cd1 cd2 lqu cu0 cu1 cu2 cu3 cu4 cu5
            go_roundw
            case rel => exact ⟨j + 1, q, _, by omega, rfl, by go_num, by omega, hq2, hx, hD, hDn, hK, hKo, hrw, Bd, Bu⟩
            case measure => (first | (simp [intOf]; done) | (simp [intOf]; omega))
        case neg =>
          have hlji : ¬ (j : Int) < (row.length : Int) := by omega
          have hq2 : Aside (q = sumR nx (i + 1)) := ⟨by rw [hss.out, hqs.out, List.take_of_length_le (by omega)]⟩
          clear hrw
          have lqd : w3.heap.size < wr.heap.size := hx.out.sat.lt (Bd.out 0 _ rfl)
          have cd0 : wr.cell? ⟨w3.heap.size, 0, none⟩ = some (.int .i64 st) := hx.out.sat _ _ _ (Bd.out 0 _ rfl)
          have cd1 : wr.cell? ⟨w3.heap.size, 1, none⟩ = some (.slice G1 al.length g1) := hx.out.sat _ _ _ (Bd.out 1 _ rfl)
          have cd2 : wr.cell? ⟨w3.heap.size, 2, none⟩ = some (.slice (some ⟨b9, o9, none⟩) nx.length g2) := hx.out.sat _ _ _ (Bd.out 2 _ rfl)
          have lqu : w4.heap.size < wr.heap.size := hx.out.sat.lt (Bu.out 0 _ rfl)
          have cu0 : wr.cell? ⟨w4.heap.size, 0, none⟩ = some (.int .i64 T.st) := hx.out.sat _ _ _ (Bu.out 0 _ rfl)
          have cu1 : wr.cell? ⟨w4.heap.size, 1, none⟩ = some (.int .i64 T.cols) := hx.out.sat _ _ _ (Bu.out 1 _ rfl)
          have cu2 : wr.cell? ⟨w4.heap.size, 2, none⟩ = some (.slice K1 T.acc.length k1) := hx.out.sat _ _ _ (Bu.out 2 _ rfl)
          have cu3 : wr.cell? ⟨w4.heap.size, 3, none⟩ = some (.slice K2 T.base.length k2) := hx.out.sat _ _ _ (Bu.out 3 _ rfl)
          have cu4 : wr.cell? ⟨w4.heap.size, 4, none⟩ = some (.slice K3 T.own.length k3) := hx.out.sat _ _ _ (Bu.out 4 _ rfl)
          have cu5 : wr.cell? ⟨w4.heap.size, 5, none⟩ = some (.slice K4 T.nxt.length k4) := hx.out.sat _ _ _ (Bu.out 5 _ rfl)
          go_wp2_with fail
          clear lqd cd0 cd1 cd2 lqu cu0 cu1 cu2 cu3 cu4 cu5
          go_roundw
          case rel => exact ⟨i + 1, q, _, by omega, rfl, by go_num, by omega, hq2, hx, hD, hDn, hK, hKo, Bd, Bu⟩
          case measure => (first | (simp [intOf]; done) | (simp [intOf]; omega))
    case neg =>
      have hli : ¬ (i : Int) < (nx.length : Int) := by omega
      have hmf : Aside (m = cntF T.own) := ⟨by rw [hKc.out, hms.out, show i = nx.length by omega]⟩
      have hm18 : 0 ≤ m ∧ m ≤ 18 := by omega
      clear hms hm
      have lqd : w3.heap.size < wr.heap.size := hx.out.sat.lt (Bd.out 0 _ rfl)
      have cd0 : wr.cell? ⟨w3.heap.size, 0, none⟩ = some (.int .i64 st) := hx.out.sat _ _ _ (Bd.out 0 _ rfl)
      have cd1 : wr.cell? ⟨w3.heap.size, 1, none⟩ = some (.slice G1 al.length g1) := hx.out.sat _ _ _ (Bd.out 1 _ rfl)
      have cd2 : wr.cell? ⟨w3.heap.size, 2, none⟩ = some (.slice G2 nx.length g2) := hx.out.sat _ _ _ (Bd.out 2 _ rfl)
      have lqu : w4.heap.size < wr.heap.size := hx.out.sat.lt (Bu.out 0 _ rfl)
      have cu0 : wr.cell? ⟨w4.heap.size, 0, none⟩ = some (.int .i64 T.st) := hx.out.sat _ _ _ (Bu.out 0 _ rfl)
      have cu1 : wr.cell? ⟨w4.heap.size, 1, none⟩ = some (.int .i64 T.cols) := hx.out.sat _ _ _ (Bu.out 1 _ rfl)
      have cu2 : wr.cell? ⟨w4.heap.size, 2, none⟩ = some (.slice K1 T.acc.length k1) := hx.out.sat _ _ _ (Bu.out 2 _ rfl)
      have cu3 : wr.cell? ⟨w4.heap.size, 3, none⟩ = some (.slice K2 T.base.length k2) := hx.out.sat _ _ _ (Bu.out 3 _ rfl)
      have cu4 : wr.cell? ⟨w4.heap.size, 4, none⟩ = some (.slice K3 T.own.length k3) := hx.out.sat _ _ _ (Bu.out 4 _ rfl)
      have cu5 : wr.cell? ⟨w4.heap.size, 5, none⟩ = some (.slice K4 T.nxt.length k4) := hx.out.sat _ _ _ (Bu.out 5 _ rfl)
      go_wp2_with fail
      clear lqd cd0 cd1 cd2 lqu cu0 cu1 cu2 cu3 cu4 cu5
      clear hli hi
      go_loopw [13, 65] (fun s13 s65 wr => ∃ (j : Nat) (q : Int) (Hq : PH), j ≤ T.own.length ∧ s13 = .int .i64 q ∧ s65 = .int .i64 j ∧ (0 ≤ q ∧ q ≤ j) ∧ Aside (q = cntF (T.own.take j)) ∧ Aside (Ext H Hq w wr) ∧ Aside (RdAut Hq ⟨st, al, nx⟩ [.int .i64 st, .slice G1 al.length g1, .slice G2 nx.length g2]) ∧ Aside (SlR (kS (kI .i64)) Hq G2 nx.length g2 nx) ∧ Aside (RdTab Hq T [.int .i64 T.st, .int .i64 T.cols, .slice K1 T.acc.length k1, .slice K2 T.base.length k2, .slice K3 T.own.length k3, .slice K4 T.nxt.length k4]) ∧ Aside (SlR (kI .i64) Hq K3 T.own.length k3 T.own) ∧ Aside (BoxH Hq (w3.heap.size) [.int .i64 st, .slice G1 al.length g1, .slice G2 nx.length g2]) ∧ Aside (BoxH Hq (w4.heap.size) [.int .i64 T.st, .int .i64 T.cols, .slice K1 T.acc.length k1, .slice K2 T.base.length k2, .slice K3 T.own.length k3, .slice K4 T.nxt.length k4])) (fun _ s65 _ => T.own.length - (intOf s65).toNat)
      case atStart => exact ⟨0, 0, _, by omega, rfl, rfl, by omega, ⟨by simp [cntF]⟩, hx, hD, hDn, hK, hKo, Bd, Bu⟩
      case round =>
        clear hx hD hDn hK hKo Bd Bu
        obtain ⟨j, q, Hq, hj, rfl, rfl, hq, hqs, hx, hD, hDn, hK, hKo, Bd, Bu⟩ := hrel
        by_cases hlj : j < T.own.length
        case pos =>
          have hlji : (j : Int) < (T.own.length : Int) := by omega
          obtain ⟨b6, o6, eA, hcj⟩ := (hKo.out.wr hx.out.sat).atD j hlj
          subst eA
          have hct := cntF_take hlj
          generalize T.own.getD j 0 = y at *
          replace hct := Aside.mk hct
          by_cases y0 : 0 ≤ y
          case pos =>
            have hq2 : Aside (q + 1 = cntF (T.own.take (j + 1))) := ⟨by rw [hct.out, if_pos y0, hqs.out]⟩
            have lqd : w3.heap.size < wr.heap.size := hx.out.sat.lt (Bd.out 0 _ rfl)
            have cd0 : wr.cell? ⟨w3.heap.size, 0, none⟩ = some (.int .i64 st) := hx.out.sat _ _ _ (Bd.out 0 _ rfl)
            have cd1 : wr.cell? ⟨w3.heap.size, 1, none⟩ = some (.slice G1 al.length g1) := hx.out.sat _ _ _ (Bd.out 1 _ rfl)
            have cd2 : wr.cell? ⟨w3.heap.size, 2, none⟩ = some (.slice G2 nx.length g2) := hx.out.sat _ _ _ (Bd.out 2 _ rfl)
            have lqu : w4.heap.size < wr.heap.size := hx.out.sat.lt (Bu.out 0 _ rfl)
            have cu0 : wr.cell? ⟨w4.heap.size, 0, none⟩ = some (.int .i64 T.st) := hx.out.sat _ _ _ (Bu.out 0 _ rfl)
            have cu1 : wr.cell? ⟨w4.heap.size, 1, none⟩ = some (.int .i64 T.cols) := hx.out.sat _ _ _ (Bu.out 1 _ rfl)
            have cu2 : wr.cell? ⟨w4.heap.size, 2, none⟩ = some (.slice K1 T.acc.length k1) := hx.out.sat _ _ _ (Bu.out 2 _ rfl)
            have cu3 : wr.cell? ⟨w4.heap.size, 3, none⟩ = some (.slice K2 T.base.length k2) := hx.out.sat _ _ _ (Bu.out 3 _ rfl)
            have cu4 : wr.cell? ⟨w4.heap.size, 4, none⟩ = some (.slice (some ⟨b6, o6, none⟩) T.own.length k3) := hx.out.sat _ _ _ (Bu.out 4 _ rfl)
            have cu5 : wr.cell? ⟨w4.heap.size, 5, none⟩ = some (.slice K4 T.nxt.length k4) := hx.out.sat _ _ _ (Bu.out 5 _ rfl)
            go_wp2_with fail
            clear lqd cd0 cd1 cd2 lqu cu0 cu1 cu2 cu3 cu4 cu5
            go_roundw
            case rel => exact ⟨j + 1, q + 1, _, by omega, by go_num, by go_num, by omega, hq2, hx, hD, hDn, hK, hKo, Bd, Bu⟩
            case measure => (first | (simp [intOf]; done) | (simp [intOf]; omega))
          case neg =>
            have hq2 : Aside (q = cntF (T.own.take (j + 1))) := ⟨by rw [hct.out, if_neg y0, hqs.out]; omega⟩
            have lqd : w3.heap.size < wr.heap.size := hx.out.sat.lt (Bd.out 0 _ rfl)
            have cd0 : wr.cell? ⟨w3.heap.size, 0, none⟩ = some (.int .i64 st) := hx.out.sat _ _ _ (Bd.out 0 _ rfl)
            have cd1 : wr.cell? ⟨w3.heap.size, 1, none⟩ = some (.slice G1 al.length g1) := hx.out.sat _ _ _ (Bd.out 1 _ rfl)
            have cd2 : wr.cell? ⟨w3.heap.size, 2, none⟩ = some (.slice G2 nx.length g2) := hx.out.sat _ _ _ (Bd.out 2 _ rfl)
            have lqu : w4.heap.size < wr.heap.size := hx.out.sat.lt (Bu.out 0 _ rfl)
            have cu0 : wr.cell? ⟨w4.heap.size, 0, none⟩ = some (.int .i64 T.st) := hx.out.sat _ _ _ (Bu.out 0 _ rfl)
            have cu1 : wr.cell? ⟨w4.heap.size, 1, none⟩ = some (.int .i64 T.cols) := hx.out.sat _ _ _ (Bu.out 1 _ rfl)
            have cu2 : wr.cell? ⟨w4.heap.size, 2, none⟩ = some (.slice K1 T.acc.length k1) := hx.out.sat _ _ _ (Bu.out 2 _ rfl)
            have cu3 : wr.cell? ⟨w4.heap.size, 3, none⟩ = some (.slice K2 T.base.length k2) := hx.out.sat _ _ _ (Bu.out 3 _ rfl)
            have cu4 : wr.cell? ⟨w4.heap.size, 4, none⟩ = some (.slice (some ⟨b6, o6, none⟩) T.own.length k3) := hx.out.sat _ _ _ (Bu.out 4 _ rfl)
            have cu5 : wr.cell? ⟨w4.heap.size, 5, none⟩ = some (.slice K4 T.nxt.length k4) := hx.out.sat _ _ _ (Bu.out 5 _ rfl)
            go_wp2_with fail
            clear lqd cd0 cd1 cd2 lqu cu0 cu1 cu2 cu3 cu4 cu5
            go_roundw
            case rel => exact ⟨j + 1, q, _, by omega, rfl, by go_num, by omega, hq2, hx, hD, hDn, hK, hKo, Bd, Bu⟩
            case measure => (first | (simp [intOf]; done) | (simp [intOf]; omega))
        case neg =>
          have hlji : ¬ (j : Int) < (T.own.length : Int) := by omega
          obtain rfl : q = m := by rw [hqs.out, hmf.out, List.take_of_length_le (by omega)]
          clear hqs hmf
          obtain ⟨b9, o9, Ar, cr, eA, hcr, -⟩ := hDn.out.rowD hx.out.sat 0 hn0
          subst eA
          rw [← hC.out, Nat.add_zero] at hcr
          have lqd : w3.heap.size < wr.heap.size := hx.out.sat.lt (Bd.out 0 _ rfl)
          have cd0 : wr.cell? ⟨w3.heap.size, 0, none⟩ = some (.int .i64 st) := hx.out.sat _ _ _ (Bd.out 0 _ rfl)
          have cd1 : wr.cell? ⟨w3.heap.size, 1, none⟩ = some (.slice G1 al.length g1) := hx.out.sat _ _ _ (Bd.out 1 _ rfl)
          have cd2 : wr.cell? ⟨w3.heap.size, 2, none⟩ = some (.slice (some ⟨b9, o9, none⟩) nx.length g2) := hx.out.sat _ _ _ (Bd.out 2 _ rfl)
          have lqu : w4.heap.size < wr.heap.size := hx.out.sat.lt (Bu.out 0 _ rfl)
          have cu0 : wr.cell? ⟨w4.heap.size, 0, none⟩ = some (.int .i64 T.st) := hx.out.sat _ _ _ (Bu.out 0 _ rfl)
          have cu1 : wr.cell? ⟨w4.heap.size, 1, none⟩ = some (.int .i64 T.cols) := hx.out.sat _ _ _ (Bu.out 1 _ rfl)
          have cu2 : wr.cell? ⟨w4.heap.size, 2, none⟩ = some (.slice K1 T.acc.length k1) := hx.out.sat _ _ _ (Bu.out 2 _ rfl)
          have cu3 : wr.cell? ⟨w4.heap.size, 3, none⟩ = some (.slice K2 T.base.length k2) := hx.out.sat _ _ _ (Bu.out 3 _ rfl)
          have cu4 : wr.cell? ⟨w4.heap.size, 4, none⟩ = some (.slice K3 T.own.length k3) := hx.out.sat _ _ _ (Bu.out 4 _ rfl)
          have cu5 : wr.cell? ⟨w4.heap.size, 5, none⟩ = some (.slice K4 T.nxt.length k4) := hx.out.sat _ _ _ (Bu.out 5 _ rfl)
          go_upto_region 25 with (fail)
          have hnz : (0 : Int) < (nx.length : Int) := by omega
          have hB1 := Aside.mk (fun w => belowN_any s nx.length w hn0 (by omega))
          have hB2 := Aside.mk (fun w => belowN_any c C w hC0 (by omega))
          go_quiet ((first | (go_at_call 55; with_reducible exact Calls.quiet_of_same (hB1.out _)) | (go_at_call 55; with_reducible exact Calls.quiet_of_same (hB2.out _))))
          clear lqd cd0 cd1 cd2 lqu cu0 cu1 cu2 cu3 cu4 cu5
          clear hcr hB1 hB2
          replace hx := Aside.mk (hx.out.drewN nq)
          generalize wr.drewN nq = W9 at *
          have hs1 : (M.below s nx.length).toNat < nx.length := by have := M.below_lt s nx.length (by omega); omega
          have hc1 : (M.below c C).toNat < C := by have := M.below_lt c C (by omega); omega
          generalize (M.below s nx.length).toNat = s1 at *
          generalize (M.below c C).toNat = d1 at *
          have lqd : w3.heap.size < W9.heap.size := hx.out.sat.lt (Bd.out 0 _ rfl)
          have cd0 : W9.cell? ⟨w3.heap.size, 0, none⟩ = some (.int .i64 st) := hx.out.sat _ _ _ (Bd.out 0 _ rfl)
          have cd1 : W9.cell? ⟨w3.heap.size, 1, none⟩ = some (.slice G1 al.length g1) := hx.out.sat _ _ _ (Bd.out 1 _ rfl)
          have cd2 : W9.cell? ⟨w3.heap.size, 2, none⟩ = some (.slice (some ⟨b9, o9, none⟩) nx.length g2) := hx.out.sat _ _ _ (Bd.out 2 _ rfl)
          have lqu : w4.heap.size < W9.heap.size := hx.out.sat.lt (Bu.out 0 _ rfl)
          have cu0 : W9.cell? ⟨w4.heap.size, 0, none⟩ = some (.int .i64 T.st) := hx.out.sat _ _ _ (Bu.out 0 _ rfl)
          have cu1 : W9.cell? ⟨w4.heap.size, 1, none⟩ = some (.int .i64 T.cols) := hx.out.sat _ _ _ (Bu.out 1 _ rfl)
          have cu2 : W9.cell? ⟨w4.heap.size, 2, none⟩ = some (.slice K1 T.acc.length k1) := hx.out.sat _ _ _ (Bu.out 2 _ rfl)
          have cu3 : W9.cell? ⟨w4.heap.size, 3, none⟩ = some (.slice K2 T.base.length k2) := hx.out.sat _ _ _ (Bu.out 3 _ rfl)
          have cu4 : W9.cell? ⟨w4.heap.size, 4, none⟩ = some (.slice K3 T.own.length k3) := hx.out.sat _ _ _ (Bu.out 4 _ rfl)
          have cu5 : W9.cell? ⟨w4.heap.size, 5, none⟩ = some (.slice K4 T.nxt.length k4) := hx.out.sat _ _ _ (Bu.out 5 _ rfl)
          go_wp2_with fail
          clear lqd cd0 cd1 cd2 lqu cu0 cu1 cu2 cu3 cu4 cu5
          have hsz := hx.out.size
          refine (tightAt_any (s := s1) (c := d1) hK.out hx.out.sat hK0.out hKd.out hs1 (by show d1 < (nx.getD 0 []).length; rw [← hC.out]; exact hc1)).mono ?_
          rintro e w5 ⟨rfl, hb9⟩
          replace hx := Aside.mk (hx.out.then_below hb9)
          clear hb9
          clear hsz 
          dsimp only
          obtain ⟨b8, o8, Ar8, cr8, eA, hcr8, hrw8⟩ := hDn.out.rowD hx.out.sat s1 hs1
          cases eA
          obtain ⟨b7, o7, Ar7, cr7, eA, hcr7, -⟩ := hDn.out.rowD hx.out.sat 0 hn0
          cases eA
          rw [← hC.out, Nat.add_zero] at hcr7
          have hr8 := hrow.out s1 hs1
          generalize nx.getD s1 [] = row at *
          obtain ⟨b6, o6, eA, hcj⟩ := (hrw8.wr hx.out.sat).atD d1 (by omega)
          subst eA
          clear hrw8
          generalize row.getD d1 0 = y at *
          rw [hr8] at hcr8
          clear hr8
          have hs1i : (s1 : Int) < (nx.length : Int) := by omega
          have hc1i : (d1 : Int) < (C : Int) := by omega
          have hnz : (0 : Int) < (nx.length : Int) := by omega
          have hmul : nx.length * C ≤ 18 := Nat.mul_le_mul hD1 hD2
          have hpc : ((nx.length * C : Nat) : Int) = (nx.length : Int) * (C : Int) := Int.natCast_mul _ _
          have hwr : IntKind.i64.wrap ((nx.length : Int) * (C : Int)) = (nx.length : Int) * (C : Int) := by rw [← hpc]; exact IntWalk.i64_in _ (by omega)
          have hle : (T.own.length : Int) ≤ (nx.length : Int) * (C : Int) := by rw [← hpc]; have := hKl.out; omega
          clear hpc hmul
          clear hs1 hc1 hn0 hC0
          have lqd : w3.heap.size < w5.heap.size := hx.out.sat.lt (Bd.out 0 _ rfl)
          have cd0 : w5.cell? ⟨w3.heap.size, 0, none⟩ = some (.int .i64 st) := hx.out.sat _ _ _ (Bd.out 0 _ rfl)
          have cd1 : w5.cell? ⟨w3.heap.size, 1, none⟩ = some (.slice G1 al.length g1) := hx.out.sat _ _ _ (Bd.out 1 _ rfl)
          have cd2 : w5.cell? ⟨w3.heap.size, 2, none⟩ = some (.slice (some ⟨b9, o9, none⟩) nx.length g2) := hx.out.sat _ _ _ (Bd.out 2 _ rfl)
          have lqu : w4.heap.size < w5.heap.size := hx.out.sat.lt (Bu.out 0 _ rfl)
          have cu0 : w5.cell? ⟨w4.heap.size, 0, none⟩ = some (.int .i64 T.st) := hx.out.sat _ _ _ (Bu.out 0 _ rfl)
          have cu1 : w5.cell? ⟨w4.heap.size, 1, none⟩ = some (.int .i64 T.cols) := hx.out.sat _ _ _ (Bu.out 1 _ rfl)
          have cu2 : w5.cell? ⟨w4.heap.size, 2, none⟩ = some (.slice K1 T.acc.length k1) := hx.out.sat _ _ _ (Bu.out 2 _ rfl)
          have cu3 : w5.cell? ⟨w4.heap.size, 3, none⟩ = some (.slice K2 T.base.length k2) := hx.out.sat _ _ _ (Bu.out 3 _ rfl)
          have cu4 : w5.cell? ⟨w4.heap.size, 4, none⟩ = some (.slice K3 T.own.length k3) := hx.out.sat _ _ _ (Bu.out 4 _ rfl)
          have cu5 : w5.cell? ⟨w4.heap.size, 5, none⟩ = some (.slice K4 T.nxt.length k4) := hx.out.sat _ _ _ (Bu.out 5 _ rfl)
          go_wp2_with fail
          go_big_quiet (fail)
          clear lqd cd0 cd1 cd2 lqu cu0 cu1 cu2 cu3 cu4 cu5
          replace hx := Aside.mk (hx.out.drewN nq)
          go_wp2_with fail
          go_ret
          exact ⟨rfl, hx.out.below⟩
end Go.Proofs.Ytbnahmeaeakhhaa.B
