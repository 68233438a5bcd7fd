/- The walk: parlkeep1.RetreeMirrors. -/
import Derived.Test.YtbnahmeaeakhhaaN16
import Derived.Test.YtbnahmeaeakhhaaN15
import Derived.Test.YtbnahmeaeakhhaaN10
namespace Go.Proofs.Ytbnahmeaeakhhaa.B
set_option linter.unusedVariables false
set_option linter.unusedSimpArgs false
open Go Go.RowKit Classical

theorem runes_rev {t : List Int} (h : Runes t) : Runes t.reverse := ⟨by simpa using h.1, fun x hx => h.2 x (by simpa using hx)⟩
theorem noLook_of {r : Re} (h : ∀ x ∈ pre r, x.kind ≤ 8) : NoLook r := fun x hx => by have := h x hx; omega
theorem rev_ok {r : Re} (hg : Good r) (hz : sz r ≤ 40) (h : ∀ x ∈ pre r, x.kind ≤ 8) : revErr r = 0 ∧ revR r = revF r := by
  have h1 : revErr r = 0 := by
    unfold revErr
    rw [checkRe_small hg hz, if_neg (by simp), if_neg]
    rintro ⟨x, hx, h2⟩
    have := h x hx
    simp at h2
    omega
  exact ⟨h1, if_pos h1⟩

set_option maxRecDepth 100000 in
set_option maxHeartbeats 16000000 in
theorem retreeMirrors_any (H : PH) (l1 l2 : List Int) (A1 A2 : Option Addr) (n1 n2 c1 c2 : Nat) (w : World) (h1 : SlR (kI .i64) H A1 n1 c1 l1) (h2 : SlR (kI .i64) H A2 n2 c2 l2) (hs : Sat w H) :
    Calls Try.prog 12 #[.slice A1 n1 c1, .slice A2 n2 c2] w fun e w' => e = .returned (.bool true) ∧ Below w.heap.size w w' := by
  have hx := Aside.mk (Ext.refl hs)
  replace h1 := Aside.mk h1
  replace h2 := Aside.mk h2
  go_enter Try.func12, Try.ntmps12
  go_wp2_with fail
  refine (kretreeBegun_any w).mono ?_
  rintro e w1 ⟨rfl, hb1⟩
  replace hx := Aside.mk (hx.out.then_below hb1)
  clear hb1
  go_wp2_with fail
  refine (krelationBegun_any _).mono ?_
  rintro e w2 ⟨rfl, hb1⟩
  replace hx := Aside.mk (hx.out.then_below hb1)
  clear hb1
  go_wp2_with fail
  refine (reOf_any _ l1 A1 n1 c1 _ h1.out hx.out.sat).mono ?_
  rintro e w3 ⟨r, H3, cs3, rfl, hr, hm, hz⟩
  have hle := hz.le
  replace h1 := Aside.mk (h1.out.mono hle)
  replace h2 := Aside.mk (h2.out.mono hle)
  replace hx := Aside.mk (hx.out.trans hz)
  clear hle hz
  replace hr := Aside.mk hr
  replace hm := Aside.mk hm
  go_wp2_with fail
  have hxo := hx
  refine (textOf_any _ l2 A2 n2 c2 _ h2.out hx.out.sat).mono ?_
  rintro e w4 ⟨v, t, rfl, ho, hrt, hb⟩
  replace hx := Aside.mk (hx.out.then_below hb)
  clear hb
  obtain ⟨H5, hx5, hle, ⟨A5, c5, e1, ht⟩, -⟩ := (ho.flat (fun b o hb' => hxo.out.sat.new (ho.blk hb').1 o)).freezeE hx.out hxo.out.size (by have := hrt.1; omega)
  cases e1
  replace h1 := Aside.mk (h1.out.mono hle)
  replace h2 := Aside.mk (h2.out.mono hle)
  replace hr := Aside.mk (hr.out.mono hle)
  replace hx := Aside.mk hx5
  replace ht := Aside.mk ht
  replace hrt := Aside.mk hrt
  clear hle hx5 ho hxo
  clear h1 h2
  have hrg : Good r := hm.out.1
  have hk8 : ∀ x ∈ pre r, x.kind ≤ 8 := hm.out.2.1
  have hrz : sz r ≤ 40 := by have h9 : (pre r).length < 32 := hm.out.2.2; unfold sz; omega
  obtain ⟨hvg, hvz, hvv⟩ := revF_ok r hrg
  have hk8v := revF_kinds r 8 hk8
  have hvz2 : sz (revF r) ≤ 40 := by omega
  obtain ⟨hE1, hR1⟩ := rev_ok hrg hrz hk8
  obtain ⟨hE2, hR2⟩ := rev_ok hvg hvz2 hk8v
  rw [hvv] at hR2
  have hrt2 : Runes t.reverse := runes_rev hrt.out
  have hte : textErr r t 24 = 0 := textErr_good hrg hrz hrt.out
  have hte2 : textErr (revF r) t.reverse 24 = 0 := textErr_good hvg hvz2 hrt2
  have hmir := mir_re t r (noLook_of hk8)
  have hlen : (prs t.length (M t.reverse (revF r)) (t.length + 1)).length = (prs t.length (M t r) (t.length + 1)).length := mir_len hmir
  have hmem := fun p hp => mir_mem hmir p hp
  have hbd : ∀ p ∈ prs t.length (M t r) (t.length + 1), 0 ≤ p.1 ∧ p.1 ≤ t.length ∧ 0 ≤ p.2 ∧ p.2 ≤ t.length := fun p hp => by obtain ⟨i, j, hi, hj, -, -, rfl⟩ := (mem_prs ..).1 hp; simp only; omega
  have htl : t.length ≤ 24 := by have := hrt.out.1; omega
  have hpl := prs_le t.length (M t r) htl
  have hrl : t.reverse.length = t.length := List.length_reverse
  have ht1 := ht.out.2.1
  have HP := Aside.mk (And.intro hE1 (And.intro hR1 (And.intro hE2 (And.intro hR2 (And.intro hte (And.intro hte2 (And.intro hlen (And.intro hmem (And.intro hbd (And.intro hpl (And.intro hrl htl)))))))))))
  clear hE1 hR1 hE2 hR2 hte hte2 hlen hmem hbd hpl hrl hrg hk8 hrz hvg hvz hvv hk8v hvz2 hrt2 hmir hm hrt
  have hrr := hr.out
  obtain ⟨kr, sr, lr_, mr, xr, gr, hqr⟩ : ∃ y1 y2 y3 y4 y5 y6, r = Re.mk y1 y2 y3 y4 y5 y6 := by cases r; exact ⟨_, _, _, _, _, _, rfl⟩
  replace hqr := Aside.mk hqr
  rw [hqr.out] at hrr
  obtain ⟨P1, p1, P2, p2, rfl, -, -⟩ := hrr.open
  clear hrr
  go_wp2_with fail
  have hszw4 := hx.out.size
  have kr_ : (w4.alloc (.cells #[.int .i64 kr, .slice P1 sr.length p1, .slice P2 lr_.length p2, .int .i64 mr, .int .i64 xr, .bool gr] 25)).heap[w4.heap.size]? = some (.cells #[.int .i64 kr, .slice P1 sr.length p1, .slice P2 lr_.length p2, .int .i64 mr, .int .i64 xr, .bool gr] 25) := (heap_alloc_new _ _)
  have nr := Aside.mk (fun o => hx.out.sat.new (b := w4.heap.size) (show w4.heap.size ≤ _ by omega) o)
  replace hx := Aside.mk ((hx.out.alloc (.cells #[.int .i64 kr, .slice P1 sr.length p1, .slice P2 lr_.length p2, .int .i64 mr, .int .i64 xr, .bool gr] 25)))
  generalize (w4.alloc (.cells #[.int .i64 kr, .slice P1 sr.length p1, .slice P2 lr_.length p2, .int .i64 mr, .int .i64 xr, .bool gr] 25)) = W1 at *
  have kr := Aside.mk kr_
  clear kr_
  obtain ⟨H1, hx2, hle, Br, hold⟩ := box_freeze hx.out (by omega) kr.out nr.out
  replace hr := Aside.mk (hr.out.mono hle)
  replace ht := Aside.mk (ht.out.mono hle)
  replace hx := Aside.mk hx2
  replace Br := Aside.mk Br
  clear hle hold hx2 kr nr
  refine (revE_any _ r _ _ hr.out hx.out.sat).mono ?_
  rintro e w5 ⟨H6, cs5, rfl, hn, hz⟩
  have hle := hz.le
  replace hr := Aside.mk (hr.out.mono hle)
  replace ht := Aside.mk (ht.out.mono hle)
  replace Br := Aside.mk (Br.out.mono hle)
  replace hx := Aside.mk (hx.out.trans hz)
  clear hle hz
  rw [HP.out.1]
  rw [HP.out.2.1] at hn
  have hn_ := hn
  obtain ⟨kn, sn, ln, mn, xn, gn, hqn⟩ : ∃ y1 y2 y3 y4 y5 y6, revF r = Re.mk y1 y2 y3 y4 y5 y6 := by cases revF r; exact ⟨_, _, _, _, _, _, rfl⟩
  replace hqn := Aside.mk hqn
  rw [hqn.out] at hn_
  obtain ⟨Q1, q1, Q2, q2, rfl, -, -⟩ := hn_.open
  clear hn_
  replace hn := Aside.mk hn
  have lqr : w4.heap.size < w5.heap.size := hx.out.sat.lt (Br.out 0 _ rfl)
  have cr0 : w5.cell? ⟨w4.heap.size, 0, none⟩ = some (.int .i64 kr) := hx.out.sat _ _ _ (Br.out 0 _ rfl)
  have cr1 : w5.cell? ⟨w4.heap.size, 1, none⟩ = some (.slice P1 sr.length p1) := hx.out.sat _ _ _ (Br.out 1 _ rfl)
  have cr2 : w5.cell? ⟨w4.heap.size, 2, none⟩ = some (.slice P2 lr_.length p2) := hx.out.sat _ _ _ (Br.out 2 _ rfl)
  have cr3 : w5.cell? ⟨w4.heap.size, 3, none⟩ = some (.int .i64 mr) := hx.out.sat _ _ _ (Br.out 3 _ rfl)
  have cr4 : w5.cell? ⟨w4.heap.size, 4, none⟩ = some (.int .i64 xr) := hx.out.sat _ _ _ (Br.out 4 _ rfl)
  have cr5 : w5.cell? ⟨w4.heap.size, 5, none⟩ = some (.bool gr) := hx.out.sat _ _ _ (Br.out 5 _ rfl)
  go_wp2_with fail
  clear lqr cr0 cr1 cr2 cr3 cr4 cr5
  have hszw5 := hx.out.size
  have kn_ : (w5.alloc (.cells #[.int .i64 kn, .slice Q1 sn.length q1, .slice Q2 ln.length q2, .int .i64 mn, .int .i64 xn, .bool gn] 25)).heap[w5.heap.size]? = some (.cells #[.int .i64 kn, .slice Q1 sn.length q1, .slice Q2 ln.length q2, .int .i64 mn, .int .i64 xn, .bool gn] 25) := (heap_alloc_new _ _)
  have nn := Aside.mk (fun o => hx.out.sat.new (b := w5.heap.size) (show w5.heap.size ≤ _ by omega) o)
  replace hx := Aside.mk ((hx.out.alloc (.cells #[.int .i64 kn, .slice Q1 sn.length q1, .slice Q2 ln.length q2, .int .i64 mn, .int .i64 xn, .bool gn] 25)))
  generalize (w5.alloc (.cells #[.int .i64 kn, .slice Q1 sn.length q1, .slice Q2 ln.length q2, .int .i64 mn, .int .i64 xn, .bool gn] 25)) = W2 at *
  have kn := Aside.mk kn_
  clear kn_
  obtain ⟨H1, hx2, hle, Bn, hold⟩ := box_freeze hx.out (by omega) kn.out nn.out
  replace hr := Aside.mk (hr.out.mono hle)
  replace ht := Aside.mk (ht.out.mono hle)
  replace hn := Aside.mk (hn.out.mono hle)
  replace Br := Aside.mk (Br.out.mono hle)
  replace hx := Aside.mk hx2
  replace Bn := Aside.mk Bn
  clear hle hold hx2 kn nn
  refine (revE_any _ (revF r) _ _ hn.out hx.out.sat).mono ?_
  rintro e w6 ⟨H7, cs6, rfl, hm, hz⟩
  have hle := hz.le
  replace hr := Aside.mk (hr.out.mono hle)
  replace ht := Aside.mk (ht.out.mono hle)
  replace hn := Aside.mk (hn.out.mono hle)
  replace Br := Aside.mk (Br.out.mono hle)
  replace Bn := Aside.mk (Bn.out.mono hle)
  replace hx := Aside.mk (hx.out.trans hz)
  clear hle hz
  rw [HP.out.2.2.1]
  rw [HP.out.2.2.2.1] at hm
  have hm_ := hm
  rw [hqr.out] at hm_
  obtain ⟨R1, r1, R2, r2, rfl, -, -⟩ := hm_.open
  clear hm_
  replace hm := Aside.mk hm
  have lqr : w4.heap.size < w6.heap.size := hx.out.sat.lt (Br.out 0 _ rfl)
  have cr0 : w6.cell? ⟨w4.heap.size, 0, none⟩ = some (.int .i64 kr) := hx.out.sat _ _ _ (Br.out 0 _ rfl)
  have cr1 : w6.cell? ⟨w4.heap.size, 1, none⟩ = some (.slice P1 sr.length p1) := hx.out.sat _ _ _ (Br.out 1 _ rfl)
  have cr2 : w6.cell? ⟨w4.heap.size, 2, none⟩ = some (.slice P2 lr_.length p2) := hx.out.sat _ _ _ (Br.out 2 _ rfl)
  have cr3 : w6.cell? ⟨w4.heap.size, 3, none⟩ = some (.int .i64 mr) := hx.out.sat _ _ _ (Br.out 3 _ rfl)
  have cr4 : w6.cell? ⟨w4.heap.size, 4, none⟩ = some (.int .i64 xr) := hx.out.sat _ _ _ (Br.out 4 _ rfl)
  have cr5 : w6.cell? ⟨w4.heap.size, 5, none⟩ = some (.bool gr) := hx.out.sat _ _ _ (Br.out 5 _ rfl)
  have lqn : w5.heap.size < w6.heap.size := hx.out.sat.lt (Bn.out 0 _ rfl)
  have cn0 : w6.cell? ⟨w5.heap.size, 0, none⟩ = some (.int .i64 kn) := hx.out.sat _ _ _ (Bn.out 0 _ rfl)
  have cn1 : w6.cell? ⟨w5.heap.size, 1, none⟩ = some (.slice Q1 sn.length q1) := hx.out.sat _ _ _ (Bn.out 1 _ rfl)
  have cn2 : w6.cell? ⟨w5.heap.size, 2, none⟩ = some (.slice Q2 ln.length q2) := hx.out.sat _ _ _ (Bn.out 2 _ rfl)
  have cn3 : w6.cell? ⟨w5.heap.size, 3, none⟩ = some (.int .i64 mn) := hx.out.sat _ _ _ (Bn.out 3 _ rfl)
  have cn4 : w6.cell? ⟨w5.heap.size, 4, none⟩ = some (.int .i64 xn) := hx.out.sat _ _ _ (Bn.out 4 _ rfl)
  have cn5 : w6.cell? ⟨w5.heap.size, 5, none⟩ = some (.bool gn) := hx.out.sat _ _ _ (Bn.out 5 _ rfl)
  go_wp2_with fail
  clear lqr cr0 cr1 cr2 cr3 cr4 cr5 lqn cn0 cn1 cn2 cn3 cn4 cn5
  have hszw6 := hx.out.size
  have km_ : (w6.alloc (.cells #[.int .i64 kr, .slice R1 sr.length r1, .slice R2 lr_.length r2, .int .i64 mr, .int .i64 xr, .bool gr] 25)).heap[w6.heap.size]? = some (.cells #[.int .i64 kr, .slice R1 sr.length r1, .slice R2 lr_.length r2, .int .i64 mr, .int .i64 xr, .bool gr] 25) := (heap_alloc_new _ _)
  have nm := Aside.mk (fun o => hx.out.sat.new (b := w6.heap.size) (show w6.heap.size ≤ _ by omega) o)
  replace hx := Aside.mk ((hx.out.alloc (.cells #[.int .i64 kr, .slice R1 sr.length r1, .slice R2 lr_.length r2, .int .i64 mr, .int .i64 xr, .bool gr] 25)))
  generalize (w6.alloc (.cells #[.int .i64 kr, .slice R1 sr.length r1, .slice R2 lr_.length r2, .int .i64 mr, .int .i64 xr, .bool gr] 25)) = W3 at *
  have km := Aside.mk km_
  clear km_
  obtain ⟨H1, hx2, hle, Bm, hold⟩ := box_freeze hx.out (by omega) km.out nm.out
  replace hr := Aside.mk (hr.out.mono hle)
  replace ht := Aside.mk (ht.out.mono hle)
  replace hn := Aside.mk (hn.out.mono hle)
  replace hm := Aside.mk (hm.out.mono hle)
  replace Br := Aside.mk (Br.out.mono hle)
  replace Bn := Aside.mk (Bn.out.mono hle)
  replace hx := Aside.mk hx2
  replace Bm := Aside.mk Bm
  clear hle hold hx2 km nm
  refine (pairs_any _ r _ t A5 c5 _ hr.out ht.out hx.out.sat).mono ?_
  rintro e w7 ⟨v7, rfl, ho7, hb⟩
  replace hx := Aside.mk (hx.out.then_below hb)
  clear hb
  rw [HP.out.2.2.2.2.1] at ho7 ⊢
  rw [if_pos rfl] at ho7
  have hpl := HP.out.2.2.2.2.2.2.2.2.2.1
  obtain ⟨hlen, hmem, hbd, -⟩ := HP.out.2.2.2.2.2.2
  generalize hLL : prs t.length (M t r) (t.length + 1) = LL at *
  generalize hL2 : prs t.length (M t.reverse (revF r)) (t.length + 1) = L2 at *
  replace hLL := Aside.mk hLL
  replace hL2 := Aside.mk hL2
  have HQ := Aside.mk (And.intro hlen (And.intro hmem hbd))
  clear hlen hmem hbd
  obtain ⟨L1, -, hsL1, ⟨A7, c7, e1, hl7⟩, -⟩ := ho7.freeze (sat_emp w7) (by omega)
  cases e1
  replace hsL1 := Aside.mk hsL1
  replace hl7 := Aside.mk hl7
  clear ho7
  have htl := HP.out.2.2.2.2.2.2.2.2.2.2.2
  have lqr : w4.heap.size < w7.heap.size := hx.out.sat.lt (Br.out 0 _ rfl)
  have cr0 : w7.cell? ⟨w4.heap.size, 0, none⟩ = some (.int .i64 kr) := hx.out.sat _ _ _ (Br.out 0 _ rfl)
  have cr1 : w7.cell? ⟨w4.heap.size, 1, none⟩ = some (.slice P1 sr.length p1) := hx.out.sat _ _ _ (Br.out 1 _ rfl)
  have cr2 : w7.cell? ⟨w4.heap.size, 2, none⟩ = some (.slice P2 lr_.length p2) := hx.out.sat _ _ _ (Br.out 2 _ rfl)
  have cr3 : w7.cell? ⟨w4.heap.size, 3, none⟩ = some (.int .i64 mr) := hx.out.sat _ _ _ (Br.out 3 _ rfl)
  have cr4 : w7.cell? ⟨w4.heap.size, 4, none⟩ = some (.int .i64 xr) := hx.out.sat _ _ _ (Br.out 4 _ rfl)
  have cr5 : w7.cell? ⟨w4.heap.size, 5, none⟩ = some (.bool gr) := hx.out.sat _ _ _ (Br.out 5 _ rfl)
  have lqn : w5.heap.size < w7.heap.size := hx.out.sat.lt (Bn.out 0 _ rfl)
  have cn0 : w7.cell? ⟨w5.heap.size, 0, none⟩ = some (.int .i64 kn) := hx.out.sat _ _ _ (Bn.out 0 _ rfl)
  have cn1 : w7.cell? ⟨w5.heap.size, 1, none⟩ = some (.slice Q1 sn.length q1) := hx.out.sat _ _ _ (Bn.out 1 _ rfl)
  have cn2 : w7.cell? ⟨w5.heap.size, 2, none⟩ = some (.slice Q2 ln.length q2) := hx.out.sat _ _ _ (Bn.out 2 _ rfl)
  have cn3 : w7.cell? ⟨w5.heap.size, 3, none⟩ = some (.int .i64 mn) := hx.out.sat _ _ _ (Bn.out 3 _ rfl)
  have cn4 : w7.cell? ⟨w5.heap.size, 4, none⟩ = some (.int .i64 xn) := hx.out.sat _ _ _ (Bn.out 4 _ rfl)
  have cn5 : w7.cell? ⟨w5.heap.size, 5, none⟩ = some (.bool gn) := hx.out.sat _ _ _ (Bn.out 5 _ rfl)
  have lqm : w6.heap.size < w7.heap.size := hx.out.sat.lt (Bm.out 0 _ rfl)
  have cm0 : w7.cell? ⟨w6.heap.size, 0, none⟩ = some (.int .i64 kr) := hx.out.sat _ _ _ (Bm.out 0 _ rfl)
  have cm1 : w7.cell? ⟨w6.heap.size, 1, none⟩ = some (.slice R1 sr.length r1) := hx.out.sat _ _ _ (Bm.out 1 _ rfl)
  have cm2 : w7.cell? ⟨w6.heap.size, 2, none⟩ = some (.slice R2 lr_.length r2) := hx.out.sat _ _ _ (Bm.out 2 _ rfl)
  have cm3 : w7.cell? ⟨w6.heap.size, 3, none⟩ = some (.int .i64 mr) := hx.out.sat _ _ _ (Bm.out 3 _ rfl)
  have cm4 : w7.cell? ⟨w6.heap.size, 4, none⟩ = some (.int .i64 xr) := hx.out.sat _ _ _ (Bm.out 4 _ rfl)
  have cm5 : w7.cell? ⟨w6.heap.size, 5, none⟩ = some (.bool gr) := hx.out.sat _ _ _ (Bm.out 5 _ rfl)
  go_wp2_with fail
  clear lqr cr0 cr1 cr2 cr3 cr4 cr5 lqn cn0 cn1 cn2 cn3 cn4 cn5 lqm cm0 cm1 cm2 cm3 cm4 cm5
  have hsN := Aside.mk (fun b o (hb : w7.heap.size ≤ b) => hsL1.out.new hb o)
  refine (cloneInt_any _ t A5 _ c5 _ ht.out hx.out.sat (by omega)).mono ?_
  rintro e w8 ⟨v8, rfl, ho8, hb⟩
  replace hsL1 := Aside.mk (hsL1.out.below hb)
  have hsz8 := hx.out.size
  replace hx := Aside.mk (hx.out.then_below hb)
  clear hb
  obtain ⟨A8, c8, e8, -, -, -, -⟩ := ho8.form
  subst e8
  have lqr : w4.heap.size < w8.heap.size := hx.out.sat.lt (Br.out 0 _ rfl)
  have cr0 : w8.cell? ⟨w4.heap.size, 0, none⟩ = some (.int .i64 kr) := hx.out.sat _ _ _ (Br.out 0 _ rfl)
  have cr1 : w8.cell? ⟨w4.heap.size, 1, none⟩ = some (.slice P1 sr.length p1) := hx.out.sat _ _ _ (Br.out 1 _ rfl)
  have cr2 : w8.cell? ⟨w4.heap.size, 2, none⟩ = some (.slice P2 lr_.length p2) := hx.out.sat _ _ _ (Br.out 2 _ rfl)
  have cr3 : w8.cell? ⟨w4.heap.size, 3, none⟩ = some (.int .i64 mr) := hx.out.sat _ _ _ (Br.out 3 _ rfl)
  have cr4 : w8.cell? ⟨w4.heap.size, 4, none⟩ = some (.int .i64 xr) := hx.out.sat _ _ _ (Br.out 4 _ rfl)
  have cr5 : w8.cell? ⟨w4.heap.size, 5, none⟩ = some (.bool gr) := hx.out.sat _ _ _ (Br.out 5 _ rfl)
  have lqn : w5.heap.size < w8.heap.size := hx.out.sat.lt (Bn.out 0 _ rfl)
  have cn0 : w8.cell? ⟨w5.heap.size, 0, none⟩ = some (.int .i64 kn) := hx.out.sat _ _ _ (Bn.out 0 _ rfl)
  have cn1 : w8.cell? ⟨w5.heap.size, 1, none⟩ = some (.slice Q1 sn.length q1) := hx.out.sat _ _ _ (Bn.out 1 _ rfl)
  have cn2 : w8.cell? ⟨w5.heap.size, 2, none⟩ = some (.slice Q2 ln.length q2) := hx.out.sat _ _ _ (Bn.out 2 _ rfl)
  have cn3 : w8.cell? ⟨w5.heap.size, 3, none⟩ = some (.int .i64 mn) := hx.out.sat _ _ _ (Bn.out 3 _ rfl)
  have cn4 : w8.cell? ⟨w5.heap.size, 4, none⟩ = some (.int .i64 xn) := hx.out.sat _ _ _ (Bn.out 4 _ rfl)
  have cn5 : w8.cell? ⟨w5.heap.size, 5, none⟩ = some (.bool gn) := hx.out.sat _ _ _ (Bn.out 5 _ rfl)
  have lqm : w6.heap.size < w8.heap.size := hx.out.sat.lt (Bm.out 0 _ rfl)
  have cm0 : w8.cell? ⟨w6.heap.size, 0, none⟩ = some (.int .i64 kr) := hx.out.sat _ _ _ (Bm.out 0 _ rfl)
  have cm1 : w8.cell? ⟨w6.heap.size, 1, none⟩ = some (.slice R1 sr.length r1) := hx.out.sat _ _ _ (Bm.out 1 _ rfl)
  have cm2 : w8.cell? ⟨w6.heap.size, 2, none⟩ = some (.slice R2 lr_.length r2) := hx.out.sat _ _ _ (Bm.out 2 _ rfl)
  have cm3 : w8.cell? ⟨w6.heap.size, 3, none⟩ = some (.int .i64 mr) := hx.out.sat _ _ _ (Bm.out 3 _ rfl)
  have cm4 : w8.cell? ⟨w6.heap.size, 4, none⟩ = some (.int .i64 xr) := hx.out.sat _ _ _ (Bm.out 4 _ rfl)
  have cm5 : w8.cell? ⟨w6.heap.size, 5, none⟩ = some (.bool gr) := hx.out.sat _ _ _ (Bm.out 5 _ rfl)
  go_wp2_with fail
  clear lqr cr0 cr1 cr2 cr3 cr4 cr5 lqn cn0 cn1 cn2 cn3 cn4 cn5 lqm cm0 cm1 cm2 cm3 cm4 cm5
  refine (revInt_any _ _ _ _ _ _ ho8 (by omega)).mono ?_
  rintro e w9 ⟨rfl, ho9, hg9⟩
  replace hx := Aside.mk (ho8.extG hx.out (by omega) hg9)
  have hsL1b : Sat w9 L1 := (hsL1.out.grown hg9 fun b hb o => hsN.out b o (ho8.blk hb).1)
  replace hsL1 := Aside.mk hsL1b
  clear hsL1b ho8 hg9
  obtain ⟨H10, hx10, hle, ⟨A10, c10, e1, hbk⟩, -⟩ := ho9.freezeE hx.out hsz8 (by rw [HP.out.2.2.2.2.2.2.2.2.2.2.1]; omega)
  simp only [List.cons.injEq, Value.slice.injEq, and_true] at e1
  obtain ⟨rfl, e2, rfl⟩ := e1
  replace hr := Aside.mk (hr.out.mono hle)
  replace ht := Aside.mk (ht.out.mono hle)
  replace hn := Aside.mk (hn.out.mono hle)
  replace hm := Aside.mk (hm.out.mono hle)
  replace Br := Aside.mk (Br.out.mono hle)
  replace Bn := Aside.mk (Bn.out.mono hle)
  replace Bm := Aside.mk (Bm.out.mono hle)
  replace hx := Aside.mk hx10
  replace e2 := Aside.mk e2
  replace hbk := Aside.mk hbk
  clear hle hx10 ho9
  have lqr : w4.heap.size < w9.heap.size := hx.out.sat.lt (Br.out 0 _ rfl)
  have cr0 : w9.cell? ⟨w4.heap.size, 0, none⟩ = some (.int .i64 kr) := hx.out.sat _ _ _ (Br.out 0 _ rfl)
  have cr1 : w9.cell? ⟨w4.heap.size, 1, none⟩ = some (.slice P1 sr.length p1) := hx.out.sat _ _ _ (Br.out 1 _ rfl)
  have cr2 : w9.cell? ⟨w4.heap.size, 2, none⟩ = some (.slice P2 lr_.length p2) := hx.out.sat _ _ _ (Br.out 2 _ rfl)
  have cr3 : w9.cell? ⟨w4.heap.size, 3, none⟩ = some (.int .i64 mr) := hx.out.sat _ _ _ (Br.out 3 _ rfl)
  have cr4 : w9.cell? ⟨w4.heap.size, 4, none⟩ = some (.int .i64 xr) := hx.out.sat _ _ _ (Br.out 4 _ rfl)
  have cr5 : w9.cell? ⟨w4.heap.size, 5, none⟩ = some (.bool gr) := hx.out.sat _ _ _ (Br.out 5 _ rfl)
  have lqn : w5.heap.size < w9.heap.size := hx.out.sat.lt (Bn.out 0 _ rfl)
  have cn0 : w9.cell? ⟨w5.heap.size, 0, none⟩ = some (.int .i64 kn) := hx.out.sat _ _ _ (Bn.out 0 _ rfl)
  have cn1 : w9.cell? ⟨w5.heap.size, 1, none⟩ = some (.slice Q1 sn.length q1) := hx.out.sat _ _ _ (Bn.out 1 _ rfl)
  have cn2 : w9.cell? ⟨w5.heap.size, 2, none⟩ = some (.slice Q2 ln.length q2) := hx.out.sat _ _ _ (Bn.out 2 _ rfl)
  have cn3 : w9.cell? ⟨w5.heap.size, 3, none⟩ = some (.int .i64 mn) := hx.out.sat _ _ _ (Bn.out 3 _ rfl)
  have cn4 : w9.cell? ⟨w5.heap.size, 4, none⟩ = some (.int .i64 xn) := hx.out.sat _ _ _ (Bn.out 4 _ rfl)
  have cn5 : w9.cell? ⟨w5.heap.size, 5, none⟩ = some (.bool gn) := hx.out.sat _ _ _ (Bn.out 5 _ rfl)
  have lqm : w6.heap.size < w9.heap.size := hx.out.sat.lt (Bm.out 0 _ rfl)
  have cm0 : w9.cell? ⟨w6.heap.size, 0, none⟩ = some (.int .i64 kr) := hx.out.sat _ _ _ (Bm.out 0 _ rfl)
  have cm1 : w9.cell? ⟨w6.heap.size, 1, none⟩ = some (.slice R1 sr.length r1) := hx.out.sat _ _ _ (Bm.out 1 _ rfl)
  have cm2 : w9.cell? ⟨w6.heap.size, 2, none⟩ = some (.slice R2 lr_.length r2) := hx.out.sat _ _ _ (Bm.out 2 _ rfl)
  have cm3 : w9.cell? ⟨w6.heap.size, 3, none⟩ = some (.int .i64 mr) := hx.out.sat _ _ _ (Bm.out 3 _ rfl)
  have cm4 : w9.cell? ⟨w6.heap.size, 4, none⟩ = some (.int .i64 xr) := hx.out.sat _ _ _ (Bm.out 4 _ rfl)
  have cm5 : w9.cell? ⟨w6.heap.size, 5, none⟩ = some (.bool gr) := hx.out.sat _ _ _ (Bm.out 5 _ rfl)
  go_wp2_with fail
  clear lqr cr0 cr1 cr2 cr3 cr4 cr5 lqn cn0 cn1 cn2 cn3 cn4 cn5 lqm cm0 cm1 cm2 cm3 cm4 cm5
  have hpa := pairs_any _ (revF r) _ t.reverse A8 c8 w9 hn.out hbk.out hx.out.sat
  rw [← e2.out] at hpa
  refine hpa.mono ?_
  clear hpa
  rintro e w10 ⟨v10, rfl, ho10, hb⟩
  replace hsL1 := Aside.mk (hsL1.out.below hb)
  replace hx := Aside.mk (hx.out.then_below hb)
  clear hb
  rw [HP.out.2.2.2.2.2.1] at ho10 ⊢
  rw [if_pos rfl, hL2.out] at ho10
  obtain ⟨L2_, -, hsL2, ⟨A11, c11, e1, hl8⟩, -⟩ := ho10.freeze (sat_emp w10) (by rw [HQ.out.1]; omega)
  cases e1
  replace hsL2 := Aside.mk hsL2
  rw [HQ.out.1] at hl8 ⊢
  replace hl8 := Aside.mk hl8
  clear ho10
  have hc7 := hl7.out.2.1
  have hc11 := hl8.out.2.1
  generalize hnn : LL.length = nn at *
  replace hnn := Aside.mk hnn
  go_wp2_with fail
  obtain ⟨Hg, hleg, hsg, hslg⟩ := lit_sl (k := kI .i64) (e := 28) (xs := [0, 0, 0, 0]) (w := w10) hx.out.sat #[.int .i64 0, .int .i64 0, .int .i64 0, .int .i64 0] ⟨[.int .i64 0], _, rfl, rfl, ⟨[.int .i64 0], _, rfl, rfl, ⟨[.int .i64 0], _, rfl, rfl, EncL.single rfl⟩⟩⟩ (by simp)
  refine (good_any Hg [0, 0, 0, 0] _ _ _ _ hslg hsg (by simp)).mono ?_
  rintro e w11 ⟨rfl, rfl⟩
  clear hleg hsg hslg
  have hb12 : Below w10.heap.size w10 (w10.alloc (.cells #[.int .i64 0, .int .i64 0, .int .i64 0, .int .i64 0] 28)) := bA (Below.refl _ _) _
  replace hsL1 := Aside.mk (hsL1.out.below hb12)
  replace hsL2 := Aside.mk (hsL2.out.below hb12)
  clear hb12
  replace hx := Aside.mk ((hx.out.alloc (.cells #[.int .i64 0, .int .i64 0, .int .i64 0, .int .i64 0] 28)))
  generalize (w10.alloc (.cells #[.int .i64 0, .int .i64 0, .int .i64 0, .int .i64 0] 28)) = W4 at *
  have lqr : w4.heap.size < W4.heap.size := hx.out.sat.lt (Br.out 0 _ rfl)
  have cr0 : W4.cell? ⟨w4.heap.size, 0, none⟩ = some (.int .i64 kr) := hx.out.sat _ _ _ (Br.out 0 _ rfl)
  have cr1 : W4.cell? ⟨w4.heap.size, 1, none⟩ = some (.slice P1 sr.length p1) := hx.out.sat _ _ _ (Br.out 1 _ rfl)
  have cr2 : W4.cell? ⟨w4.heap.size, 2, none⟩ = some (.slice P2 lr_.length p2) := hx.out.sat _ _ _ (Br.out 2 _ rfl)
  have cr3 : W4.cell? ⟨w4.heap.size, 3, none⟩ = some (.int .i64 mr) := hx.out.sat _ _ _ (Br.out 3 _ rfl)
  have cr4 : W4.cell? ⟨w4.heap.size, 4, none⟩ = some (.int .i64 xr) := hx.out.sat _ _ _ (Br.out 4 _ rfl)
  have cr5 : W4.cell? ⟨w4.heap.size, 5, none⟩ = some (.bool gr) := hx.out.sat _ _ _ (Br.out 5 _ rfl)
  have lqn : w5.heap.size < W4.heap.size := hx.out.sat.lt (Bn.out 0 _ rfl)
  have cn0 : W4.cell? ⟨w5.heap.size, 0, none⟩ = some (.int .i64 kn) := hx.out.sat _ _ _ (Bn.out 0 _ rfl)
  have cn1 : W4.cell? ⟨w5.heap.size, 1, none⟩ = some (.slice Q1 sn.length q1) := hx.out.sat _ _ _ (Bn.out 1 _ rfl)
  have cn2 : W4.cell? ⟨w5.heap.size, 2, none⟩ = some (.slice Q2 ln.length q2) := hx.out.sat _ _ _ (Bn.out 2 _ rfl)
  have cn3 : W4.cell? ⟨w5.heap.size, 3, none⟩ = some (.int .i64 mn) := hx.out.sat _ _ _ (Bn.out 3 _ rfl)
  have cn4 : W4.cell? ⟨w5.heap.size, 4, none⟩ = some (.int .i64 xn) := hx.out.sat _ _ _ (Bn.out 4 _ rfl)
  have cn5 : W4.cell? ⟨w5.heap.size, 5, none⟩ = some (.bool gn) := hx.out.sat _ _ _ (Bn.out 5 _ rfl)
  have lqm : w6.heap.size < W4.heap.size := hx.out.sat.lt (Bm.out 0 _ rfl)
  have cm0 : W4.cell? ⟨w6.heap.size, 0, none⟩ = some (.int .i64 kr) := hx.out.sat _ _ _ (Bm.out 0 _ rfl)
  have cm1 : W4.cell? ⟨w6.heap.size, 1, none⟩ = some (.slice R1 sr.length r1) := hx.out.sat _ _ _ (Bm.out 1 _ rfl)
  have cm2 : W4.cell? ⟨w6.heap.size, 2, none⟩ = some (.slice R2 lr_.length r2) := hx.out.sat _ _ _ (Bm.out 2 _ rfl)
  have cm3 : W4.cell? ⟨w6.heap.size, 3, none⟩ = some (.int .i64 mr) := hx.out.sat _ _ _ (Bm.out 3 _ rfl)
  have cm4 : W4.cell? ⟨w6.heap.size, 4, none⟩ = some (.int .i64 xr) := hx.out.sat _ _ _ (Bm.out 4 _ rfl)
  have cm5 : W4.cell? ⟨w6.heap.size, 5, none⟩ = some (.bool gr) := hx.out.sat _ _ _ (Bm.out 5 _ rfl)
  go_wp2_with fail
  clear lqr cr0 cr1 cr2 cr3 cr4 cr5 lqn cn0 cn1 cn2 cn3 cn4 cn5 lqm cm0 cm1 cm2 cm3 cm4 cm5
  refine (same_re r _ r _ _ _ hm.out hr.out hx.out.sat).mono ?_
  rintro e w12 ⟨he, hb⟩
  obtain rfl : e = .returned (.bool true) := (he.trans (retT rfl))
  replace hsL1 := Aside.mk (hsL1.out.below hb)
  replace hsL2 := Aside.mk (hsL2.out.below hb)
  replace hx := Aside.mk (hx.out.then_below hb)
  clear hb
  have hnn48 : nn ≤ 140737488355328 := hl7.out.2.2.2.1
  have lqr : w4.heap.size < w12.heap.size := hx.out.sat.lt (Br.out 0 _ rfl)
  have cr0 : w12.cell? ⟨w4.heap.size, 0, none⟩ = some (.int .i64 kr) := hx.out.sat _ _ _ (Br.out 0 _ rfl)
  have cr1 : w12.cell? ⟨w4.heap.size, 1, none⟩ = some (.slice P1 sr.length p1) := hx.out.sat _ _ _ (Br.out 1 _ rfl)
  have cr2 : w12.cell? ⟨w4.heap.size, 2, none⟩ = some (.slice P2 lr_.length p2) := hx.out.sat _ _ _ (Br.out 2 _ rfl)
  have cr3 : w12.cell? ⟨w4.heap.size, 3, none⟩ = some (.int .i64 mr) := hx.out.sat _ _ _ (Br.out 3 _ rfl)
  have cr4 : w12.cell? ⟨w4.heap.size, 4, none⟩ = some (.int .i64 xr) := hx.out.sat _ _ _ (Br.out 4 _ rfl)
  have cr5 : w12.cell? ⟨w4.heap.size, 5, none⟩ = some (.bool gr) := hx.out.sat _ _ _ (Br.out 5 _ rfl)
  have lqn : w5.heap.size < w12.heap.size := hx.out.sat.lt (Bn.out 0 _ rfl)
  have cn0 : w12.cell? ⟨w5.heap.size, 0, none⟩ = some (.int .i64 kn) := hx.out.sat _ _ _ (Bn.out 0 _ rfl)
  have cn1 : w12.cell? ⟨w5.heap.size, 1, none⟩ = some (.slice Q1 sn.length q1) := hx.out.sat _ _ _ (Bn.out 1 _ rfl)
  have cn2 : w12.cell? ⟨w5.heap.size, 2, none⟩ = some (.slice Q2 ln.length q2) := hx.out.sat _ _ _ (Bn.out 2 _ rfl)
  have cn3 : w12.cell? ⟨w5.heap.size, 3, none⟩ = some (.int .i64 mn) := hx.out.sat _ _ _ (Bn.out 3 _ rfl)
  have cn4 : w12.cell? ⟨w5.heap.size, 4, none⟩ = some (.int .i64 xn) := hx.out.sat _ _ _ (Bn.out 4 _ rfl)
  have cn5 : w12.cell? ⟨w5.heap.size, 5, none⟩ = some (.bool gn) := hx.out.sat _ _ _ (Bn.out 5 _ rfl)
  have lqm : w6.heap.size < w12.heap.size := hx.out.sat.lt (Bm.out 0 _ rfl)
  have cm0 : w12.cell? ⟨w6.heap.size, 0, none⟩ = some (.int .i64 kr) := hx.out.sat _ _ _ (Bm.out 0 _ rfl)
  have cm1 : w12.cell? ⟨w6.heap.size, 1, none⟩ = some (.slice R1 sr.length r1) := hx.out.sat _ _ _ (Bm.out 1 _ rfl)
  have cm2 : w12.cell? ⟨w6.heap.size, 2, none⟩ = some (.slice R2 lr_.length r2) := hx.out.sat _ _ _ (Bm.out 2 _ rfl)
  have cm3 : w12.cell? ⟨w6.heap.size, 3, none⟩ = some (.int .i64 mr) := hx.out.sat _ _ _ (Bm.out 3 _ rfl)
  have cm4 : w12.cell? ⟨w6.heap.size, 4, none⟩ = some (.int .i64 xr) := hx.out.sat _ _ _ (Bm.out 4 _ rfl)
  have cm5 : w12.cell? ⟨w6.heap.size, 5, none⟩ = some (.bool gr) := hx.out.sat _ _ _ (Bm.out 5 _ rfl)
  go_wp2_with fail
  clear lqr cr0 cr1 cr2 cr3 cr4 cr5 lqn cn0 cn1 cn2 cn3 cn4 cn5 lqm cm0 cm1 cm2 cm3 cm4 cm5
  clear hr hn hm hbk ht
  clear Br Bn Bm
  go_loopw [76] (fun i wr => ∃ (k : Nat) (Hk : PH), k ≤ nn ∧ i = .int .i64 k ∧ Aside (Sat wr L1 ∧ Sat wr L2_) ∧ Aside (Ext H Hk w wr)) (fun i _ => nn - (intOf i).toNat)
  case atStart => exact ⟨0, _, by omega, rfl, ⟨hsL1.out, hsL2.out⟩, hx⟩
  case round =>
    clear hx
    obtain ⟨k, Hk, hk, rfl, hSL, hx⟩ := hrel
    by_cases hlt : k < nn
    case pos =>
      have hlk : k < LL.length := by rw [hnn.out]; exact hlt
      obtain ⟨b, off, cs, e0, hrd, hcell⟩ := hl7.out.row k hlk
      subst e0
      have hin := HQ.out.2.1 LL[k] (List.getElem_mem hlk)
      have hbb := HQ.out.2.2 LL[k] (List.getElem_mem hlk)
      generalize LL[k] = z at *
      obtain ⟨p, q⟩ := z
      obtain rfl : cs = [.int .i64 p, .int .i64 q] := hrd
      obtain ⟨g0, g1⟩ := at2 hSL.out.1 hcell
      simp only [kP] at g0 g1
      simp only [mirP] at hin
      simp only at hbb
      obtain ⟨b1, b2, b3, b4⟩ := hbb
      have hbz : b < wr.heap.size := World.block_lt_of_cell? wr _ g0
      have hin2 := Aside.mk hin
      have hlt2 := Aside.mk hlt
      clear hcell hin hlk
      go_wp2_with fail
      clear g0 g1
      have hb13 : Below wr.heap.size wr (wr.alloc (.cells #[.int .i64 p, .int .i64 q] 33)) := bA (Below.refl _ _) _
      have hS2 := Aside.mk (And.intro (hSL.out.1.below hb13) (hSL.out.2.below hb13))
      clear hb13
      replace hx := Aside.mk ((hx.out.alloc (.cells #[.int .i64 p, .int .i64 q] 33)))
      generalize (wr.alloc (.cells #[.int .i64 p, .int .i64 q] 33)) = W5 at *
      refine (hasP_any L2_ L2 ((t.length : Int) - q) ((t.length : Int) - p) A11 nn c11 _ hl8.out hS2.out.2).mono ?_
      rintro e w14 ⟨he, hb⟩
      obtain rfl : e = .returned (.bool true) := he.trans (retT hin2.out)
      replace hSL := Aside.mk (And.intro (hS2.out.1.below hb) (hS2.out.2.below hb))
      clear hS2
      replace hx := Aside.mk (hx.out.then_below hb)
      clear hb
      go_wp2_with fail
      go_roundw
      case rel => exact ⟨k + 1, _, hlt2.out, by go_num, hSL, hx⟩
      case measure => (have := hlt2.out; simp [intOf]; omega)
    case neg =>
      obtain rfl : k = nn := by omega
      go_wp2_with fail
      go_ret
      exact ⟨rfl, hx.out.below⟩
end Go.Proofs.Ytbnahmeaeakhhaa.B
