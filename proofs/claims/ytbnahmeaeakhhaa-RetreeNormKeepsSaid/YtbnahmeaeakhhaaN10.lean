/- The walk: parlkeep1.retreeBegun, RetreeNormKeeps. -/
import Derived.Test.YtbnahmeaeakhhaaN9
import Derived.Test.YtbnahmeaeakhhaaNi
import Derived.Test.YtbnahmeaeakhhaaKq
import Derived.Deep.RegionHeld3
namespace Go.Proofs.Ytbnahmeaeakhhaa.B
set_option linter.unusedVariables false
set_option linter.unusedSimpArgs false
open Go Go.RowKit Classical

theorem kb_err : checkRe (.mk 3 [] [oneRe 97, .mk 1 [] [] 0 0 false] 0 0 false) 40 = 0 := by
  have h9 : (pre (oneRe 97)).length = 1 := by unfold oneRe; rw [pre_eq]; rfl
  refine errL_all _ _ (good2 (Or.inl rfl) ?_ (good0 (Or.inr rfl))) (by rw [len2, len0]; omega)
  exact good_mk (by decide) (by simp)
theorem kb_norm : normR (.mk 3 [] [oneRe 97, .mk 1 [] [] 0 0 false] 0 0 false) = oneRe 97 := by
  rw [normR, if_pos kb_err, normF_eq]
  have h1 : normF (oneRe 97) = oneRe 97 := by unfold oneRe; rw [normF_eq]; simp [normTop]
  have h2 : normF (.mk 1 [] [] 0 0 false) = .mk 1 [] [] 0 0 false := by rw [normF_eq]; simp [normTop]
  have h3 : sevL 3 [oneRe 97, .mk 1 [] [] 0 0 false] = [oneRe 97] := by
    simp only [sevL, List.map_cons, List.map_nil, flat1_e3]
    unfold oneRe
    rw [flat1_else _ _ _ _ _ (by decide) (by decide) (by decide)]; rfl
  rw [List.map_cons, List.map_cons, List.map_nil, h1, h2]
  unfold normTop
  rw [if_pos (Or.inl rfl)]
  unfold sevF
  rw [h3, if_neg (by rintro ⟨-, a, ha, h0⟩; rw [List.mem_singleton.1 ha] at h0; simp [oneRe, Re.kind] at h0), if_neg (by simp)]
  rfl

set_option maxRecDepth 100000 in
set_option maxHeartbeats 8000000 in
theorem kretreeBegun_any (w : World) : Calls Try.prog 64 #[] w fun e w' => e = .returned (.bool true) ∧ Below w.heap.size w w' := by
  have hx := Aside.mk (Ext.refl (sat_emp w))
  go_enter Try.func64, Try.ntmps64
  go_wp2_with fail
  refine (kone_any emp 97 w (sat_emp w)).mono ?_
  rintro e w1 ⟨H1, cs1, rfl, hr1, hz⟩
  have hle := hz.le
  replace hx := Aside.mk (hx.out.trans hz)
  clear hle hz
  have hr1_ := Aside.mk hr1
  obtain ⟨A1, c1, A2, c2, rfl, -, -⟩ := hr1.open
  clear hr1
  go_wp2_with fail
  refine (kre0 1 hx.out.sat).mono ?_
  rintro e w2 ⟨rfl, hr2, hz⟩
  have hle := hz.le
  replace hr1_ := Aside.mk (hr1_.out.mono hle)
  replace hx := Aside.mk (hx.out.trans hz)
  clear hle hz
  replace hr2 := Aside.mk hr2
  go_wp2_with fail
  refine (kre2 3 hx.out.sat hr1_.out hr2.out _ rfl).mono ?_
  rintro e w3 ⟨H3, A3, c3, rfl, hr3, hz⟩
  have hle := hz.le
  replace hr1_ := Aside.mk (hr1_.out.mono hle)
  replace hr2 := Aside.mk (hr2.out.mono hle)
  replace hx := Aside.mk (hx.out.trans hz)
  clear hle hz
  replace hr3 := Aside.mk hr3
  go_wp2_with fail
  refine (normE_any _ _ _ _ hr3.out hx.out.sat).mono ?_
  rintro e w4 ⟨H4, cs4, rfl, hr4, hz⟩
  have hle := hz.le
  replace hr1_ := Aside.mk (hr1_.out.mono hle)
  replace hr2 := Aside.mk (hr2.out.mono hle)
  replace hr3 := Aside.mk (hr3.out.mono hle)
  replace hx := Aside.mk (hx.out.trans hz)
  clear hle hz
  rw [kb_norm] at hr4
  rw [kb_err]
  have hr4_ := Aside.mk hr4
  obtain ⟨A5, c5, A6, c6, rfl, -, -⟩ := hr4.open
  clear hr4 hr1_ hr2 hr3
  simp only [List.length_cons, List.length_nil, Nat.zero_add] at hr4_ ⊢
  go_wp2_with fail
  have hszw4 := hx.out.size
  have kn_ : (w4.alloc (.cells #[.int .i64 2, .slice A5 1 c5, .slice A6 0 c6, .int .i64 0, .int .i64 0, .bool false] 25)).heap[w4.heap.size]? = some (.cells #[.int .i64 2, .slice A5 1 c5, .slice A6 0 c6, .int .i64 0, .int .i64 0, .bool false] 25) := (heap_alloc_new _ _)
  have nn := Aside.mk (fun o => hx.out.sat.new (b := w4.heap.size) (show w4.heap.size ≤ _ by omega) o)
  replace hx := Aside.mk ((hx.out.alloc (.cells #[.int .i64 2, .slice A5 1 c5, .slice A6 0 c6, .int .i64 0, .int .i64 0, .bool false] 25)))
  generalize (w4.alloc (.cells #[.int .i64 2, .slice A5 1 c5, .slice A6 0 c6, .int .i64 0, .int .i64 0, .bool false] 25)) = W1 at *
  have kn := Aside.mk kn_
  clear kn_
  obtain ⟨H1, hx2, hle, Bn, hold⟩ := box_freeze hx.out (by omega) kn.out nn.out
  replace hr4_ := Aside.mk (hr4_.out.mono hle)
  replace hx := Aside.mk hx2
  replace Bn := Aside.mk Bn
  clear hle hold hx2 kn nn
  have HS := Aside.mk (fun w' (hb : Below W1.heap.size W1 w') => hx.out.sat.below hb)
  have HK : Aside (∀ w', Below W1.heap.size W1 w' → w'.cell? ⟨w4.heap.size, 0, none⟩ = some (.int .i64 2) ∧ w'.cell? ⟨w4.heap.size, 1, none⟩ = some (.slice A5 1 c5) ∧ w'.cell? ⟨w4.heap.size, 2, none⟩ = some (.slice A6 0 c6) ∧ w'.cell? ⟨w4.heap.size, 3, none⟩ = some (.int .i64 0) ∧ w'.cell? ⟨w4.heap.size, 4, none⟩ = some (.int .i64 0) ∧ w'.cell? ⟨w4.heap.size, 5, none⟩ = some (.bool false)) := ⟨fun w' hb => by
    have qn := at6 (HS.out _ hb) Bn.out
    simp only [Nat.add_zero, Nat.zero_add] at qn
    simp only [qn, and_self]⟩
  have hB := Aside.mk (Below.refl W1.heap.size W1)
  go_region_held3 (fun w' => w'.cell? ⟨w4.heap.size, 0, none⟩ = some (.int .i64 2) ∧ w'.cell? ⟨w4.heap.size, 1, none⟩ = some (.slice A5 1 c5) ∧ w'.cell? ⟨w4.heap.size, 2, none⟩ = some (.slice A6 0 c6) ∧ w'.cell? ⟨w4.heap.size, 3, none⟩ = some (.int .i64 0) ∧ w'.cell? ⟨w4.heap.size, 4, none⟩ = some (.int .i64 0) ∧ w'.cell? ⟨w4.heap.size, 5, none⟩ = some (.bool false))
    (first | exact HK.out _ hB.out | exact HK.out _ hB.out.drew | exact HK.out _ (bA hB.out.drew _) | exact HK.out _ (bD (bA hB.out _)) | exact HK.out _ (bA hB.out _))
    ((first | (go_at_call 46; refine (kone_any _ 97 _ hx.out.sat.drew).mono ?_; rintro e w5 ⟨H5, cs5, rfl, hr5, hz5⟩; have hr5_ := Aside.mk hr5; obtain ⟨A7, c7, A8, c8, rfl, -, -⟩ := hr5.open; replace hB := Aside.mk (hB.out.drew.trans (hz5.below.mono hB.out.size))) | (go_at_call 66; refine (same_re (oneRe 97) _ (oneRe 97) _ _ _ (hr4_.out.mono hz5.le) hr5_.out hz5.sat).mono ?_; rintro e w6 ⟨he, hb6⟩; obtain rfl : e = .returned (.bool true) := (he.trans (retT (by first | trivial | rfl | simp))); replace hB := Aside.mk (bT hB.out hb6))))
  go_wp2_with fail
  go_ret
  exact ⟨rfl, (hx.out.then_below hB.out).below⟩

set_option maxRecDepth 100000 in
set_option maxHeartbeats 16000000 in
theorem retreeNormKeeps_any (H : PH) (l1 l2 : List Int) (A1 A2 : Option Addr) (n1 n2 c1 c2 : Nat) (w : World) (h1 : SlR (kI .i64) H A1 n1 c1 l1) (h2 : SlR (kI .i64) H A2 n2 c2 l2) (hs : Sat w H) :
    Calls Try.prog 11 #[.slice A1 n1 c1, .slice A2 n2 c2] w fun e w' => e = .returned (.bool true) ∧ Below w.heap.size w w' := by
  have hx := Aside.mk (Ext.refl hs)
  replace h1 := Aside.mk h1
  replace h2 := Aside.mk h2
  go_enter Try.func11, Try.ntmps11
  go_wp2_with fail
  refine (kretreeBegun_any w).mono ?_
  rintro e w1 ⟨rfl, hb1⟩
  replace hx := Aside.mk (hx.out.then_below hb1)
  clear hb1
  go_wp2_with fail
  refine (krelationBegun_any _).mono ?_
  rintro e w2 ⟨rfl, hb1⟩
  replace hx := Aside.mk (hx.out.then_below hb1)
  clear hb1
  go_wp2_with fail
  refine (reAllOf_any _ l1 A1 n1 c1 _ h1.out hx.out.sat).mono ?_
  rintro e w3 ⟨r, H3, cs3, rfl, hr, hm, hz⟩
  have hle := hz.le
  replace h1 := Aside.mk (h1.out.mono hle)
  replace h2 := Aside.mk (h2.out.mono hle)
  replace hx := Aside.mk (hx.out.trans hz)
  clear hle hz
  replace hr := Aside.mk hr
  replace hm := Aside.mk hm
  go_wp2_with fail
  have hxo := hx
  refine (textOf_any _ l2 A2 n2 c2 _ h2.out hx.out.sat).mono ?_
  rintro e w4 ⟨v, t, rfl, ho, hrt, hb⟩
  replace hx := Aside.mk (hx.out.then_below hb)
  clear hb
  obtain ⟨H5, hx5, hle, ⟨A5, c5, e1, ht⟩, -⟩ := (ho.flat (fun b o hb' => hxo.out.sat.new (ho.blk hb').1 o)).freezeE hx.out hxo.out.size (by have := hrt.1; omega)
  cases e1
  replace h1 := Aside.mk (h1.out.mono hle)
  replace h2 := Aside.mk (h2.out.mono hle)
  replace hr := Aside.mk (hr.out.mono hle)
  replace hx := Aside.mk hx5
  replace ht := Aside.mk ht
  replace hrt := Aside.mk hrt
  clear hle hx5 ho hxo
  clear h1 h2
  have hrg : Good r := hm.out.1
  have hrz : sz r ≤ 40 := by have h9 : (pre r).length < 32 := hm.out.2.2; unfold sz; omega
  obtain ⟨hng, hnz⟩ := normF_ok r hrg
  have hc1 := checkRe_small hrg hrz
  have hc2 := checkRe_small hng (Nat.le_trans hnz hrz)
  have hte : textErr r t 24 = 0 := textErr_good hrg hrz hrt.out
  have hte2 : textErr (normF r) t 24 = 0 := textErr_good hng (Nat.le_trans hnz hrz) hrt.out
  have hR1 : normR r = normF r := if_pos hc1
  have hR2 : normR (normF r) = normF r := (if_pos hc2).trans (normF_twice r)
  have hpr : prs t.length (M t r) (t.length + 1) = prs t.length (M t (normF r)) (t.length + 1) := prs_congr fun i j hi hj => (normF_M r hrg i j hi hj).symm
  have htl : t.length ≤ 24 := by have := hrt.out.1; omega
  have hpl := prs_le t.length (M t (normF r)) htl
  have ht1 := ht.out.2.1
  have HP := Aside.mk (And.intro hc1 (And.intro hc2 (And.intro hte (And.intro hte2 (And.intro hR1 (And.intro hR2 (And.intro hpr (And.intro hpl (And.intro hrg (And.intro hrz (And.intro hng (hnz)))))))))))) 
  clear hc1 hc2 hte hte2 hR1 hR2 hpr hpl hrg hrz hng hnz htl hm hrt
  have hrr := hr.out
  obtain ⟨kr, sr, lr_, mr, xr, gr, hqr⟩ : ∃ y1 y2 y3 y4 y5 y6, r = Re.mk y1 y2 y3 y4 y5 y6 := by cases r; exact ⟨_, _, _, _, _, _, rfl⟩
  replace hqr := Aside.mk hqr
  rw [hqr.out] at hrr
  obtain ⟨P1, p1, P2, p2, rfl, -, -⟩ := hrr.open
  clear hrr
  go_wp2_with fail
  have hszw4 := hx.out.size
  have kr_ : (w4.alloc (.cells #[.int .i64 kr, .slice P1 sr.length p1, .slice P2 lr_.length p2, .int .i64 mr, .int .i64 xr, .bool gr] 25)).heap[w4.heap.size]? = some (.cells #[.int .i64 kr, .slice P1 sr.length p1, .slice P2 lr_.length p2, .int .i64 mr, .int .i64 xr, .bool gr] 25) := (heap_alloc_new _ _)
  have nr := Aside.mk (fun o => hx.out.sat.new (b := w4.heap.size) (show w4.heap.size ≤ _ by omega) o)
  replace hx := Aside.mk ((hx.out.alloc (.cells #[.int .i64 kr, .slice P1 sr.length p1, .slice P2 lr_.length p2, .int .i64 mr, .int .i64 xr, .bool gr] 25)))
  generalize (w4.alloc (.cells #[.int .i64 kr, .slice P1 sr.length p1, .slice P2 lr_.length p2, .int .i64 mr, .int .i64 xr, .bool gr] 25)) = W1 at *
  have kr := Aside.mk kr_
  clear kr_
  obtain ⟨H1, hx2, hle, Br, hold⟩ := box_freeze hx.out (by omega) kr.out nr.out
  replace hr := Aside.mk (hr.out.mono hle)
  replace ht := Aside.mk (ht.out.mono hle)
  replace hx := Aside.mk hx2
  replace Br := Aside.mk Br
  clear hle hold hx2 kr nr
  refine (normE_any _ r _ _ hr.out hx.out.sat).mono ?_
  rintro e w5 ⟨H6, cs5, rfl, hn, hz⟩
  have hle := hz.le
  replace hr := Aside.mk (hr.out.mono hle)
  replace ht := Aside.mk (ht.out.mono hle)
  replace Br := Aside.mk (Br.out.mono hle)
  replace hx := Aside.mk (hx.out.trans hz)
  clear hle hz
  rw [HP.out.1]
  rw [HP.out.2.2.2.2.1] at hn
  have hn_ := hn
  obtain ⟨kn, sn, ln, mn, xn, gn, hqn⟩ : ∃ y1 y2 y3 y4 y5 y6, normF r = Re.mk y1 y2 y3 y4 y5 y6 := by cases normF r; exact ⟨_, _, _, _, _, _, rfl⟩
  replace hqn := Aside.mk hqn
  rw [hqn.out] at hn_
  obtain ⟨Q1, q1, Q2, q2, rfl, -, -⟩ := hn_.open
  clear hn_
  replace hn := Aside.mk hn
  have lqr : w4.heap.size < w5.heap.size := hx.out.sat.lt (Br.out 0 _ rfl)
  have cr0 : w5.cell? ⟨w4.heap.size, 0, none⟩ = some (.int .i64 kr) := hx.out.sat _ _ _ (Br.out 0 _ rfl)
  have cr1 : w5.cell? ⟨w4.heap.size, 1, none⟩ = some (.slice P1 sr.length p1) := hx.out.sat _ _ _ (Br.out 1 _ rfl)
  have cr2 : w5.cell? ⟨w4.heap.size, 2, none⟩ = some (.slice P2 lr_.length p2) := hx.out.sat _ _ _ (Br.out 2 _ rfl)
  have cr3 : w5.cell? ⟨w4.heap.size, 3, none⟩ = some (.int .i64 mr) := hx.out.sat _ _ _ (Br.out 3 _ rfl)
  have cr4 : w5.cell? ⟨w4.heap.size, 4, none⟩ = some (.int .i64 xr) := hx.out.sat _ _ _ (Br.out 4 _ rfl)
  have cr5 : w5.cell? ⟨w4.heap.size, 5, none⟩ = some (.bool gr) := hx.out.sat _ _ _ (Br.out 5 _ rfl)
  go_wp2_with fail
  clear lqr cr0 cr1 cr2 cr3 cr4 cr5
  have hszw5 := hx.out.size
  have kn_ : (w5.alloc (.cells #[.int .i64 kn, .slice Q1 sn.length q1, .slice Q2 ln.length q2, .int .i64 mn, .int .i64 xn, .bool gn] 25)).heap[w5.heap.size]? = some (.cells #[.int .i64 kn, .slice Q1 sn.length q1, .slice Q2 ln.length q2, .int .i64 mn, .int .i64 xn, .bool gn] 25) := (heap_alloc_new _ _)
  have nn := Aside.mk (fun o => hx.out.sat.new (b := w5.heap.size) (show w5.heap.size ≤ _ by omega) o)
  replace hx := Aside.mk ((hx.out.alloc (.cells #[.int .i64 kn, .slice Q1 sn.length q1, .slice Q2 ln.length q2, .int .i64 mn, .int .i64 xn, .bool gn] 25)))
  generalize (w5.alloc (.cells #[.int .i64 kn, .slice Q1 sn.length q1, .slice Q2 ln.length q2, .int .i64 mn, .int .i64 xn, .bool gn] 25)) = W2 at *
  have kn := Aside.mk kn_
  clear kn_
  obtain ⟨H1, hx2, hle, Bn, hold⟩ := box_freeze hx.out (by omega) kn.out nn.out
  replace hr := Aside.mk (hr.out.mono hle)
  replace ht := Aside.mk (ht.out.mono hle)
  replace hn := Aside.mk (hn.out.mono hle)
  replace Br := Aside.mk (Br.out.mono hle)
  replace hx := Aside.mk hx2
  replace Bn := Aside.mk Bn
  clear hle hold hx2 kn nn
  refine (normE_any _ (normF r) _ _ hn.out hx.out.sat).mono ?_
  rintro e w6 ⟨H7, cs6, rfl, hm, hz⟩
  have hle := hz.le
  replace hr := Aside.mk (hr.out.mono hle)
  replace ht := Aside.mk (ht.out.mono hle)
  replace hn := Aside.mk (hn.out.mono hle)
  replace Br := Aside.mk (Br.out.mono hle)
  replace Bn := Aside.mk (Bn.out.mono hle)
  replace hx := Aside.mk (hx.out.trans hz)
  clear hle hz
  rw [HP.out.2.1]
  rw [HP.out.2.2.2.2.2.1] at hm
  have hm_ := hm
  rw [hqn.out] at hm_
  obtain ⟨R1, r1, R2, r2, rfl, -, -⟩ := hm_.open
  clear hm_
  replace hm := Aside.mk hm
  have lqr : w4.heap.size < w6.heap.size := hx.out.sat.lt (Br.out 0 _ rfl)
  have cr0 : w6.cell? ⟨w4.heap.size, 0, none⟩ = some (.int .i64 kr) := hx.out.sat _ _ _ (Br.out 0 _ rfl)
  have cr1 : w6.cell? ⟨w4.heap.size, 1, none⟩ = some (.slice P1 sr.length p1) := hx.out.sat _ _ _ (Br.out 1 _ rfl)
  have cr2 : w6.cell? ⟨w4.heap.size, 2, none⟩ = some (.slice P2 lr_.length p2) := hx.out.sat _ _ _ (Br.out 2 _ rfl)
  have cr3 : w6.cell? ⟨w4.heap.size, 3, none⟩ = some (.int .i64 mr) := hx.out.sat _ _ _ (Br.out 3 _ rfl)
  have cr4 : w6.cell? ⟨w4.heap.size, 4, none⟩ = some (.int .i64 xr) := hx.out.sat _ _ _ (Br.out 4 _ rfl)
  have cr5 : w6.cell? ⟨w4.heap.size, 5, none⟩ = some (.bool gr) := hx.out.sat _ _ _ (Br.out 5 _ rfl)
  have lqn : w5.heap.size < w6.heap.size := hx.out.sat.lt (Bn.out 0 _ rfl)
  have cn0 : w6.cell? ⟨w5.heap.size, 0, none⟩ = some (.int .i64 kn) := hx.out.sat _ _ _ (Bn.out 0 _ rfl)
  have cn1 : w6.cell? ⟨w5.heap.size, 1, none⟩ = some (.slice Q1 sn.length q1) := hx.out.sat _ _ _ (Bn.out 1 _ rfl)
  have cn2 : w6.cell? ⟨w5.heap.size, 2, none⟩ = some (.slice Q2 ln.length q2) := hx.out.sat _ _ _ (Bn.out 2 _ rfl)
  have cn3 : w6.cell? ⟨w5.heap.size, 3, none⟩ = some (.int .i64 mn) := hx.out.sat _ _ _ (Bn.out 3 _ rfl)
  have cn4 : w6.cell? ⟨w5.heap.size, 4, none⟩ = some (.int .i64 xn) := hx.out.sat _ _ _ (Bn.out 4 _ rfl)
  have cn5 : w6.cell? ⟨w5.heap.size, 5, none⟩ = some (.bool gn) := hx.out.sat _ _ _ (Bn.out 5 _ rfl)
  go_wp2_with fail
  clear lqr cr0 cr1 cr2 cr3 cr4 cr5 lqn cn0 cn1 cn2 cn3 cn4 cn5
  have hszw6 := hx.out.size
  have km_ : (w6.alloc (.cells #[.int .i64 kn, .slice R1 sn.length r1, .slice R2 ln.length r2, .int .i64 mn, .int .i64 xn, .bool gn] 25)).heap[w6.heap.size]? = some (.cells #[.int .i64 kn, .slice R1 sn.length r1, .slice R2 ln.length r2, .int .i64 mn, .int .i64 xn, .bool gn] 25) := (heap_alloc_new _ _)
  have nm := Aside.mk (fun o => hx.out.sat.new (b := w6.heap.size) (show w6.heap.size ≤ _ by omega) o)
  replace hx := Aside.mk ((hx.out.alloc (.cells #[.int .i64 kn, .slice R1 sn.length r1, .slice R2 ln.length r2, .int .i64 mn, .int .i64 xn, .bool gn] 25)))
  generalize (w6.alloc (.cells #[.int .i64 kn, .slice R1 sn.length r1, .slice R2 ln.length r2, .int .i64 mn, .int .i64 xn, .bool gn] 25)) = W3 at *
  have km := Aside.mk km_
  clear km_
  obtain ⟨H1, hx2, hle, Bm, hold⟩ := box_freeze hx.out (by omega) km.out nm.out
  replace hr := Aside.mk (hr.out.mono hle)
  replace ht := Aside.mk (ht.out.mono hle)
  replace hn := Aside.mk (hn.out.mono hle)
  replace hm := Aside.mk (hm.out.mono hle)
  replace Br := Aside.mk (Br.out.mono hle)
  replace Bn := Aside.mk (Bn.out.mono hle)
  replace hx := Aside.mk hx2
  replace Bm := Aside.mk Bm
  clear hle hold hx2 km nm
  refine (pairs_any _ r _ t A5 c5 _ hr.out ht.out hx.out.sat).mono ?_
  rintro e w7 ⟨v7, rfl, ho7, hb⟩
  replace hx := Aside.mk (hx.out.then_below hb)
  clear hb
  rw [HP.out.2.2.1] at ho7 ⊢
  rw [if_pos rfl, HP.out.2.2.2.2.2.2.1] at ho7
  have hpl := HP.out.2.2.2.2.2.2.2.1
  generalize hLL : prs t.length (M t (normF r)) (t.length + 1) = LL at *
  replace hLL := Aside.mk hLL
  obtain ⟨L1, -, hsL1, ⟨A7, c7, e1, hl7⟩, -⟩ := ho7.freeze (sat_emp w7) (by omega)
  cases e1
  replace hsL1 := Aside.mk hsL1
  replace hl7 := Aside.mk hl7
  clear ho7
  have lqr : w4.heap.size < w7.heap.size := hx.out.sat.lt (Br.out 0 _ rfl)
  have cr0 : w7.cell? ⟨w4.heap.size, 0, none⟩ = some (.int .i64 kr) := hx.out.sat _ _ _ (Br.out 0 _ rfl)
  have cr1 : w7.cell? ⟨w4.heap.size, 1, none⟩ = some (.slice P1 sr.length p1) := hx.out.sat _ _ _ (Br.out 1 _ rfl)
  have cr2 : w7.cell? ⟨w4.heap.size, 2, none⟩ = some (.slice P2 lr_.length p2) := hx.out.sat _ _ _ (Br.out 2 _ rfl)
  have cr3 : w7.cell? ⟨w4.heap.size, 3, none⟩ = some (.int .i64 mr) := hx.out.sat _ _ _ (Br.out 3 _ rfl)
  have cr4 : w7.cell? ⟨w4.heap.size, 4, none⟩ = some (.int .i64 xr) := hx.out.sat _ _ _ (Br.out 4 _ rfl)
  have cr5 : w7.cell? ⟨w4.heap.size, 5, none⟩ = some (.bool gr) := hx.out.sat _ _ _ (Br.out 5 _ rfl)
  have lqn : w5.heap.size < w7.heap.size := hx.out.sat.lt (Bn.out 0 _ rfl)
  have cn0 : w7.cell? ⟨w5.heap.size, 0, none⟩ = some (.int .i64 kn) := hx.out.sat _ _ _ (Bn.out 0 _ rfl)
  have cn1 : w7.cell? ⟨w5.heap.size, 1, none⟩ = some (.slice Q1 sn.length q1) := hx.out.sat _ _ _ (Bn.out 1 _ rfl)
  have cn2 : w7.cell? ⟨w5.heap.size, 2, none⟩ = some (.slice Q2 ln.length q2) := hx.out.sat _ _ _ (Bn.out 2 _ rfl)
  have cn3 : w7.cell? ⟨w5.heap.size, 3, none⟩ = some (.int .i64 mn) := hx.out.sat _ _ _ (Bn.out 3 _ rfl)
  have cn4 : w7.cell? ⟨w5.heap.size, 4, none⟩ = some (.int .i64 xn) := hx.out.sat _ _ _ (Bn.out 4 _ rfl)
  have cn5 : w7.cell? ⟨w5.heap.size, 5, none⟩ = some (.bool gn) := hx.out.sat _ _ _ (Bn.out 5 _ rfl)
  have lqm : w6.heap.size < w7.heap.size := hx.out.sat.lt (Bm.out 0 _ rfl)
  have cm0 : w7.cell? ⟨w6.heap.size, 0, none⟩ = some (.int .i64 kn) := hx.out.sat _ _ _ (Bm.out 0 _ rfl)
  have cm1 : w7.cell? ⟨w6.heap.size, 1, none⟩ = some (.slice R1 sn.length r1) := hx.out.sat _ _ _ (Bm.out 1 _ rfl)
  have cm2 : w7.cell? ⟨w6.heap.size, 2, none⟩ = some (.slice R2 ln.length r2) := hx.out.sat _ _ _ (Bm.out 2 _ rfl)
  have cm3 : w7.cell? ⟨w6.heap.size, 3, none⟩ = some (.int .i64 mn) := hx.out.sat _ _ _ (Bm.out 3 _ rfl)
  have cm4 : w7.cell? ⟨w6.heap.size, 4, none⟩ = some (.int .i64 xn) := hx.out.sat _ _ _ (Bm.out 4 _ rfl)
  have cm5 : w7.cell? ⟨w6.heap.size, 5, none⟩ = some (.bool gn) := hx.out.sat _ _ _ (Bm.out 5 _ rfl)
  go_wp2_with fail
  clear lqr cr0 cr1 cr2 cr3 cr4 cr5 lqn cn0 cn1 cn2 cn3 cn4 cn5 lqm cm0 cm1 cm2 cm3 cm4 cm5
  refine (pairs_any _ (normF r) _ t A5 c5 _ hn.out ht.out hx.out.sat).mono ?_
  rintro e w8 ⟨v8, rfl, ho8, hb⟩
  replace hsL1 := Aside.mk (hsL1.out.below hb)
  replace hx := Aside.mk (hx.out.then_below hb)
  clear hb
  rw [HP.out.2.2.2.1] at ho8 ⊢
  rw [if_pos rfl, hLL.out] at ho8
  obtain ⟨L2, -, hsL2, ⟨A8, c8, e1, hl8⟩, -⟩ := ho8.freeze (sat_emp w8) (by omega)
  cases e1
  replace hsL2 := Aside.mk hsL2
  replace hl8 := Aside.mk hl8
  clear ho8
  go_wp2_with fail
  obtain ⟨Hg, hleg, hsg, hslg⟩ := lit_sl (k := kI .i64) (e := 28) (xs := [0, 0, 0, 0]) (w := w8) hx.out.sat #[.int .i64 0, .int .i64 0, .int .i64 0, .int .i64 0] ⟨[.int .i64 0], _, rfl, rfl, ⟨[.int .i64 0], _, rfl, rfl, ⟨[.int .i64 0], _, rfl, rfl, EncL.single rfl⟩⟩⟩ (by simp)
  have HG := Aside.mk (And.intro hsg hslg)
  clear hleg hsg hslg
  have hsr : (pre r).length ≤ 1048576 := by have h9 := HP.out.2.2.2.2.2.2.2.2.2.1; unfold sz at h9; omega
  have hsn : (pre (normF r)).length ≤ 1048576 := by have h9 := HP.out.2.2.2.2.2.2.2.2.2.1; have h8 := HP.out.2.2.2.2.2.2.2.2.2.2.2; unfold sz at h8 h9; omega
  have Zr := Aside.mk (fun w' (hb : Below w8.heap.size w8 w') => size_any _ r _ w' hr.out (hx.out.sat.below hb) hsr)
  have Zn := Aside.mk (fun w' (hb : Below w8.heap.size w8 w') => size_any _ (normF r) _ w' hn.out (hx.out.sat.below hb) hsn)
  have Zs := Aside.mk (fun w' (hb : Below w8.heap.size w8 w') => same_re (normF r) _ (normF r) _ _ w' hn.out hm.out (hx.out.sat.below hb))
  have Ze := Aside.mk (fun w' (hb : Below w8.heap.size w8 w') => eqPairs2_any L1 L2 _ _ _ _ _ _ _ _ w' hl7.out hl8.out (hsL1.out.below hb) (hsL2.out.below hb) rfl)
  have hss : (pre (normF r)).length ≤ (pre r).length := HP.out.2.2.2.2.2.2.2.2.2.2.2
  generalize (pre r).length = zr at *
  generalize (pre (normF r)).length = zn at *
  have hss2 : (zn : Int) ≤ (zr : Int) := by omega
  have hxx := hx
  have HS := Aside.mk (fun w' (hb : Below w8.heap.size w8 w') => hx.out.sat.below hb)
  have HK : Aside (∀ w', Below w8.heap.size w8 w' → w'.cell? ⟨w4.heap.size, 0, none⟩ = some (.int .i64 kr) ∧ w'.cell? ⟨w4.heap.size, 1, none⟩ = some (.slice P1 sr.length p1) ∧ w'.cell? ⟨w4.heap.size, 2, none⟩ = some (.slice P2 lr_.length p2) ∧ w'.cell? ⟨w4.heap.size, 3, none⟩ = some (.int .i64 mr) ∧ w'.cell? ⟨w4.heap.size, 4, none⟩ = some (.int .i64 xr) ∧ w'.cell? ⟨w4.heap.size, 5, none⟩ = some (.bool gr) ∧ w'.cell? ⟨w5.heap.size, 0, none⟩ = some (.int .i64 kn) ∧ w'.cell? ⟨w5.heap.size, 1, none⟩ = some (.slice Q1 sn.length q1) ∧ w'.cell? ⟨w5.heap.size, 2, none⟩ = some (.slice Q2 ln.length q2) ∧ w'.cell? ⟨w5.heap.size, 3, none⟩ = some (.int .i64 mn) ∧ w'.cell? ⟨w5.heap.size, 4, none⟩ = some (.int .i64 xn) ∧ w'.cell? ⟨w5.heap.size, 5, none⟩ = some (.bool gn) ∧ w'.cell? ⟨w6.heap.size, 0, none⟩ = some (.int .i64 kn) ∧ w'.cell? ⟨w6.heap.size, 1, none⟩ = some (.slice R1 sn.length r1) ∧ w'.cell? ⟨w6.heap.size, 2, none⟩ = some (.slice R2 ln.length r2) ∧ w'.cell? ⟨w6.heap.size, 3, none⟩ = some (.int .i64 mn) ∧ w'.cell? ⟨w6.heap.size, 4, none⟩ = some (.int .i64 xn) ∧ w'.cell? ⟨w6.heap.size, 5, none⟩ = some (.bool gn)) := ⟨fun w' hb => by
    have qr := at6 (HS.out _ hb) Br.out
    have qn := at6 (HS.out _ hb) Bn.out
    have qm := at6 (HS.out _ hb) Bm.out
    simp only [Nat.add_zero, Nat.zero_add] at qr qn qm
    simp only [qr, qn, qm, and_self]⟩
  have hB := Aside.mk (Below.refl w8.heap.size w8)
  go_region_held3 (fun w' => w'.cell? ⟨w4.heap.size, 0, none⟩ = some (.int .i64 kr) ∧ w'.cell? ⟨w4.heap.size, 1, none⟩ = some (.slice P1 sr.length p1) ∧ w'.cell? ⟨w4.heap.size, 2, none⟩ = some (.slice P2 lr_.length p2) ∧ w'.cell? ⟨w4.heap.size, 3, none⟩ = some (.int .i64 mr) ∧ w'.cell? ⟨w4.heap.size, 4, none⟩ = some (.int .i64 xr) ∧ w'.cell? ⟨w4.heap.size, 5, none⟩ = some (.bool gr) ∧ w'.cell? ⟨w5.heap.size, 0, none⟩ = some (.int .i64 kn) ∧ w'.cell? ⟨w5.heap.size, 1, none⟩ = some (.slice Q1 sn.length q1) ∧ w'.cell? ⟨w5.heap.size, 2, none⟩ = some (.slice Q2 ln.length q2) ∧ w'.cell? ⟨w5.heap.size, 3, none⟩ = some (.int .i64 mn) ∧ w'.cell? ⟨w5.heap.size, 4, none⟩ = some (.int .i64 xn) ∧ w'.cell? ⟨w5.heap.size, 5, none⟩ = some (.bool gn) ∧ w'.cell? ⟨w6.heap.size, 0, none⟩ = some (.int .i64 kn) ∧ w'.cell? ⟨w6.heap.size, 1, none⟩ = some (.slice R1 sn.length r1) ∧ w'.cell? ⟨w6.heap.size, 2, none⟩ = some (.slice R2 ln.length r2) ∧ w'.cell? ⟨w6.heap.size, 3, none⟩ = some (.int .i64 mn) ∧ w'.cell? ⟨w6.heap.size, 4, none⟩ = some (.int .i64 xn) ∧ w'.cell? ⟨w6.heap.size, 5, none⟩ = some (.bool gn))
    (first | exact HK.out _ hB.out | exact HK.out _ hB.out.drew | exact HK.out _ (bA hB.out.drew _) | exact HK.out _ (bD (bA hB.out _)) | exact HK.out _ (bA hB.out _))
    ((first
    | (go_at_call 51; refine (good_any Hg [0, 0, 0, 0] _ _ _ _ HG.out.2 HG.out.1.drew (by simp)).mono ?_; rintro e w10 ⟨rfl, rfl⟩; replace hB := Aside.mk (bD (bA hB.out (.cells #[.int .i64 0, .int .i64 0, .int .i64 0, .int .i64 0] 28))))
    | (go_at_call 66; with_reducible refine (Zs.out _ hB.out).mono ?_; rintro e w11 ⟨he, hb11⟩; obtain rfl : e = .returned (.bool true) := (he.trans (retT (by first | trivial | rfl | simp))); replace hB := Aside.mk (bT hB.out hb11))
    | (go_at_call 26; with_reducible refine (Zn.out _ hB.out).mono ?_; rintro e w12 ⟨rfl, hb12⟩; replace hB := Aside.mk (bT hB.out hb12))
    | (go_at_call 26; with_reducible refine (Zr.out _ hB.out).mono ?_; rintro e w13 ⟨rfl, hb13⟩; replace hB := Aside.mk (bT hB.out hb13))
    | (go_at_call 67; with_reducible refine (Ze.out _ hB.out).mono ?_; rintro e w14 ⟨rfl, hb14⟩; replace hB := Aside.mk (bT hB.out hb14))))
  go_wp2_with fail
  go_ret
  exact ⟨rfl, (hxx.out.then_below hB.out).below⟩
end Go.Proofs.Ytbnahmeaeakhhaa.B
