/- The walk: parlkeep1.RelationKleene answers true. -/
import Derived.Test.YtbnahmeaeakhhaaKr
import Derived.Deep.RegionHeld3
namespace Go.Proofs.Ytbnahmeaeakhhaa.B
set_option linter.unusedVariables false
set_option linter.unusedSimpArgs false
open Go Go.RowKit Classical

set_option maxRecDepth 100000 in
set_option maxHeartbeats 16000000 in
theorem relationKleene_any (H : PH) (l1 l2 l3 l4 : List Int) (A1 A2 A3 A4 : Option Addr) (n1 n2 n3 n4 c1 c2 c3 c4 : Nat) (w : World) (h1 : SlR (kI .i64) H A1 n1 c1 l1) (h2 : SlR (kI .i64) H A2 n2 c2 l2) (h3 : SlR (kI .i64) H A3 n3 c3 l3) (h4 : SlR (kI .i64) H A4 n4 c4 l4) (hs : Sat w H) :
    Calls Try.prog 4 #[.slice A1 n1 c1, .slice A2 n2 c2, .slice A3 n3 c3, .slice A4 n4 c4] w fun e w' => e = .returned (.bool true) ∧ Below w.heap.size w w' := by
  replace h1 := Aside.mk h1
  replace h2 := Aside.mk h2
  replace h3 := Aside.mk h3
  replace h4 := Aside.mk h4
  go_enter Try.func4, Try.ntmps4
  go_wp2_with fail
  refine (krelationBegun_any w).mono ?_
  rintro e w1 ⟨rfl, hb1⟩
  have hx := Ext.of_below hs hb1
  clear hb1
  replace hx := Aside.mk hx
  go_wp2_with fail
  replace hx := hx.out
  refine (reOf_any _ l1 A1 n1 c1 _ (h1.out.mono hx.le) hx.sat).mono ?_
  rintro e w1 ⟨ra, H1, cea, rfl, hr, hma, hz⟩
  have hle := hz.le
  replace hx := hx.trans hz
  have Ra := Aside.mk hr
  replace hma := Aside.mk hma
  clear hr hz hle
  replace hx := Aside.mk hx
  go_wp2_with fail
  replace hx := hx.out
  refine (reOf_any _ l2 A2 n2 c2 _ (h2.out.mono hx.le) hx.sat).mono ?_
  rintro e w1 ⟨rb, H1, ceb, rfl, hr, hmb, hz⟩
  have hle := hz.le
  replace hx := hx.trans hz
  replace Ra := Aside.mk (Ra.out.mono hle)
  have Rb := Aside.mk hr
  replace hmb := Aside.mk hmb
  clear hr hz hle
  replace hx := Aside.mk hx
  go_wp2_with fail
  replace hx := hx.out
  refine (reOf_any _ l3 A3 n3 c3 _ (h3.out.mono hx.le) hx.sat).mono ?_
  rintro e w1 ⟨rc, H1, cec, rfl, hr, hmc, hz⟩
  have hle := hz.le
  replace hx := hx.trans hz
  replace Ra := Aside.mk (Ra.out.mono hle)
  replace Rb := Aside.mk (Rb.out.mono hle)
  have Rc := Aside.mk hr
  replace hmc := Aside.mk hmc
  clear hr hz hle
  replace hx := Aside.mk hx
  go_wp2_with fail
  replace hx := hx.out
  refine (textOf_any _ l4 A4 n4 c4 _ (h4.out.mono hx.le) hx.sat).mono ?_
  rintro e w5 ⟨v, t, rfl, ho, hrt, hb⟩
  have hxo := hx
  replace hx := hx.then_below hb
  obtain ⟨H5, hx5, hle, ⟨A5, c5, e1, hst⟩, -⟩ := (ho.flat (fun b o hb' => hxo.sat.new (ho.blk hb').1 o)).freezeE hx hxo.size (by have := hrt.1; omega)
  cases e1
  replace hx := hx5
  replace Ra := Aside.mk (Ra.out.mono hle)
  replace Rb := Aside.mk (Rb.out.mono hle)
  replace Rc := Aside.mk (Rc.out.mono hle)
  have HT := Aside.mk hst
  replace hrt := Aside.mk hrt
  clear hst hle hxo hb ho hx5
  obtain ⟨ka, sa, aa, ua, va, ga, rfl⟩ : ∃ a b c d e f, ra = Re.mk a b c d e f := by cases ra; exact ⟨_, _, _, _, _, _, rfl⟩
  obtain ⟨P1, p1, P2, p2, rfl, -, -⟩ := Ra.out.open
  obtain ⟨kb, sb, ab, ub, vb, gb, rfl⟩ : ∃ a b c d e f, rb = Re.mk a b c d e f := by cases rb; exact ⟨_, _, _, _, _, _, rfl⟩
  obtain ⟨Q1, q1, Q2, q2, rfl, -, -⟩ := Rb.out.open
  obtain ⟨kc, sc, ac, uc, vc, gc, rfl⟩ : ∃ a b c d e f, rc = Re.mk a b c d e f := by cases rc; exact ⟨_, _, _, _, _, _, rfl⟩
  obtain ⟨R1, r1, R2, r2, rfl, -, -⟩ := Rc.out.open
  replace hx := Aside.mk hx
  go_wp2_with fail
  replace hx := hx.out
  have kz := kthree w5 (.cells #[.int .i64 ka, .slice P1 sa.length p1, .slice P2 aa.length p2, .int .i64 ua, .int .i64 va, .bool ga] 25) (.cells #[.int .i64 kb, .slice Q1 sb.length q1, .slice Q2 ab.length q2, .int .i64 ub, .int .i64 vb, .bool gb] 25) (.cells #[.int .i64 kc, .slice R1 sc.length r1, .slice R2 ac.length r2, .int .i64 uc, .int .i64 vc, .bool gc] 25)
  have hwb := hx.size
  have hN5 : ∀ b o, w5.heap.size ≤ b → H5 b o = none := fun b o h => hx.sat.new h o
  replace hx := (((hx.alloc (.cells #[.int .i64 ka, .slice P1 sa.length p1, .slice P2 aa.length p2, .int .i64 ua, .int .i64 va, .bool ga] 25)).alloc (.cells #[.int .i64 kb, .slice Q1 sb.length q1, .slice Q2 ab.length q2, .int .i64 ub, .int .i64 vb, .bool gb] 25)).alloc (.cells #[.int .i64 kc, .slice R1 sc.length r1, .slice R2 ac.length r2, .int .i64 uc, .int .i64 vc, .bool gc] 25))
  have hz5 : w5.heap.size + 3 = ((((w5.alloc (.cells #[.int .i64 ka, .slice P1 sa.length p1, .slice P2 aa.length p2, .int .i64 ua, .int .i64 va, .bool ga] 25)).alloc (.cells #[.int .i64 kb, .slice Q1 sb.length q1, .slice Q2 ab.length q2, .int .i64 ub, .int .i64 vb, .bool gb] 25)).alloc (.cells #[.int .i64 kc, .slice R1 sc.length r1, .slice R2 ac.length r2, .int .i64 uc, .int .i64 vc, .bool gc] 25))).heap.size := by simp
  generalize (((w5.alloc (.cells #[.int .i64 ka, .slice P1 sa.length p1, .slice P2 aa.length p2, .int .i64 ua, .int .i64 va, .bool ga] 25)).alloc (.cells #[.int .i64 kb, .slice Q1 sb.length q1, .slice Q2 ab.length q2, .int .i64 ub, .int .i64 vb, .bool gb] 25)).alloc (.cells #[.int .i64 kc, .slice R1 sc.length r1, .slice R2 ac.length r2, .int .i64 uc, .int .i64 vc, .bool gc] 25)) = W5 at *
  have hH5 : ∀ b o, w5.heap.size ≤ b → H5 b o = none := hN5
  obtain ⟨H1, hx2, hle, hB, holdax⟩ := box_freeze hx (show w.heap.size ≤ _ by omega) kz.1 (fun o => by exact hH5 _ o (by omega))
  replace hx := hx2
  clear hx2
  replace Ra := Aside.mk (Ra.out.mono hle)
  replace Rb := Aside.mk (Rb.out.mono hle)
  replace Rc := Aside.mk (Rc.out.mono hle)
  replace HT := Aside.mk (HT.out.mono hle)
  have Bax := Aside.mk hB
  clear hB hle
  obtain ⟨H1, hx2, hle, hB, holdbx⟩ := box_freeze hx (show w.heap.size ≤ _ by omega) kz.2.1 (fun o => by rw [holdax _ _ (by omega)]; exact hH5 _ o (by omega))
  replace hx := hx2
  clear hx2
  replace Ra := Aside.mk (Ra.out.mono hle)
  replace Rb := Aside.mk (Rb.out.mono hle)
  replace Rc := Aside.mk (Rc.out.mono hle)
  replace Bax := Aside.mk (Bax.out.mono hle)
  replace HT := Aside.mk (HT.out.mono hle)
  have Bbx := Aside.mk hB
  clear hB hle
  obtain ⟨H1, hx2, hle, hB, holdcx⟩ := box_freeze hx (show w.heap.size ≤ _ by omega) kz.2.2 (fun o => by rw [holdbx _ _ (by omega)]; rw [holdax _ _ (by omega)]; exact hH5 _ o (by omega))
  replace hx := hx2
  clear hx2
  replace Ra := Aside.mk (Ra.out.mono hle)
  replace Rb := Aside.mk (Rb.out.mono hle)
  replace Rc := Aside.mk (Rc.out.mono hle)
  replace Bax := Aside.mk (Bax.out.mono hle)
  replace Bbx := Aside.mk (Bbx.out.mono hle)
  replace HT := Aside.mk (HT.out.mono hle)
  have Bcx := Aside.mk hB
  clear hB hle
  have La : (pre (Re.mk ka sa aa ua va ga)).length < 32 := hma.out.2.2
  have Lb : (pre (Re.mk kb sb ab ub vb gb)).length < 32 := hmb.out.2.2
  have Lc : (pre (Re.mk kc sc ac uc vc gc)).length < 32 := hmc.out.2.2
  have hW5 := hx.sat.lt (Bcx.out 0 _ rfl)
  have Za := fun w' (hs : Sat w' _) => size_any _ _ _ w' Ra.out hs (by omega)
  have Zb := fun w' (hs : Sat w' _) => size_any _ _ _ w' Rb.out hs (by omega)
  have Zc := fun w' (hs : Sat w' _) => size_any _ _ _ w' Rc.out hs (by omega)
  generalize hla : (pre (Re.mk ka sa aa ua va ga)).length = la at *
  generalize hlb : (pre (Re.mk kb sb ab ub vb gb)).length = lb at *
  generalize hlc : (pre (Re.mk kc sc ac uc vc gc)).length = lc at *
  have HS := Aside.mk (fun w' (hb : Below W5.heap.size W5 w') => hx.sat.below hb)
  have HK : Aside (∀ w', Below W5.heap.size W5 w' → w'.cell? ⟨w5.heap.size, 0, none⟩ = some (.int .i64 ka) ∧ w'.cell? ⟨w5.heap.size, 1, none⟩ = some (.slice P1 sa.length p1) ∧ w'.cell? ⟨w5.heap.size, 2, none⟩ = some (.slice P2 aa.length p2) ∧ w'.cell? ⟨w5.heap.size, 3, none⟩ = some (.int .i64 ua) ∧ w'.cell? ⟨w5.heap.size, 4, none⟩ = some (.int .i64 va) ∧ w'.cell? ⟨w5.heap.size, 5, none⟩ = some (.bool ga) ∧ w'.cell? ⟨w5.heap.size + 1, 0, none⟩ = some (.int .i64 kb) ∧ w'.cell? ⟨w5.heap.size + 1, 1, none⟩ = some (.slice Q1 sb.length q1) ∧ w'.cell? ⟨w5.heap.size + 1, 2, none⟩ = some (.slice Q2 ab.length q2) ∧ w'.cell? ⟨w5.heap.size + 1, 3, none⟩ = some (.int .i64 ub) ∧ w'.cell? ⟨w5.heap.size + 1, 4, none⟩ = some (.int .i64 vb) ∧ w'.cell? ⟨w5.heap.size + 1, 5, none⟩ = some (.bool gb) ∧ w'.cell? ⟨w5.heap.size + 1 + 1, 0, none⟩ = some (.int .i64 kc) ∧ w'.cell? ⟨w5.heap.size + 1 + 1, 1, none⟩ = some (.slice R1 sc.length r1) ∧ w'.cell? ⟨w5.heap.size + 1 + 1, 2, none⟩ = some (.slice R2 ac.length r2) ∧ w'.cell? ⟨w5.heap.size + 1 + 1, 3, none⟩ = some (.int .i64 uc) ∧ w'.cell? ⟨w5.heap.size + 1 + 1, 4, none⟩ = some (.int .i64 vc) ∧ w'.cell? ⟨w5.heap.size + 1 + 1, 5, none⟩ = some (.bool gc)) := ⟨fun w' hb => by
    have qa := at6 (HS.out _ hb) Bax.out
    have qb := at6 (HS.out _ hb) Bbx.out
    have qc := at6 (HS.out _ hb) Bcx.out
    simp only [Nat.add_zero, Nat.zero_add] at qa qb qc
    simp only [qa, qb, qc, and_self]⟩
  replace Za := Aside.mk Za
  replace Zb := Aside.mk Zb
  replace Zc := Aside.mk Zc
  replace hla := Aside.mk hla
  replace hlb := Aside.mk hlb
  replace hlc := Aside.mk hlc
  have hsumlb : IntKind.i64.wrap ((la : Int) + (lb : Int)) = (la : Int) + (lb : Int) := by rw [IntWalk.i64_in _ (by omega)]
  have hsumlc : IntKind.i64.wrap ((la : Int) + (lb : Int) + (lc : Int)) = (la : Int) + (lb : Int) + (lc : Int) := by rw [IntWalk.i64_in _ (by omega)]
  replace hx := Aside.mk hx
  go_region_held3 (fun w' => w'.cell? ⟨w5.heap.size, 0, none⟩ = some (.int .i64 ka) ∧ w'.cell? ⟨w5.heap.size, 1, none⟩ = some (.slice P1 sa.length p1) ∧ w'.cell? ⟨w5.heap.size, 2, none⟩ = some (.slice P2 aa.length p2) ∧ w'.cell? ⟨w5.heap.size, 3, none⟩ = some (.int .i64 ua) ∧ w'.cell? ⟨w5.heap.size, 4, none⟩ = some (.int .i64 va) ∧ w'.cell? ⟨w5.heap.size, 5, none⟩ = some (.bool ga) ∧ w'.cell? ⟨w5.heap.size + 1, 0, none⟩ = some (.int .i64 kb) ∧ w'.cell? ⟨w5.heap.size + 1, 1, none⟩ = some (.slice Q1 sb.length q1) ∧ w'.cell? ⟨w5.heap.size + 1, 2, none⟩ = some (.slice Q2 ab.length q2) ∧ w'.cell? ⟨w5.heap.size + 1, 3, none⟩ = some (.int .i64 ub) ∧ w'.cell? ⟨w5.heap.size + 1, 4, none⟩ = some (.int .i64 vb) ∧ w'.cell? ⟨w5.heap.size + 1, 5, none⟩ = some (.bool gb) ∧ w'.cell? ⟨w5.heap.size + 1 + 1, 0, none⟩ = some (.int .i64 kc) ∧ w'.cell? ⟨w5.heap.size + 1 + 1, 1, none⟩ = some (.slice R1 sc.length r1) ∧ w'.cell? ⟨w5.heap.size + 1 + 1, 2, none⟩ = some (.slice R2 ac.length r2) ∧ w'.cell? ⟨w5.heap.size + 1 + 1, 3, none⟩ = some (.int .i64 uc) ∧ w'.cell? ⟨w5.heap.size + 1 + 1, 4, none⟩ = some (.int .i64 vc) ∧ w'.cell? ⟨w5.heap.size + 1 + 1, 5, none⟩ = some (.bool gc))
    (first | exact HK.out _ (Below.refl _ _) | exact HK.out _ (Below.refl _ _).drew | exact HK.out _ (bT (Below.refl _ _).drew hb7a) | exact HK.out _ (bT (bT (Below.refl _ _).drew hb7a) hb7b) | exact HK.out _ (bT (bT (bT (Below.refl _ _).drew hb7a) hb7b) hb7c))
    ((first | (go_at_call 26; with_reducible refine (Za.out _ (HS.out _ (Below.refl _ _).drew)).mono ?_; rintro e w7a ⟨rfl, hb7a⟩) | (go_at_call 26; with_reducible refine (Zb.out _ (HS.out _ (bT (Below.refl _ _).drew hb7a))).mono ?_; rintro e w7b ⟨rfl, hb7b⟩) | (go_at_call 26; with_reducible refine (Zc.out _ (HS.out _ (bT (bT (Below.refl _ _).drew hb7a) hb7b))).mono ?_; rintro e w7c ⟨rfl, hb7c⟩)))
  replace hx := hx.out
  have hb75 : Below W5.heap.size W5 w7c := (bT (bT (bT (Below.refl _ _).drew hb7a) hb7b) hb7c)
  have hbz : Below W5.heap.size W5 w7c := (bT (bT (bT (Below.refl _ _).drew hb7a) hb7b) hb7c)
  replace hx := hx.then_below hbz
  clear hsumlb hsumlc HK HS hbz hW5 Za hb7a Zb hb7b Zc hb7c
  by_cases hbig : (18 : Int) < (la : Int) + (lb : Int) + (lc : Int)
  · go_wp2_with fail
    go_ret
    exact ⟨rfl, hx.below⟩
  · have hsz : (pre (Re.mk ka sa aa ua va ga)).length + (pre (Re.mk kb sb ab ub vb gb)).length + (pre (Re.mk kc sc ac uc vc gc)).length ≤ 18 := by rw [hla.out, hlb.out, hlc.out]; omega
    replace hsz := Aside.mk hsz
    replace hma := Aside.mk hma.out.1
    replace hmb := Aside.mk hmb.out.1
    replace hmc := Aside.mk hmc.out.1
    clear hla hlb hlc hs hwb hz5
    obtain ⟨cax0, cax1, cax2, cax3, cax4, cax5⟩ := at6 hx.sat Bax.out
    obtain ⟨cbx0, cbx1, cbx2, cbx3, cbx4, cbx5⟩ := at6 hx.sat Bbx.out
    obtain ⟨ccx0, ccx1, ccx2, ccx3, ccx4, ccx5⟩ := at6 hx.sat Bcx.out
    replace hx := Aside.mk hx
    go_wp2_with fail
    replace hx := hx.out
    clear cax0 cax1 cax2 cax3 cax4 cax5 cbx0 cbx1 cbx2 cbx3 cbx4 cbx5 ccx0 ccx1 ccx2 ccx3 ccx4 ccx5
    refine (kre1 5 hx.sat Ra.out _ (by first | rfl | simp)).mono ?_
    rintro e w1 ⟨H1, As, cs, rfl, hr, hz⟩
    have hle := hz.le; have hb15 := hz.below
    replace hx := hx.trans hz
    replace Ra := Aside.mk (Ra.out.mono hle)
    replace Rb := Aside.mk (Rb.out.mono hle)
    replace Rc := Aside.mk (Rc.out.mono hle)
    replace Bax := Aside.mk (Bax.out.mono hle)
    replace Bbx := Aside.mk (Bbx.out.mono hle)
    replace Bcx := Aside.mk (Bcx.out.mono hle)
    replace HT := Aside.mk (HT.out.mono hle)
    clear hz hle
    have Rs := Aside.mk hr
    clear hr
    obtain ⟨cax0, cax1, cax2, cax3, cax4, cax5⟩ := at6 hx.sat Bax.out
    obtain ⟨cbx0, cbx1, cbx2, cbx3, cbx4, cbx5⟩ := at6 hx.sat Bbx.out
    obtain ⟨ccx0, ccx1, ccx2, ccx3, ccx4, ccx5⟩ := at6 hx.sat Bcx.out
    replace hx := Aside.mk hx
    go_wp2_with fail
    replace hx := hx.out
    clear cax0 cax1 cax2 cax3 cax4 cax5 cbx0 cbx1 cbx2 cbx3 cbx4 cbx5 ccx0 ccx1 ccx2 ccx3 ccx4 ccx5
    have ks := heap_alloc_new w1 (.cells #[.int .i64 5, .slice none 0 0, .slice As 1 cs, .int .i64 0, .int .i64 0, .bool false] 25)
    have hw8 : Below w1.heap.size w1 (w1.alloc (.cells #[.int .i64 5, .slice none 0 0, .slice As 1 cs, .int .i64 0, .int .i64 0, .bool false] 25)) := bA (Below.refl _ _) _
    replace hx := hx.alloc (.cells #[.int .i64 5, .slice none 0 0, .slice As 1 cs, .int .i64 0, .int .i64 0, .bool false] 25)
    generalize (w1.alloc (.cells #[.int .i64 5, .slice none 0 0, .slice As 1 cs, .int .i64 0, .int .i64 0, .bool false] 25)) = W8 at *
    have ka8 := box_below (box_below (box_below kz.1 hb75) hb15) hw8
    have kb8 := box_below (box_below (box_below kz.2.1 hb75) hb15) hw8
    have kc8 := box_below (box_below (box_below kz.2.2 hb75) hb15) hw8
    have hs8 := hx.sat
    clear hb75 hb15 hw8
    refine region_ok (w0 := W8) (H0 := H1) ((9, .val (.pointer (some ⟨w5.heap.size, 0, none⟩))) :: (10, .val (.pointer (some ⟨(w5.heap.size + 1), 0, none⟩))) :: (11, .val (.pointer (some ⟨(w5.heap.size + 1 + 1), 0, none⟩))) :: (12, .txt (t)) :: (13, .val (.int .i64 3)) :: (14, .val (.int .i64 4)) :: (15, .val (.pointer (some ⟨w1.heap.size, 0, none⟩))) :: (38, .val (.int .i64 3)) :: (39, .re (Re.mk ka sa aa ua va ga)) :: (40, .val (.int .i64 3)) :: (41, .re (Re.mk kb sb ab ub vb gb)) :: (42, .re (Re.mk kc sc ac uc vc gc)) :: (43, .sl [Re.mk kb sb ab ub vb gb, Re.mk kc sc ac uc vc gc]) :: (44, .re (Re.mk 3 [] [Re.mk kb sb ab ub vb gb, Re.mk kc sc ac uc vc gc] 0 0 false)) :: (45, .sl [Re.mk ka sa aa ua va ga, Re.mk 3 [] [Re.mk kb sb ab ub vb gb, Re.mk kc sc ac uc vc gc] 0 0 false]) :: (46, .re (Re.mk 3 [] [Re.mk ka sa aa ua va ga, Re.mk 3 [] [Re.mk kb sb ab ub vb gb, Re.mk kc sc ac uc vc gc] 0 0 false] 0 0 false)) :: (47, .val (.int .i64 3)) :: (48, .val (.int .i64 3)) :: (49, .re (Re.mk ka sa aa ua va ga)) :: (50, .re (Re.mk kb sb ab ub vb gb)) :: (51, .sl [Re.mk ka sa aa ua va ga, Re.mk kb sb ab ub vb gb]) :: (52, .re (Re.mk 3 [] [Re.mk ka sa aa ua va ga, Re.mk kb sb ab ub vb gb] 0 0 false)) :: (53, .re (Re.mk kc sc ac uc vc gc)) :: (54, .sl [Re.mk 3 [] [Re.mk ka sa aa ua va ga, Re.mk kb sb ab ub vb gb] 0 0 false, Re.mk kc sc ac uc vc gc]) :: (55, .re (Re.mk 3 [] [Re.mk 3 [] [Re.mk ka sa aa ua va ga, Re.mk kb sb ab ub vb gb] 0 0 false, Re.mk kc sc ac uc vc gc] 0 0 false)) :: (56, .txt (t)) :: (57, .val (.bool true)) :: (58, .val (.bool true)) :: (59, .val (.int .i64 3)) :: (60, .re (Re.mk ka sa aa ua va ga)) :: (61, .val (.int .i64 4)) :: (62, .re (Re.mk kb sb ab ub vb gb)) :: (63, .re (Re.mk kc sc ac uc vc gc)) :: (64, .sl [Re.mk kb sb ab ub vb gb, Re.mk kc sc ac uc vc gc]) :: (65, .re (Re.mk 4 [] [Re.mk kb sb ab ub vb gb, Re.mk kc sc ac uc vc gc] 0 0 false)) :: (66, .sl [Re.mk ka sa aa ua va ga, Re.mk 4 [] [Re.mk kb sb ab ub vb gb, Re.mk kc sc ac uc vc gc] 0 0 false]) :: (67, .re (Re.mk 3 [] [Re.mk ka sa aa ua va ga, Re.mk 4 [] [Re.mk kb sb ab ub vb gb, Re.mk kc sc ac uc vc gc] 0 0 false] 0 0 false)) :: (68, .val (.int .i64 4)) :: (69, .val (.int .i64 3)) :: (70, .re (Re.mk ka sa aa ua va ga)) :: (71, .re (Re.mk kb sb ab ub vb gb)) :: (72, .sl [Re.mk ka sa aa ua va ga, Re.mk kb sb ab ub vb gb]) :: (73, .re (Re.mk 3 [] [Re.mk ka sa aa ua va ga, Re.mk kb sb ab ub vb gb] 0 0 false)) :: (74, .val (.int .i64 3)) :: (75, .re (Re.mk ka sa aa ua va ga)) :: (76, .re (Re.mk kc sc ac uc vc gc)) :: (77, .sl [Re.mk ka sa aa ua va ga, Re.mk kc sc ac uc vc gc]) :: (78, .re (Re.mk 3 [] [Re.mk ka sa aa ua va ga, Re.mk kc sc ac uc vc gc] 0 0 false)) :: (79, .sl [Re.mk 3 [] [Re.mk ka sa aa ua va ga, Re.mk kb sb ab ub vb gb] 0 0 false, Re.mk 3 [] [Re.mk ka sa aa ua va ga, Re.mk kc sc ac uc vc gc] 0 0 false]) :: (80, .re (Re.mk 4 [] [Re.mk 3 [] [Re.mk ka sa aa ua va ga, Re.mk kb sb ab ub vb gb] 0 0 false, Re.mk 3 [] [Re.mk ka sa aa ua va ga, Re.mk kc sc ac uc vc gc] 0 0 false] 0 0 false)) :: (81, .txt (t)) :: (82, .val (.bool true)) :: (83, .val (.bool true)) :: (84, .val (.bool true)) :: (85, .val (.int .i64 3)) :: (86, .val (.int .i64 4)) :: (87, .re (Re.mk ka sa aa ua va ga)) :: (88, .re (Re.mk kb sb ab ub vb gb)) :: (89, .sl [Re.mk ka sa aa ua va ga, Re.mk kb sb ab ub vb gb]) :: (90, .re (Re.mk 4 [] [Re.mk ka sa aa ua va ga, Re.mk kb sb ab ub vb gb] 0 0 false)) :: (91, .re (Re.mk kc sc ac uc vc gc)) :: (92, .sl [Re.mk 4 [] [Re.mk ka sa aa ua va ga, Re.mk kb sb ab ub vb gb] 0 0 false, Re.mk kc sc ac uc vc gc]) :: (93, .re (Re.mk 3 [] [Re.mk 4 [] [Re.mk ka sa aa ua va ga, Re.mk kb sb ab ub vb gb] 0 0 false, Re.mk kc sc ac uc vc gc] 0 0 false)) :: (94, .val (.int .i64 4)) :: (95, .val (.int .i64 3)) :: (96, .re (Re.mk ka sa aa ua va ga)) :: (97, .re (Re.mk kc sc ac uc vc gc)) :: (98, .sl [Re.mk ka sa aa ua va ga, Re.mk kc sc ac uc vc gc]) :: (99, .re (Re.mk 3 [] [Re.mk ka sa aa ua va ga, Re.mk kc sc ac uc vc gc] 0 0 false)) :: (100, .val (.int .i64 3)) :: (101, .re (Re.mk kb sb ab ub vb gb)) :: (102, .re (Re.mk kc sc ac uc vc gc)) :: (103, .sl [Re.mk kb sb ab ub vb gb, Re.mk kc sc ac uc vc gc]) :: (104, .re (Re.mk 3 [] [Re.mk kb sb ab ub vb gb, Re.mk kc sc ac uc vc gc] 0 0 false)) :: (105, .sl [Re.mk 3 [] [Re.mk ka sa aa ua va ga, Re.mk kc sc ac uc vc gc] 0 0 false, Re.mk 3 [] [Re.mk kb sb ab ub vb gb, Re.mk kc sc ac uc vc gc] 0 0 false]) :: (106, .re (Re.mk 4 [] [Re.mk 3 [] [Re.mk ka sa aa ua va ga, Re.mk kc sc ac uc vc gc] 0 0 false, Re.mk 3 [] [Re.mk kb sb ab ub vb gb, Re.mk kc sc ac uc vc gc] 0 0 false] 0 0 false)) :: (107, .txt (t)) :: (108, .val (.bool true)) :: (109, .val (.bool true)) :: (110, .val (.bool true)) :: (111, .val (.int .i64 4)) :: (112, .re (Re.mk ka sa aa ua va ga)) :: (113, .re (Re.mk kb sb ab ub vb gb)) :: (114, .sl [Re.mk ka sa aa ua va ga, Re.mk kb sb ab ub vb gb]) :: (115, .re (Re.mk 4 [] [Re.mk ka sa aa ua va ga, Re.mk kb sb ab ub vb gb] 0 0 false)) :: (116, .val (.int .i64 4)) :: (117, .re (Re.mk kb sb ab ub vb gb)) :: (118, .re (Re.mk ka sa aa ua va ga)) :: (119, .sl [Re.mk kb sb ab ub vb gb, Re.mk ka sa aa ua va ga]) :: (120, .re (Re.mk 4 [] [Re.mk kb sb ab ub vb gb, Re.mk ka sa aa ua va ga] 0 0 false)) :: (121, .txt (t)) :: (122, .val (.bool true)) :: (123, .val (.bool true)) :: (124, .val (.bool true)) :: (125, .val (.int .i64 4)) :: (126, .re (Re.mk ka sa aa ua va ga)) :: (127, .re (Re.mk ka sa aa ua va ga)) :: (128, .sl [Re.mk ka sa aa ua va ga, Re.mk ka sa aa ua va ga]) :: (129, .re (Re.mk 4 [] [Re.mk ka sa aa ua va ga, Re.mk ka sa aa ua va ga] 0 0 false)) :: (130, .re (Re.mk ka sa aa ua va ga)) :: (131, .txt (t)) :: (132, .val (.bool true)) :: (133, .val (.bool true)) :: (134, .val (.bool true)) :: (135, .re (Re.mk 5 [] [Re.mk ka sa aa ua va ga] 0 0 false)) :: (136, .val (.int .i64 4)) :: (137, .re (Re.mk 1 [] [] 0 0 false)) :: (138, .val (.int .i64 3)) :: (139, .re (Re.mk ka sa aa ua va ga)) :: (140, .re (Re.mk 5 [] [Re.mk ka sa aa ua va ga] 0 0 false)) :: (141, .sl [Re.mk ka sa aa ua va ga, Re.mk 5 [] [Re.mk ka sa aa ua va ga] 0 0 false]) :: (142, .re (Re.mk 3 [] [Re.mk ka sa aa ua va ga, Re.mk 5 [] [Re.mk ka sa aa ua va ga] 0 0 false] 0 0 false)) :: (143, .sl [Re.mk 1 [] [] 0 0 false, Re.mk 3 [] [Re.mk ka sa aa ua va ga, Re.mk 5 [] [Re.mk ka sa aa ua va ga] 0 0 false] 0 0 false]) :: (144, .re (Re.mk 4 [] [Re.mk 1 [] [] 0 0 false, Re.mk 3 [] [Re.mk ka sa aa ua va ga, Re.mk 5 [] [Re.mk ka sa aa ua va ga] 0 0 false] 0 0 false] 0 0 false)) :: (145, .txt (t)) :: (146, .val (.bool true)) :: (147, .val (.bool true)) :: (148, .val (.bool true)) :: (149, .val (.int .i64 3)) :: (150, .re (Re.mk 5 [] [Re.mk ka sa aa ua va ga] 0 0 false)) :: (151, .re (Re.mk 5 [] [Re.mk ka sa aa ua va ga] 0 0 false)) :: (152, .sl [Re.mk 5 [] [Re.mk ka sa aa ua va ga] 0 0 false, Re.mk 5 [] [Re.mk ka sa aa ua va ga] 0 0 false]) :: (153, .re (Re.mk 3 [] [Re.mk 5 [] [Re.mk ka sa aa ua va ga] 0 0 false, Re.mk 5 [] [Re.mk ka sa aa ua va ga] 0 0 false] 0 0 false)) :: (154, .re (Re.mk 5 [] [Re.mk ka sa aa ua va ga] 0 0 false)) :: (155, .txt (t)) :: (156, .val (.bool true)) :: (157, .val (.bool true)) :: (158, .val (.bool true)) :: (159, .re (Re.mk 5 [] [Re.mk ka sa aa ua va ga] 0 0 false)) :: (160, .sl [Re.mk 5 [] [Re.mk ka sa aa ua va ga] 0 0 false]) :: (161, .re (Re.mk 5 [] [Re.mk 5 [] [Re.mk ka sa aa ua va ga] 0 0 false] 0 0 false)) :: (162, .re (Re.mk 5 [] [Re.mk ka sa aa ua va ga] 0 0 false)) :: (163, .txt (t)) :: (164, .val (.bool true)) :: (165, .val (.bool true)) :: (8, .val (.bool true)) :: []) [9, 10, 11, 12, 13, 14, 15] (by kernel_rfl) (by kernel_rfl) (by kernel_rfl) hs8 ?_ ?_ ?_
    · intro d hd
      simp only [List.mem_cons, List.not_mem_nil, or_false] at hd
      rcases hd with rfl | rfl | rfl | rfl | rfl | rfl | rfl
      · rfl
      · rfl
      · rfl
      · exact ⟨_, _, _, rfl, HT.out⟩
      · rfl
      · rfl
      · rfl
    · refine .cons (ok_move rfl (.tmp 13) (Or.inl rfl) (Or.inl rfl) (OS.tmp 13 (by kernel_rfl) rfl) hs8) ?_
      refine .cons (ok_load rfl (.tmp 9) rfl (Or.inl rfl) w5.heap.size (OS.tmp 9 (by kernel_rfl) rfl) _ rfl _ ka8 Ra.out) ?_
      refine .cons (ok_move rfl (.tmp 13) (Or.inl rfl) (Or.inl rfl) (OS.tmp 13 (by kernel_rfl) rfl) hs8) ?_
      refine .cons (ok_load rfl (.tmp 10) rfl (Or.inl rfl) (w5.heap.size + 1) (OS.tmp 10 (by kernel_rfl) rfl) _ rfl _ kb8 Rb.out) ?_
      refine .cons (ok_load rfl (.tmp 11) rfl (Or.inl rfl) (w5.heap.size + 1 + 1) (OS.tmp 11 (by kernel_rfl) rfl) _ rfl _ kc8 Rc.out) ?_
      refine .cons (ok_bs2 rfl (.tmp 41) (.tmp 42) rfl (Or.inl rfl) _ _ (OS.tmp 41 (by kernel_rfl) rfl) (OS.tmp 42 (by kernel_rfl) rfl) rfl) ?_
      refine .cons (ok_re rfl rfl (Or.inl rfl) rfl (.tmp 40) (.tmp 43) rfl 3 _ (OS.tmp 40 (by kernel_rfl) rfl) (OS.tmp 43 (by kernel_rfl) rfl) rfl) ?_
      refine .cons (ok_bs2 rfl (.tmp 39) (.tmp 44) rfl (Or.inl rfl) _ _ (OS.tmp 39 (by kernel_rfl) rfl) (OS.tmp 44 (by kernel_rfl) rfl) rfl) ?_
      refine .cons (ok_re rfl rfl (Or.inl rfl) rfl (.tmp 38) (.tmp 45) rfl 3 _ (OS.tmp 38 (by kernel_rfl) rfl) (OS.tmp 45 (by kernel_rfl) rfl) rfl) ?_
      refine .cons (ok_move rfl (.tmp 13) (Or.inl rfl) (Or.inl rfl) (OS.tmp 13 (by kernel_rfl) rfl) hs8) ?_
      refine .cons (ok_move rfl (.tmp 13) (Or.inl rfl) (Or.inl rfl) (OS.tmp 13 (by kernel_rfl) rfl) hs8) ?_
      refine .cons (ok_load rfl (.tmp 9) rfl (Or.inl rfl) w5.heap.size (OS.tmp 9 (by kernel_rfl) rfl) _ rfl _ ka8 Ra.out) ?_
      refine .cons (ok_load rfl (.tmp 10) rfl (Or.inl rfl) (w5.heap.size + 1) (OS.tmp 10 (by kernel_rfl) rfl) _ rfl _ kb8 Rb.out) ?_
      refine .cons (ok_bs2 rfl (.tmp 49) (.tmp 50) rfl (Or.inl rfl) _ _ (OS.tmp 49 (by kernel_rfl) rfl) (OS.tmp 50 (by kernel_rfl) rfl) rfl) ?_
      refine .cons (ok_re rfl rfl (Or.inl rfl) rfl (.tmp 48) (.tmp 51) rfl 3 _ (OS.tmp 48 (by kernel_rfl) rfl) (OS.tmp 51 (by kernel_rfl) rfl) rfl) ?_
      refine .cons (ok_load rfl (.tmp 11) rfl (Or.inl rfl) (w5.heap.size + 1 + 1) (OS.tmp 11 (by kernel_rfl) rfl) _ rfl _ kc8 Rc.out) ?_
      refine .cons (ok_bs2 rfl (.tmp 52) (.tmp 53) rfl (Or.inl rfl) _ _ (OS.tmp 52 (by kernel_rfl) rfl) (OS.tmp 53 (by kernel_rfl) rfl) rfl) ?_
      refine .cons (ok_re rfl rfl (Or.inl rfl) rfl (.tmp 47) (.tmp 54) rfl 3 _ (OS.tmp 47 (by kernel_rfl) rfl) (OS.tmp 54 (by kernel_rfl) rfl) rfl) ?_
      refine .cons (ok_move rfl (.tmp 12) (Or.inl rfl) (Or.inl rfl) (OS.tmp 12 (by kernel_rfl) rfl) hs8) ?_
      refine .cons (ok_same rfl rfl (Or.inl rfl) rfl (.tmp 46) (.tmp 55) (.tmp 56) rfl _ _ _ (OS.tmp 46 (by kernel_rfl) rfl) (OS.tmp 55 (by kernel_rfl) rfl) (OS.tmp 56 (by kernel_rfl) rfl) rfl (kleene1 hrt.out hma.out hmb.out hmc.out hsz.out)) ?_
      refine .cons (ok_move rfl (.tmp 57) (Or.inl rfl) (Or.inl rfl) (OS.tmp 57 (by kernel_rfl) rfl) hs8) ?_
      refine .cons (ok_move rfl (.tmp 13) (Or.inl rfl) (Or.inr ⟨20, 58, rfl, by kernel_rfl, by kernel_rfl, rfl⟩) (OS.tmp 13 (by kernel_rfl) rfl) hs8) ?_
      refine .cons (ok_load rfl (.tmp 9) rfl (Or.inr ⟨20, 58, rfl, by kernel_rfl, by kernel_rfl, rfl⟩) w5.heap.size (OS.tmp 9 (by kernel_rfl) rfl) _ rfl _ ka8 Ra.out) ?_
      refine .cons (ok_move rfl (.tmp 14) (Or.inl rfl) (Or.inr ⟨20, 58, rfl, by kernel_rfl, by kernel_rfl, rfl⟩) (OS.tmp 14 (by kernel_rfl) rfl) hs8) ?_
      refine .cons (ok_load rfl (.tmp 10) rfl (Or.inr ⟨20, 58, rfl, by kernel_rfl, by kernel_rfl, rfl⟩) (w5.heap.size + 1) (OS.tmp 10 (by kernel_rfl) rfl) _ rfl _ kb8 Rb.out) ?_
      refine .cons (ok_load rfl (.tmp 11) rfl (Or.inr ⟨20, 58, rfl, by kernel_rfl, by kernel_rfl, rfl⟩) (w5.heap.size + 1 + 1) (OS.tmp 11 (by kernel_rfl) rfl) _ rfl _ kc8 Rc.out) ?_
      refine .cons (ok_bs2 rfl (.tmp 62) (.tmp 63) rfl (Or.inr ⟨20, 58, rfl, by kernel_rfl, by kernel_rfl, rfl⟩) _ _ (OS.tmp 62 (by kernel_rfl) rfl) (OS.tmp 63 (by kernel_rfl) rfl) rfl) ?_
      refine .cons (ok_re rfl rfl (Or.inr ⟨20, 58, rfl, by kernel_rfl, by kernel_rfl, rfl⟩) rfl (.tmp 61) (.tmp 64) rfl 4 _ (OS.tmp 61 (by kernel_rfl) rfl) (OS.tmp 64 (by kernel_rfl) rfl) rfl) ?_
      refine .cons (ok_bs2 rfl (.tmp 60) (.tmp 65) rfl (Or.inr ⟨20, 58, rfl, by kernel_rfl, by kernel_rfl, rfl⟩) _ _ (OS.tmp 60 (by kernel_rfl) rfl) (OS.tmp 65 (by kernel_rfl) rfl) rfl) ?_
      refine .cons (ok_re rfl rfl (Or.inr ⟨20, 58, rfl, by kernel_rfl, by kernel_rfl, rfl⟩) rfl (.tmp 59) (.tmp 66) rfl 3 _ (OS.tmp 59 (by kernel_rfl) rfl) (OS.tmp 66 (by kernel_rfl) rfl) rfl) ?_
      refine .cons (ok_move rfl (.tmp 14) (Or.inl rfl) (Or.inr ⟨20, 58, rfl, by kernel_rfl, by kernel_rfl, rfl⟩) (OS.tmp 14 (by kernel_rfl) rfl) hs8) ?_
      refine .cons (ok_move rfl (.tmp 13) (Or.inl rfl) (Or.inr ⟨20, 58, rfl, by kernel_rfl, by kernel_rfl, rfl⟩) (OS.tmp 13 (by kernel_rfl) rfl) hs8) ?_
      refine .cons (ok_load rfl (.tmp 9) rfl (Or.inr ⟨20, 58, rfl, by kernel_rfl, by kernel_rfl, rfl⟩) w5.heap.size (OS.tmp 9 (by kernel_rfl) rfl) _ rfl _ ka8 Ra.out) ?_
      refine .cons (ok_load rfl (.tmp 10) rfl (Or.inr ⟨20, 58, rfl, by kernel_rfl, by kernel_rfl, rfl⟩) (w5.heap.size + 1) (OS.tmp 10 (by kernel_rfl) rfl) _ rfl _ kb8 Rb.out) ?_
      refine .cons (ok_bs2 rfl (.tmp 70) (.tmp 71) rfl (Or.inr ⟨20, 58, rfl, by kernel_rfl, by kernel_rfl, rfl⟩) _ _ (OS.tmp 70 (by kernel_rfl) rfl) (OS.tmp 71 (by kernel_rfl) rfl) rfl) ?_
      refine .cons (ok_re rfl rfl (Or.inr ⟨20, 58, rfl, by kernel_rfl, by kernel_rfl, rfl⟩) rfl (.tmp 69) (.tmp 72) rfl 3 _ (OS.tmp 69 (by kernel_rfl) rfl) (OS.tmp 72 (by kernel_rfl) rfl) rfl) ?_
      refine .cons (ok_move rfl (.tmp 13) (Or.inl rfl) (Or.inr ⟨20, 58, rfl, by kernel_rfl, by kernel_rfl, rfl⟩) (OS.tmp 13 (by kernel_rfl) rfl) hs8) ?_
      refine .cons (ok_load rfl (.tmp 9) rfl (Or.inr ⟨20, 58, rfl, by kernel_rfl, by kernel_rfl, rfl⟩) w5.heap.size (OS.tmp 9 (by kernel_rfl) rfl) _ rfl _ ka8 Ra.out) ?_
      refine .cons (ok_load rfl (.tmp 11) rfl (Or.inr ⟨20, 58, rfl, by kernel_rfl, by kernel_rfl, rfl⟩) (w5.heap.size + 1 + 1) (OS.tmp 11 (by kernel_rfl) rfl) _ rfl _ kc8 Rc.out) ?_
      refine .cons (ok_bs2 rfl (.tmp 75) (.tmp 76) rfl (Or.inr ⟨20, 58, rfl, by kernel_rfl, by kernel_rfl, rfl⟩) _ _ (OS.tmp 75 (by kernel_rfl) rfl) (OS.tmp 76 (by kernel_rfl) rfl) rfl) ?_
      refine .cons (ok_re rfl rfl (Or.inr ⟨20, 58, rfl, by kernel_rfl, by kernel_rfl, rfl⟩) rfl (.tmp 74) (.tmp 77) rfl 3 _ (OS.tmp 74 (by kernel_rfl) rfl) (OS.tmp 77 (by kernel_rfl) rfl) rfl) ?_
      refine .cons (ok_bs2 rfl (.tmp 73) (.tmp 78) rfl (Or.inr ⟨20, 58, rfl, by kernel_rfl, by kernel_rfl, rfl⟩) _ _ (OS.tmp 73 (by kernel_rfl) rfl) (OS.tmp 78 (by kernel_rfl) rfl) rfl) ?_
      refine .cons (ok_re rfl rfl (Or.inr ⟨20, 58, rfl, by kernel_rfl, by kernel_rfl, rfl⟩) rfl (.tmp 68) (.tmp 79) rfl 4 _ (OS.tmp 68 (by kernel_rfl) rfl) (OS.tmp 79 (by kernel_rfl) rfl) rfl) ?_
      refine .cons (ok_move rfl (.tmp 12) (Or.inl rfl) (Or.inr ⟨20, 58, rfl, by kernel_rfl, by kernel_rfl, rfl⟩) (OS.tmp 12 (by kernel_rfl) rfl) hs8) ?_
      refine .cons (ok_same rfl rfl (Or.inr ⟨20, 58, rfl, by kernel_rfl, by kernel_rfl, rfl⟩) rfl (.tmp 67) (.tmp 80) (.tmp 81) rfl _ _ _ (OS.tmp 67 (by kernel_rfl) rfl) (OS.tmp 80 (by kernel_rfl) rfl) (OS.tmp 81 (by kernel_rfl) rfl) rfl (kleene2 hrt.out hma.out hmb.out hmc.out hsz.out)) ?_
      refine .cons (ok_pick rfl (.tmp 58) (.tmp 82) (.const (.bool false)) rfl (Or.inl rfl) (OS.tmp 58 (by kernel_rfl) rfl) (OS.tmp 82 (by kernel_rfl) rfl)) ?_
      refine .cons (ok_move rfl (.tmp 83) (Or.inl rfl) (Or.inl rfl) (OS.tmp 83 (by kernel_rfl) rfl) hs8) ?_
      refine .cons (ok_move rfl (.tmp 13) (Or.inl rfl) (Or.inr ⟨46, 84, rfl, by kernel_rfl, by kernel_rfl, rfl⟩) (OS.tmp 13 (by kernel_rfl) rfl) hs8) ?_
      refine .cons (ok_move rfl (.tmp 14) (Or.inl rfl) (Or.inr ⟨46, 84, rfl, by kernel_rfl, by kernel_rfl, rfl⟩) (OS.tmp 14 (by kernel_rfl) rfl) hs8) ?_
      refine .cons (ok_load rfl (.tmp 9) rfl (Or.inr ⟨46, 84, rfl, by kernel_rfl, by kernel_rfl, rfl⟩) w5.heap.size (OS.tmp 9 (by kernel_rfl) rfl) _ rfl _ ka8 Ra.out) ?_
      refine .cons (ok_load rfl (.tmp 10) rfl (Or.inr ⟨46, 84, rfl, by kernel_rfl, by kernel_rfl, rfl⟩) (w5.heap.size + 1) (OS.tmp 10 (by kernel_rfl) rfl) _ rfl _ kb8 Rb.out) ?_
      refine .cons (ok_bs2 rfl (.tmp 87) (.tmp 88) rfl (Or.inr ⟨46, 84, rfl, by kernel_rfl, by kernel_rfl, rfl⟩) _ _ (OS.tmp 87 (by kernel_rfl) rfl) (OS.tmp 88 (by kernel_rfl) rfl) rfl) ?_
      refine .cons (ok_re rfl rfl (Or.inr ⟨46, 84, rfl, by kernel_rfl, by kernel_rfl, rfl⟩) rfl (.tmp 86) (.tmp 89) rfl 4 _ (OS.tmp 86 (by kernel_rfl) rfl) (OS.tmp 89 (by kernel_rfl) rfl) rfl) ?_
      refine .cons (ok_load rfl (.tmp 11) rfl (Or.inr ⟨46, 84, rfl, by kernel_rfl, by kernel_rfl, rfl⟩) (w5.heap.size + 1 + 1) (OS.tmp 11 (by kernel_rfl) rfl) _ rfl _ kc8 Rc.out) ?_
      refine .cons (ok_bs2 rfl (.tmp 90) (.tmp 91) rfl (Or.inr ⟨46, 84, rfl, by kernel_rfl, by kernel_rfl, rfl⟩) _ _ (OS.tmp 90 (by kernel_rfl) rfl) (OS.tmp 91 (by kernel_rfl) rfl) rfl) ?_
      refine .cons (ok_re rfl rfl (Or.inr ⟨46, 84, rfl, by kernel_rfl, by kernel_rfl, rfl⟩) rfl (.tmp 85) (.tmp 92) rfl 3 _ (OS.tmp 85 (by kernel_rfl) rfl) (OS.tmp 92 (by kernel_rfl) rfl) rfl) ?_
      refine .cons (ok_move rfl (.tmp 14) (Or.inl rfl) (Or.inr ⟨46, 84, rfl, by kernel_rfl, by kernel_rfl, rfl⟩) (OS.tmp 14 (by kernel_rfl) rfl) hs8) ?_
      refine .cons (ok_move rfl (.tmp 13) (Or.inl rfl) (Or.inr ⟨46, 84, rfl, by kernel_rfl, by kernel_rfl, rfl⟩) (OS.tmp 13 (by kernel_rfl) rfl) hs8) ?_
      refine .cons (ok_load rfl (.tmp 9) rfl (Or.inr ⟨46, 84, rfl, by kernel_rfl, by kernel_rfl, rfl⟩) w5.heap.size (OS.tmp 9 (by kernel_rfl) rfl) _ rfl _ ka8 Ra.out) ?_
      refine .cons (ok_load rfl (.tmp 11) rfl (Or.inr ⟨46, 84, rfl, by kernel_rfl, by kernel_rfl, rfl⟩) (w5.heap.size + 1 + 1) (OS.tmp 11 (by kernel_rfl) rfl) _ rfl _ kc8 Rc.out) ?_
      refine .cons (ok_bs2 rfl (.tmp 96) (.tmp 97) rfl (Or.inr ⟨46, 84, rfl, by kernel_rfl, by kernel_rfl, rfl⟩) _ _ (OS.tmp 96 (by kernel_rfl) rfl) (OS.tmp 97 (by kernel_rfl) rfl) rfl) ?_
      refine .cons (ok_re rfl rfl (Or.inr ⟨46, 84, rfl, by kernel_rfl, by kernel_rfl, rfl⟩) rfl (.tmp 95) (.tmp 98) rfl 3 _ (OS.tmp 95 (by kernel_rfl) rfl) (OS.tmp 98 (by kernel_rfl) rfl) rfl) ?_
      refine .cons (ok_move rfl (.tmp 13) (Or.inl rfl) (Or.inr ⟨46, 84, rfl, by kernel_rfl, by kernel_rfl, rfl⟩) (OS.tmp 13 (by kernel_rfl) rfl) hs8) ?_
      refine .cons (ok_load rfl (.tmp 10) rfl (Or.inr ⟨46, 84, rfl, by kernel_rfl, by kernel_rfl, rfl⟩) (w5.heap.size + 1) (OS.tmp 10 (by kernel_rfl) rfl) _ rfl _ kb8 Rb.out) ?_
      refine .cons (ok_load rfl (.tmp 11) rfl (Or.inr ⟨46, 84, rfl, by kernel_rfl, by kernel_rfl, rfl⟩) (w5.heap.size + 1 + 1) (OS.tmp 11 (by kernel_rfl) rfl) _ rfl _ kc8 Rc.out) ?_
      refine .cons (ok_bs2 rfl (.tmp 101) (.tmp 102) rfl (Or.inr ⟨46, 84, rfl, by kernel_rfl, by kernel_rfl, rfl⟩) _ _ (OS.tmp 101 (by kernel_rfl) rfl) (OS.tmp 102 (by kernel_rfl) rfl) rfl) ?_
      refine .cons (ok_re rfl rfl (Or.inr ⟨46, 84, rfl, by kernel_rfl, by kernel_rfl, rfl⟩) rfl (.tmp 100) (.tmp 103) rfl 3 _ (OS.tmp 100 (by kernel_rfl) rfl) (OS.tmp 103 (by kernel_rfl) rfl) rfl) ?_
      refine .cons (ok_bs2 rfl (.tmp 99) (.tmp 104) rfl (Or.inr ⟨46, 84, rfl, by kernel_rfl, by kernel_rfl, rfl⟩) _ _ (OS.tmp 99 (by kernel_rfl) rfl) (OS.tmp 104 (by kernel_rfl) rfl) rfl) ?_
      refine .cons (ok_re rfl rfl (Or.inr ⟨46, 84, rfl, by kernel_rfl, by kernel_rfl, rfl⟩) rfl (.tmp 94) (.tmp 105) rfl 4 _ (OS.tmp 94 (by kernel_rfl) rfl) (OS.tmp 105 (by kernel_rfl) rfl) rfl) ?_
      refine .cons (ok_move rfl (.tmp 12) (Or.inl rfl) (Or.inr ⟨46, 84, rfl, by kernel_rfl, by kernel_rfl, rfl⟩) (OS.tmp 12 (by kernel_rfl) rfl) hs8) ?_
      refine .cons (ok_same rfl rfl (Or.inr ⟨46, 84, rfl, by kernel_rfl, by kernel_rfl, rfl⟩) rfl (.tmp 93) (.tmp 106) (.tmp 107) rfl _ _ _ (OS.tmp 93 (by kernel_rfl) rfl) (OS.tmp 106 (by kernel_rfl) rfl) (OS.tmp 107 (by kernel_rfl) rfl) rfl (kleene3 hrt.out hma.out hmb.out hmc.out hsz.out)) ?_
      refine .cons (ok_pick rfl (.tmp 84) (.tmp 108) (.const (.bool false)) rfl (Or.inl rfl) (OS.tmp 84 (by kernel_rfl) rfl) (OS.tmp 108 (by kernel_rfl) rfl)) ?_
      refine .cons (ok_move rfl (.tmp 109) (Or.inl rfl) (Or.inl rfl) (OS.tmp 109 (by kernel_rfl) rfl) hs8) ?_
      refine .cons (ok_move rfl (.tmp 14) (Or.inl rfl) (Or.inr ⟨72, 110, rfl, by kernel_rfl, by kernel_rfl, rfl⟩) (OS.tmp 14 (by kernel_rfl) rfl) hs8) ?_
      refine .cons (ok_load rfl (.tmp 9) rfl (Or.inr ⟨72, 110, rfl, by kernel_rfl, by kernel_rfl, rfl⟩) w5.heap.size (OS.tmp 9 (by kernel_rfl) rfl) _ rfl _ ka8 Ra.out) ?_
      refine .cons (ok_load rfl (.tmp 10) rfl (Or.inr ⟨72, 110, rfl, by kernel_rfl, by kernel_rfl, rfl⟩) (w5.heap.size + 1) (OS.tmp 10 (by kernel_rfl) rfl) _ rfl _ kb8 Rb.out) ?_
      refine .cons (ok_bs2 rfl (.tmp 112) (.tmp 113) rfl (Or.inr ⟨72, 110, rfl, by kernel_rfl, by kernel_rfl, rfl⟩) _ _ (OS.tmp 112 (by kernel_rfl) rfl) (OS.tmp 113 (by kernel_rfl) rfl) rfl) ?_
      refine .cons (ok_re rfl rfl (Or.inr ⟨72, 110, rfl, by kernel_rfl, by kernel_rfl, rfl⟩) rfl (.tmp 111) (.tmp 114) rfl 4 _ (OS.tmp 111 (by kernel_rfl) rfl) (OS.tmp 114 (by kernel_rfl) rfl) rfl) ?_
      refine .cons (ok_move rfl (.tmp 14) (Or.inl rfl) (Or.inr ⟨72, 110, rfl, by kernel_rfl, by kernel_rfl, rfl⟩) (OS.tmp 14 (by kernel_rfl) rfl) hs8) ?_
      refine .cons (ok_load rfl (.tmp 10) rfl (Or.inr ⟨72, 110, rfl, by kernel_rfl, by kernel_rfl, rfl⟩) (w5.heap.size + 1) (OS.tmp 10 (by kernel_rfl) rfl) _ rfl _ kb8 Rb.out) ?_
      refine .cons (ok_load rfl (.tmp 9) rfl (Or.inr ⟨72, 110, rfl, by kernel_rfl, by kernel_rfl, rfl⟩) w5.heap.size (OS.tmp 9 (by kernel_rfl) rfl) _ rfl _ ka8 Ra.out) ?_
      refine .cons (ok_bs2 rfl (.tmp 117) (.tmp 118) rfl (Or.inr ⟨72, 110, rfl, by kernel_rfl, by kernel_rfl, rfl⟩) _ _ (OS.tmp 117 (by kernel_rfl) rfl) (OS.tmp 118 (by kernel_rfl) rfl) rfl) ?_
      refine .cons (ok_re rfl rfl (Or.inr ⟨72, 110, rfl, by kernel_rfl, by kernel_rfl, rfl⟩) rfl (.tmp 116) (.tmp 119) rfl 4 _ (OS.tmp 116 (by kernel_rfl) rfl) (OS.tmp 119 (by kernel_rfl) rfl) rfl) ?_
      refine .cons (ok_move rfl (.tmp 12) (Or.inl rfl) (Or.inr ⟨72, 110, rfl, by kernel_rfl, by kernel_rfl, rfl⟩) (OS.tmp 12 (by kernel_rfl) rfl) hs8) ?_
      refine .cons (ok_same rfl rfl (Or.inr ⟨72, 110, rfl, by kernel_rfl, by kernel_rfl, rfl⟩) rfl (.tmp 115) (.tmp 120) (.tmp 121) rfl _ _ _ (OS.tmp 115 (by kernel_rfl) rfl) (OS.tmp 120 (by kernel_rfl) rfl) (OS.tmp 121 (by kernel_rfl) rfl) rfl (kleene4 hrt.out hma.out hmb.out hmc.out hsz.out)) ?_
      refine .cons (ok_pick rfl (.tmp 110) (.tmp 122) (.const (.bool false)) rfl (Or.inl rfl) (OS.tmp 110 (by kernel_rfl) rfl) (OS.tmp 122 (by kernel_rfl) rfl)) ?_
      refine .cons (ok_move rfl (.tmp 123) (Or.inl rfl) (Or.inl rfl) (OS.tmp 123 (by kernel_rfl) rfl) hs8) ?_
      refine .cons (ok_move rfl (.tmp 14) (Or.inl rfl) (Or.inr ⟨86, 124, rfl, by kernel_rfl, by kernel_rfl, rfl⟩) (OS.tmp 14 (by kernel_rfl) rfl) hs8) ?_
      refine .cons (ok_load rfl (.tmp 9) rfl (Or.inr ⟨86, 124, rfl, by kernel_rfl, by kernel_rfl, rfl⟩) w5.heap.size (OS.tmp 9 (by kernel_rfl) rfl) _ rfl _ ka8 Ra.out) ?_
      refine .cons (ok_load rfl (.tmp 9) rfl (Or.inr ⟨86, 124, rfl, by kernel_rfl, by kernel_rfl, rfl⟩) w5.heap.size (OS.tmp 9 (by kernel_rfl) rfl) _ rfl _ ka8 Ra.out) ?_
      refine .cons (ok_bs2 rfl (.tmp 126) (.tmp 127) rfl (Or.inr ⟨86, 124, rfl, by kernel_rfl, by kernel_rfl, rfl⟩) _ _ (OS.tmp 126 (by kernel_rfl) rfl) (OS.tmp 127 (by kernel_rfl) rfl) rfl) ?_
      refine .cons (ok_re rfl rfl (Or.inr ⟨86, 124, rfl, by kernel_rfl, by kernel_rfl, rfl⟩) rfl (.tmp 125) (.tmp 128) rfl 4 _ (OS.tmp 125 (by kernel_rfl) rfl) (OS.tmp 128 (by kernel_rfl) rfl) rfl) ?_
      refine .cons (ok_load rfl (.tmp 9) rfl (Or.inr ⟨86, 124, rfl, by kernel_rfl, by kernel_rfl, rfl⟩) w5.heap.size (OS.tmp 9 (by kernel_rfl) rfl) _ rfl _ ka8 Ra.out) ?_
      refine .cons (ok_move rfl (.tmp 12) (Or.inl rfl) (Or.inr ⟨86, 124, rfl, by kernel_rfl, by kernel_rfl, rfl⟩) (OS.tmp 12 (by kernel_rfl) rfl) hs8) ?_
      refine .cons (ok_same rfl rfl (Or.inr ⟨86, 124, rfl, by kernel_rfl, by kernel_rfl, rfl⟩) rfl (.tmp 129) (.tmp 130) (.tmp 131) rfl _ _ _ (OS.tmp 129 (by kernel_rfl) rfl) (OS.tmp 130 (by kernel_rfl) rfl) (OS.tmp 131 (by kernel_rfl) rfl) rfl (kleene5 hrt.out hma.out hmb.out hmc.out hsz.out)) ?_
      refine .cons (ok_pick rfl (.tmp 124) (.tmp 132) (.const (.bool false)) rfl (Or.inl rfl) (OS.tmp 124 (by kernel_rfl) rfl) (OS.tmp 132 (by kernel_rfl) rfl)) ?_
      refine .cons (ok_move rfl (.tmp 133) (Or.inl rfl) (Or.inl rfl) (OS.tmp 133 (by kernel_rfl) rfl) hs8) ?_
      refine .cons (ok_load rfl (.tmp 15) rfl (Or.inr ⟨96, 134, rfl, by kernel_rfl, by kernel_rfl, rfl⟩) w1.heap.size (OS.tmp 15 (by kernel_rfl) rfl) _ rfl _ ks Rs.out) ?_
      refine .cons (ok_move rfl (.tmp 14) (Or.inl rfl) (Or.inr ⟨96, 134, rfl, by kernel_rfl, by kernel_rfl, rfl⟩) (OS.tmp 14 (by kernel_rfl) rfl) hs8) ?_
      refine .cons (ok_re rfl rfl (Or.inr ⟨96, 134, rfl, by kernel_rfl, by kernel_rfl, rfl⟩) rfl (.const (.int .i64 1)) (.const (.slice none 0 0)) rfl 1 _ (OS.const (.int .i64 1)) (OS.nilS) rfl) ?_
      refine .cons (ok_move rfl (.tmp 13) (Or.inl rfl) (Or.inr ⟨96, 134, rfl, by kernel_rfl, by kernel_rfl, rfl⟩) (OS.tmp 13 (by kernel_rfl) rfl) hs8) ?_
      refine .cons (ok_load rfl (.tmp 9) rfl (Or.inr ⟨96, 134, rfl, by kernel_rfl, by kernel_rfl, rfl⟩) w5.heap.size (OS.tmp 9 (by kernel_rfl) rfl) _ rfl _ ka8 Ra.out) ?_
      refine .cons (ok_load rfl (.tmp 15) rfl (Or.inr ⟨96, 134, rfl, by kernel_rfl, by kernel_rfl, rfl⟩) w1.heap.size (OS.tmp 15 (by kernel_rfl) rfl) _ rfl _ ks Rs.out) ?_
      refine .cons (ok_bs2 rfl (.tmp 139) (.tmp 140) rfl (Or.inr ⟨96, 134, rfl, by kernel_rfl, by kernel_rfl, rfl⟩) _ _ (OS.tmp 139 (by kernel_rfl) rfl) (OS.tmp 140 (by kernel_rfl) rfl) rfl) ?_
      refine .cons (ok_re rfl rfl (Or.inr ⟨96, 134, rfl, by kernel_rfl, by kernel_rfl, rfl⟩) rfl (.tmp 138) (.tmp 141) rfl 3 _ (OS.tmp 138 (by kernel_rfl) rfl) (OS.tmp 141 (by kernel_rfl) rfl) rfl) ?_
      refine .cons (ok_bs2 rfl (.tmp 137) (.tmp 142) rfl (Or.inr ⟨96, 134, rfl, by kernel_rfl, by kernel_rfl, rfl⟩) _ _ (OS.tmp 137 (by kernel_rfl) rfl) (OS.tmp 142 (by kernel_rfl) rfl) rfl) ?_
      refine .cons (ok_re rfl rfl (Or.inr ⟨96, 134, rfl, by kernel_rfl, by kernel_rfl, rfl⟩) rfl (.tmp 136) (.tmp 143) rfl 4 _ (OS.tmp 136 (by kernel_rfl) rfl) (OS.tmp 143 (by kernel_rfl) rfl) rfl) ?_
      refine .cons (ok_move rfl (.tmp 12) (Or.inl rfl) (Or.inr ⟨96, 134, rfl, by kernel_rfl, by kernel_rfl, rfl⟩) (OS.tmp 12 (by kernel_rfl) rfl) hs8) ?_
      refine .cons (ok_same rfl rfl (Or.inr ⟨96, 134, rfl, by kernel_rfl, by kernel_rfl, rfl⟩) rfl (.tmp 135) (.tmp 144) (.tmp 145) rfl _ _ _ (OS.tmp 135 (by kernel_rfl) rfl) (OS.tmp 144 (by kernel_rfl) rfl) (OS.tmp 145 (by kernel_rfl) rfl) rfl (kleene6 hrt.out hma.out hmb.out hmc.out hsz.out)) ?_
      refine .cons (ok_pick rfl (.tmp 134) (.tmp 146) (.const (.bool false)) rfl (Or.inl rfl) (OS.tmp 134 (by kernel_rfl) rfl) (OS.tmp 146 (by kernel_rfl) rfl)) ?_
      refine .cons (ok_move rfl (.tmp 147) (Or.inl rfl) (Or.inl rfl) (OS.tmp 147 (by kernel_rfl) rfl) hs8) ?_
      refine .cons (ok_move rfl (.tmp 13) (Or.inl rfl) (Or.inr ⟨110, 148, rfl, by kernel_rfl, by kernel_rfl, rfl⟩) (OS.tmp 13 (by kernel_rfl) rfl) hs8) ?_
      refine .cons (ok_load rfl (.tmp 15) rfl (Or.inr ⟨110, 148, rfl, by kernel_rfl, by kernel_rfl, rfl⟩) w1.heap.size (OS.tmp 15 (by kernel_rfl) rfl) _ rfl _ ks Rs.out) ?_
      refine .cons (ok_load rfl (.tmp 15) rfl (Or.inr ⟨110, 148, rfl, by kernel_rfl, by kernel_rfl, rfl⟩) w1.heap.size (OS.tmp 15 (by kernel_rfl) rfl) _ rfl _ ks Rs.out) ?_
      refine .cons (ok_bs2 rfl (.tmp 150) (.tmp 151) rfl (Or.inr ⟨110, 148, rfl, by kernel_rfl, by kernel_rfl, rfl⟩) _ _ (OS.tmp 150 (by kernel_rfl) rfl) (OS.tmp 151 (by kernel_rfl) rfl) rfl) ?_
      refine .cons (ok_re rfl rfl (Or.inr ⟨110, 148, rfl, by kernel_rfl, by kernel_rfl, rfl⟩) rfl (.tmp 149) (.tmp 152) rfl 3 _ (OS.tmp 149 (by kernel_rfl) rfl) (OS.tmp 152 (by kernel_rfl) rfl) rfl) ?_
      refine .cons (ok_load rfl (.tmp 15) rfl (Or.inr ⟨110, 148, rfl, by kernel_rfl, by kernel_rfl, rfl⟩) w1.heap.size (OS.tmp 15 (by kernel_rfl) rfl) _ rfl _ ks Rs.out) ?_
      refine .cons (ok_move rfl (.tmp 12) (Or.inl rfl) (Or.inr ⟨110, 148, rfl, by kernel_rfl, by kernel_rfl, rfl⟩) (OS.tmp 12 (by kernel_rfl) rfl) hs8) ?_
      refine .cons (ok_same rfl rfl (Or.inr ⟨110, 148, rfl, by kernel_rfl, by kernel_rfl, rfl⟩) rfl (.tmp 153) (.tmp 154) (.tmp 155) rfl _ _ _ (OS.tmp 153 (by kernel_rfl) rfl) (OS.tmp 154 (by kernel_rfl) rfl) (OS.tmp 155 (by kernel_rfl) rfl) rfl (kleene7 hrt.out hma.out hmb.out hmc.out hsz.out)) ?_
      refine .cons (ok_pick rfl (.tmp 148) (.tmp 156) (.const (.bool false)) rfl (Or.inl rfl) (OS.tmp 148 (by kernel_rfl) rfl) (OS.tmp 156 (by kernel_rfl) rfl)) ?_
      refine .cons (ok_move rfl (.tmp 157) (Or.inl rfl) (Or.inl rfl) (OS.tmp 157 (by kernel_rfl) rfl) hs8) ?_
      refine .cons (ok_load rfl (.tmp 15) rfl (Or.inr ⟨120, 158, rfl, by kernel_rfl, by kernel_rfl, rfl⟩) w1.heap.size (OS.tmp 15 (by kernel_rfl) rfl) _ rfl _ ks Rs.out) ?_
      refine .cons (ok_bs1 rfl (.tmp 159) rfl (Or.inr ⟨120, 158, rfl, by kernel_rfl, by kernel_rfl, rfl⟩) _ (OS.tmp 159 (by kernel_rfl) rfl) rfl) ?_
      refine .cons (ok_re rfl rfl (Or.inr ⟨120, 158, rfl, by kernel_rfl, by kernel_rfl, rfl⟩) rfl (.const (.int .i64 5)) (.tmp 160) rfl 5 _ (OS.const (.int .i64 5)) (OS.tmp 160 (by kernel_rfl) rfl) rfl) ?_
      refine .cons (ok_load rfl (.tmp 15) rfl (Or.inr ⟨120, 158, rfl, by kernel_rfl, by kernel_rfl, rfl⟩) w1.heap.size (OS.tmp 15 (by kernel_rfl) rfl) _ rfl _ ks Rs.out) ?_
      refine .cons (ok_move rfl (.tmp 12) (Or.inl rfl) (Or.inr ⟨120, 158, rfl, by kernel_rfl, by kernel_rfl, rfl⟩) (OS.tmp 12 (by kernel_rfl) rfl) hs8) ?_
      refine .cons (ok_same rfl rfl (Or.inr ⟨120, 158, rfl, by kernel_rfl, by kernel_rfl, rfl⟩) rfl (.tmp 161) (.tmp 162) (.tmp 163) rfl _ _ _ (OS.tmp 161 (by kernel_rfl) rfl) (OS.tmp 162 (by kernel_rfl) rfl) (OS.tmp 163 (by kernel_rfl) rfl) rfl (kleene8 hrt.out hma.out hmb.out hmc.out hsz.out)) ?_
      refine .cons (ok_pick rfl (.tmp 158) (.tmp 164) (.const (.bool false)) rfl (Or.inl rfl) (OS.tmp 158 (by kernel_rfl) rfl) (OS.tmp 164 (by kernel_rfl) rfl)) ?_
      refine .cons (ok_move rfl (.tmp 165) (Or.inr rfl) (Or.inl rfl) (OS.tmp 165 (by kernel_rfl) rfl) hs8) ?_
      exact .nil
    · intro a w9 H9 hx9 hdf hts hold hnew
      have e9 : a.eval (.tmp 8) = .bool true := hnew 8 (by kernel_rfl)
      refine reg_end (fn := Try.f4) rfl hdf e9 ?_ rfl ?_
      · assumption
      · exact ⟨rfl, (hx.trans hx9).below⟩
end Go.Proofs.Ytbnahmeaeakhhaa.B
