/- The walk: parlkeep1.RelationBoole answers true. -/
import Derived.Test.YtbnahmeaeakhhaaKr
import Derived.Deep.RegionHeld3
namespace Go.Proofs.Ytbnahmeaeakhhaa.B
set_option linter.unusedVariables false
set_option linter.unusedSimpArgs false
open Go Go.RowKit Classical

set_option maxRecDepth 100000 in
set_option maxHeartbeats 16000000 in
theorem relationBoole_any (H : PH) (l1 l2 l3 : List Int) (A1 A2 A3 : Option Addr) (n1 n2 n3 c1 c2 c3 : Nat) (w : World) (h1 : SlR (kI .i64) H A1 n1 c1 l1) (h2 : SlR (kI .i64) H A2 n2 c2 l2) (h3 : SlR (kI .i64) H A3 n3 c3 l3) (hs : Sat w H) :
    Calls Try.prog 5 #[.slice A1 n1 c1, .slice A2 n2 c2, .slice A3 n3 c3] w fun e w' => e = .returned (.bool true) ∧ Below w.heap.size w w' := by
  replace h1 := Aside.mk h1
  replace h2 := Aside.mk h2
  replace h3 := Aside.mk h3
  go_enter Try.func5, Try.ntmps5
  go_wp2_with fail
  refine (krelationBegun_any w).mono ?_
  rintro e w1 ⟨rfl, hb1⟩
  have hx := Ext.of_below hs hb1
  clear hb1
  replace hx := Aside.mk hx
  go_wp2_with fail
  replace hx := hx.out
  refine (reOf_any _ l1 A1 n1 c1 _ (h1.out.mono hx.le) hx.sat).mono ?_
  rintro e w1 ⟨ra, H1, cea, rfl, hr, hma, hz⟩
  have hle := hz.le
  replace hx := hx.trans hz
  have Ra := Aside.mk hr
  replace hma := Aside.mk hma
  clear hr hz hle
  replace hx := Aside.mk hx
  go_wp2_with fail
  replace hx := hx.out
  refine (reOf_any _ l2 A2 n2 c2 _ (h2.out.mono hx.le) hx.sat).mono ?_
  rintro e w1 ⟨rb, H1, ceb, rfl, hr, hmb, hz⟩
  have hle := hz.le
  replace hx := hx.trans hz
  replace Ra := Aside.mk (Ra.out.mono hle)
  have Rb := Aside.mk hr
  replace hmb := Aside.mk hmb
  clear hr hz hle
  replace hx := Aside.mk hx
  go_wp2_with fail
  replace hx := hx.out
  refine (textOf_any _ l3 A3 n3 c3 _ (h3.out.mono hx.le) hx.sat).mono ?_
  rintro e w5 ⟨v, t, rfl, ho, hrt, hb⟩
  have hxo := hx
  replace hx := hx.then_below hb
  obtain ⟨H5, hx5, hle, ⟨A5, c5, e1, hst⟩, -⟩ := (ho.flat (fun b o hb' => hxo.sat.new (ho.blk hb').1 o)).freezeE hx hxo.size (by have := hrt.1; omega)
  cases e1
  replace hx := hx5
  replace Ra := Aside.mk (Ra.out.mono hle)
  replace Rb := Aside.mk (Rb.out.mono hle)
  have HT := Aside.mk hst
  replace hrt := Aside.mk hrt
  clear hst hle hxo hb ho hx5
  obtain ⟨ka, sa, aa, ua, va, ga, rfl⟩ : ∃ a b c d e f, ra = Re.mk a b c d e f := by cases ra; exact ⟨_, _, _, _, _, _, rfl⟩
  obtain ⟨P1, p1, P2, p2, rfl, -, -⟩ := Ra.out.open
  obtain ⟨kb, sb, ab, ub, vb, gb, rfl⟩ : ∃ a b c d e f, rb = Re.mk a b c d e f := by cases rb; exact ⟨_, _, _, _, _, _, rfl⟩
  obtain ⟨Q1, q1, Q2, q2, rfl, -, -⟩ := Rb.out.open
  replace hx := Aside.mk hx
  go_wp2_with fail
  replace hx := hx.out
  have kz := ktwo w5 (.cells #[.int .i64 ka, .slice P1 sa.length p1, .slice P2 aa.length p2, .int .i64 ua, .int .i64 va, .bool ga] 25) (.cells #[.int .i64 kb, .slice Q1 sb.length q1, .slice Q2 ab.length q2, .int .i64 ub, .int .i64 vb, .bool gb] 25)
  have hwb := hx.size
  have hN5 : ∀ b o, w5.heap.size ≤ b → H5 b o = none := fun b o h => hx.sat.new h o
  replace hx := ((hx.alloc (.cells #[.int .i64 ka, .slice P1 sa.length p1, .slice P2 aa.length p2, .int .i64 ua, .int .i64 va, .bool ga] 25)).alloc (.cells #[.int .i64 kb, .slice Q1 sb.length q1, .slice Q2 ab.length q2, .int .i64 ub, .int .i64 vb, .bool gb] 25))
  have hz5 : w5.heap.size + 2 = (((w5.alloc (.cells #[.int .i64 ka, .slice P1 sa.length p1, .slice P2 aa.length p2, .int .i64 ua, .int .i64 va, .bool ga] 25)).alloc (.cells #[.int .i64 kb, .slice Q1 sb.length q1, .slice Q2 ab.length q2, .int .i64 ub, .int .i64 vb, .bool gb] 25))).heap.size := by simp
  generalize ((w5.alloc (.cells #[.int .i64 ka, .slice P1 sa.length p1, .slice P2 aa.length p2, .int .i64 ua, .int .i64 va, .bool ga] 25)).alloc (.cells #[.int .i64 kb, .slice Q1 sb.length q1, .slice Q2 ab.length q2, .int .i64 ub, .int .i64 vb, .bool gb] 25)) = W5 at *
  have hH5 : ∀ b o, w5.heap.size ≤ b → H5 b o = none := hN5
  obtain ⟨H1, hx2, hle, hB, holdax⟩ := box_freeze hx (show w.heap.size ≤ _ by omega) kz.1 (fun o => by exact hH5 _ o (by omega))
  replace hx := hx2
  clear hx2
  replace Ra := Aside.mk (Ra.out.mono hle)
  replace Rb := Aside.mk (Rb.out.mono hle)
  replace HT := Aside.mk (HT.out.mono hle)
  have Bax := Aside.mk hB
  clear hB hle
  obtain ⟨H1, hx2, hle, hB, holdbx⟩ := box_freeze hx (show w.heap.size ≤ _ by omega) kz.2 (fun o => by rw [holdax _ _ (by omega)]; exact hH5 _ o (by omega))
  replace hx := hx2
  clear hx2
  replace Ra := Aside.mk (Ra.out.mono hle)
  replace Rb := Aside.mk (Rb.out.mono hle)
  replace Bax := Aside.mk (Bax.out.mono hle)
  replace HT := Aside.mk (HT.out.mono hle)
  have Bbx := Aside.mk hB
  clear hB hle
  have La : (pre (Re.mk ka sa aa ua va ga)).length < 32 := hma.out.2.2
  have Lb : (pre (Re.mk kb sb ab ub vb gb)).length < 32 := hmb.out.2.2
  have hW5 := hx.sat.lt (Bbx.out 0 _ rfl)
  have Za := fun w' (hs : Sat w' _) => size_any _ _ _ w' Ra.out hs (by omega)
  have Zb := fun w' (hs : Sat w' _) => size_any _ _ _ w' Rb.out hs (by omega)
  generalize hla : (pre (Re.mk ka sa aa ua va ga)).length = la at *
  generalize hlb : (pre (Re.mk kb sb ab ub vb gb)).length = lb at *
  have HS := Aside.mk (fun w' (hb : Below W5.heap.size W5 w') => hx.sat.below hb)
  have HK : Aside (∀ w', Below W5.heap.size W5 w' → w'.cell? ⟨w5.heap.size, 0, none⟩ = some (.int .i64 ka) ∧ w'.cell? ⟨w5.heap.size, 1, none⟩ = some (.slice P1 sa.length p1) ∧ w'.cell? ⟨w5.heap.size, 2, none⟩ = some (.slice P2 aa.length p2) ∧ w'.cell? ⟨w5.heap.size, 3, none⟩ = some (.int .i64 ua) ∧ w'.cell? ⟨w5.heap.size, 4, none⟩ = some (.int .i64 va) ∧ w'.cell? ⟨w5.heap.size, 5, none⟩ = some (.bool ga) ∧ w'.cell? ⟨w5.heap.size + 1, 0, none⟩ = some (.int .i64 kb) ∧ w'.cell? ⟨w5.heap.size + 1, 1, none⟩ = some (.slice Q1 sb.length q1) ∧ w'.cell? ⟨w5.heap.size + 1, 2, none⟩ = some (.slice Q2 ab.length q2) ∧ w'.cell? ⟨w5.heap.size + 1, 3, none⟩ = some (.int .i64 ub) ∧ w'.cell? ⟨w5.heap.size + 1, 4, none⟩ = some (.int .i64 vb) ∧ w'.cell? ⟨w5.heap.size + 1, 5, none⟩ = some (.bool gb)) := ⟨fun w' hb => by
    have qa := at6 (HS.out _ hb) Bax.out
    have qb := at6 (HS.out _ hb) Bbx.out
    simp only [Nat.add_zero, Nat.zero_add] at qa qb
    simp only [qa, qb, and_self]⟩
  replace Za := Aside.mk Za
  replace Zb := Aside.mk Zb
  replace hla := Aside.mk hla
  replace hlb := Aside.mk hlb
  have hsumlb : IntKind.i64.wrap ((la : Int) + (lb : Int)) = (la : Int) + (lb : Int) := by rw [IntWalk.i64_in _ (by omega)]
  replace hx := Aside.mk hx
  go_region_held3 (fun w' => w'.cell? ⟨w5.heap.size, 0, none⟩ = some (.int .i64 ka) ∧ w'.cell? ⟨w5.heap.size, 1, none⟩ = some (.slice P1 sa.length p1) ∧ w'.cell? ⟨w5.heap.size, 2, none⟩ = some (.slice P2 aa.length p2) ∧ w'.cell? ⟨w5.heap.size, 3, none⟩ = some (.int .i64 ua) ∧ w'.cell? ⟨w5.heap.size, 4, none⟩ = some (.int .i64 va) ∧ w'.cell? ⟨w5.heap.size, 5, none⟩ = some (.bool ga) ∧ w'.cell? ⟨w5.heap.size + 1, 0, none⟩ = some (.int .i64 kb) ∧ w'.cell? ⟨w5.heap.size + 1, 1, none⟩ = some (.slice Q1 sb.length q1) ∧ w'.cell? ⟨w5.heap.size + 1, 2, none⟩ = some (.slice Q2 ab.length q2) ∧ w'.cell? ⟨w5.heap.size + 1, 3, none⟩ = some (.int .i64 ub) ∧ w'.cell? ⟨w5.heap.size + 1, 4, none⟩ = some (.int .i64 vb) ∧ w'.cell? ⟨w5.heap.size + 1, 5, none⟩ = some (.bool gb))
    (first | exact HK.out _ (Below.refl _ _) | exact HK.out _ (Below.refl _ _).drew | exact HK.out _ (bT (Below.refl _ _).drew hb7a) | exact HK.out _ (bT (bT (Below.refl _ _).drew hb7a) hb7b))
    ((first | (go_at_call 26; with_reducible refine (Za.out _ (HS.out _ (Below.refl _ _).drew)).mono ?_; rintro e w7a ⟨rfl, hb7a⟩) | (go_at_call 26; with_reducible refine (Zb.out _ (HS.out _ (bT (Below.refl _ _).drew hb7a))).mono ?_; rintro e w7b ⟨rfl, hb7b⟩)))
  replace hx := hx.out
  have hb75 : Below W5.heap.size W5 w7b := (bT (bT (Below.refl _ _).drew hb7a) hb7b)
  have hbz : Below W5.heap.size W5 w7b := (bT (bT (Below.refl _ _).drew hb7a) hb7b)
  replace hx := hx.then_below hbz
  clear hsumlb HK HS hbz hW5 Za hb7a Zb hb7b
  by_cases hbig : (18 : Int) < (la : Int) + (lb : Int)
  · go_wp2_with fail
    go_ret
    exact ⟨rfl, hx.below⟩
  · have hsz : (pre (Re.mk ka sa aa ua va ga)).length + (pre (Re.mk kb sb ab ub vb gb)).length ≤ 18 := by rw [hla.out, hlb.out]; omega
    replace hsz := Aside.mk hsz
    replace hma := Aside.mk hma.out.1
    replace hmb := Aside.mk hmb.out.1
    clear hla hlb hs hwb hz5
    have ka8 := box_below kz.1 hb75
    have kb8 := box_below kz.2 hb75
    clear hb75
    replace hx := Aside.mk hx
    replace ka8 := Aside.mk ka8
    replace kb8 := Aside.mk kb8
    go_wp2_with fail
    replace hx := hx.out
    replace ka8 := ka8.out
    replace kb8 := kb8.out
    have hs8 := hx.sat
    refine region_ok (w0 := _) (H0 := _) ((7, .val (.pointer (some ⟨w5.heap.size, 0, none⟩))) :: (8, .val (.pointer (some ⟨(w5.heap.size + 1), 0, none⟩))) :: (9, .txt (t)) :: (10, .val (.func (.func 29) #[] #[])) :: (11, .val (.func (.func 30) #[] #[])) :: (26, .val (.func (.func 29) #[] #[])) :: (27, .re (Re.mk ka sa aa ua va ga)) :: (28, .re (Re.mk kb sb ab ub vb gb)) :: (29, .sl [Re.mk ka sa aa ua va ga, Re.mk kb sb ab ub vb gb]) :: (30, .re (Re.mk 7 [] [Re.mk ka sa aa ua va ga, Re.mk kb sb ab ub vb gb] 0 0 false)) :: (31, .re (Re.mk 8 [] [Re.mk 7 [] [Re.mk ka sa aa ua va ga, Re.mk kb sb ab ub vb gb] 0 0 false] 0 0 false)) :: (32, .val (.func (.func 29) #[] #[])) :: (33, .re (Re.mk ka sa aa ua va ga)) :: (34, .re (Re.mk 8 [] [Re.mk ka sa aa ua va ga] 0 0 false)) :: (35, .val (.func (.func 29) #[] #[])) :: (36, .re (Re.mk kb sb ab ub vb gb)) :: (37, .re (Re.mk 8 [] [Re.mk kb sb ab ub vb gb] 0 0 false)) :: (38, .sl [Re.mk 8 [] [Re.mk ka sa aa ua va ga] 0 0 false, Re.mk 8 [] [Re.mk kb sb ab ub vb gb] 0 0 false]) :: (39, .re (Re.mk 4 [] [Re.mk 8 [] [Re.mk ka sa aa ua va ga] 0 0 false, Re.mk 8 [] [Re.mk kb sb ab ub vb gb] 0 0 false] 0 0 false)) :: (40, .txt (t)) :: (41, .val (.bool true)) :: (42, .val (.bool true)) :: (43, .val (.func (.func 29) #[] #[])) :: (44, .val (.func (.func 29) #[] #[])) :: (45, .re (Re.mk ka sa aa ua va ga)) :: (46, .re (Re.mk 8 [] [Re.mk ka sa aa ua va ga] 0 0 false)) :: (47, .re (Re.mk 8 [] [Re.mk 8 [] [Re.mk ka sa aa ua va ga] 0 0 false] 0 0 false)) :: (48, .re (Re.mk ka sa aa ua va ga)) :: (49, .txt (t)) :: (50, .val (.bool true)) :: (51, .val (.bool true)) :: (52, .val (.bool true)) :: (53, .re (Re.mk ka sa aa ua va ga)) :: (54, .val (.func (.func 29) #[] #[])) :: (55, .re (Re.mk ka sa aa ua va ga)) :: (56, .re (Re.mk 8 [] [Re.mk ka sa aa ua va ga] 0 0 false)) :: (57, .sl [Re.mk ka sa aa ua va ga, Re.mk 8 [] [Re.mk ka sa aa ua va ga] 0 0 false]) :: (58, .re (Re.mk 7 [] [Re.mk ka sa aa ua va ga, Re.mk 8 [] [Re.mk ka sa aa ua va ga] 0 0 false] 0 0 false)) :: (59, .re (Re.mk 0 [] [] 0 0 false)) :: (60, .txt (t)) :: (61, .val (.bool true)) :: (62, .val (.bool true)) :: (63, .val (.bool true)) :: (64, .re (Re.mk ka sa aa ua va ga)) :: (65, .re (Re.mk ka sa aa ua va ga)) :: (66, .re (Re.mk kb sb ab ub vb gb)) :: (67, .sl [Re.mk ka sa aa ua va ga, Re.mk kb sb ab ub vb gb]) :: (68, .re (Re.mk 4 [] [Re.mk ka sa aa ua va ga, Re.mk kb sb ab ub vb gb] 0 0 false)) :: (69, .sl [Re.mk ka sa aa ua va ga, Re.mk 4 [] [Re.mk ka sa aa ua va ga, Re.mk kb sb ab ub vb gb] 0 0 false]) :: (70, .re (Re.mk 7 [] [Re.mk ka sa aa ua va ga, Re.mk 4 [] [Re.mk ka sa aa ua va ga, Re.mk kb sb ab ub vb gb] 0 0 false] 0 0 false)) :: (71, .re (Re.mk ka sa aa ua va ga)) :: (72, .txt (t)) :: (73, .val (.bool true)) :: (74, .val (.bool true)) :: (75, .val (.bool true)) :: (76, .val (.func (.func 30) #[] #[])) :: (77, .val (.func (.func 30) #[] #[])) :: (78, .re (Re.mk ka sa aa ua va ga)) :: (79, .re (Re.mk 10 [] [Re.mk ka sa aa ua va ga] 0 0 true)) :: (80, .re (Re.mk 10 [] [Re.mk 10 [] [Re.mk ka sa aa ua va ga] 0 0 true] 0 0 true)) :: (81, .val (.func (.func 30) #[] #[])) :: (82, .re (Re.mk ka sa aa ua va ga)) :: (83, .re (Re.mk 10 [] [Re.mk ka sa aa ua va ga] 0 0 false)) :: (84, .txt (t)) :: (85, .val (.bool true)) :: (86, .val (.bool true)) :: (87, .val (.bool true)) :: (88, .val (.func (.func 30) #[] #[])) :: (89, .re (Re.mk ka sa aa ua va ga)) :: (90, .re (Re.mk 10 [] [Re.mk ka sa aa ua va ga] 0 0 false)) :: (91, .val (.func (.func 30) #[] #[])) :: (92, .re (Re.mk ka sa aa ua va ga)) :: (93, .re (Re.mk 10 [] [Re.mk ka sa aa ua va ga] 0 0 true)) :: (94, .sl [Re.mk 10 [] [Re.mk ka sa aa ua va ga] 0 0 false, Re.mk 10 [] [Re.mk ka sa aa ua va ga] 0 0 true]) :: (95, .re (Re.mk 4 [] [Re.mk 10 [] [Re.mk ka sa aa ua va ga] 0 0 false, Re.mk 10 [] [Re.mk ka sa aa ua va ga] 0 0 true] 0 0 false)) :: (96, .re (Re.mk 1 [] [] 0 0 false)) :: (97, .txt (t)) :: (98, .val (.bool true)) :: (99, .val (.bool true)) :: (6, .val (.bool true)) :: []) [7, 8, 9, 10, 11] (by kernel_rfl) (by kernel_rfl) (by kernel_rfl) hs8 ?_ ?_ ?_
    · intro d hd
      simp only [List.mem_cons, List.not_mem_nil, or_false] at hd
      rcases hd with rfl | rfl | rfl | rfl | rfl
      · rfl
      · rfl
      · exact ⟨_, _, _, rfl, HT.out⟩
      · rfl
      · rfl
    · refine .cons (ok_move rfl (.tmp 10) (Or.inl rfl) (Or.inl rfl) (OS.tmp 10 (by kernel_rfl) rfl) hs8) ?_
      refine .cons (ok_load rfl (.tmp 7) rfl (Or.inl rfl) w5.heap.size (OS.tmp 7 (by kernel_rfl) rfl) _ rfl _ ka8 Ra.out) ?_
      refine .cons (ok_load rfl (.tmp 8) rfl (Or.inl rfl) (w5.heap.size + 1) (OS.tmp 8 (by kernel_rfl) rfl) _ rfl _ kb8 Rb.out) ?_
      refine .cons (ok_bs2 rfl (.tmp 27) (.tmp 28) rfl (Or.inl rfl) _ _ (OS.tmp 27 (by kernel_rfl) rfl) (OS.tmp 28 (by kernel_rfl) rfl) rfl) ?_
      refine .cons (ok_re rfl rfl (Or.inl rfl) rfl (.const (.int .i64 7)) (.tmp 29) rfl 7 _ (OS.const (.int .i64 7)) (OS.tmp 29 (by kernel_rfl) rfl) rfl) ?_
      refine .cons (ok_not rfl rfl (Or.inl rfl) (.tmp 26) rfl (OS.tmp 26 (by kernel_rfl) rfl) (.tmp 30) rfl _ (OS.tmp 30 (by kernel_rfl) rfl) rfl) ?_
      refine .cons (ok_move rfl (.tmp 10) (Or.inl rfl) (Or.inl rfl) (OS.tmp 10 (by kernel_rfl) rfl) hs8) ?_
      refine .cons (ok_load rfl (.tmp 7) rfl (Or.inl rfl) w5.heap.size (OS.tmp 7 (by kernel_rfl) rfl) _ rfl _ ka8 Ra.out) ?_
      refine .cons (ok_not rfl rfl (Or.inl rfl) (.tmp 32) rfl (OS.tmp 32 (by kernel_rfl) rfl) (.tmp 33) rfl _ (OS.tmp 33 (by kernel_rfl) rfl) rfl) ?_
      refine .cons (ok_move rfl (.tmp 10) (Or.inl rfl) (Or.inl rfl) (OS.tmp 10 (by kernel_rfl) rfl) hs8) ?_
      refine .cons (ok_load rfl (.tmp 8) rfl (Or.inl rfl) (w5.heap.size + 1) (OS.tmp 8 (by kernel_rfl) rfl) _ rfl _ kb8 Rb.out) ?_
      refine .cons (ok_not rfl rfl (Or.inl rfl) (.tmp 35) rfl (OS.tmp 35 (by kernel_rfl) rfl) (.tmp 36) rfl _ (OS.tmp 36 (by kernel_rfl) rfl) rfl) ?_
      refine .cons (ok_bs2 rfl (.tmp 34) (.tmp 37) rfl (Or.inl rfl) _ _ (OS.tmp 34 (by kernel_rfl) rfl) (OS.tmp 37 (by kernel_rfl) rfl) rfl) ?_
      refine .cons (ok_re rfl rfl (Or.inl rfl) rfl (.const (.int .i64 4)) (.tmp 38) rfl 4 _ (OS.const (.int .i64 4)) (OS.tmp 38 (by kernel_rfl) rfl) rfl) ?_
      refine .cons (ok_move rfl (.tmp 9) (Or.inl rfl) (Or.inl rfl) (OS.tmp 9 (by kernel_rfl) rfl) hs8) ?_
      refine .cons (ok_same rfl rfl (Or.inl rfl) rfl (.tmp 31) (.tmp 39) (.tmp 40) rfl _ _ _ (OS.tmp 31 (by kernel_rfl) rfl) (OS.tmp 39 (by kernel_rfl) rfl) (OS.tmp 40 (by kernel_rfl) rfl) rfl (boole1 hrt.out hma.out hmb.out hsz.out)) ?_
      refine .cons (ok_move rfl (.tmp 41) (Or.inl rfl) (Or.inl rfl) (OS.tmp 41 (by kernel_rfl) rfl) hs8) ?_
      refine .cons (ok_move rfl (.tmp 10) (Or.inl rfl) (Or.inr ⟨16, 42, rfl, by kernel_rfl, by kernel_rfl, rfl⟩) (OS.tmp 10 (by kernel_rfl) rfl) hs8) ?_
      refine .cons (ok_move rfl (.tmp 10) (Or.inl rfl) (Or.inr ⟨16, 42, rfl, by kernel_rfl, by kernel_rfl, rfl⟩) (OS.tmp 10 (by kernel_rfl) rfl) hs8) ?_
      refine .cons (ok_load rfl (.tmp 7) rfl (Or.inr ⟨16, 42, rfl, by kernel_rfl, by kernel_rfl, rfl⟩) w5.heap.size (OS.tmp 7 (by kernel_rfl) rfl) _ rfl _ ka8 Ra.out) ?_
      refine .cons (ok_not rfl rfl (Or.inr ⟨16, 42, rfl, by kernel_rfl, by kernel_rfl, rfl⟩) (.tmp 44) rfl (OS.tmp 44 (by kernel_rfl) rfl) (.tmp 45) rfl _ (OS.tmp 45 (by kernel_rfl) rfl) rfl) ?_
      refine .cons (ok_not rfl rfl (Or.inr ⟨16, 42, rfl, by kernel_rfl, by kernel_rfl, rfl⟩) (.tmp 43) rfl (OS.tmp 43 (by kernel_rfl) rfl) (.tmp 46) rfl _ (OS.tmp 46 (by kernel_rfl) rfl) rfl) ?_
      refine .cons (ok_load rfl (.tmp 7) rfl (Or.inr ⟨16, 42, rfl, by kernel_rfl, by kernel_rfl, rfl⟩) w5.heap.size (OS.tmp 7 (by kernel_rfl) rfl) _ rfl _ ka8 Ra.out) ?_
      refine .cons (ok_move rfl (.tmp 9) (Or.inl rfl) (Or.inr ⟨16, 42, rfl, by kernel_rfl, by kernel_rfl, rfl⟩) (OS.tmp 9 (by kernel_rfl) rfl) hs8) ?_
      refine .cons (ok_same rfl rfl (Or.inr ⟨16, 42, rfl, by kernel_rfl, by kernel_rfl, rfl⟩) rfl (.tmp 47) (.tmp 48) (.tmp 49) rfl _ _ _ (OS.tmp 47 (by kernel_rfl) rfl) (OS.tmp 48 (by kernel_rfl) rfl) (OS.tmp 49 (by kernel_rfl) rfl) rfl (boole2 hrt.out hma.out hmb.out hsz.out)) ?_
      refine .cons (ok_pick rfl (.tmp 42) (.tmp 50) (.const (.bool false)) rfl (Or.inl rfl) (OS.tmp 42 (by kernel_rfl) rfl) (OS.tmp 50 (by kernel_rfl) rfl)) ?_
      refine .cons (ok_move rfl (.tmp 51) (Or.inl rfl) (Or.inl rfl) (OS.tmp 51 (by kernel_rfl) rfl) hs8) ?_
      refine .cons (ok_load rfl (.tmp 7) rfl (Or.inr ⟨26, 52, rfl, by kernel_rfl, by kernel_rfl, rfl⟩) w5.heap.size (OS.tmp 7 (by kernel_rfl) rfl) _ rfl _ ka8 Ra.out) ?_
      refine .cons (ok_move rfl (.tmp 10) (Or.inl rfl) (Or.inr ⟨26, 52, rfl, by kernel_rfl, by kernel_rfl, rfl⟩) (OS.tmp 10 (by kernel_rfl) rfl) hs8) ?_
      refine .cons (ok_load rfl (.tmp 7) rfl (Or.inr ⟨26, 52, rfl, by kernel_rfl, by kernel_rfl, rfl⟩) w5.heap.size (OS.tmp 7 (by kernel_rfl) rfl) _ rfl _ ka8 Ra.out) ?_
      refine .cons (ok_not rfl rfl (Or.inr ⟨26, 52, rfl, by kernel_rfl, by kernel_rfl, rfl⟩) (.tmp 54) rfl (OS.tmp 54 (by kernel_rfl) rfl) (.tmp 55) rfl _ (OS.tmp 55 (by kernel_rfl) rfl) rfl) ?_
      refine .cons (ok_bs2 rfl (.tmp 53) (.tmp 56) rfl (Or.inr ⟨26, 52, rfl, by kernel_rfl, by kernel_rfl, rfl⟩) _ _ (OS.tmp 53 (by kernel_rfl) rfl) (OS.tmp 56 (by kernel_rfl) rfl) rfl) ?_
      refine .cons (ok_re rfl rfl (Or.inr ⟨26, 52, rfl, by kernel_rfl, by kernel_rfl, rfl⟩) rfl (.const (.int .i64 7)) (.tmp 57) rfl 7 _ (OS.const (.int .i64 7)) (OS.tmp 57 (by kernel_rfl) rfl) rfl) ?_
      refine .cons (ok_zero rfl rfl (Or.inr ⟨26, 52, rfl, by kernel_rfl, by kernel_rfl, rfl⟩) rfl) ?_
      refine .cons (ok_move rfl (.tmp 9) (Or.inl rfl) (Or.inr ⟨26, 52, rfl, by kernel_rfl, by kernel_rfl, rfl⟩) (OS.tmp 9 (by kernel_rfl) rfl) hs8) ?_
      refine .cons (ok_same rfl rfl (Or.inr ⟨26, 52, rfl, by kernel_rfl, by kernel_rfl, rfl⟩) rfl (.tmp 58) (.tmp 59) (.tmp 60) rfl _ _ _ (OS.tmp 58 (by kernel_rfl) rfl) (OS.tmp 59 (by kernel_rfl) rfl) (OS.tmp 60 (by kernel_rfl) rfl) rfl (boole3 hrt.out hma.out hmb.out hsz.out)) ?_
      refine .cons (ok_pick rfl (.tmp 52) (.tmp 61) (.const (.bool false)) rfl (Or.inl rfl) (OS.tmp 52 (by kernel_rfl) rfl) (OS.tmp 61 (by kernel_rfl) rfl)) ?_
      refine .cons (ok_move rfl (.tmp 62) (Or.inl rfl) (Or.inl rfl) (OS.tmp 62 (by kernel_rfl) rfl) hs8) ?_
      refine .cons (ok_load rfl (.tmp 7) rfl (Or.inr ⟨37, 63, rfl, by kernel_rfl, by kernel_rfl, rfl⟩) w5.heap.size (OS.tmp 7 (by kernel_rfl) rfl) _ rfl _ ka8 Ra.out) ?_
      refine .cons (ok_load rfl (.tmp 7) rfl (Or.inr ⟨37, 63, rfl, by kernel_rfl, by kernel_rfl, rfl⟩) w5.heap.size (OS.tmp 7 (by kernel_rfl) rfl) _ rfl _ ka8 Ra.out) ?_
      refine .cons (ok_load rfl (.tmp 8) rfl (Or.inr ⟨37, 63, rfl, by kernel_rfl, by kernel_rfl, rfl⟩) (w5.heap.size + 1) (OS.tmp 8 (by kernel_rfl) rfl) _ rfl _ kb8 Rb.out) ?_
      refine .cons (ok_bs2 rfl (.tmp 65) (.tmp 66) rfl (Or.inr ⟨37, 63, rfl, by kernel_rfl, by kernel_rfl, rfl⟩) _ _ (OS.tmp 65 (by kernel_rfl) rfl) (OS.tmp 66 (by kernel_rfl) rfl) rfl) ?_
      refine .cons (ok_re rfl rfl (Or.inr ⟨37, 63, rfl, by kernel_rfl, by kernel_rfl, rfl⟩) rfl (.const (.int .i64 4)) (.tmp 67) rfl 4 _ (OS.const (.int .i64 4)) (OS.tmp 67 (by kernel_rfl) rfl) rfl) ?_
      refine .cons (ok_bs2 rfl (.tmp 64) (.tmp 68) rfl (Or.inr ⟨37, 63, rfl, by kernel_rfl, by kernel_rfl, rfl⟩) _ _ (OS.tmp 64 (by kernel_rfl) rfl) (OS.tmp 68 (by kernel_rfl) rfl) rfl) ?_
      refine .cons (ok_re rfl rfl (Or.inr ⟨37, 63, rfl, by kernel_rfl, by kernel_rfl, rfl⟩) rfl (.const (.int .i64 7)) (.tmp 69) rfl 7 _ (OS.const (.int .i64 7)) (OS.tmp 69 (by kernel_rfl) rfl) rfl) ?_
      refine .cons (ok_load rfl (.tmp 7) rfl (Or.inr ⟨37, 63, rfl, by kernel_rfl, by kernel_rfl, rfl⟩) w5.heap.size (OS.tmp 7 (by kernel_rfl) rfl) _ rfl _ ka8 Ra.out) ?_
      refine .cons (ok_move rfl (.tmp 9) (Or.inl rfl) (Or.inr ⟨37, 63, rfl, by kernel_rfl, by kernel_rfl, rfl⟩) (OS.tmp 9 (by kernel_rfl) rfl) hs8) ?_
      refine .cons (ok_same rfl rfl (Or.inr ⟨37, 63, rfl, by kernel_rfl, by kernel_rfl, rfl⟩) rfl (.tmp 70) (.tmp 71) (.tmp 72) rfl _ _ _ (OS.tmp 70 (by kernel_rfl) rfl) (OS.tmp 71 (by kernel_rfl) rfl) (OS.tmp 72 (by kernel_rfl) rfl) rfl (boole4 hrt.out hma.out hmb.out hsz.out)) ?_
      refine .cons (ok_pick rfl (.tmp 63) (.tmp 73) (.const (.bool false)) rfl (Or.inl rfl) (OS.tmp 63 (by kernel_rfl) rfl) (OS.tmp 73 (by kernel_rfl) rfl)) ?_
      refine .cons (ok_move rfl (.tmp 74) (Or.inl rfl) (Or.inl rfl) (OS.tmp 74 (by kernel_rfl) rfl) hs8) ?_
      refine .cons (ok_move rfl (.tmp 11) (Or.inl rfl) (Or.inr ⟨49, 75, rfl, by kernel_rfl, by kernel_rfl, rfl⟩) (OS.tmp 11 (by kernel_rfl) rfl) hs8) ?_
      refine .cons (ok_move rfl (.tmp 11) (Or.inl rfl) (Or.inr ⟨49, 75, rfl, by kernel_rfl, by kernel_rfl, rfl⟩) (OS.tmp 11 (by kernel_rfl) rfl) hs8) ?_
      refine .cons (ok_load rfl (.tmp 7) rfl (Or.inr ⟨49, 75, rfl, by kernel_rfl, by kernel_rfl, rfl⟩) w5.heap.size (OS.tmp 7 (by kernel_rfl) rfl) _ rfl _ ka8 Ra.out) ?_
      refine .cons (ok_look rfl rfl (Or.inr ⟨49, 75, rfl, by kernel_rfl, by kernel_rfl, rfl⟩) (.tmp 77) rfl (OS.tmp 77 (by kernel_rfl) rfl) (.tmp 78) (.const (.bool true)) rfl _ _ (OS.tmp 78 (by kernel_rfl) rfl) (OS.const (.bool true)) rfl) ?_
      refine .cons (ok_look rfl rfl (Or.inr ⟨49, 75, rfl, by kernel_rfl, by kernel_rfl, rfl⟩) (.tmp 76) rfl (OS.tmp 76 (by kernel_rfl) rfl) (.tmp 79) (.const (.bool true)) rfl _ _ (OS.tmp 79 (by kernel_rfl) rfl) (OS.const (.bool true)) rfl) ?_
      refine .cons (ok_move rfl (.tmp 11) (Or.inl rfl) (Or.inr ⟨49, 75, rfl, by kernel_rfl, by kernel_rfl, rfl⟩) (OS.tmp 11 (by kernel_rfl) rfl) hs8) ?_
      refine .cons (ok_load rfl (.tmp 7) rfl (Or.inr ⟨49, 75, rfl, by kernel_rfl, by kernel_rfl, rfl⟩) w5.heap.size (OS.tmp 7 (by kernel_rfl) rfl) _ rfl _ ka8 Ra.out) ?_
      refine .cons (ok_look rfl rfl (Or.inr ⟨49, 75, rfl, by kernel_rfl, by kernel_rfl, rfl⟩) (.tmp 81) rfl (OS.tmp 81 (by kernel_rfl) rfl) (.tmp 82) (.const (.bool false)) rfl _ _ (OS.tmp 82 (by kernel_rfl) rfl) (OS.const (.bool false)) rfl) ?_
      refine .cons (ok_move rfl (.tmp 9) (Or.inl rfl) (Or.inr ⟨49, 75, rfl, by kernel_rfl, by kernel_rfl, rfl⟩) (OS.tmp 9 (by kernel_rfl) rfl) hs8) ?_
      refine .cons (ok_same rfl rfl (Or.inr ⟨49, 75, rfl, by kernel_rfl, by kernel_rfl, rfl⟩) rfl (.tmp 80) (.tmp 83) (.tmp 84) rfl _ _ _ (OS.tmp 80 (by kernel_rfl) rfl) (OS.tmp 83 (by kernel_rfl) rfl) (OS.tmp 84 (by kernel_rfl) rfl) rfl (boole5 hrt.out hma.out hmb.out hsz.out)) ?_
      refine .cons (ok_pick rfl (.tmp 75) (.tmp 85) (.const (.bool false)) rfl (Or.inl rfl) (OS.tmp 75 (by kernel_rfl) rfl) (OS.tmp 85 (by kernel_rfl) rfl)) ?_
      refine .cons (ok_move rfl (.tmp 86) (Or.inl rfl) (Or.inl rfl) (OS.tmp 86 (by kernel_rfl) rfl) hs8) ?_
      refine .cons (ok_move rfl (.tmp 11) (Or.inl rfl) (Or.inr ⟨61, 87, rfl, by kernel_rfl, by kernel_rfl, rfl⟩) (OS.tmp 11 (by kernel_rfl) rfl) hs8) ?_
      refine .cons (ok_load rfl (.tmp 7) rfl (Or.inr ⟨61, 87, rfl, by kernel_rfl, by kernel_rfl, rfl⟩) w5.heap.size (OS.tmp 7 (by kernel_rfl) rfl) _ rfl _ ka8 Ra.out) ?_
      refine .cons (ok_look rfl rfl (Or.inr ⟨61, 87, rfl, by kernel_rfl, by kernel_rfl, rfl⟩) (.tmp 88) rfl (OS.tmp 88 (by kernel_rfl) rfl) (.tmp 89) (.const (.bool false)) rfl _ _ (OS.tmp 89 (by kernel_rfl) rfl) (OS.const (.bool false)) rfl) ?_
      refine .cons (ok_move rfl (.tmp 11) (Or.inl rfl) (Or.inr ⟨61, 87, rfl, by kernel_rfl, by kernel_rfl, rfl⟩) (OS.tmp 11 (by kernel_rfl) rfl) hs8) ?_
      refine .cons (ok_load rfl (.tmp 7) rfl (Or.inr ⟨61, 87, rfl, by kernel_rfl, by kernel_rfl, rfl⟩) w5.heap.size (OS.tmp 7 (by kernel_rfl) rfl) _ rfl _ ka8 Ra.out) ?_
      refine .cons (ok_look rfl rfl (Or.inr ⟨61, 87, rfl, by kernel_rfl, by kernel_rfl, rfl⟩) (.tmp 91) rfl (OS.tmp 91 (by kernel_rfl) rfl) (.tmp 92) (.const (.bool true)) rfl _ _ (OS.tmp 92 (by kernel_rfl) rfl) (OS.const (.bool true)) rfl) ?_
      refine .cons (ok_bs2 rfl (.tmp 90) (.tmp 93) rfl (Or.inr ⟨61, 87, rfl, by kernel_rfl, by kernel_rfl, rfl⟩) _ _ (OS.tmp 90 (by kernel_rfl) rfl) (OS.tmp 93 (by kernel_rfl) rfl) rfl) ?_
      refine .cons (ok_re rfl rfl (Or.inr ⟨61, 87, rfl, by kernel_rfl, by kernel_rfl, rfl⟩) rfl (.const (.int .i64 4)) (.tmp 94) rfl 4 _ (OS.const (.int .i64 4)) (OS.tmp 94 (by kernel_rfl) rfl) rfl) ?_
      refine .cons (ok_re rfl rfl (Or.inr ⟨61, 87, rfl, by kernel_rfl, by kernel_rfl, rfl⟩) rfl (.const (.int .i64 1)) (.const (.slice none 0 0)) rfl 1 _ (OS.const (.int .i64 1)) (OS.nilS) rfl) ?_
      refine .cons (ok_move rfl (.tmp 9) (Or.inl rfl) (Or.inr ⟨61, 87, rfl, by kernel_rfl, by kernel_rfl, rfl⟩) (OS.tmp 9 (by kernel_rfl) rfl) hs8) ?_
      refine .cons (ok_same rfl rfl (Or.inr ⟨61, 87, rfl, by kernel_rfl, by kernel_rfl, rfl⟩) rfl (.tmp 95) (.tmp 96) (.tmp 97) rfl _ _ _ (OS.tmp 95 (by kernel_rfl) rfl) (OS.tmp 96 (by kernel_rfl) rfl) (OS.tmp 97 (by kernel_rfl) rfl) rfl (boole6 hrt.out hma.out hmb.out hsz.out)) ?_
      refine .cons (ok_pick rfl (.tmp 87) (.tmp 98) (.const (.bool false)) rfl (Or.inl rfl) (OS.tmp 87 (by kernel_rfl) rfl) (OS.tmp 98 (by kernel_rfl) rfl)) ?_
      refine .cons (ok_move rfl (.tmp 99) (Or.inr rfl) (Or.inl rfl) (OS.tmp 99 (by kernel_rfl) rfl) hs8) ?_
      exact .nil
    · intro a w9 H9 hx9 hdf hts hold hnew
      have e9 : a.eval (.tmp 6) = .bool true := hnew 6 (by kernel_rfl)
      refine reg_end (fn := Try.f5) rfl hdf e9 ?_ rfl ?_
      · assumption
      · exact ⟨rfl, (hx.trans hx9).below⟩
end Go.Proofs.Ytbnahmeaeakhhaa.B
