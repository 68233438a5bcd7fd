/- Contract: slices.symMergeCmpFunc over ints, where one side is a single element. -/
import Derived.Test.YtbnahmeaeakhhaaS5
namespace Go.Proofs.Ytbnahmeaeakhhaa.B
set_option linter.unusedVariables false
set_option linter.unusedSimpArgs false
open Go Go.RowKit Go.Proofs.Ytbnahmeaeakhhaa.S

structure SymIn (K : Int → Int) (n0 pd : Nat) (T : TypeId) (base : Nat) (H : PH) (pre L M post : List Int) (g len c : Nat) (w : World) (a m b : Nat) : Prop where
  cmp : CmpOk K n0 pd H
  sat : Sat w H
  sL : Srt K L
  sM : Srt K M
  lt : ∀ x ∈ L, ∀ y ∈ M, x < y
  dL : InD n0 L
  dM : InD n0 M
  ea : a = pre.length
  em : m = pre.length + L.length
  eb : b = pre.length + L.length + M.length
  nL : 0 < L.length
  nM : 0 < M.length
  hlen : len = pre.length + L.length + M.length + post.length
  hm : len ≤ 4000
  hc : c ≤ maxLen
  hlc : len ≤ c
  own : OwnI T w base H g len c (pre ++ (L ++ (M ++ post)))
def SymPost (K : Int → Int) (T : TypeId) (base : Nat) (H : PH) (pre L M post : List Int) (g len c : Nat) (w : World) (r : Ending) (w' : World) : Prop :=
  r = .returned (.tuple #[]) ∧ ∃ N, N.Perm (L ++ M) ∧ Srt K N ∧ OwnI T w' base H g len c (pre ++ (N ++ post)) ∧ w.grownBy w' (some g)
theorem SymIn.none {K : Int → Int} {n0 pd : Nat} {T : TypeId} {base : Nat} {H : PH} {pre L M post : List Int} {g len c : Nat} {w : World} {a m b : Nat} (h : SymIn K n0 pd T base H pre L M post g len c w a m b) : ∀ o, H g o = none := fun o => (Own.blk h.own (b := g) rfl).2.2 o
theorem at_L (pre L M post : List Int) (k : Nat) (h : k < L.length) : at0 (pre ++ (L ++ (M ++ post))) (pre.length + k) = at0 L k := by rw [at0_app, at0_left _ _ _ h]
theorem at_M (pre L M post : List Int) (k : Nat) (h : k < M.length) : at0 (pre ++ (L ++ (M ++ post))) (pre.length + L.length + k) = at0 M k := by rw [Nat.add_assoc, at0_app, at0_app, at0_left _ _ _ h]
theorem sat_g {w wr : World} {H : PH} {g : Nat} (hs : Sat w H) (hn : ∀ o, H g o = none) (hg : w.grownBy wr (some g)) : Sat wr H := hs.grown hg fun b e o => by cases e; exact hn o

set_option maxRecDepth 100000 in
set_option maxHeartbeats 8000000 in
theorem sym_left (K : Int → Int) (n0 pd : Nat) (T : TypeId) (base : Nat) (H : PH) (pre M post : List Int) (X : Int) (a b : Nat) (g len c : Nat) (w : World)
    (h : SymIn K n0 pd T base H pre [X] M post g len c w a (a + 1) b) :
    Calls Try.prog 180 #[.slice (some ⟨g, 0, none⟩) len c, .int .i64 a, .int .i64 ((a : Int) + 1), .int .i64 b, cmpV pd] w (SymPost K T base H pre [X] M post g len c w) := by
  have h0 := Aside.mk h.none
  have hML : M.length = b - (a + 1) := by have := h.ea; have := h.eb; simp at *; omega
  have hb1 : a + 1 < b := by have := h.nM; omega
  have hb2 : b ≤ len := by have := h.hlen; have := h.eb; omega
  have hm := h.hm
  have hc := h.hc
  have hlc := h.hlc
  have HI := Aside.mk h
  have C := Aside.mk h.cmp
  replace hML := Aside.mk hML
  clear h
  have hw1 : IntKind.i64.wrap ((a : Int) + 1 - (a : Int)) = 1 := by rw [IntWalk.i64_in _ (by omega)]; omega
  have hd1 : ((a : Int) + 1 - (a : Int) == 1) = true := by simp; omega
  go_enter Try.func180, Try.ntmps180
  go_wp2_with fail
  clear hw1 hd1
  go_loopw [10, 11, 12] (fun s10 s11 s12 wr => ∃ i j : Nat, a + 1 ≤ i ∧ i ≤ j ∧ j ≤ b ∧ s10 = .int .i64 (i : Int) ∧ s11 = .int .i64 (j : Int) ∧ Aside ((i = a + 1 ∨ K X < K (at0 M (i - 1 - (a + 1)))) ∧ (j = b ∨ K (at0 M (j - (a + 1))) ≤ K X)) ∧ Aside (OwnI T wr base H g len c (pre ++ ([X] ++ (M ++ post)))) ∧ Aside (w.grownBy wr (some g))) (fun s10 s11 _ _ => (intOf s11).toNat - (intOf s10).toNat)
  case atStart => exact ⟨a + 1, b, by omega, by omega, by omega, by go_num, rfl, ⟨Or.inl rfl, Or.inl rfl⟩, ⟨HI.out.own⟩, ⟨grownBy_refl _ _⟩⟩
  case round =>
    obtain ⟨i, j, hi, hij, hj, rfl, rfl, hQ, hO, hg⟩ := hrel
    by_cases hlt : i < j
    · have hli : (i : Int) < (j : Int) := by omega
      obtain ⟨h, hh⟩ : ∃ h : Nat, ((i : Int) + (j : Int)) / 2 = (h : Int) := ⟨(i + j) / 2, by omega⟩
      have q1 : i ≤ h := by omega
      have q2 : h < j := by omega
      go_wp2_with fail
      try simp only [hh]
      clear hh
      have hL := HI.out.ea
      have e1 : at0 (pre ++ ([X] ++ (M ++ post))) h = at0 M (h - (a + 1)) := by
        have := at_M pre [X] M post (h - (a + 1)) (by have := hML.out; omega)
        rw [List.length_singleton, ← hL, show a + 1 + (h - (a + 1)) = h by omega] at this; exact this
      have e2 : at0 (pre ++ ([X] ++ (M ++ post))) a = X := by
        have := at_L pre [X] M post 0 (by simp)
        rw [← hL, Nat.add_zero] at this; exact this
      have hdY : 0 ≤ at0 M (h - (a + 1)) ∧ at0 M (h - (a + 1)) < n0 := HI.out.dM _ (at0_mem M _ (by have := hML.out; omega))
      have hdX : 0 ≤ X ∧ X < n0 := HI.out.dL X (by simp)
      have DD := Aside.mk (And.intro hdY hdX)
      have hln : (pre ++ ([X] ++ (M ++ post))).length = len := by have := HI.out.hlen; simp at *; omega
      replace hln := Aside.mk hln
      clear hL hdY hdX
      have b1 : (h : Int) < (len : Int) := by omega
      have b2 : (a : Int) < (len : Int) := by omega
      have b3 : (0 : Int) ≤ (h : Int) := by omega
      have b4 : (0 : Int) ≤ (a : Int) := by omega
      by_cases hk : K X < K (at0 M (h - (a + 1)))
      · replace hk := Aside.mk hk
        generalize hy : at0 M (h - (a + 1)) = Y at *
        have hd0 := Aside.mk (Own.drew hO.out)
        have hsd : Sat wr.drew H := (sat_g HI.out.sat h0.out hg.out).drew
        have g1 := OwnI.get hd0.out (h) (by have := hln.out; omega)
        have g2 := OwnI.get hd0.out (a) (by have := hln.out; omega)
        rw [e1] at g1; rw [e2] at g2
        have HS2 := Aside.mk (fun (w' : World) (hb : OwnI T w' base H g len c (pre ++ ([X] ++ (M ++ post)))) => show w'.cell? ⟨g, h, none⟩ = some (.int .i64 Y) ∧ w'.cell? ⟨g, a, none⟩ = some (.int .i64 X) from ⟨by rw [← e1]; exact hb.get _ (by have := hln.out; omega), by rw [← e2]; exact hb.get _ (by have := hln.out; omega)⟩)
        have EE := Aside.mk (And.intro e1 e2)
        clear e1 e2
        go_wp2_with fail
        go_region_held3 (fun w' => w'.cell? ⟨g, h, none⟩ = some (.int .i64 Y) ∧ w'.cell? ⟨g, a, none⟩ = some (.int .i64 X))
          (first | exact HS2.out _ hd0.out | exact HS2.out _ ho1)
          ((go_at_call 112; refine (C.out.lt hsd DD.out.1 DD.out.2 hk.out).mono ?_; rintro e w1 ⟨r, rfl, hr, hb1⟩; have hrd : decide (r < 0) = true := (by simpa using hr); have ho1 := Own.below hd0.out hsd hb1))
        have hg1 := Aside.mk (grownBy_trans hg.out (grownBy_trans (grownBy_drewS _ _) (grownBy_below hb1 _)))
        replace ho1 := Aside.mk ho1
        clear g1 g2 hsd HS2 hd0 hb1
        go_wp2_with fail
        go_roundw
        case rel => exact ⟨h + 1, j, by omega, by omega, hj, by go_num, rfl, ⟨Or.inr (by rw [show h + 1 - 1 - (a + 1) = h - (a + 1) by omega, hy]; exact hk.out), hQ.out.2⟩, ho1, hg1⟩
        case measure => first | (simp [intOf]; done) | (simp [intOf]; omega)
      · replace hk := Aside.mk hk
        generalize hy : at0 M (h - (a + 1)) = Y at *
        have hd0 := Aside.mk (Own.drew hO.out)
        have hsd : Sat wr.drew H := (sat_g HI.out.sat h0.out hg.out).drew
        have g1 := OwnI.get hd0.out (h) (by have := hln.out; omega)
        have g2 := OwnI.get hd0.out (a) (by have := hln.out; omega)
        rw [e1] at g1; rw [e2] at g2
        have HS2 := Aside.mk (fun (w' : World) (hb : OwnI T w' base H g len c (pre ++ ([X] ++ (M ++ post)))) => show w'.cell? ⟨g, h, none⟩ = some (.int .i64 Y) ∧ w'.cell? ⟨g, a, none⟩ = some (.int .i64 X) from ⟨by rw [← e1]; exact hb.get _ (by have := hln.out; omega), by rw [← e2]; exact hb.get _ (by have := hln.out; omega)⟩)
        have EE := Aside.mk (And.intro e1 e2)
        clear e1 e2
        go_wp2_with fail
        go_region_held3 (fun w' => w'.cell? ⟨g, h, none⟩ = some (.int .i64 Y) ∧ w'.cell? ⟨g, a, none⟩ = some (.int .i64 X))
          (first | exact HS2.out _ hd0.out | exact HS2.out _ ho1)
          ((go_at_call 112; refine (C.out.ge hsd DD.out.1 DD.out.2 (by have := hk.out; omega)).mono ?_; rintro e w1 ⟨r, rfl, hr, hb1⟩; have hrd : decide (r < 0) = false := (by simpa using hr); have ho1 := Own.below hd0.out hsd hb1))
        have hg1 := Aside.mk (grownBy_trans hg.out (grownBy_trans (grownBy_drewS _ _) (grownBy_below hb1 _)))
        replace ho1 := Aside.mk ho1
        clear g1 g2 hsd HS2 hd0 hb1
        go_wp2_with fail
        go_roundw
        case rel => exact ⟨i, h, hi, by omega, by omega, rfl, rfl, ⟨hQ.out.1, Or.inr (by have h9 := hk.out; rw [hy]; omega)⟩, ho1, hg1⟩
        case measure => first | (simp [intOf]; done) | (simp [intOf]; omega)
    · obtain rfl : i = j := by omega
      have hli : ¬ (i : Int) < (i : Int) := by omega
      have hfin := left_one (K := K) (x := X) (M := M) (k := i - (a + 1)) HI.out.sM (fun y hy => HI.out.lt X (by simp) y hy) (by have := hML.out; omega) (by rcases hQ.out.1 with h | h; exact Or.inl (by omega); exact Or.inr (by rw [show i - (a + 1) - 1 = i - 1 - (a + 1) by omega]; exact h)) (by rcases hQ.out.2 with h | h; exact Or.inl (by have := hML.out; omega); exact Or.inr (by omega))
      replace hfin := Aside.mk hfin
      have hown : OwnI T wr base H g len c (shR pre M X post 0) := by have := hO.out; rw [shR_zero]; simpa using this
      replace hown := Aside.mk hown
      have hln : ∀ k, (shR pre M X post k).length = len := fun k => by rw [shR_length]; have := HI.out.hlen; simp at this; omega
      replace hln := Aside.mk hln
      clear hQ
      go_wp2_with fail
      obtain ⟨wo, rfl⟩ : ∃ wo : World, wo = wr := ⟨_, rfl⟩
      go_loopw [13] (fun s13 wr => ∃ k : Nat, a ≤ k ∧ k + 1 ≤ i ∧ s13 = .int .i64 (k : Int) ∧ Aside (OwnI T wr base H g len c (shR pre M X post (k - a))) ∧ Aside (w.grownBy wr (some g))) (fun s13 _ => i - (intOf s13).toNat)
      case atStart => exact ⟨a, by omega, by omega, rfl, (by rw [Nat.sub_self]; exact hown), hg⟩
      case round =>
        clear hown hO hg
        obtain ⟨k, hak, hki, rfl, hO, hg⟩ := hrel
        by_cases hlt : k + 1 < i
        · have hli : (k : Int) < (i : Int) - 1 := by omega
          have b1 : (k : Int) < (len : Int) := by omega
          have b2 : (k : Int) + 1 < (len : Int) := by omega
          have b3 : (0 : Int) ≤ (k : Int) := by omega
          obtain ⟨⟨G0, G1, F0⟩, ⟨G2, F1⟩, P2, Q2⟩ := OwnI.swap hO.out (hln.out (k - a)).symm (k) (k + 1) (by have := (hln.out (k - a)); omega) (by have := (hln.out (k - a)); omega) (by omega)
          have hst := shR_next pre M X post (k - a) (by have := hML.out; omega)
          rw [← HI.out.ea, show a + (k - a) = k by omega, show k - a + 1 = k + 1 - a by omega] at hst
          rw [hst] at P2
          generalize at0 (shR pre M X post (k - a)) (k) = V1 at *
          generalize at0 (shR pre M X post (k - a)) (k + 1) = V2 at *
          replace P2 := Aside.mk P2
          replace Q2 := Aside.mk (grownBy_trans hg.out Q2)
          clear hst
          go_wp2_with fail
          go_region
          go_wp2_with fail
          go_roundw
          case rel => exact ⟨k + 1, by omega, by omega, by go_num, P2, Q2⟩
          case measure => first | (simp [intOf]; done) | (simp [intOf]; omega)
        · have hli : ¬ (k : Int) < (i : Int) - 1 := by omega
          go_wp2_with fail
          go_end0
          obtain rfl : i = k + 1 := by omega
          have h9 := hO.out
          have hf := hfin.out
          rw [show k + 1 - (a + 1) = k - a by omega] at hf
          exact ⟨rfl, _, hf.2, hf.1, by simpa [shR] using h9, hg.out⟩

set_option maxRecDepth 100000 in
set_option maxHeartbeats 8000000 in
theorem sym_right (K : Int → Int) (n0 pd : Nat) (T : TypeId) (base : Nat) (H : PH) (pre L post : List Int) (X : Int) (a m : Nat) (g len c : Nat) (w : World)
    (h : SymIn K n0 pd T base H pre L [X] post g len c w a m (m + 1)) (h2 : L.length ≠ 1) :
    Calls Try.prog 180 #[.slice (some ⟨g, 0, none⟩) len c, .int .i64 a, .int .i64 m, .int .i64 ((m : Int) + 1), cmpV pd] w (SymPost K T base H pre L [X] post g len c w) := by
  have h0 := Aside.mk h.none
  have hLL : L.length = m - a := by have := h.ea; have := h.em; omega
  have hb1 : a + 1 < m := by have := h.nL; have := h.em; have := h.ea; omega
  have hb2 : m < len := by have := h.hlen; have := h.em; simp at *; omega
  have hm := h.hm
  have hc := h.hc
  have hlc := h.hlc
  have HI := Aside.mk h
  have C := Aside.mk h.cmp
  replace hLL := Aside.mk hLL
  clear h h2
  have hd1 : ((m : Int) - (a : Int) == 1) = false := by simp; omega
  have hw1 : IntKind.i64.wrap ((m : Int) + 1 - (m : Int)) = 1 := by rw [IntWalk.i64_in _ (by omega)]; omega
  have hd2 : ((m : Int) + 1 - (m : Int) == 1) = true := by simp; omega
  go_enter Try.func180, Try.ntmps180
  go_wp2_with fail
  clear hd1 hw1 hd2
  go_loopw [14, 15, 16] (fun s10 s11 s12 wr => ∃ i j : Nat, a ≤ i ∧ i ≤ j ∧ j ≤ m ∧ s10 = .int .i64 (i : Int) ∧ s11 = .int .i64 (j : Int) ∧ Aside ((i = a ∨ K X ≤ K (at0 L (i - 1 - a))) ∧ (j = m ∨ K (at0 L (j - a)) < K X)) ∧ Aside (OwnI T wr base H g len c (pre ++ (L ++ ([X] ++ post)))) ∧ Aside (w.grownBy wr (some g))) (fun s10 s11 _ _ => (intOf s11).toNat - (intOf s10).toNat)
  case atStart => exact ⟨a, m, by omega, by omega, by omega, rfl, rfl, ⟨Or.inl rfl, Or.inl rfl⟩, ⟨HI.out.own⟩, ⟨grownBy_refl _ _⟩⟩
  case round =>
    obtain ⟨i, j, hi, hij, hj, rfl, rfl, hQ, hO, hg⟩ := hrel
    by_cases hlt : i < j
    · have hli : (i : Int) < (j : Int) := by omega
      obtain ⟨h, hh⟩ : ∃ h : Nat, ((i : Int) + (j : Int)) / 2 = (h : Int) := ⟨(i + j) / 2, by omega⟩
      have q1 : i ≤ h := by omega
      have q2 : h < j := by omega
      go_wp2_with fail
      try simp only [hh]
      clear hh
      have hL := HI.out.ea
      have e1 : at0 (pre ++ (L ++ ([X] ++ post))) m = X := by
        have := at_M pre L [X] post 0 (by simp)
        rw [← HI.out.em, Nat.add_zero] at this; exact this
      have e2 : at0 (pre ++ (L ++ ([X] ++ post))) h = at0 L (h - a) := by
        have := at_L pre L [X] post (h - a) (by have := hLL.out; omega)
        rw [← hL, show a + (h - a) = h by omega] at this; exact this
      have hdY : 0 ≤ at0 L (h - a) ∧ at0 L (h - a) < n0 := HI.out.dL _ (at0_mem L _ (by have := hLL.out; omega))
      have hdX : 0 ≤ X ∧ X < n0 := HI.out.dM X (by simp)
      have DD := Aside.mk (And.intro hdX hdY)
      have hln : (pre ++ (L ++ ([X] ++ post))).length = len := by have := HI.out.hlen; simp at *; omega
      replace hln := Aside.mk hln
      clear hL hdY hdX
      have b1 : (h : Int) < (len : Int) := by omega
      have b2 : (m : Int) < (len : Int) := by omega
      have b3 : (0 : Int) ≤ (h : Int) := by omega
      have b4 : (0 : Int) ≤ (m : Int) := by omega
      by_cases hk : K (at0 L (h - a)) < K X
      · replace hk := Aside.mk hk
        generalize hy : at0 L (h - a) = Y at *
        have hd0 := Aside.mk (Own.drew hO.out)
        have hsd : Sat wr.drew H := (sat_g HI.out.sat h0.out hg.out).drew
        have g1 := OwnI.get hd0.out (m) (by have := hln.out; omega)
        have g2 := OwnI.get hd0.out (h) (by have := hln.out; omega)
        rw [e1] at g1; rw [e2] at g2
        have HS2 := Aside.mk (fun (w' : World) (hb : OwnI T w' base H g len c (pre ++ (L ++ ([X] ++ post)))) => show w'.cell? ⟨g, m, none⟩ = some (.int .i64 X) ∧ w'.cell? ⟨g, h, none⟩ = some (.int .i64 Y) from ⟨by rw [← e1]; exact hb.get _ (by have := hln.out; omega), by rw [← e2]; exact hb.get _ (by have := hln.out; omega)⟩)
        have EE := Aside.mk (And.intro e1 e2)
        clear e1 e2
        go_wp2_with fail
        go_region_held3 (fun w' => w'.cell? ⟨g, m, none⟩ = some (.int .i64 X) ∧ w'.cell? ⟨g, h, none⟩ = some (.int .i64 Y))
          (first | exact HS2.out _ hd0.out | exact HS2.out _ ho1)
          ((go_at_call 112; refine (C.out.lt hsd DD.out.1 DD.out.2 hk.out).mono ?_; rintro e w1 ⟨r, rfl, hr, hb1⟩; have hrd : decide (r < 0) = true := (by simpa using hr); have ho1 := Own.below hd0.out hsd hb1))
        have hg1 := Aside.mk (grownBy_trans hg.out (grownBy_trans (grownBy_drewS _ _) (grownBy_below hb1 _)))
        replace ho1 := Aside.mk ho1
        clear g1 g2 hsd HS2 hd0 hb1
        go_wp2_with fail
        go_roundw
        case rel => exact ⟨i, h, hi, by omega, by omega, rfl, rfl, ⟨hQ.out.1, Or.inr (by have h9 := hk.out; rw [hy]; omega)⟩, ho1, hg1⟩
        case measure => first | (simp [intOf]; done) | (simp [intOf]; omega)
      · replace hk := Aside.mk hk
        generalize hy : at0 L (h - a) = Y at *
        have hd0 := Aside.mk (Own.drew hO.out)
        have hsd : Sat wr.drew H := (sat_g HI.out.sat h0.out hg.out).drew
        have g1 := OwnI.get hd0.out (m) (by have := hln.out; omega)
        have g2 := OwnI.get hd0.out (h) (by have := hln.out; omega)
        rw [e1] at g1; rw [e2] at g2
        have HS2 := Aside.mk (fun (w' : World) (hb : OwnI T w' base H g len c (pre ++ (L ++ ([X] ++ post)))) => show w'.cell? ⟨g, m, none⟩ = some (.int .i64 X) ∧ w'.cell? ⟨g, h, none⟩ = some (.int .i64 Y) from ⟨by rw [← e1]; exact hb.get _ (by have := hln.out; omega), by rw [← e2]; exact hb.get _ (by have := hln.out; omega)⟩)
        have EE := Aside.mk (And.intro e1 e2)
        clear e1 e2
        go_wp2_with fail
        go_region_held3 (fun w' => w'.cell? ⟨g, m, none⟩ = some (.int .i64 X) ∧ w'.cell? ⟨g, h, none⟩ = some (.int .i64 Y))
          (first | exact HS2.out _ hd0.out | exact HS2.out _ ho1)
          ((go_at_call 112; refine (C.out.ge hsd DD.out.1 DD.out.2 (by have := hk.out; omega)).mono ?_; rintro e w1 ⟨r, rfl, hr, hb1⟩; have hrd : decide (r < 0) = false := (by simpa using hr); have ho1 := Own.below hd0.out hsd hb1))
        have hg1 := Aside.mk (grownBy_trans hg.out (grownBy_trans (grownBy_drewS _ _) (grownBy_below hb1 _)))
        replace ho1 := Aside.mk ho1
        clear g1 g2 hsd HS2 hd0 hb1
        go_wp2_with fail
        go_roundw
        case rel => exact ⟨h + 1, j, by omega, by omega, hj, by go_num, rfl, ⟨Or.inr (by have h9 := hk.out; rw [show h + 1 - 1 - a = h - a by omega, hy]; omega), hQ.out.2⟩, ho1, hg1⟩
        case measure => first | (simp [intOf]; done) | (simp [intOf]; omega)
    · obtain rfl : i = j := by omega
      have hli : ¬ (i : Int) < (i : Int) := by omega
      have hfin := right_one (K := K) (x := X) (L := L) (k := i - a) HI.out.sL (fun y hy => HI.out.lt y hy X (by simp)) (by have := hLL.out; omega) (by rcases hQ.out.1 with h | h; exact Or.inl (by omega); exact Or.inr (by rw [show i - a - 1 = i - 1 - a by omega]; omega)) (by rcases hQ.out.2 with h | h; exact Or.inl (by have := hLL.out; omega); exact Or.inr (by omega))
      replace hfin := Aside.mk hfin
      have hown : OwnI T wr base H g len c (shR pre L X post (m - a)) := by have := hO.out; rw [← hLL.out, shR_all]; simpa using this
      replace hown := Aside.mk hown
      have hln : ∀ k, (shR pre L X post k).length = len := fun k => by rw [shR_length]; have := HI.out.hlen; simp at this; omega
      replace hln := Aside.mk hln
      clear hQ
      go_wp2_with fail
      obtain ⟨wo, rfl⟩ : ∃ wo : World, wo = wr := ⟨_, rfl⟩
      go_loopw [17] (fun s13 wr => ∃ k : Nat, i ≤ k ∧ k ≤ m ∧ s13 = .int .i64 (k : Int) ∧ Aside (OwnI T wr base H g len c (shR pre L X post (k - a))) ∧ Aside (w.grownBy wr (some g))) (fun s13 _ => (intOf s13).toNat)
      case atStart => exact ⟨m, by omega, by omega, rfl, hown, hg⟩
      case round =>
        clear hown hO hg
        obtain ⟨k, hik, hkm, rfl, hO, hg⟩ := hrel
        by_cases hlt : i < k
        · obtain ⟨p, rfl⟩ : ∃ p, k = p + 1 := ⟨k - 1, by omega⟩
          have hli : (i : Int) < (p : Int) + 1 := by omega
          have b1 : (p : Int) < (len : Int) := by omega
          have b2 : (p : Int) + 1 < (len : Int) := by omega
          have b3 : (0 : Int) ≤ (p : Int) := by omega
          have b4 : IntKind.i64.wrap ((p : Int) + 1 - 1) = (p : Int) := by rw [IntWalk.i64_in _ (by omega)]; omega
          obtain ⟨⟨G0, G1, F0⟩, ⟨G2, F1⟩, P2, Q2⟩ := OwnI.swap hO.out (hln.out (p + 1 - a)).symm (p + 1) (p) (by have := (hln.out (p + 1 - a)); omega) (by have := (hln.out (p + 1 - a)); omega) (by omega)
          have hst := shR_back pre L X post (p - a) (by have := hLL.out; omega)
          rw [← HI.out.ea, show a + (p - a) = p by omega, show p - a + 1 = p + 1 - a by omega] at hst
          rw [hst] at P2
          generalize at0 (shR pre L X post (p + 1 - a)) (p + 1) = V1 at *
          generalize at0 (shR pre L X post (p + 1 - a)) (p) = V2 at *
          replace P2 := Aside.mk P2
          replace Q2 := Aside.mk (grownBy_trans hg.out Q2)
          clear hst
          go_wp2_with fail
          go_region
          go_wp2_with fail
          go_roundw
          case rel => exact ⟨p, by omega, by omega, rfl, P2, Q2⟩
          case measure => first | (simp [intOf]; done) | (simp [intOf]; omega)
        · have hli : ¬ (i : Int) < (k : Int) := by omega
          go_wp2_with fail
          go_end0
          obtain rfl : i = k := by omega
          have h9 := hO.out
          have hf := hfin.out
          exact ⟨rfl, _, hf.2, hf.1, by simpa [shR] using h9, hg.out⟩
end Go.Proofs.Ytbnahmeaeakhhaa.B
