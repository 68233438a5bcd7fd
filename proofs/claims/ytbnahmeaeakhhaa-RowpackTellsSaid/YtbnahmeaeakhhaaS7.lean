/- Contract: slices.symMergeCmpFunc over ints. -/
import Derived.Test.YtbnahmeaeakhhaaS6
namespace Go.Proofs.Ytbnahmeaeakhhaa.B
set_option linter.unusedVariables false
set_option linter.unusedSimpArgs false
open Go Go.RowKit Go.Proofs.Ytbnahmeaeakhhaa.S

def SymAll (K : Int → Int) (n0 pd : Nat) (T : TypeId) (base : Nat) (H : PH) (g len c d : Nat) : Prop := ∀ (pre L M post : List Int) (a m b : Nat) (x y z : Int) (w : World), L.length + M.length ≤ d → x = a → y = m → z = b → SymIn K n0 pd T base H pre L M post g len c w a m b →
  Calls Try.prog 180 #[.slice (some ⟨g, 0, none⟩) len c, .int .i64 x, .int .i64 y, .int .i64 z, cmpV pd] w (SymPost K T base H pre L M post g len c w)
/-- what the middle search knows of its bounds -/
structure Mid (a m b mid lo hi : Nat) : Prop where
  h1 : a ≤ lo
  h2 : lo ≤ hi
  h3 : hi ≤ m
  h4 : hi ≤ mid
  h5 : mid + m ≤ lo + b
  h6 : lo = a ∨ lo + b = mid + m
  h7 : hi = m ∨ hi = mid
  h8 : a < mid
  h9 : mid < b
  h10 : 2 * mid ≤ a + b
theorem srt_one {K : Int → Int} {A B : List Int} (h1 : Srt K A) (h2 : Srt K B) (h : A = [] ∨ B = []) : Srt K (A ++ B) := by
  rcases h with h | h
  · subst h; exact h2
  · subst h; rw [List.append_nil]; exact h1
theorem sym_fin {K : Int → Int} {T : TypeId} {base : Nat} {H : PH} {pre L M post L1 L2 M1 M2 N1 N2 : List Int} {g len c : Nat} {w w' : World} (_ : Sat w H) (zL : L = L1 ++ L2) (zM : M = M1 ++ M2)
    (hcr : ∀ x ∈ L1 ++ M1, ∀ y ∈ L2 ++ M2, R K x y) (p1 : N1.Perm (L1 ++ M1)) (s1 : Srt K N1) (p2 : N2.Perm (L2 ++ M2)) (s2 : Srt K N2) (ho : OwnI T w' base H g len c (pre ++ (N1 ++ (N2 ++ post)))) (hg : w.grownBy w' (some g)) :
    SymPost K T base H pre L M post g len c w (.returned (.tuple #[])) w' :=
  ⟨rfl, N1 ++ N2, by rw [zL, zM]; exact perm_mid p1 p2, sorted_join s1 s2 p1 p2 hcr, by simpa using ho, hg⟩
theorem sym_fin' {K : Int → Int} {T : TypeId} {base : Nat} {H : PH} {pre L M post L1 L2 M1 M2 N1 : List Int} {g len c : Nat} {w w' : World} (hs : Sat w H) (zL : L = L1 ++ L2) (zM : M = M1 ++ M2)
    (hcr : ∀ x ∈ L1 ++ M1, ∀ y ∈ L2 ++ M2, R K x y) (p1 : N1.Perm (L1 ++ M1)) (s1 : Srt K N1) (s2 : Srt K (L2 ++ M2)) (ho : OwnI T w' base H g len c (pre ++ (N1 ++ ((L2 ++ M2) ++ post)))) (hg : w.grownBy w' (some g)) :
    SymPost K T base H pre L M post g len c w (.returned (.tuple #[])) w' := sym_fin hs zL zM hcr p1 s1 (List.Perm.refl _) s2 ho hg

set_option maxRecDepth 100000 in
set_option maxHeartbeats 8000000 in
theorem sym_hi (K : Int → Int) (n0 pd : Nat) (T : TypeId) (base : Nat) (H : PH) (pre L M post : List Int) (a m b d : Nat) (g len c : Nat) (w : World)
    (h : SymIn K n0 pd T base H pre L M post g len c w a m b) (hL2 : 2 ≤ L.length) (hM2 : 2 ≤ M.length) (hd : L.length + M.length ≤ d + 1) (ih : SymAll K n0 pd T base H g len c d) (mid : Nat) (hmid : mid = (a + b) / 2) (hcase : mid < m) :
    Calls Try.prog 180 #[.slice (some ⟨g, 0, none⟩) len c, .int .i64 a, .int .i64 m, .int .i64 b, cmpV pd] w (SymPost K T base H pre L M post g len c w) := by
  have h0 := Aside.mk h.none
  have hLL : L.length = m - a := by have := h.ea; have := h.em; omega
  have hMM : M.length = b - m := by have := h.eb; have := h.em; omega
  have hb1 : a + 1 < m := by omega
  have hb3 : m + 1 < b := by omega
  have hb2 : b ≤ len := by have := h.hlen; have := h.eb; omega
  have hm := h.hm
  have hc := h.hc
  have hlc := h.hlc
  have hdd : b - a ≤ d + 1 := by omega
  have HI := Aside.mk h
  have C := Aside.mk h.cmp
  have IH := Aside.mk ih
  replace hLL := Aside.mk hLL
  replace hMM := Aside.mk hMM
  have hd1 : ((m : Int) - (a : Int) == 1) = false := by simp; omega
  have hd2 : ((b : Int) - (m : Int) == 1) = false := by simp; omega
  have hmI : ((a : Int) + (b : Int)) / 2 = (mid : Int) := by omega
  have hmd := Aside.mk hmid
  have hma : a < mid := by omega
  have hmb : mid < b := by omega
  clear h hL2 hM2 hd ih hmid
  have hcI : (mid : Int) < (m : Int) := by omega
  obtain ⟨lo, hlo⟩ : ∃ lo : Nat, (mid : Int) + (m : Int) - (b : Int) = (lo : Int) := ⟨mid + m - b, by omega⟩
  obtain ⟨hi, hhi⟩ : ∃ hi : Nat, hi = mid := ⟨_, rfl⟩
  have MD : Mid a m b mid lo hi := ⟨by omega, by omega, by omega, by omega, by omega, by omega, by omega, by omega, by omega, by omega⟩
  replace MD := Aside.mk MD
  replace hlo := Aside.mk hlo
  replace hhi := Aside.mk hhi
  go_enter Try.func180, Try.ntmps180
  go_wp2_with fail
  clear hd1 hd2 hmI hcI
  go_loopw [20, 21, 23] (fun s10 s11 s12 wr => ∃ i j : Nat, lo ≤ i ∧ i ≤ j ∧ j ≤ hi ∧ s10 = .int .i64 (i : Int) ∧ s11 = .int .i64 (j : Int) ∧ Aside ((i = lo ∨ K (at0 M (mid + m - i - m)) ≤ K (at0 L (i - 1 - a))) ∧ (j = hi ∨ K (at0 L (j - a)) < K (at0 M (mid + m - 1 - j - m)))) ∧ Aside (OwnI T wr base H g len c (pre ++ (L ++ (M ++ post)))) ∧ Aside (w.grownBy wr (some g))) (fun s10 s11 _ _ => (intOf s11).toNat - (intOf s10).toNat)
  case atStart => exact ⟨lo, hi, by omega, MD.out.h2, by omega, (by congr 1; have := hlo.out; omega), (by congr 1; have := hhi.out; omega), ⟨Or.inl rfl, Or.inl rfl⟩, ⟨HI.out.own⟩, ⟨grownBy_refl _ _⟩⟩
  case round =>
    obtain ⟨i, j, hi_, hij, hj, rfl, rfl, hQ, hO, hg⟩ := hrel
    have m1 := MD.out.h1
    have m3 := MD.out.h3
    have m4 := MD.out.h4
    have m5 := MD.out.h5
    by_cases hlt : i < j
    · have hli : (i : Int) < (j : Int) := by omega
      obtain ⟨h, hh⟩ : ∃ h : Nat, ((i : Int) + (j : Int)) / 2 = (h : Int) := ⟨(i + j) / 2, by omega⟩
      have q1 : i ≤ h := by omega
      have q2 : h < j := by omega
      go_wp2_with fail
      try simp only [hh]
      clear hh
      obtain ⟨u, hu⟩ : ∃ u : Nat, (mid : Int) + (m : Int) - 1 - (h : Int) = (u : Int) := ⟨mid + m - 1 - h, by omega⟩
      have hun : u = mid + m - 1 - h := by omega
      have hum : m ≤ u := by omega
      have hub : u < b := by omega
      replace hun := Aside.mk hun
      have hL := HI.out.ea
      have e1 : at0 (pre ++ (L ++ (M ++ post))) u = at0 M (u - m) := by
        have := at_M pre L M post (u - m) (by have := hMM.out; omega)
        rw [← HI.out.em, show m + (u - m) = u by omega] at this; exact this
      have e2 : at0 (pre ++ (L ++ (M ++ post))) h = at0 L (h - a) := by
        have := at_L pre L M post (h - a) (by have := hLL.out; omega)
        rw [← hL, show a + (h - a) = h by omega] at this; exact this
      have hdY : 0 ≤ at0 L (h - a) ∧ at0 L (h - a) < n0 := HI.out.dL _ (at0_mem L _ (by have := hLL.out; omega))
      have hdX : 0 ≤ at0 M (u - m) ∧ at0 M (u - m) < n0 := HI.out.dM _ (at0_mem M _ (by have := hMM.out; omega))
      have DD := Aside.mk (And.intro hdX hdY)
      have hln : (pre ++ (L ++ (M ++ post))).length = len := by have := HI.out.hlen; simp at *; omega
      replace hln := Aside.mk hln
      clear hL hdY hdX
      have b1 : (h : Int) < (len : Int) := by omega
      have b2 : (u : Int) < (len : Int) := by omega
      have b3 : (0 : Int) ≤ (h : Int) := by omega
      have b4 : (0 : Int) ≤ (u : Int) := by omega
      have b5 : IntKind.i64.wrap ((mid : Int) + (m : Int) - 1 - (h : Int)) = (u : Int) := by rw [hu]; exact IntWalk.i64_in _ (by omega)
      clear hu
      by_cases hk : K (at0 L (h - a)) < K (at0 M (u - m))
      · replace hk := Aside.mk hk
        generalize hy : at0 L (h - a) = Y at *
        generalize hx : at0 M (u - m) = X at *
        have hd0 := Aside.mk (Own.drew hO.out)
        have hsd : Sat wr.drew H := (sat_g HI.out.sat h0.out hg.out).drew
        have g1 := OwnI.get hd0.out (u) (by have := hln.out; omega)
        have g2 := OwnI.get hd0.out (h) (by have := hln.out; omega)
        rw [e1] at g1; rw [e2] at g2
        have HS2 := Aside.mk (fun (w' : World) (hb : OwnI T w' base H g len c (pre ++ (L ++ (M ++ post)))) => show w'.cell? ⟨g, u, none⟩ = some (.int .i64 X) ∧ w'.cell? ⟨g, h, none⟩ = some (.int .i64 Y) from ⟨by rw [← e1]; exact hb.get _ (by have := hln.out; omega), by rw [← e2]; exact hb.get _ (by have := hln.out; omega)⟩)
        have EE := Aside.mk (And.intro e1 e2)
        clear e1 e2
        go_wp2_with fail
        go_region_held3 (fun w' => w'.cell? ⟨g, u, none⟩ = some (.int .i64 X) ∧ w'.cell? ⟨g, h, none⟩ = some (.int .i64 Y))
          (first | exact HS2.out _ hd0.out | exact HS2.out _ ho1)
          ((go_at_call 112; refine (C.out.lt hsd DD.out.1 DD.out.2 hk.out).mono ?_; rintro e w1 ⟨r, rfl, hr, hb1⟩; have hrd : decide (r < 0) = true := (by simpa using hr); have ho1 := Own.below hd0.out hsd hb1))
        have hg1 := Aside.mk (grownBy_trans hg.out (grownBy_trans (grownBy_drewS _ _) (grownBy_below hb1 _)))
        replace ho1 := Aside.mk ho1
        clear g1 g2 hsd HS2 hd0 hb1
        go_wp2_with fail
        go_roundw
        case rel => exact ⟨i, h, hi_, by omega, by omega, rfl, rfl, ⟨hQ.out.1, Or.inr (by have h9 := hk.out; have h8 := hun.out; rw [show mid + m - 1 - h - m = u - m by omega, hy, hx]; exact h9)⟩, ho1, hg1⟩
        case measure => first | (simp [intOf]; done) | (simp [intOf]; omega)
      · replace hk := Aside.mk hk
        generalize hy : at0 L (h - a) = Y at *
        generalize hx : at0 M (u - m) = X at *
        have hd0 := Aside.mk (Own.drew hO.out)
        have hsd : Sat wr.drew H := (sat_g HI.out.sat h0.out hg.out).drew
        have g1 := OwnI.get hd0.out (u) (by have := hln.out; omega)
        have g2 := OwnI.get hd0.out (h) (by have := hln.out; omega)
        rw [e1] at g1; rw [e2] at g2
        have HS2 := Aside.mk (fun (w' : World) (hb : OwnI T w' base H g len c (pre ++ (L ++ (M ++ post)))) => show w'.cell? ⟨g, u, none⟩ = some (.int .i64 X) ∧ w'.cell? ⟨g, h, none⟩ = some (.int .i64 Y) from ⟨by rw [← e1]; exact hb.get _ (by have := hln.out; omega), by rw [← e2]; exact hb.get _ (by have := hln.out; omega)⟩)
        have EE := Aside.mk (And.intro e1 e2)
        clear e1 e2
        go_wp2_with fail
        go_region_held3 (fun w' => w'.cell? ⟨g, u, none⟩ = some (.int .i64 X) ∧ w'.cell? ⟨g, h, none⟩ = some (.int .i64 Y))
          (first | exact HS2.out _ hd0.out | exact HS2.out _ ho1)
          ((go_at_call 112; refine (C.out.ge hsd DD.out.1 DD.out.2 (by have := hk.out; omega)).mono ?_; rintro e w1 ⟨r, rfl, hr, hb1⟩; have hrd : decide (r < 0) = false := (by simpa using hr); have ho1 := Own.below hd0.out hsd hb1))
        have hg1 := Aside.mk (grownBy_trans hg.out (grownBy_trans (grownBy_drewS _ _) (grownBy_below hb1 _)))
        replace ho1 := Aside.mk ho1
        clear g1 g2 hsd HS2 hd0 hb1
        go_wp2_with fail
        go_roundw
        case rel => exact ⟨h + 1, j, by omega, by omega, hj, by go_num, rfl, ⟨Or.inr (by have h9 := hk.out; have h8 := hun.out; rw [show h + 1 - 1 - a = h - a by omega, show mid + m - (h + 1) - m = u - m by omega, hy, hx]; omega), hQ.out.2⟩, ho1, hg1⟩
        case measure => first | (simp [intOf]; done) | (simp [intOf]; omega)
    · obtain rfl : i = j := by omega
      have hli : ¬ (i : Int) < (i : Int) := by omega
      obtain ⟨e, he⟩ : ∃ e : Nat, (mid : Int) + (m : Int) - (i : Int) = (e : Int) := ⟨mid + m - i, by omega⟩
      have hen : e = mid + m - i := by omega
      have hme : m ≤ e := by omega
      have heb : e ≤ b := by omega
      obtain ⟨L1, hL1⟩ : ∃ l, l = L.take (i - a) := ⟨_, rfl⟩
      obtain ⟨L2, hL2⟩ : ∃ l, l = L.drop (i - a) := ⟨_, rfl⟩
      obtain ⟨M1, hM1⟩ : ∃ l, l = M.take (mid - i) := ⟨_, rfl⟩
      obtain ⟨M2, hM2⟩ : ∃ l, l = M.drop (mid - i) := ⟨_, rfl⟩
      have z1 : L1.length = i - a := by rw [hL1, List.length_take]; have := hLL.out; omega
      have z2 : L2.length = m - i := by rw [hL2, List.length_drop]; have := hLL.out; omega
      have z3 : M1.length = mid - i := by rw [hM1, List.length_take]; have := hMM.out; omega
      have z4 : M2.length = b - e := by rw [hM2, List.length_drop]; have := hMM.out; omega
      have zL : L = L1 ++ L2 := by rw [hL1, hL2, List.take_append_drop]
      have zM : M = M1 ++ M2 := by rw [hM1, hM2, List.take_append_drop]
      have hcr := sym_cross (K := K) (L := L) (M := M) (s := i - a) (t := mid - i) HI.out.sL HI.out.sM HI.out.lt (by have := hLL.out; omega) (by have := hMM.out; omega)
        (by rcases hQ.out.1 with h | h
            · have h6 := MD.out.h6; have := hMM.out; rcases h6 with h6 | h6
              · exact Or.inl (by omega)
              · exact Or.inr (Or.inl (by omega))
            · exact Or.inr (Or.inr (by rw [show i - a - 1 = i - 1 - a by omega, show mid - i = mid + m - i - m by omega]; omega)))
        (by rcases hQ.out.2 with h | h
            · have h7 := MD.out.h7; have := hLL.out; rcases h7 with h7 | h7
              · exact Or.inl (by omega)
              · exact Or.inr (Or.inl (by omega))
            · exact Or.inr (Or.inr (by rw [show mid - i - 1 = mid + m - 1 - i - m by omega]; exact h)))
      rw [← hL1, ← hL2, ← hM1, ← hM2] at hcr
      have hso : Srt K L1 ∧ Srt K L2 ∧ Srt K M1 ∧ Srt K M2 := ⟨by rw [hL1]; exact (sub_srt HI.out.sL _).1, by rw [hL2]; exact (sub_srt HI.out.sL _).2, by rw [hM1]; exact (sub_srt HI.out.sM _).1, by rw [hM2]; exact (sub_srt HI.out.sM _).2⟩
      have hltx : (∀ x ∈ L1, ∀ y ∈ M1, x < y) ∧ (∀ x ∈ L2, ∀ y ∈ M2, x < y) := ⟨fun x hx y hy => HI.out.lt x (by rw [zL]; simp [hx]) y (by rw [zM]; simp [hy]), fun x hx y hy => HI.out.lt x (by rw [zL]; simp [hx]) y (by rw [zM]; simp [hy])⟩
      have hdx : (InD n0 L1 ∧ InD n0 L2) ∧ (InD n0 M1 ∧ InD n0 M2) := ⟨⟨fun x hx => HI.out.dL x (by rw [zL]; simp [hx]), fun x hx => HI.out.dL x (by rw [zL]; simp [hx])⟩, ⟨fun x hx => HI.out.dM x (by rw [zM]; simp [hx]), fun x hx => HI.out.dM x (by rw [zM]; simp [hx])⟩⟩
      have hown : OwnI T wr base H g len c (pre ++ (L1 ++ (L2 ++ (M1 ++ (M2 ++ post))))) := by have := hO.out; rw [zL, zM] at this; simpa using this
      replace hown := Aside.mk hown
      have FF := Aside.mk (And.intro hcr (And.intro hso (And.intro hltx (And.intro hdx (And.intro zL zM)))))
      have ZZ := Aside.mk (And.intro z1 (And.intro z2 (And.intro z3 (And.intro z4 hen))))
      have hia : a ≤ i := by omega
      have him : i ≤ m := by omega
      have himd : i ≤ mid := by omega
      have hsz : pre.length + (L1.length + (L2.length + (M1.length + (M2.length + post.length)))) = len := by have := HI.out.hlen; have := HI.out.ea; have := hLL.out; have := hMM.out; omega
      replace hsz := Aside.mk hsz
      have hpa := Aside.mk HI.out.ea
      clear hcr hso hltx hdx zL zM z1 z2 z3 z4 hL1 hL2 hM1 hM2 hQ hO hen
      have b5 : IntKind.i64.wrap ((mid : Int) + (m : Int) - (i : Int)) = (e : Int) := by rw [he]; exact IntWalk.i64_in _ (by omega)
      clear he
      by_cases hcc : i < m
      · have hc1 : (i : Int) < (m : Int) ∧ (mid : Int) < (e : Int) := ⟨by omega, by have := ZZ.out; omega⟩
        obtain ⟨hc1, hc3⟩ := hc1
        by_cases hcc : i < mid
        · have hc2 : (m : Int) < (e : Int) ∧ (i : Int) < (mid : Int) := ⟨by have := ZZ.out; omega, by omega⟩
          obtain ⟨hc2, hc4⟩ := hc2
          go_wp2_with fail
          refine (rotate_any T base H (pre ++ L1) L2 M1 (M2 ++ post) i m e g len c _ _ _ _ _ (by have := ZZ.out; have := hpa.out; simp at *; omega) (by have := ZZ.out; have := hpa.out; simp at *; omega) (by have := ZZ.out; have := hpa.out; simp at *; omega) (by have := ZZ.out; omega) (by have := ZZ.out; omega) rfl rfl rfl (by have := hsz.out; simp at *; omega) hm hc hlc (by have := hown.out; simpa using this)).mono ?_
          rintro ee w7 ⟨rfl, ho7, hg7⟩
          have hO := Aside.mk (show OwnI T w7 base H g len c (pre ++ ((L1 ++ M1) ++ ((L2 ++ M2) ++ post))) from by simpa using ho7)
          replace hg := Aside.mk (grownBy_trans hg.out hg7)
          clear ho7 hg7 hown
          by_cases hcc : a < i
          · have hca : (a : Int) < (i : Int) := by omega
            go_wp2_with fail
            refine (IH.out pre L1 M1 ((L2 ++ M2) ++ post) a i mid _ _ _ _ (by have := ZZ.out; omega) rfl rfl rfl ⟨HI.out.cmp, sat_g HI.out.sat h0.out hg.out, FF.out.2.1.1, FF.out.2.1.2.2.1, FF.out.2.2.1.1, FF.out.2.2.2.1.1.1, FF.out.2.2.2.1.2.1, hpa.out, (by have := ZZ.out; have := hpa.out; omega), (by have := ZZ.out; have := hpa.out; omega), (by have := ZZ.out; omega), (by have := ZZ.out; omega), (by have := hsz.out; simp at *; omega), hm, hc, hlc, (by have := hO.out; simpa using this)⟩).mono ?_
            rintro ee w8 ⟨rfl, N1, p1, s1, ho8, hg8⟩
            replace p1 := Aside.mk p1
            replace s1 := Aside.mk s1
            replace hO := Aside.mk ho8
            replace hg := Aside.mk (grownBy_trans hg.out hg8)
            clear ho8 hg8
            by_cases hcc : e < b
            · have hce : (e : Int) < (b : Int) := by omega
              go_wp2_with fail
              refine (IH.out (pre ++ N1) L2 M2 post mid e b _ _ _ _ (by have := ZZ.out; omega) rfl rfl rfl ⟨HI.out.cmp, sat_g HI.out.sat h0.out hg.out, FF.out.2.1.2.1, FF.out.2.1.2.2.2, FF.out.2.2.1.2, FF.out.2.2.2.1.1.2, FF.out.2.2.2.1.2.2, (by have := ZZ.out; have := hpa.out; have := p1.out.length_eq; simp at *; omega), (by have := ZZ.out; have := hpa.out; have := p1.out.length_eq; simp at *; omega), (by have := ZZ.out; have := hpa.out; have := p1.out.length_eq; simp at *; omega), (by have := ZZ.out; omega), (by have := ZZ.out; omega), (by have := ZZ.out; have := hsz.out; have := p1.out.length_eq; simp at *; omega), hm, hc, hlc, (by have := hO.out; simpa using this)⟩).mono ?_
              rintro ee w9 ⟨rfl, N2, p2, s2, ho9, hg9⟩
              replace p2 := Aside.mk p2
              replace s2 := Aside.mk s2
              replace hO := Aside.mk (show OwnI T w9 base H g len c (pre ++ (N1 ++ (N2 ++ post))) from by simpa using ho9)
              replace hg := Aside.mk (grownBy_trans hg.out hg9)
              clear ho9 hg9
              go_wp2_with fail
              go_end0
              exact sym_fin HI.out.sat FF.out.2.2.2.2.1 FF.out.2.2.2.2.2 FF.out.1 p1.out s1.out p2.out s2.out hO.out hg.out
            · have hce : ¬ (e : Int) < (b : Int) := by omega
              have p2 := Aside.mk (List.Perm.refl (L2 ++ M2))
              have s2 := Aside.mk (srt_one (K := K) FF.out.2.1.2.1 FF.out.2.1.2.2.2 (Or.inr (List.eq_nil_of_length_eq_zero (by have := ZZ.out; omega))))
              go_wp2_with fail
              go_end0
              exact sym_fin HI.out.sat FF.out.2.2.2.2.1 FF.out.2.2.2.2.2 FF.out.1 p1.out s1.out p2.out s2.out hO.out hg.out
          · have hca : ¬ (a : Int) < (i : Int) := by omega
            obtain ⟨N1, hN1⟩ : ∃ N1, N1 = L1 ++ M1 := ⟨_, rfl⟩
            have p1 := Aside.mk (show N1.Perm (L1 ++ M1) from by rw [hN1])
            have s1 := Aside.mk (show Srt K N1 from by rw [hN1]; exact srt_one FF.out.2.1.1 FF.out.2.1.2.2.1 (Or.inl (List.eq_nil_of_length_eq_zero (by have := ZZ.out; omega))))
            rw [← hN1] at hO
            clear hN1
            by_cases hcc : e < b
            · have hce : (e : Int) < (b : Int) := by omega
              go_wp2_with fail
              refine (IH.out (pre ++ N1) L2 M2 post mid e b _ _ _ _ (by have := ZZ.out; omega) rfl rfl rfl ⟨HI.out.cmp, sat_g HI.out.sat h0.out hg.out, FF.out.2.1.2.1, FF.out.2.1.2.2.2, FF.out.2.2.1.2, FF.out.2.2.2.1.1.2, FF.out.2.2.2.1.2.2, (by have := ZZ.out; have := hpa.out; have := p1.out.length_eq; simp at *; omega), (by have := ZZ.out; have := hpa.out; have := p1.out.length_eq; simp at *; omega), (by have := ZZ.out; have := hpa.out; have := p1.out.length_eq; simp at *; omega), (by have := ZZ.out; omega), (by have := ZZ.out; omega), (by have := ZZ.out; have := hsz.out; have := p1.out.length_eq; simp at *; omega), hm, hc, hlc, (by have := hO.out; simpa using this)⟩).mono ?_
              rintro ee w9 ⟨rfl, N2, p2, s2, ho9, hg9⟩
              replace p2 := Aside.mk p2
              replace s2 := Aside.mk s2
              replace hO := Aside.mk (show OwnI T w9 base H g len c (pre ++ (N1 ++ (N2 ++ post))) from by simpa using ho9)
              replace hg := Aside.mk (grownBy_trans hg.out hg9)
              clear ho9 hg9
              go_wp2_with fail
              go_end0
              exact sym_fin HI.out.sat FF.out.2.2.2.2.1 FF.out.2.2.2.2.2 FF.out.1 p1.out s1.out p2.out s2.out hO.out hg.out
            · have hce : ¬ (e : Int) < (b : Int) := by omega
              have p2 := Aside.mk (List.Perm.refl (L2 ++ M2))
              have s2 := Aside.mk (srt_one (K := K) FF.out.2.1.2.1 FF.out.2.1.2.2.2 (Or.inr (List.eq_nil_of_length_eq_zero (by have := ZZ.out; omega))))
              go_wp2_with fail
              go_end0
              exact sym_fin HI.out.sat FF.out.2.2.2.2.1 FF.out.2.2.2.2.2 FF.out.1 p1.out s1.out p2.out s2.out hO.out hg.out
        · have hc2 : ¬ (m : Int) < (e : Int) ∧ ¬ (i : Int) < (mid : Int) := ⟨by have := ZZ.out; omega, by omega⟩
          obtain ⟨hc2, hc4⟩ := hc2
          have hO := Aside.mk (show OwnI T wr base H g len c (pre ++ ((L1 ++ M1) ++ ((L2 ++ M2) ++ post))) from by
            have e9 : M1 = [] := List.eq_nil_of_length_eq_zero (by have := ZZ.out; omega)
            have := hown.out; rw [e9] at this ⊢; simpa using this)
          clear hown
          by_cases hcc : a < i
          · have hca : (a : Int) < (i : Int) := by omega
            obtain ⟨N1, hN1⟩ : ∃ N1, N1 = L1 ++ M1 := ⟨_, rfl⟩
            have p1 := Aside.mk (show N1.Perm (L1 ++ M1) from by rw [hN1])
            have s1 := Aside.mk (show Srt K N1 from by rw [hN1]; exact srt_one FF.out.2.1.1 FF.out.2.1.2.2.1 (Or.inr (List.eq_nil_of_length_eq_zero (by have := ZZ.out; omega))))
            rw [← hN1] at hO
            clear hN1
            by_cases hcc : e < b
            · have hce : (e : Int) < (b : Int) := by omega
              go_wp2_with fail
              refine (IH.out (pre ++ N1) L2 M2 post mid e b _ _ _ _ (by have := ZZ.out; omega) rfl rfl rfl ⟨HI.out.cmp, sat_g HI.out.sat h0.out hg.out, FF.out.2.1.2.1, FF.out.2.1.2.2.2, FF.out.2.2.1.2, FF.out.2.2.2.1.1.2, FF.out.2.2.2.1.2.2, (by have := ZZ.out; have := hpa.out; have := p1.out.length_eq; simp at *; omega), (by have := ZZ.out; have := hpa.out; have := p1.out.length_eq; simp at *; omega), (by have := ZZ.out; have := hpa.out; have := p1.out.length_eq; simp at *; omega), (by have := ZZ.out; omega), (by have := ZZ.out; omega), (by have := ZZ.out; have := hsz.out; have := p1.out.length_eq; simp at *; omega), hm, hc, hlc, (by have := hO.out; simpa using this)⟩).mono ?_
              rintro ee w9 ⟨rfl, N2, p2, s2, ho9, hg9⟩
              replace p2 := Aside.mk p2
              replace s2 := Aside.mk s2
              replace hO := Aside.mk (show OwnI T w9 base H g len c (pre ++ (N1 ++ (N2 ++ post))) from by simpa using ho9)
              replace hg := Aside.mk (grownBy_trans hg.out hg9)
              clear ho9 hg9
              go_wp2_with fail
              go_end0
              exact sym_fin HI.out.sat FF.out.2.2.2.2.1 FF.out.2.2.2.2.2 FF.out.1 p1.out s1.out p2.out s2.out hO.out hg.out
            · have hce : ¬ (e : Int) < (b : Int) := by omega
              have p2 := Aside.mk (List.Perm.refl (L2 ++ M2))
              have s2 := Aside.mk (srt_one (K := K) FF.out.2.1.2.1 FF.out.2.1.2.2.2 (Or.inr (List.eq_nil_of_length_eq_zero (by have := ZZ.out; omega))))
              go_wp2_with fail
              go_end0
              exact sym_fin HI.out.sat FF.out.2.2.2.2.1 FF.out.2.2.2.2.2 FF.out.1 p1.out s1.out p2.out s2.out hO.out hg.out
          · have hca : ¬ (a : Int) < (i : Int) := by omega
            obtain ⟨N1, hN1⟩ : ∃ N1, N1 = L1 ++ M1 := ⟨_, rfl⟩
            have p1 := Aside.mk (show N1.Perm (L1 ++ M1) from by rw [hN1])
            have s1 := Aside.mk (show Srt K N1 from by rw [hN1]; exact srt_one FF.out.2.1.1 FF.out.2.1.2.2.1 (Or.inr (List.eq_nil_of_length_eq_zero (by have := ZZ.out; omega))))
            rw [← hN1] at hO
            clear hN1
            by_cases hcc : e < b
            · have hce : (e : Int) < (b : Int) := by omega
              go_wp2_with fail
              refine (IH.out (pre ++ N1) L2 M2 post mid e b _ _ _ _ (by have := ZZ.out; omega) rfl rfl rfl ⟨HI.out.cmp, sat_g HI.out.sat h0.out hg.out, FF.out.2.1.2.1, FF.out.2.1.2.2.2, FF.out.2.2.1.2, FF.out.2.2.2.1.1.2, FF.out.2.2.2.1.2.2, (by have := ZZ.out; have := hpa.out; have := p1.out.length_eq; simp at *; omega), (by have := ZZ.out; have := hpa.out; have := p1.out.length_eq; simp at *; omega), (by have := ZZ.out; have := hpa.out; have := p1.out.length_eq; simp at *; omega), (by have := ZZ.out; omega), (by have := ZZ.out; omega), (by have := ZZ.out; have := hsz.out; have := p1.out.length_eq; simp at *; omega), hm, hc, hlc, (by have := hO.out; simpa using this)⟩).mono ?_
              rintro ee w9 ⟨rfl, N2, p2, s2, ho9, hg9⟩
              replace p2 := Aside.mk p2
              replace s2 := Aside.mk s2
              replace hO := Aside.mk (show OwnI T w9 base H g len c (pre ++ (N1 ++ (N2 ++ post))) from by simpa using ho9)
              replace hg := Aside.mk (grownBy_trans hg.out hg9)
              clear ho9 hg9
              go_wp2_with fail
              go_end0
              exact sym_fin HI.out.sat FF.out.2.2.2.2.1 FF.out.2.2.2.2.2 FF.out.1 p1.out s1.out p2.out s2.out hO.out hg.out
            · have hce : ¬ (e : Int) < (b : Int) := by omega
              have p2 := Aside.mk (List.Perm.refl (L2 ++ M2))
              have s2 := Aside.mk (srt_one (K := K) FF.out.2.1.2.1 FF.out.2.1.2.2.2 (Or.inr (List.eq_nil_of_length_eq_zero (by have := ZZ.out; omega))))
              go_wp2_with fail
              go_end0
              exact sym_fin HI.out.sat FF.out.2.2.2.2.1 FF.out.2.2.2.2.2 FF.out.1 p1.out s1.out p2.out s2.out hO.out hg.out
      · have hc1 : ¬ (i : Int) < (m : Int) ∧ ¬ (mid : Int) < (e : Int) := ⟨by omega, by have := ZZ.out; omega⟩
        exfalso; omega

set_option maxRecDepth 100000 in
set_option maxHeartbeats 8000000 in
theorem sym_lo (K : Int → Int) (n0 pd : Nat) (T : TypeId) (base : Nat) (H : PH) (pre L M post : List Int) (a m b d : Nat) (g len c : Nat) (w : World)
    (h : SymIn K n0 pd T base H pre L M post g len c w a m b) (hL2 : 2 ≤ L.length) (hM2 : 2 ≤ M.length) (hd : L.length + M.length ≤ d + 1) (ih : SymAll K n0 pd T base H g len c d) (mid : Nat) (hmid : mid = (a + b) / 2) (hcase : m ≤ mid) :
    Calls Try.prog 180 #[.slice (some ⟨g, 0, none⟩) len c, .int .i64 a, .int .i64 m, .int .i64 b, cmpV pd] w (SymPost K T base H pre L M post g len c w) := by
  have h0 := Aside.mk h.none
  have hLL : L.length = m - a := by have := h.ea; have := h.em; omega
  have hMM : M.length = b - m := by have := h.eb; have := h.em; omega
  have hb1 : a + 1 < m := by omega
  have hb3 : m + 1 < b := by omega
  have hb2 : b ≤ len := by have := h.hlen; have := h.eb; omega
  have hm := h.hm
  have hc := h.hc
  have hlc := h.hlc
  have hdd : b - a ≤ d + 1 := by omega
  have HI := Aside.mk h
  have C := Aside.mk h.cmp
  have IH := Aside.mk ih
  replace hLL := Aside.mk hLL
  replace hMM := Aside.mk hMM
  have hd1 : ((m : Int) - (a : Int) == 1) = false := by simp; omega
  have hd2 : ((b : Int) - (m : Int) == 1) = false := by simp; omega
  have hmI : ((a : Int) + (b : Int)) / 2 = (mid : Int) := by omega
  have hmd := Aside.mk hmid
  have hma : a < mid := by omega
  have hmb : mid < b := by omega
  clear h hL2 hM2 hd ih hmid
  have hcI : ¬ (mid : Int) < (m : Int) := by omega
  obtain ⟨lo, hlo⟩ : ∃ lo : Nat, lo = a := ⟨_, rfl⟩
  obtain ⟨hi, hhi⟩ : ∃ hi : Nat, hi = m := ⟨_, rfl⟩
  have MD : Mid a m b mid lo hi := ⟨by omega, by omega, by omega, by omega, by omega, by omega, by omega, by omega, by omega, by omega⟩
  replace MD := Aside.mk MD
  replace hlo := Aside.mk hlo
  replace hhi := Aside.mk hhi
  go_enter Try.func180, Try.ntmps180
  go_wp2_with fail
  clear hd1 hd2 hmI hcI
  go_loopw [20, 21, 23] (fun s10 s11 s12 wr => ∃ i j : Nat, lo ≤ i ∧ i ≤ j ∧ j ≤ hi ∧ s10 = .int .i64 (i : Int) ∧ s11 = .int .i64 (j : Int) ∧ Aside ((i = lo ∨ K (at0 M (mid + m - i - m)) ≤ K (at0 L (i - 1 - a))) ∧ (j = hi ∨ K (at0 L (j - a)) < K (at0 M (mid + m - 1 - j - m)))) ∧ Aside (OwnI T wr base H g len c (pre ++ (L ++ (M ++ post)))) ∧ Aside (w.grownBy wr (some g))) (fun s10 s11 _ _ => (intOf s11).toNat - (intOf s10).toNat)
  case atStart => exact ⟨lo, hi, by omega, MD.out.h2, by omega, (by congr 1; have := hlo.out; omega), (by congr 1; have := hhi.out; omega), ⟨Or.inl rfl, Or.inl rfl⟩, ⟨HI.out.own⟩, ⟨grownBy_refl _ _⟩⟩
  case round =>
    obtain ⟨i, j, hi_, hij, hj, rfl, rfl, hQ, hO, hg⟩ := hrel
    have m1 := MD.out.h1
    have m3 := MD.out.h3
    have m4 := MD.out.h4
    have m5 := MD.out.h5
    by_cases hlt : i < j
    · have hli : (i : Int) < (j : Int) := by omega
      obtain ⟨h, hh⟩ : ∃ h : Nat, ((i : Int) + (j : Int)) / 2 = (h : Int) := ⟨(i + j) / 2, by omega⟩
      have q1 : i ≤ h := by omega
      have q2 : h < j := by omega
      go_wp2_with fail
      try simp only [hh]
      clear hh
      obtain ⟨u, hu⟩ : ∃ u : Nat, (mid : Int) + (m : Int) - 1 - (h : Int) = (u : Int) := ⟨mid + m - 1 - h, by omega⟩
      have hun : u = mid + m - 1 - h := by omega
      have hum : m ≤ u := by omega
      have hub : u < b := by omega
      replace hun := Aside.mk hun
      have hL := HI.out.ea
      have e1 : at0 (pre ++ (L ++ (M ++ post))) u = at0 M (u - m) := by
        have := at_M pre L M post (u - m) (by have := hMM.out; omega)
        rw [← HI.out.em, show m + (u - m) = u by omega] at this; exact this
      have e2 : at0 (pre ++ (L ++ (M ++ post))) h = at0 L (h - a) := by
        have := at_L pre L M post (h - a) (by have := hLL.out; omega)
        rw [← hL, show a + (h - a) = h by omega] at this; exact this
      have hdY : 0 ≤ at0 L (h - a) ∧ at0 L (h - a) < n0 := HI.out.dL _ (at0_mem L _ (by have := hLL.out; omega))
      have hdX : 0 ≤ at0 M (u - m) ∧ at0 M (u - m) < n0 := HI.out.dM _ (at0_mem M _ (by have := hMM.out; omega))
      have DD := Aside.mk (And.intro hdX hdY)
      have hln : (pre ++ (L ++ (M ++ post))).length = len := by have := HI.out.hlen; simp at *; omega
      replace hln := Aside.mk hln
      clear hL hdY hdX
      have b1 : (h : Int) < (len : Int) := by omega
      have b2 : (u : Int) < (len : Int) := by omega
      have b3 : (0 : Int) ≤ (h : Int) := by omega
      have b4 : (0 : Int) ≤ (u : Int) := by omega
      have b5 : IntKind.i64.wrap ((mid : Int) + (m : Int) - 1 - (h : Int)) = (u : Int) := by rw [hu]; exact IntWalk.i64_in _ (by omega)
      clear hu
      by_cases hk : K (at0 L (h - a)) < K (at0 M (u - m))
      · replace hk := Aside.mk hk
        generalize hy : at0 L (h - a) = Y at *
        generalize hx : at0 M (u - m) = X at *
        have hd0 := Aside.mk (Own.drew hO.out)
        have hsd : Sat wr.drew H := (sat_g HI.out.sat h0.out hg.out).drew
        have g1 := OwnI.get hd0.out (u) (by have := hln.out; omega)
        have g2 := OwnI.get hd0.out (h) (by have := hln.out; omega)
        rw [e1] at g1; rw [e2] at g2
        have HS2 := Aside.mk (fun (w' : World) (hb : OwnI T w' base H g len c (pre ++ (L ++ (M ++ post)))) => show w'.cell? ⟨g, u, none⟩ = some (.int .i64 X) ∧ w'.cell? ⟨g, h, none⟩ = some (.int .i64 Y) from ⟨by rw [← e1]; exact hb.get _ (by have := hln.out; omega), by rw [← e2]; exact hb.get _ (by have := hln.out; omega)⟩)
        have EE := Aside.mk (And.intro e1 e2)
        clear e1 e2
        go_wp2_with fail
        go_region_held3 (fun w' => w'.cell? ⟨g, u, none⟩ = some (.int .i64 X) ∧ w'.cell? ⟨g, h, none⟩ = some (.int .i64 Y))
          (first | exact HS2.out _ hd0.out | exact HS2.out _ ho1)
          ((go_at_call 112; refine (C.out.lt hsd DD.out.1 DD.out.2 hk.out).mono ?_; rintro e w1 ⟨r, rfl, hr, hb1⟩; have hrd : decide (r < 0) = true := (by simpa using hr); have ho1 := Own.below hd0.out hsd hb1))
        have hg1 := Aside.mk (grownBy_trans hg.out (grownBy_trans (grownBy_drewS _ _) (grownBy_below hb1 _)))
        replace ho1 := Aside.mk ho1
        clear g1 g2 hsd HS2 hd0 hb1
        go_wp2_with fail
        go_roundw
        case rel => exact ⟨i, h, hi_, by omega, by omega, rfl, rfl, ⟨hQ.out.1, Or.inr (by have h9 := hk.out; have h8 := hun.out; rw [show mid + m - 1 - h - m = u - m by omega, hy, hx]; exact h9)⟩, ho1, hg1⟩
        case measure => first | (simp [intOf]; done) | (simp [intOf]; omega)
      · replace hk := Aside.mk hk
        generalize hy : at0 L (h - a) = Y at *
        generalize hx : at0 M (u - m) = X at *
        have hd0 := Aside.mk (Own.drew hO.out)
        have hsd : Sat wr.drew H := (sat_g HI.out.sat h0.out hg.out).drew
        have g1 := OwnI.get hd0.out (u) (by have := hln.out; omega)
        have g2 := OwnI.get hd0.out (h) (by have := hln.out; omega)
        rw [e1] at g1; rw [e2] at g2
        have HS2 := Aside.mk (fun (w' : World) (hb : OwnI T w' base H g len c (pre ++ (L ++ (M ++ post)))) => show w'.cell? ⟨g, u, none⟩ = some (.int .i64 X) ∧ w'.cell? ⟨g, h, none⟩ = some (.int .i64 Y) from ⟨by rw [← e1]; exact hb.get _ (by have := hln.out; omega), by rw [← e2]; exact hb.get _ (by have := hln.out; omega)⟩)
        have EE := Aside.mk (And.intro e1 e2)
        clear e1 e2
        go_wp2_with fail
        go_region_held3 (fun w' => w'.cell? ⟨g, u, none⟩ = some (.int .i64 X) ∧ w'.cell? ⟨g, h, none⟩ = some (.int .i64 Y))
          (first | exact HS2.out _ hd0.out | exact HS2.out _ ho1)
          ((go_at_call 112; refine (C.out.ge hsd DD.out.1 DD.out.2 (by have := hk.out; omega)).mono ?_; rintro e w1 ⟨r, rfl, hr, hb1⟩; have hrd : decide (r < 0) = false := (by simpa using hr); have ho1 := Own.below hd0.out hsd hb1))
        have hg1 := Aside.mk (grownBy_trans hg.out (grownBy_trans (grownBy_drewS _ _) (grownBy_below hb1 _)))
        replace ho1 := Aside.mk ho1
        clear g1 g2 hsd HS2 hd0 hb1
        go_wp2_with fail
        go_roundw
        case rel => exact ⟨h + 1, j, by omega, by omega, hj, by go_num, rfl, ⟨Or.inr (by have h9 := hk.out; have h8 := hun.out; rw [show h + 1 - 1 - a = h - a by omega, show mid + m - (h + 1) - m = u - m by omega, hy, hx]; omega), hQ.out.2⟩, ho1, hg1⟩
        case measure => first | (simp [intOf]; done) | (simp [intOf]; omega)
    · obtain rfl : i = j := by omega
      have hli : ¬ (i : Int) < (i : Int) := by omega
      obtain ⟨e, he⟩ : ∃ e : Nat, (mid : Int) + (m : Int) - (i : Int) = (e : Int) := ⟨mid + m - i, by omega⟩
      have hen : e = mid + m - i := by omega
      have hme : m ≤ e := by omega
      have heb : e ≤ b := by omega
      obtain ⟨L1, hL1⟩ : ∃ l, l = L.take (i - a) := ⟨_, rfl⟩
      obtain ⟨L2, hL2⟩ : ∃ l, l = L.drop (i - a) := ⟨_, rfl⟩
      obtain ⟨M1, hM1⟩ : ∃ l, l = M.take (mid - i) := ⟨_, rfl⟩
      obtain ⟨M2, hM2⟩ : ∃ l, l = M.drop (mid - i) := ⟨_, rfl⟩
      have z1 : L1.length = i - a := by rw [hL1, List.length_take]; have := hLL.out; omega
      have z2 : L2.length = m - i := by rw [hL2, List.length_drop]; have := hLL.out; omega
      have z3 : M1.length = mid - i := by rw [hM1, List.length_take]; have := hMM.out; omega
      have z4 : M2.length = b - e := by rw [hM2, List.length_drop]; have := hMM.out; omega
      have zL : L = L1 ++ L2 := by rw [hL1, hL2, List.take_append_drop]
      have zM : M = M1 ++ M2 := by rw [hM1, hM2, List.take_append_drop]
      have hcr := sym_cross (K := K) (L := L) (M := M) (s := i - a) (t := mid - i) HI.out.sL HI.out.sM HI.out.lt (by have := hLL.out; omega) (by have := hMM.out; omega)
        (by rcases hQ.out.1 with h | h
            · have h6 := MD.out.h6; have := hMM.out; rcases h6 with h6 | h6
              · exact Or.inl (by omega)
              · exact Or.inr (Or.inl (by omega))
            · exact Or.inr (Or.inr (by rw [show i - a - 1 = i - 1 - a by omega, show mid - i = mid + m - i - m by omega]; omega)))
        (by rcases hQ.out.2 with h | h
            · have h7 := MD.out.h7; have := hLL.out; rcases h7 with h7 | h7
              · exact Or.inl (by omega)
              · exact Or.inr (Or.inl (by omega))
            · exact Or.inr (Or.inr (by rw [show mid - i - 1 = mid + m - 1 - i - m by omega]; exact h)))
      rw [← hL1, ← hL2, ← hM1, ← hM2] at hcr
      have hso : Srt K L1 ∧ Srt K L2 ∧ Srt K M1 ∧ Srt K M2 := ⟨by rw [hL1]; exact (sub_srt HI.out.sL _).1, by rw [hL2]; exact (sub_srt HI.out.sL _).2, by rw [hM1]; exact (sub_srt HI.out.sM _).1, by rw [hM2]; exact (sub_srt HI.out.sM _).2⟩
      have hltx : (∀ x ∈ L1, ∀ y ∈ M1, x < y) ∧ (∀ x ∈ L2, ∀ y ∈ M2, x < y) := ⟨fun x hx y hy => HI.out.lt x (by rw [zL]; simp [hx]) y (by rw [zM]; simp [hy]), fun x hx y hy => HI.out.lt x (by rw [zL]; simp [hx]) y (by rw [zM]; simp [hy])⟩
      have hdx : (InD n0 L1 ∧ InD n0 L2) ∧ (InD n0 M1 ∧ InD n0 M2) := ⟨⟨fun x hx => HI.out.dL x (by rw [zL]; simp [hx]), fun x hx => HI.out.dL x (by rw [zL]; simp [hx])⟩, ⟨fun x hx => HI.out.dM x (by rw [zM]; simp [hx]), fun x hx => HI.out.dM x (by rw [zM]; simp [hx])⟩⟩
      have hown : OwnI T wr base H g len c (pre ++ (L1 ++ (L2 ++ (M1 ++ (M2 ++ post))))) := by have := hO.out; rw [zL, zM] at this; simpa using this
      replace hown := Aside.mk hown
      have FF := Aside.mk (And.intro hcr (And.intro hso (And.intro hltx (And.intro hdx (And.intro zL zM)))))
      have ZZ := Aside.mk (And.intro z1 (And.intro z2 (And.intro z3 (And.intro z4 hen))))
      have hia : a ≤ i := by omega
      have him : i ≤ m := by omega
      have himd : i ≤ mid := by omega
      have hsz : pre.length + (L1.length + (L2.length + (M1.length + (M2.length + post.length)))) = len := by have := HI.out.hlen; have := HI.out.ea; have := hLL.out; have := hMM.out; omega
      replace hsz := Aside.mk hsz
      have hpa := Aside.mk HI.out.ea
      clear hcr hso hltx hdx zL zM z1 z2 z3 z4 hL1 hL2 hM1 hM2 hQ hO hen
      have b5 : IntKind.i64.wrap ((mid : Int) + (m : Int) - (i : Int)) = (e : Int) := by rw [he]; exact IntWalk.i64_in _ (by omega)
      clear he
      by_cases hcc : i < m
      · have hc1 : (i : Int) < (m : Int) ∧ (mid : Int) < (e : Int) := ⟨by omega, by have := ZZ.out; omega⟩
        obtain ⟨hc1, hc3⟩ := hc1
        by_cases hcc : i < mid
        · have hc2 : (m : Int) < (e : Int) ∧ (i : Int) < (mid : Int) := ⟨by have := ZZ.out; omega, by omega⟩
          obtain ⟨hc2, hc4⟩ := hc2
          go_wp2_with fail
          refine (rotate_any T base H (pre ++ L1) L2 M1 (M2 ++ post) i m e g len c _ _ _ _ _ (by have := ZZ.out; have := hpa.out; simp at *; omega) (by have := ZZ.out; have := hpa.out; simp at *; omega) (by have := ZZ.out; have := hpa.out; simp at *; omega) (by have := ZZ.out; omega) (by have := ZZ.out; omega) rfl rfl rfl (by have := hsz.out; simp at *; omega) hm hc hlc (by have := hown.out; simpa using this)).mono ?_
          rintro ee w7 ⟨rfl, ho7, hg7⟩
          have hO := Aside.mk (show OwnI T w7 base H g len c (pre ++ ((L1 ++ M1) ++ ((L2 ++ M2) ++ post))) from by simpa using ho7)
          replace hg := Aside.mk (grownBy_trans hg.out hg7)
          clear ho7 hg7 hown
          by_cases hcc : a < i
          · have hca : (a : Int) < (i : Int) := by omega
            go_wp2_with fail
            refine (IH.out pre L1 M1 ((L2 ++ M2) ++ post) a i mid _ _ _ _ (by have := ZZ.out; omega) rfl rfl rfl ⟨HI.out.cmp, sat_g HI.out.sat h0.out hg.out, FF.out.2.1.1, FF.out.2.1.2.2.1, FF.out.2.2.1.1, FF.out.2.2.2.1.1.1, FF.out.2.2.2.1.2.1, hpa.out, (by have := ZZ.out; have := hpa.out; omega), (by have := ZZ.out; have := hpa.out; omega), (by have := ZZ.out; omega), (by have := ZZ.out; omega), (by have := hsz.out; simp at *; omega), hm, hc, hlc, (by have := hO.out; simpa using this)⟩).mono ?_
            rintro ee w8 ⟨rfl, N1, p1, s1, ho8, hg8⟩
            replace p1 := Aside.mk p1
            replace s1 := Aside.mk s1
            replace hO := Aside.mk ho8
            replace hg := Aside.mk (grownBy_trans hg.out hg8)
            clear ho8 hg8
            by_cases hcc : e < b
            · have hce : (e : Int) < (b : Int) := by omega
              go_wp2_with fail
              refine (IH.out (pre ++ N1) L2 M2 post mid e b _ _ _ _ (by have := ZZ.out; omega) rfl rfl rfl ⟨HI.out.cmp, sat_g HI.out.sat h0.out hg.out, FF.out.2.1.2.1, FF.out.2.1.2.2.2, FF.out.2.2.1.2, FF.out.2.2.2.1.1.2, FF.out.2.2.2.1.2.2, (by have := ZZ.out; have := hpa.out; have := p1.out.length_eq; simp at *; omega), (by have := ZZ.out; have := hpa.out; have := p1.out.length_eq; simp at *; omega), (by have := ZZ.out; have := hpa.out; have := p1.out.length_eq; simp at *; omega), (by have := ZZ.out; omega), (by have := ZZ.out; omega), (by have := ZZ.out; have := hsz.out; have := p1.out.length_eq; simp at *; omega), hm, hc, hlc, (by have := hO.out; simpa using this)⟩).mono ?_
              rintro ee w9 ⟨rfl, N2, p2, s2, ho9, hg9⟩
              replace p2 := Aside.mk p2
              replace s2 := Aside.mk s2
              replace hO := Aside.mk (show OwnI T w9 base H g len c (pre ++ (N1 ++ (N2 ++ post))) from by simpa using ho9)
              replace hg := Aside.mk (grownBy_trans hg.out hg9)
              clear ho9 hg9
              go_wp2_with fail
              go_end0
              exact sym_fin HI.out.sat FF.out.2.2.2.2.1 FF.out.2.2.2.2.2 FF.out.1 p1.out s1.out p2.out s2.out hO.out hg.out
            · have hce : ¬ (e : Int) < (b : Int) := by omega
              have p2 := Aside.mk (List.Perm.refl (L2 ++ M2))
              have s2 := Aside.mk (srt_one (K := K) FF.out.2.1.2.1 FF.out.2.1.2.2.2 (Or.inr (List.eq_nil_of_length_eq_zero (by have := ZZ.out; omega))))
              go_wp2_with fail
              go_end0
              exact sym_fin HI.out.sat FF.out.2.2.2.2.1 FF.out.2.2.2.2.2 FF.out.1 p1.out s1.out p2.out s2.out hO.out hg.out
          · have hca : ¬ (a : Int) < (i : Int) := by omega
            obtain ⟨N1, hN1⟩ : ∃ N1, N1 = L1 ++ M1 := ⟨_, rfl⟩
            have p1 := Aside.mk (show N1.Perm (L1 ++ M1) from by rw [hN1])
            have s1 := Aside.mk (show Srt K N1 from by rw [hN1]; exact srt_one FF.out.2.1.1 FF.out.2.1.2.2.1 (Or.inl (List.eq_nil_of_length_eq_zero (by have := ZZ.out; omega))))
            rw [← hN1] at hO
            clear hN1
            by_cases hcc : e < b
            · have hce : (e : Int) < (b : Int) := by omega
              go_wp2_with fail
              refine (IH.out (pre ++ N1) L2 M2 post mid e b _ _ _ _ (by have := ZZ.out; omega) rfl rfl rfl ⟨HI.out.cmp, sat_g HI.out.sat h0.out hg.out, FF.out.2.1.2.1, FF.out.2.1.2.2.2, FF.out.2.2.1.2, FF.out.2.2.2.1.1.2, FF.out.2.2.2.1.2.2, (by have := ZZ.out; have := hpa.out; have := p1.out.length_eq; simp at *; omega), (by have := ZZ.out; have := hpa.out; have := p1.out.length_eq; simp at *; omega), (by have := ZZ.out; have := hpa.out; have := p1.out.length_eq; simp at *; omega), (by have := ZZ.out; omega), (by have := ZZ.out; omega), (by have := ZZ.out; have := hsz.out; have := p1.out.length_eq; simp at *; omega), hm, hc, hlc, (by have := hO.out; simpa using this)⟩).mono ?_
              rintro ee w9 ⟨rfl, N2, p2, s2, ho9, hg9⟩
              replace p2 := Aside.mk p2
              replace s2 := Aside.mk s2
              replace hO := Aside.mk (show OwnI T w9 base H g len c (pre ++ (N1 ++ (N2 ++ post))) from by simpa using ho9)
              replace hg := Aside.mk (grownBy_trans hg.out hg9)
              clear ho9 hg9
              go_wp2_with fail
              go_end0
              exact sym_fin HI.out.sat FF.out.2.2.2.2.1 FF.out.2.2.2.2.2 FF.out.1 p1.out s1.out p2.out s2.out hO.out hg.out
            · have hce : ¬ (e : Int) < (b : Int) := by omega
              have p2 := Aside.mk (List.Perm.refl (L2 ++ M2))
              have s2 := Aside.mk (srt_one (K := K) FF.out.2.1.2.1 FF.out.2.1.2.2.2 (Or.inr (List.eq_nil_of_length_eq_zero (by have := ZZ.out; omega))))
              go_wp2_with fail
              go_end0
              exact sym_fin HI.out.sat FF.out.2.2.2.2.1 FF.out.2.2.2.2.2 FF.out.1 p1.out s1.out p2.out s2.out hO.out hg.out
        · have hc2 : ¬ (m : Int) < (e : Int) ∧ ¬ (i : Int) < (mid : Int) := ⟨by have := ZZ.out; omega, by omega⟩
          obtain ⟨hc2, hc4⟩ := hc2
          have hO := Aside.mk (show OwnI T wr base H g len c (pre ++ ((L1 ++ M1) ++ ((L2 ++ M2) ++ post))) from by
            have e9 : M1 = [] := List.eq_nil_of_length_eq_zero (by have := ZZ.out; omega)
            have := hown.out; rw [e9] at this ⊢; simpa using this)
          clear hown
          by_cases hcc : a < i
          · have hca : (a : Int) < (i : Int) := by omega
            obtain ⟨N1, hN1⟩ : ∃ N1, N1 = L1 ++ M1 := ⟨_, rfl⟩
            have p1 := Aside.mk (show N1.Perm (L1 ++ M1) from by rw [hN1])
            have s1 := Aside.mk (show Srt K N1 from by rw [hN1]; exact srt_one FF.out.2.1.1 FF.out.2.1.2.2.1 (Or.inr (List.eq_nil_of_length_eq_zero (by have := ZZ.out; omega))))
            rw [← hN1] at hO
            clear hN1
            by_cases hcc : e < b
            · have hce : (e : Int) < (b : Int) := by omega
              go_wp2_with fail
              refine (IH.out (pre ++ N1) L2 M2 post mid e b _ _ _ _ (by have := ZZ.out; omega) rfl rfl rfl ⟨HI.out.cmp, sat_g HI.out.sat h0.out hg.out, FF.out.2.1.2.1, FF.out.2.1.2.2.2, FF.out.2.2.1.2, FF.out.2.2.2.1.1.2, FF.out.2.2.2.1.2.2, (by have := ZZ.out; have := hpa.out; have := p1.out.length_eq; simp at *; omega), (by have := ZZ.out; have := hpa.out; have := p1.out.length_eq; simp at *; omega), (by have := ZZ.out; have := hpa.out; have := p1.out.length_eq; simp at *; omega), (by have := ZZ.out; omega), (by have := ZZ.out; omega), (by have := ZZ.out; have := hsz.out; have := p1.out.length_eq; simp at *; omega), hm, hc, hlc, (by have := hO.out; simpa using this)⟩).mono ?_
              rintro ee w9 ⟨rfl, N2, p2, s2, ho9, hg9⟩
              replace p2 := Aside.mk p2
              replace s2 := Aside.mk s2
              replace hO := Aside.mk (show OwnI T w9 base H g len c (pre ++ (N1 ++ (N2 ++ post))) from by simpa using ho9)
              replace hg := Aside.mk (grownBy_trans hg.out hg9)
              clear ho9 hg9
              go_wp2_with fail
              go_end0
              exact sym_fin HI.out.sat FF.out.2.2.2.2.1 FF.out.2.2.2.2.2 FF.out.1 p1.out s1.out p2.out s2.out hO.out hg.out
            · have hce : ¬ (e : Int) < (b : Int) := by omega
              have p2 := Aside.mk (List.Perm.refl (L2 ++ M2))
              have s2 := Aside.mk (srt_one (K := K) FF.out.2.1.2.1 FF.out.2.1.2.2.2 (Or.inr (List.eq_nil_of_length_eq_zero (by have := ZZ.out; omega))))
              go_wp2_with fail
              go_end0
              exact sym_fin HI.out.sat FF.out.2.2.2.2.1 FF.out.2.2.2.2.2 FF.out.1 p1.out s1.out p2.out s2.out hO.out hg.out
          · have hca : ¬ (a : Int) < (i : Int) := by omega
            obtain ⟨N1, hN1⟩ : ∃ N1, N1 = L1 ++ M1 := ⟨_, rfl⟩
            have p1 := Aside.mk (show N1.Perm (L1 ++ M1) from by rw [hN1])
            have s1 := Aside.mk (show Srt K N1 from by rw [hN1]; exact srt_one FF.out.2.1.1 FF.out.2.1.2.2.1 (Or.inr (List.eq_nil_of_length_eq_zero (by have := ZZ.out; omega))))
            rw [← hN1] at hO
            clear hN1
            by_cases hcc : e < b
            · have hce : (e : Int) < (b : Int) := by omega
              go_wp2_with fail
              refine (IH.out (pre ++ N1) L2 M2 post mid e b _ _ _ _ (by have := ZZ.out; omega) rfl rfl rfl ⟨HI.out.cmp, sat_g HI.out.sat h0.out hg.out, FF.out.2.1.2.1, FF.out.2.1.2.2.2, FF.out.2.2.1.2, FF.out.2.2.2.1.1.2, FF.out.2.2.2.1.2.2, (by have := ZZ.out; have := hpa.out; have := p1.out.length_eq; simp at *; omega), (by have := ZZ.out; have := hpa.out; have := p1.out.length_eq; simp at *; omega), (by have := ZZ.out; have := hpa.out; have := p1.out.length_eq; simp at *; omega), (by have := ZZ.out; omega), (by have := ZZ.out; omega), (by have := ZZ.out; have := hsz.out; have := p1.out.length_eq; simp at *; omega), hm, hc, hlc, (by have := hO.out; simpa using this)⟩).mono ?_
              rintro ee w9 ⟨rfl, N2, p2, s2, ho9, hg9⟩
              replace p2 := Aside.mk p2
              replace s2 := Aside.mk s2
              replace hO := Aside.mk (show OwnI T w9 base H g len c (pre ++ (N1 ++ (N2 ++ post))) from by simpa using ho9)
              replace hg := Aside.mk (grownBy_trans hg.out hg9)
              clear ho9 hg9
              go_wp2_with fail
              go_end0
              exact sym_fin HI.out.sat FF.out.2.2.2.2.1 FF.out.2.2.2.2.2 FF.out.1 p1.out s1.out p2.out s2.out hO.out hg.out
            · have hce : ¬ (e : Int) < (b : Int) := by omega
              have p2 := Aside.mk (List.Perm.refl (L2 ++ M2))
              have s2 := Aside.mk (srt_one (K := K) FF.out.2.1.2.1 FF.out.2.1.2.2.2 (Or.inr (List.eq_nil_of_length_eq_zero (by have := ZZ.out; omega))))
              go_wp2_with fail
              go_end0
              exact sym_fin HI.out.sat FF.out.2.2.2.2.1 FF.out.2.2.2.2.2 FF.out.1 p1.out s1.out p2.out s2.out hO.out hg.out
      · have hc1 : ¬ (i : Int) < (m : Int) ∧ ¬ (mid : Int) < (e : Int) := ⟨by omega, by have := ZZ.out; omega⟩
        obtain ⟨hc1, hc3⟩ := hc1
        by_cases hcc : i < mid
        · have hc4 : (i : Int) < (mid : Int) := by omega
          have hO := Aside.mk (show OwnI T wr base H g len c (pre ++ ((L1 ++ M1) ++ ((L2 ++ M2) ++ post))) from by
            have e9 : L2 = [] := List.eq_nil_of_length_eq_zero (by have := ZZ.out; omega)
            have := hown.out; rw [e9] at this ⊢; simpa using this)
          clear hown
          by_cases hcc : a < i
          · have hca : (a : Int) < (i : Int) := by omega
            go_wp2_with fail
            refine (IH.out pre L1 M1 ((L2 ++ M2) ++ post) a i mid _ _ _ _ (by have := ZZ.out; omega) rfl rfl rfl ⟨HI.out.cmp, sat_g HI.out.sat h0.out hg.out, FF.out.2.1.1, FF.out.2.1.2.2.1, FF.out.2.2.1.1, FF.out.2.2.2.1.1.1, FF.out.2.2.2.1.2.1, hpa.out, (by have := ZZ.out; have := hpa.out; omega), (by have := ZZ.out; have := hpa.out; omega), (by have := ZZ.out; omega), (by have := ZZ.out; omega), (by have := hsz.out; simp at *; omega), hm, hc, hlc, (by have := hO.out; simpa using this)⟩).mono ?_
            rintro ee w8 ⟨rfl, N1, p1, s1, ho8, hg8⟩
            replace p1 := Aside.mk p1
            replace s1 := Aside.mk s1
            replace hO := Aside.mk ho8
            replace hg := Aside.mk (grownBy_trans hg.out hg8)
            clear ho8 hg8
            have p2 := Aside.mk (List.Perm.refl (L2 ++ M2))
            have s2 := Aside.mk (srt_one (K := K) FF.out.2.1.2.1 FF.out.2.1.2.2.2 (Or.inl (List.eq_nil_of_length_eq_zero (by have := ZZ.out.2.1; omega))))
            go_wp2_with fail
            go_end0
            exact sym_fin HI.out.sat FF.out.2.2.2.2.1 FF.out.2.2.2.2.2 FF.out.1 p1.out s1.out p2.out s2.out hO.out hg.out
          · have hca : ¬ (a : Int) < (i : Int) := by omega
            obtain ⟨N1, hN1⟩ : ∃ N1, N1 = L1 ++ M1 := ⟨_, rfl⟩
            have p1 := Aside.mk (show N1.Perm (L1 ++ M1) from by rw [hN1])
            have s1 := Aside.mk (show Srt K N1 from by rw [hN1]; exact srt_one FF.out.2.1.1 FF.out.2.1.2.2.1 (Or.inl (List.eq_nil_of_length_eq_zero (by have := ZZ.out; omega))))
            rw [← hN1] at hO
            clear hN1
            have p2 := Aside.mk (List.Perm.refl (L2 ++ M2))
            have s2 := Aside.mk (srt_one (K := K) FF.out.2.1.2.1 FF.out.2.1.2.2.2 (Or.inl (List.eq_nil_of_length_eq_zero (by have := ZZ.out.2.1; omega))))
            go_wp2_with fail
            go_end0
            exact sym_fin HI.out.sat FF.out.2.2.2.2.1 FF.out.2.2.2.2.2 FF.out.1 p1.out s1.out p2.out s2.out hO.out hg.out
        · have hc4 : ¬ (i : Int) < (mid : Int) := by omega
          have hO := Aside.mk (show OwnI T wr base H g len c (pre ++ ((L1 ++ M1) ++ ((L2 ++ M2) ++ post))) from by
            have e9 : L2 = [] := List.eq_nil_of_length_eq_zero (by have := ZZ.out; omega)
            have := hown.out; rw [e9] at this ⊢; simpa using this)
          clear hown
          by_cases hcc : a < i
          · have hca : (a : Int) < (i : Int) := by omega
            obtain ⟨N1, hN1⟩ : ∃ N1, N1 = L1 ++ M1 := ⟨_, rfl⟩
            have p1 := Aside.mk (show N1.Perm (L1 ++ M1) from by rw [hN1])
            have s1 := Aside.mk (show Srt K N1 from by rw [hN1]; exact srt_one FF.out.2.1.1 FF.out.2.1.2.2.1 (Or.inr (List.eq_nil_of_length_eq_zero (by have := ZZ.out; omega))))
            rw [← hN1] at hO
            clear hN1
            have p2 := Aside.mk (List.Perm.refl (L2 ++ M2))
            have s2 := Aside.mk (srt_one (K := K) FF.out.2.1.2.1 FF.out.2.1.2.2.2 (Or.inl (List.eq_nil_of_length_eq_zero (by have := ZZ.out.2.1; omega))))
            go_wp2_with fail
            go_end0
            exact sym_fin HI.out.sat FF.out.2.2.2.2.1 FF.out.2.2.2.2.2 FF.out.1 p1.out s1.out p2.out s2.out hO.out hg.out
          · have hca : ¬ (a : Int) < (i : Int) := by omega
            obtain ⟨N1, hN1⟩ : ∃ N1, N1 = L1 ++ M1 := ⟨_, rfl⟩
            have p1 := Aside.mk (show N1.Perm (L1 ++ M1) from by rw [hN1])
            have s1 := Aside.mk (show Srt K N1 from by rw [hN1]; exact srt_one FF.out.2.1.1 FF.out.2.1.2.2.1 (Or.inr (List.eq_nil_of_length_eq_zero (by have := ZZ.out; omega))))
            rw [← hN1] at hO
            clear hN1
            have p2 := Aside.mk (List.Perm.refl (L2 ++ M2))
            have s2 := Aside.mk (srt_one (K := K) FF.out.2.1.2.1 FF.out.2.1.2.2.2 (Or.inl (List.eq_nil_of_length_eq_zero (by have := ZZ.out.2.1; omega))))
            go_wp2_with fail
            go_end0
            exact sym_fin HI.out.sat FF.out.2.2.2.2.1 FF.out.2.2.2.2.2 FF.out.1 p1.out s1.out p2.out s2.out hO.out hg.out

theorem sym_any (K : Int → Int) (n0 pd : Nat) (T : TypeId) (base : Nat) (H : PH) (g len c : Nat) : ∀ d, SymAll K n0 pd T base H g len c d := by
  intro d
  induction d with
  | zero => intro pre L M post a m b x y z w hd hx hy hz h; have := h.nL; omega
  | succ d ih =>
    intro pre L M post a m b x y z w hd hx hy hz h
    subst hx; subst hy; subst hz
    have h1 := h.nL
    have h2 := h.nM
    have e1 := h.ea
    have e2 := h.em
    have e3 := h.eb
    by_cases c1 : L.length = 1
    · obtain ⟨X, rfl⟩ := List.length_eq_one_iff.1 c1
      have e4 : m = a + 1 := by simp at e2; omega
      subst e4
      exact sym_left K n0 pd T base H pre M post X a b g len c w h
    · by_cases c2 : M.length = 1
      · obtain ⟨X, rfl⟩ := List.length_eq_one_iff.1 c2
        have e4 : b = m + 1 := by simp at e3; omega
        subst e4
        exact sym_right K n0 pd T base H pre L post X a m g len c w h c1
      · by_cases c3 : (a + b) / 2 < m
        · exact sym_hi K n0 pd T base H pre L M post a m b d g len c w h (by omega) (by omega) hd ih _ rfl c3
        · exact sym_lo K n0 pd T base H pre L M post a m b d g len c w h (by omega) (by omega) hd ih _ rfl (by omega)
end Go.Proofs.Ytbnahmeaeakhhaa.B
