/- Contract: slices.insertionSortCmpFunc over ints, a comparison by falling keys. -/
import Derived.Test.YtbnahmeaeakhhaaS4
import Derived.Deep.RegionHeld3
namespace Go.Proofs.Ytbnahmeaeakhhaa.B
set_option linter.unusedVariables false
set_option linter.unusedSimpArgs false
open Go Go.RowKit Go.Proofs.Ytbnahmeaeakhhaa.S

/-- the comparison that is handed in: below 0 just where the second key is less -/
def CmpOk (K : Int → Int) (n0 : Nat) (pd : Nat) (H : PH) : Prop := ∀ (W : World) (x y : Int), Sat W H → 0 ≤ x → x < n0 → 0 ≤ y → y < n0 →
  Calls Try.prog 112 #[.int .i64 x, .int .i64 y, .pointer (some ⟨pd, 0, none⟩)] W fun e w' => ∃ r, e = .returned (.int .i64 r) ∧ (r < 0 ↔ K y < K x) ∧ Below W.heap.size W w'
abbrev cmpV (pd : Nat) : Value := .func (.func 112) #[] #[.pointer (some ⟨pd, 0, none⟩)]
def LtPost (W : World) (e : Ending) (w' : World) : Prop := ∃ r, e = .returned (.int .i64 r) ∧ r < 0 ∧ Below W.heap.size W w'
def GePost (W : World) (e : Ending) (w' : World) : Prop := ∃ r, e = .returned (.int .i64 r) ∧ ¬ r < 0 ∧ Below W.heap.size W w'
theorem CmpOk.lt {K : Int → Int} {n0 pd : Nat} {H : PH} (h : CmpOk K n0 pd H) {W : World} {x y : Int} (hs : Sat W H) (hx : 0 ≤ x ∧ x < n0) (hy : 0 ≤ y ∧ y < n0) (hk : K y < K x) :
    Calls Try.prog 112 #[.int .i64 x, .int .i64 y, .pointer (some ⟨pd, 0, none⟩)] W (LtPost W) :=
  (h W x y hs hx.1 hx.2 hy.1 hy.2).mono fun _ _ ⟨r, h1, h2, h3⟩ => ⟨r, h1, h2.2 hk, h3⟩
theorem CmpOk.ge {K : Int → Int} {n0 pd : Nat} {H : PH} (h : CmpOk K n0 pd H) {W : World} {x y : Int} (hs : Sat W H) (hx : 0 ≤ x ∧ x < n0) (hy : 0 ≤ y ∧ y < n0) (hk : ¬ K y < K x) :
    Calls Try.prog 112 #[.int .i64 x, .int .i64 y, .pointer (some ⟨pd, 0, none⟩)] W (GePost W) :=
  (h W x y hs hx.1 hx.2 hy.1 hy.2).mono fun _ _ ⟨r, h1, h2, h3⟩ => ⟨r, h1, fun hr => hk (h2.1 hr), h3⟩
def InD (n0 : Nat) (l : List Int) : Prop := ∀ x ∈ l, 0 ≤ x ∧ x < n0
theorem OwnI.sat {T : TypeId} {w w' : World} {base : Nat} {H : PH} {g len c : Nat} {xs : List Int} (h : OwnI T w base H g len c xs) (hs : Sat w H) (hg : w.grownBy w' (some g)) : Sat w' H := Own.satG h hs hg

structure Ins (K : Int → Int) (T : TypeId) (base : Nat) (H : PH) (pre L post : List Int) (g len c : Nat) (w wr : World) (t : Nat) (Ls : List Int) : Prop where
  perm : Ls.Perm (L.take t)
  srt : Srt K Ls
  own : OwnI T wr base H g len c (pre ++ (Ls ++ (L.drop t ++ post)))
  gr : w.grownBy wr (some g)

theorem grownBy_drewNS (w : World) (row : Option Nat) (n : Nat) : w.grownBy (w.drewN n) row := ⟨rfl, rfl, rfl, Nat.le_refl _, fun _ _ _ => rfl⟩
theorem Ins.drewN {K : Int → Int} {T : TypeId} {base : Nat} {H : PH} {pre L post : List Int} {g len c : Nat} {w wr : World} {t : Nat} {Ls : List Int} (h : Ins K T base H pre L post g len c w wr t Ls) (n : Nat) : Ins K T base H pre L post g len c w (wr.drewN n) t Ls :=
  ⟨h.perm, h.srt, Own.drewN h.own n, grownBy_trans h.gr (grownBy_drewNS _ _ _)⟩

set_option maxRecDepth 100000 in
set_option maxHeartbeats 8000000 in
theorem insertion_any (K : Int → Int) (n0 pd : Nat) (T : TypeId) (base : Nat) (H : PH) (pre L post : List Int) (a b g len c : Nat) (w : World) (x y : Int)
    (hcmp : CmpOk K n0 pd H) (hs : Sat w H) (hinc : Inc L) (hd : InD n0 L) (ea : a = pre.length) (eb : b = pre.length + L.length) (hx : x = a) (hy : y = b)
    (hlen : len = pre.length + L.length + post.length) (hm : len ≤ 4000) (hc : c ≤ maxLen) (hlc : len ≤ c)
    (ho : OwnI T w base H g len c (pre ++ (L ++ post))) :
    Calls Try.prog 179 #[.slice (some ⟨g, 0, none⟩) len c, .int .i64 x, .int .i64 y, cmpV pd] w
      fun r w' => r = .returned (.tuple #[]) ∧ ∃ N, N.Perm L ∧ Srt K N ∧ OwnI T w' base H g len c (pre ++ (N ++ post)) ∧ w.grownBy w' (some g) := by
  subst hx; subst hy
  have hab : a ≤ b := by omega
  have hbl : b ≤ len := by omega
  have hLl : L.length = b - a := by omega
  have E := Aside.mk (And.intro ea (And.intro hLl hlen))
  have C := Aside.mk hcmp
  have HS := Aside.mk hs
  have HN := Aside.mk (fun o => (Own.blk ho (b := g) rfl).2.2 o)
  have HI := Aside.mk (And.intro hinc hd)
  have hst0 : Aside (Ins K T base H pre L post g len c w w 1 (L.take 1)) := ⟨⟨List.Perm.refl _, by cases L <;> simp, by
    have : L.take 1 ++ (L.drop 1 ++ post) = L ++ post := by rw [← List.append_assoc, List.take_append_drop]
    rw [this]; exact ho, grownBy_refl _ _⟩⟩
  clear ea eb hlen hLl hcmp hs hinc hd ho
  go_enter Try.func179, Try.ntmps179
  go_wp2_with fail
  go_loopw [8, 9] (fun s8 s9 wr => ∃ (i t : Nat) (Ls : List Int), 1 ≤ t ∧ i ≤ b + 1 ∧ s8 = .int .i64 (i : Int) ∧ Aside (i = a + t) ∧ Aside (Ins K T base H pre L post g len c w wr t Ls)) (fun s8 _ _ => b + 1 - (intOf s8).toNat)
  case atStart => exact ⟨a + 1, 1, _, by omega, by omega, by go_num, ⟨rfl⟩, hst0⟩
  case round =>
    clear hst0
    obtain ⟨i, t, Ls, ht, htb, rfl, hit, hI⟩ := hrel
    by_cases hlt : i < b
    · have hli : (i : Int) < (b : Int) := by omega
      have htl : t < L.length := by have := E.out.2.1; have := hit.out; omega
      have hLs : Ls.length = t := by rw [hI.out.perm.length_eq, List.length_take]; omega
      obtain ⟨X, hX⟩ : ∃ X, X = at0 L t := ⟨_, rfl⟩
      have hXd : 0 ≤ X ∧ X < n0 := by rw [hX]; exact HI.out.2 _ (at0_mem L t htl)
      have hLd : InD n0 Ls := fun z hz => HI.out.2 z (List.mem_of_mem_take (hI.out.perm.mem_iff.1 hz))
      have hLx : ∀ z ∈ Ls, z < X := fun z hz => by
        have h1 := hI.out.perm.mem_iff.1 hz
        have h2 := HI.out.1
        rw [← List.take_append_drop t L, drop_get L t htl] at h2
        rw [hX]
        exact (List.pairwise_append.1 h2).2.2 z h1 _ (by simp)
      obtain ⟨rest, hr⟩ : ∃ rest, rest = L.drop (t + 1) ++ post := ⟨_, rfl⟩
      have hown : OwnI T wr base H g len c (shR pre Ls X rest t) := by
        have h1 := hI.out.own
        rw [drop_get L t htl, ← hX] at h1
        have h2 := shR_all pre Ls X rest
        rw [hLs] at h2
        rw [h2, hr]; simpa using h1
      have Z := Aside.mk (And.intro hX (And.intro hXd (And.intro hLd (And.intro hLx (And.intro hr hLs)))))
      replace hown := Aside.mk hown
      have hab2 : i ≤ len := by omega
      have hai : a < i := by have := hit.out; omega
      clear hX hXd hLd hLx hr hLs htl
      go_wp2_with fail
      obtain ⟨wo, rfl⟩ : ∃ wo : World, wo = wr := ⟨_, rfl⟩
      go_loopw [9] (fun s9 wr => ∃ j : Nat, a ≤ j ∧ j ≤ i ∧ s9 = .int .i64 (j : Int) ∧ Aside (j = i ∨ K (at0 Ls (j - a)) < K X) ∧ Aside (OwnI T wr base H g len c (shR pre Ls X rest (j - a))) ∧ Aside (w.grownBy wr (some g))) (fun s9 _ => (intOf s9).toNat)
      case atStart => exact ⟨i, by omega, by omega, rfl, ⟨Or.inl rfl⟩, (by have h1 := hit.out; rw [show i - a = t by omega]; exact hown), ⟨hI.out.gr⟩⟩
      case round =>
        clear hown
        obtain ⟨j, haj, hji, rfl, hQ, hO, hg⟩ := hrel
        have hln : (shR pre Ls X rest (j - a)).length = len := by
          have h1 := Z.out.2.2.2.2.2; have h2 := E.out; have h3 := hit.out; rw [shR_length, Z.out.2.2.2.2.1, List.length_append, List.length_drop]; omega
        have hex : (j - a = 0 ∨ ¬ K (at0 Ls (j - a - 1)) < K X) → Aside (Ins K T base H pre L post g len c w wr (t + 1) (Ls.take (j - a) ++ X :: Ls.drop (j - a))) := fun hq0 => by
          have h1 := Z.out.2.2.2.2.2
          have h3 := hit.out
          obtain ⟨r1, r2⟩ := right_one (K := K) (x := X) (L := Ls) (k := j - a) hI.out.srt Z.out.2.2.2.1 (by omega) hq0 (by rw [h1]; rcases hQ.out with h | h; exact Or.inl (by omega); exact Or.inr h)
          refine ⟨⟨r2.trans ?_, r1, ?_, hg.out⟩⟩
          · rw [take_get L t (by have := E.out.2.1; omega), ← Z.out.1]; exact List.Perm.append_right _ hI.out.perm
          · have h2 := hO.out
            rw [Z.out.2.2.2.2.1] at h2
            simpa [shR] using h2
        replace hex := Aside.mk hex
        replace hln := Aside.mk hln
        by_cases h0 : j = a
        · subst h0
          have hgt : decide ((j : Int) < (j : Int)) = false := by simp
          replace hex := (hex.out (Or.inl (by omega)))
          go_wp2_with fail
          go_quiet (fail)
          go_wp2_with fail
          go_roundw
          case rel => exact ⟨i + 1, t + 1, _, by omega, by omega, by go_num, ⟨by have := hit.out; omega⟩, ⟨hex.out.drewN _⟩⟩
          case measure => first | (simp [intOf]; done) | (simp [intOf]; omega)
        · obtain ⟨p, rfl⟩ : ∃ p, j = p + 1 := ⟨j - 1, by omega⟩
          have hap : a ≤ p := by omega
          have hgt : (a : Int) < (p : Int) + 1 := by omega
          have hdt : decide ((a : Int) < (p : Int) + 1) = true := by simp; omega
          have hpL : p - a < Ls.length := by have := Z.out.2.2.2.2.2; have := hit.out; omega
          have hd0 := Aside.mk (hO.out.drew)
          have g1 := OwnI.get hd0.out (p + 1) (by have := hln.out; omega)
          have g2 := OwnI.get hd0.out p (by have := hln.out; omega)
          have e1 := shR_at pre Ls X rest (p + 1 - a) (by omega)
          have e2 := shR_ahead pre Ls X rest (p - a) hpL
          rw [← E.out.1, show a + (p + 1 - a) = p + 1 by omega] at e1
          rw [← E.out.1, show p - a + 1 = p + 1 - a by omega, show a + (p - a) = p by omega] at e2
          rw [e1] at g1; rw [e2] at g2
          have hYd : 0 ≤ at0 Ls (p - a) ∧ at0 Ls (p - a) < n0 := Z.out.2.2.1 _ (at0_mem Ls (p - a) hpL)
          have GG := Aside.mk (And.intro e1 (And.intro e2 hYd))
          have HS2 := Aside.mk (fun (w' : World) (hb : OwnI T w' base H g len c (shR pre Ls X rest (p + 1 - a))) => show w'.cell? ⟨g, p + 1, none⟩ = some (.int .i64 X) ∧ w'.cell? ⟨g, p, none⟩ = some (.int .i64 (at0 Ls (p - a))) from
            ⟨by rw [← GG.out.1]; exact hb.get _ (by have := hln.out; omega), by rw [← GG.out.2.1]; exact hb.get _ (by have := hln.out; omega)⟩)
          clear e1 e2 hYd
          have hsd : Sat wr.drew H := (HS.out.grown hg.out (fun b e o => by cases e; exact HN.out o)).drew
          have b1 : (p : Int) < (len : Int) := by omega
          have b4 : (0 : Int) ≤ (p : Int) := by omega
          have b5 : (0 : Int) ≤ (p : Int) + 1 := by omega
          have b6 : ((p : Int) + 1).toNat = p + 1 := by omega
          have b2 : (p : Int) + 1 < (len : Int) := by omega
          have b3 : IntKind.i64.wrap ((p : Int) + 1 - 1) = (p : Int) := by rw [IntWalk.i64_in _ (by omega)]; omega
          have b7 : IntKind.i64.wrap (p : Int) = (p : Int) := IntWalk.i64_in _ (by omega)
          by_cases hk : K (at0 Ls (p - a)) < K X
          · replace hk := Aside.mk hk
            generalize hy : at0 Ls (p - a) = Y at *
            go_wp2_with fail
            go_region_held3 (fun w' => w'.cell? ⟨g, p + 1, none⟩ = some (.int .i64 X) ∧ w'.cell? ⟨g, p, none⟩ = some (.int .i64 Y))
              (first | exact HS2.out _ hd0.out | exact HS2.out _ ho1)
              ((go_at_call 112; refine (C.out.lt hsd Z.out.2.1 GG.out.2.2 hk.out).mono ?_; rintro e w1 ⟨r, rfl, hr, hb1⟩; have ho1 := Own.below hd0.out hsd hb1))
            clear g1 g2 hsd HS2
            obtain ⟨⟨G0, G1, F0⟩, ⟨G2, F1⟩, P2, Q2⟩ := OwnI.swap ho1 hln.out.symm (p + 1) p (by have := hln.out; omega) (by have := hln.out; omega) (by omega)
            have hst := shR_back pre Ls X rest (p - a) hpL
            rw [← E.out.1, show p - a + 1 = p + 1 - a by omega, show a + (p - a) + 1 = p + 1 by omega, show a + (p - a) = p by omega] at hst
            rw [hst] at P2
            rw [GG.out.1, GG.out.2.1] at P2 Q2
            rw [GG.out.1] at G0
            rw [GG.out.2.1] at G1 G2 F1
            replace P2 := Aside.mk P2
            replace Q2 := Aside.mk (grownBy_trans hg.out (grownBy_trans (grownBy_trans (grownBy_drewS _ _) (grownBy_below hb1 _)) Q2))
            clear hst ho1 hb1 hex hd0
            go_wp2_with fail
            go_region
            go_wp2_with fail
            go_roundw
            case rel => exact ⟨p, hap, by omega, rfl, ⟨Or.inr (by rw [hy]; exact hk.out)⟩, P2, Q2⟩
            case measure => first | (simp [intOf]; done) | (simp [intOf]; omega)
          · replace hex := (hex.out (Or.inr (by rw [show p + 1 - a - 1 = p - a by omega]; exact hk)))
            replace hk := Aside.mk hk
            generalize hy : at0 Ls (p - a) = Y at *
            go_wp2_with fail
            go_region_held3 (fun w' => w'.cell? ⟨g, p + 1, none⟩ = some (.int .i64 X) ∧ w'.cell? ⟨g, p, none⟩ = some (.int .i64 Y))
              (first | exact HS2.out _ hd0.out | exact HS2.out _ ho1)
              ((go_at_call 112; refine (C.out.ge hsd Z.out.2.1 GG.out.2.2 (Int.not_lt.2 hk.out)).mono ?_; rintro e w1 ⟨r, rfl, hr, hb1⟩; have ho1 := Own.below hd0.out hsd hb1))
            clear g1 g2 hsd HS2
            obtain ⟨x1, x2, x3, x4⟩ := hex.out
            have hex1 : Aside (Ins K T base H pre L post g len c w w1 (t + 1) (Ls.take (p + 1 - a) ++ X :: Ls.drop (p + 1 - a))) := ⟨⟨x1, x2, (by have h2 := ho1; rw [Z.out.2.2.2.2.1] at h2; simpa [shR] using h2), grownBy_trans hg.out (grownBy_trans (grownBy_drewS _ _) (grownBy_below hb1 _))⟩⟩
            clear x1 x2 x3 x4 ho1 hb1 hex hd0 hln
            go_wp2_with fail
            go_roundw
            case rel => exact ⟨i + 1, t + 1, _, by omega, by omega, by go_num, ⟨by have := hit.out; omega⟩, hex1⟩
            case measure => first | (simp [intOf]; done) | (simp [intOf]; omega)
    · have hli : ¬ (i : Int) < (b : Int) := by omega
      go_wp2_with fail
      go_end0
      have h9 := hI.out
      have e1 : L.take t = L := List.take_of_length_le (by have := E.out.2.1; have := hit.out; omega)
      have e2 : L.drop t = [] := List.drop_of_length_le (by have := E.out.2.1; have := hit.out; omega)
      refine ⟨rfl, Ls, by have := h9.perm; rw [e1] at this; exact this, h9.srt, ?_, h9.gr⟩
      have := h9.own
      rw [e2, List.nil_append] at this
      exact this
end Go.Proofs.Ytbnahmeaeakhhaa.B
