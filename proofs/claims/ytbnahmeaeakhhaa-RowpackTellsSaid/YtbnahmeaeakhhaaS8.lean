/- Contract: slices.SortStableFunc over ints, a comparison by falling keys. -/
import Derived.Test.YtbnahmeaeakhhaaS7
namespace Go.Proofs.Ytbnahmeaeakhhaa.B
set_option linter.unusedVariables false
set_option linter.unusedSimpArgs false
open Go Go.RowKit Go.Proofs.Ytbnahmeaeakhhaa.S

theorem sl_two (xs : List Int) {l u : Nat} (h2 : l ≤ u) (h3 : u ≤ xs.length) : xs = xs.take l ++ (sl l u xs ++ xs.drop u) := by
  have := sl_parts xs (Nat.le_refl l) h2 h3
  have e : sl l l xs = [] := by unfold sl; simp
  rw [e, List.nil_append] at this
  simpa using this
theorem sl_three (xs : List Int) {l m u : Nat} (h1 : l ≤ m) (h2 : m ≤ u) (h3 : u ≤ xs.length) : xs = xs.take l ++ (sl l m xs ++ (sl m u xs ++ xs.drop u)) := by
  have := sl_parts xs h1 h2 h3
  simpa using this
theorem sl_sub {xs : List Int} {l u : Nat} {x : Int} (h : x ∈ sl l u xs) : x ∈ xs := List.mem_of_mem_drop (List.mem_of_mem_take h)
theorem ok_ind {K : Int → Int} {xs0 xs : List Int} {l u n0 : Nat} (h : Ok K xs0 xs l u) (hd : InD n0 xs0) : InD n0 (sl l u xs) := fun x hx => hd x (sl_sub (h.2.mem_iff.1 hx))
theorem sl_inc {xs : List Int} (h : Inc xs) (l u : Nat) : Inc (sl l u xs) := List.Pairwise.sublist (List.take_sublist _ _) (List.Pairwise.sublist (List.drop_sublist _ _) h)

/-- one merging of a pass, ready for the call -/
theorem sym_ready {K : Int → Int} {n0 pd : Nat} {T : TypeId} {base : Nat} {H : PH} {xs0 xs : List Int} {g len c l m u : Nat} {w wr : World} (hcmp : CmpOk K n0 pd H) (hs : Sat w H) (hn : ∀ o, H g o = none) (hg : w.grownBy wr (some g))
    (hinc : Inc xs0) (hd : InD n0 xs0) (hl : xs.length = xs0.length) (hlen : len = xs.length) (hm : len ≤ 4000) (hc : c ≤ maxLen) (hlc : len ≤ c) (h1 : l < m) (h2 : m < u) (h3 : u ≤ xs.length)
    (ha : Ok K xs0 xs l m) (hb : Ok K xs0 xs m u) (ho : OwnI T wr base H g len c xs) : SymIn K n0 pd T base H (xs.take l) (sl l m xs) (sl m u xs) (xs.drop u) g len c wr l m u := by
  have e1 : (sl l m xs).length = m - l := by rw [sl_length]; omega
  have e2 : (sl m u xs).length = u - m := by rw [sl_length]; omega
  have e3 : (xs.take l).length = l := by rw [List.length_take]; omega
  have e4 : (xs.drop u).length = xs.length - u := by rw [List.length_drop]
  exact ⟨hcmp, sat_g hs hn hg, ha.1, hb.1, Ok.cross hinc (by omega) (by omega) ha hb, ok_ind ha hd, ok_ind hb hd, e3.symm, by omega, by omega, by omega, by omega, by omega, hm, hc, hlc, by rw [← sl_three xs (by omega) (by omega) h3]; exact ho⟩

set_option maxRecDepth 100000 in
set_option maxHeartbeats 16000000 in
theorem stable_any (K : Int → Int) (n0 pd : Nat) (T : TypeId) (base : Nat) (H : PH) (xs0 : List Int) (g len c : Nat) (w : World)
    (hcmp : CmpOk K n0 pd H) (hs : Sat w H) (hinc : Inc xs0) (hd : InD n0 xs0) (hlen : len = xs0.length) (hm : len ≤ 4000) (hc : c ≤ maxLen) (hlc : len ≤ c) (ho : OwnI T w base H g len c xs0) :
    Calls Try.prog 163 #[.slice (some ⟨g, 0, none⟩) len c, .int .i64 len, cmpV pd] w
      fun r w' => r = .returned (.tuple #[]) ∧ ∃ N, N.Perm xs0 ∧ Srt K N ∧ OwnI T w' base H g len c N ∧ w.grownBy w' (some g) := by
  have hn := Aside.mk (fun o => (Own.blk ho (b := g) rfl).2.2 o)
  have C := Aside.mk hcmp
  have HS := Aside.mk hs
  have HI := Aside.mk (And.intro hinc hd)
  have HL := Aside.mk hlen
  have hown := Aside.mk ho
  clear hcmp hs hinc hd hlen ho
  go_enter Try.func163, Try.ntmps163
  go_wp2_with fail
  go_loopw [7, 8] (fun s7 s8 wr => ∃ (a b : Nat) (xs : List Int), a ≤ len ∧ s7 = .int .i64 (a : Int) ∧ s8 = .int .i64 (b : Int) ∧ Aside (b = a + 20 ∧ 20 ∣ a) ∧ Aside (Beg K xs0 xs 20 a) ∧ Aside (OwnI T wr base H g len c xs) ∧ Aside (w.grownBy wr (some g))) (fun s7 _ _ => len - (intOf s7).toNat)
  case atStart => exact ⟨0, 20, xs0, by omega, by go_num, by go_num, ⟨rfl, by omega⟩, ⟨Beg.start _ _ _⟩, hown, ⟨grownBy_refl _ _⟩⟩
  case round =>
    clear hown
    obtain ⟨a, b, xs, ha, rfl, rfl, hab, hB, hO, hg⟩ := hrel
    by_cases hlt : b ≤ len
    · have hli : (b : Int) ≤ (len : Int) := by omega
      have hba : a < b := by have := hab.out; omega
      go_wp2_with fail
      have hxl : xs.length = len := hB.out.1.trans HL.out.symm
      have e1 : (sl a b xs).length = b - a := by rw [sl_length]; omega
      have e3 : (xs.take a).length = a := by rw [List.length_take]; omega
      have e4 : (xs.drop b).length = len - b := by rw [List.length_drop]; omega
      have e5 : sl a b xs = sl a b xs0 := sl_drop hB.out.2.2 (Nat.le_refl a)
      refine (insertion_any K n0 pd T base H (xs.take a) (sl a b xs) (xs.drop b) a b g len c wr _ _ C.out (sat_g HS.out hn.out hg.out) (by rw [e5]; exact sl_inc HI.out.1 _ _) (fun x hx => HI.out.2 x (by rw [e5] at hx; exact sl_sub hx)) e3.symm (by omega) rfl rfl (by omega) hm hc hlc (by rw [← sl_two xs (by omega) (by omega)]; exact hO.out)).mono ?_
      rintro e w1 ⟨rfl, Nn, hN, hSr, ho1, hg1⟩
      have hst := hB.out.step (by omega) hab.out.2 (by have := hab.out.1; omega) (by rw [← hab.out.1]; exact hN) hSr
      rw [← hab.out.1] at hst
      have ho2 := Aside.mk (show OwnI T w1 base H g len c (xs.take a ++ Nn ++ xs.drop b) from by simpa using ho1)
      replace hst := Aside.mk hst
      have hg2 := Aside.mk (grownBy_trans hg.out hg1)
      clear hxl e1 e3 e4 e5 hN hSr ho1 hg1
      go_wp2_with fail
      go_roundw
      case rel => exact ⟨b, b + 20, _, by omega, rfl, by go_num, ⟨rfl, by have := hab.out; omega⟩, hst, ho2, hg2⟩
      case measure => first | (simp [intOf]; done) | (simp [intOf]; omega)
    · have hli : ¬ (b : Int) ≤ (len : Int) := by omega
      go_wp2_with fail
      have hxl : xs.length = len := hB.out.1.trans HL.out.symm
      have e1 : (sl a len xs).length = len - a := by rw [sl_length]; omega
      have e3 : (xs.take a).length = a := by rw [List.length_take]; omega
      have e4 : (xs.drop len).length = len - len := by rw [List.length_drop]; omega
      have e5 : sl a len xs = sl a len xs0 := sl_drop hB.out.2.2 (Nat.le_refl a)
      refine (insertion_any K n0 pd T base H (xs.take a) (sl a len xs) (xs.drop len) a len g len c wr _ _ C.out (sat_g HS.out hn.out hg.out) (by rw [e5]; exact sl_inc HI.out.1 _ _) (fun x hx => HI.out.2 x (by rw [e5] at hx; exact sl_sub hx)) e3.symm (by omega) rfl rfl (by omega) hm hc hlc (by rw [← sl_two xs (by omega) (by omega)]; exact hO.out)).mono ?_
      rintro e w1 ⟨rfl, Nn, hN, hSr, ho1, hg1⟩
      have hst := hB.out.last (by omega) hab.out.2 (by omega) (by have := hab.out.1; omega) (by rw [hxl]; exact hN) hSr
      rw [hxl] at hst
      have ho2 := Aside.mk (show OwnI T w1 base H g len c (xs.take a ++ Nn ++ xs.drop len) from by simpa using ho1)
      replace hst := Aside.mk hst
      have hg2 := Aside.mk (grownBy_trans hg.out hg1)
      clear hxl e1 e3 e4 e5 hN hSr ho1 hg1 hO hB hg hab
      generalize xs.take a ++ Nn ++ xs.drop len = ys at *
      go_wp2_with fail
      obtain ⟨wo, rfl⟩ : ∃ wo : World, wo = wr := ⟨_, rfl⟩
      go_loopw [6, 7, 8, 9] (fun s6 s7 s8 s9 wr => ∃ (s : Nat) (xs : List Int), 20 ≤ s ∧ s ≤ 8000 ∧ s6 = .int .i64 (s : Int) ∧ Aside (Blk K xs0 xs s) ∧ Aside (OwnI T wr base H g len c xs) ∧ Aside (w.grownBy wr (some g))) (fun s6 _ _ _ _ => len - (intOf s6).toNat)
      case atStart => exact ⟨20, ys, by omega, by omega, by go_num, hst, ho2, hg2⟩
      case round =>
        clear hst ho2 hg2
        obtain ⟨s, xs, hs20, hs8, rfl, hK, hO, hg⟩ := hrel
        by_cases hsl : s < len
        · have hli2 : (s : Int) < (len : Int) := by omega
          go_wp2_with fail
          obtain ⟨w3, rfl⟩ : ∃ w3 : World, w3 = wr := ⟨_, rfl⟩
          go_loopw [7, 8] (fun s7 s8 wr => ∃ (a b : Nat) (xs : List Int), a ≤ len ∧ s7 = .int .i64 (a : Int) ∧ s8 = .int .i64 (b : Int) ∧ Aside (b = a + 2 * s ∧ 2 * s ∣ a) ∧ Aside (Pass K xs0 xs s a) ∧ Aside (OwnI T wr base H g len c xs) ∧ Aside (w.grownBy wr (some g))) (fun s7 _ _ => len - (intOf s7).toNat)
          case atStart => exact ⟨0, 2 * s, xs, by omega, by go_num, by go_num, ⟨by omega, Nat.dvd_zero _⟩, ⟨hK.out.pass⟩, hO, hg⟩
          case round =>
            clear hK hO hg
            obtain ⟨a, b, xs, ha, rfl, rfl, hab, hP, hO, hg⟩ := hrel
            by_cases hlt : b ≤ len
            · have hli : (b : Int) ≤ (len : Int) := by omega
              have hba : a < b := by have := hab.out; omega
              go_wp2_with fail
              have hxl : xs.length = len := hP.out.1.trans HL.out.symm
              have o1 := hP.out.2.2 a (dvd_half hab.out.2) (Nat.le_refl _)
              have o2 := hP.out.2.2 (a + s) (Nat.dvd_add (dvd_half hab.out.2) (Nat.dvd_refl s)) (by omega)
              rw [show a + s + s = b by have := hab.out.1; omega] at o2
              refine (sym_any K n0 pd T base H g len c _ (xs.take a) (sl a (a + s) xs) (sl (a + s) b xs) (xs.drop b) a (a + s) b _ _ _ _ (Nat.le_refl _) rfl (by omega) rfl (sym_ready C.out HS.out hn.out hg.out HI.out.1 HI.out.2 hP.out.1 hxl.symm hm hc hlc (by omega) (by have := hab.out.1; omega) (by omega) o1 o2 hO.out)).mono ?_
              rintro e w5 ⟨rfl, Nn, hN, hSr, ho1, hg1⟩
              have hst := hP.out.step HI.out.1 (by omega) hab.out.2 (by have := hab.out.1; omega) (by rw [← hab.out.1]; exact hN) hSr
              rw [← hab.out.1] at hst
              have ho2 := Aside.mk (show OwnI T w5 base H g len c (xs.take a ++ Nn ++ xs.drop b) from by simpa using ho1)
              replace hst := Aside.mk hst
              have hg2 := Aside.mk (grownBy_trans hg.out hg1)
              clear hxl o1 o2 hN hSr ho1 hg1
              go_wp2_with fail
              go_roundw
              case rel => exact ⟨b, b + 2 * s, _, by omega, rfl, by go_num, ⟨rfl, by have h7 := hab.out; rw [h7.1]; exact Nat.dvd_add h7.2 (Nat.dvd_refl _)⟩, hst, ho2, hg2⟩
              case measure => first | (simp [intOf]; done) | (simp [intOf]; omega)
            · have hli : ¬ (b : Int) ≤ (len : Int) := by omega
              have hxl := Aside.mk (show xs.length = len from hP.out.1.trans HL.out.symm)
              by_cases hmn : a + s < len
              · have hmi : (a : Int) + (s : Int) < (len : Int) := by omega
                go_wp2_with fail
                have o1 := hP.out.2.2 a (dvd_half hab.out.2) (Nat.le_refl _)
                have o2 := hP.out.2.2 (a + s) (Nat.dvd_add (dvd_half hab.out.2) (Nat.dvd_refl s)) (by omega)
                have o3 : Ok K xs0 xs (a + s) len := by
                  have := (Ok.clip hP.out.1 (by have := hab.out.1; have := hxl.out; omega)).1 o2
                  rw [hxl.out] at this; exact this
                refine (sym_any K n0 pd T base H g len c _ (xs.take a) (sl a (a + s) xs) (sl (a + s) len xs) (xs.drop len) a (a + s) len _ _ _ _ (Nat.le_refl _) rfl (by omega) rfl (sym_ready C.out HS.out hn.out hg.out HI.out.1 HI.out.2 hP.out.1 hxl.out.symm hm hc hlc (by omega) (by omega) (by have := hxl.out; omega) o1 o3 hO.out)).mono ?_
                rintro e w5 ⟨rfl, Nn, hN, hSr, ho1, hg1⟩
                have hst := hP.out.last HI.out.1 (by omega) hab.out.2 (by have := hxl.out; omega) (by have := hab.out.1; have := hxl.out; omega) (by rw [hxl.out]; exact hN) hSr
                rw [hxl.out] at hst
                have ho2 := Aside.mk (show OwnI T w5 base H g len c (xs.take a ++ Nn ++ xs.drop len) from by simpa using ho1)
                replace hst := Aside.mk hst
                have hg2 := Aside.mk (grownBy_trans hg.out hg1)
                clear o1 o2 o3 hN hSr ho1 hg1
                go_wp2_with fail
                go_roundw
                case rel => exact ⟨2 * s, _, by omega, by omega, by go_num, hst, ho2, hg2⟩
                case measure => first | (simp [intOf]; done) | (simp [intOf]; omega)
              · have hmi : ¬ (a : Int) + (s : Int) < (len : Int) := by omega
                have hst := Aside.mk (hP.out.skip (by omega) hab.out.2 (by have := hxl.out; omega))
                go_wp2_with fail
                go_roundw
                case rel => exact ⟨2 * s, _, by omega, by omega, by go_num, hst, hO, hg⟩
                case measure => first | (simp [intOf]; done) | (simp [intOf]; omega)
        · have hli2 : ¬ (s : Int) < (len : Int) := by omega
          go_wp2_with fail
          go_end0
          obtain ⟨f1, f2⟩ := hK.out.final (by have := hK.out.1; have := HL.out; omega)
          exact ⟨rfl, xs, f2, f1, hO.out, hg.out⟩

set_option maxRecDepth 100000 in
theorem sortStable_any (K : Int → Int) (n0 pd : Nat) (T : TypeId) (base : Nat) (H : PH) (xs0 : List Int) (v : Value) (w : World)
    (hcmp : CmpOk K n0 pd H) (hs : Sat w H) (hinc : Inc xs0) (hd : InD n0 xs0) (hpos : 0 < xs0.length) (hm : xs0.length ≤ 4000) (ho : Own (kI .i64) T w base H v xs0) :
    Calls Try.prog 111 #[v, cmpV pd] w
      fun r w' => r = .returned (.tuple #[]) ∧ ∃ N, N.Perm xs0 ∧ Srt K N ∧ Own (kI .i64) T w' base H v N ∧ w.grownBy w' v.ownBlock := by
  obtain ⟨g, c, cs, rfl, hlc, hc, -⟩ := ho.cells 0 hpos
  have h := stable_any K n0 pd T base H xs0 g xs0.length c w hcmp hs hinc hd rfl hm hc hlc ho
  have Hh := Aside.mk h
  clear h hcmp hs hinc hd ho
  go_enter Try.func111, Try.ntmps111
  go_wp2_with fail
  refine Hh.out.mono ?_
  rintro e w1 ⟨rfl, N, h1, h2, h3, h4⟩
  have H9 := Aside.mk (And.intro h1 (And.intro h2 (And.intro h3 h4)))
  clear h1 h2 h3 h4
  go_wp2_with fail
  go_end0
  exact ⟨rfl, N, H9.out.1, H9.out.2.1, H9.out.2.2.1, H9.out.2.2.2⟩
end Go.Proofs.Ytbnahmeaeakhhaa.B
