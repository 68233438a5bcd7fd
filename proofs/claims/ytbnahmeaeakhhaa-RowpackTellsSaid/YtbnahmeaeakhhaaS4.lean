/- Contracts: slices.swapRangeCmpFunc, slices.rotateCmpFunc over ints. -/
import Derived.Test.YtbnahmeaeakhhaaBd
import Derived.Test.YtbnahmeaeakhhaaS3
import Derived.RegionTactic
import Derived.Test.YtbnahmeaeakhhaaProg
namespace Go.Proofs.Ytbnahmeaeakhhaa.B
set_option linter.unusedVariables false
set_option linter.unusedSimpArgs false
open Go Go.RowKit Go.Proofs.Ytbnahmeaeakhhaa.S

theorem grownBy_drewS (w : World) (row : Option Nat) : w.grownBy w.drew row := ⟨rfl, rfl, rfl, Nat.le_refl _, fun _ _ _ => rfl⟩
/-- a row of ints that the call owns -/
abbrev OwnI (T : TypeId) (w : World) (base : Nat) (H : PH) (g len c : Nat) (xs : List Int) : Prop := Own (kI .i64) T w base H (.slice (some ⟨g, 0, none⟩) len c) xs
theorem OwnI.get {T : TypeId} {w : World} {base : Nat} {H : PH} {g len c : Nat} {xs : List Int} (h : OwnI T w base H g len c xs) (i : Nat) (hi : i < xs.length) : w.cell? ⟨g, i, none⟩ = some (.int .i64 (at0 xs i)) := by
  obtain ⟨ci, ri, gi⟩ := Own.at h i hi
  obtain rfl : ci = [.int .i64 xs[i]] := ri
  have G0 := gi 0 _ rfl
  simp only [kI, Nat.mul_one, Nat.add_zero] at G0
  rw [G0, at0_get _ _ hi]
theorem OwnI.put {T : TypeId} {w : World} {base : Nat} {H : PH} {g len c : Nat} {xs : List Int} (h : OwnI T w base H g len c xs) (hl : len = xs.length) (i : Nat) (hi : i < xs.length) (y : Int) :
    OwnI T (w.setCell ⟨g, i, none⟩ (.int .i64 y)) base H g len c (xs.set i y) ∧ w.grownBy (w.setCell ⟨g, i, none⟩ (.int .i64 y)) (some g) := Own.put1 h hl rfl hi (y := y) (u := .int .i64 y) rfl
/-- what an exchange needs, and what it leaves -/
theorem OwnI.swap {T : TypeId} {w : World} {base : Nat} {H : PH} {g len c : Nat} {xs : List Int} (h : OwnI T w base H g len c xs) (hl : len = xs.length) (i j : Nat) (hi : i < xs.length) (hj : j < xs.length) (hne : i ≠ j) :
    (w.drew.cell? ⟨g, i, none⟩ = some (.int .i64 (at0 xs i)) ∧ w.drew.cell? ⟨g, j, none⟩ = some (.int .i64 (at0 xs j)) ∧ (∀ o, w.drew.frozen? ⟨g, o, none⟩ = false)) ∧
    ((w.setCell ⟨g, i, none⟩ (.int .i64 (at0 xs j))).drew.cell? ⟨g, j, none⟩ = some (.int .i64 (at0 xs j)) ∧ (∀ o, (w.setCell ⟨g, i, none⟩ (.int .i64 (at0 xs j))).drew.frozen? ⟨g, o, none⟩ = false)) ∧
    OwnI T ((w.setCell ⟨g, i, none⟩ (.int .i64 (at0 xs j))).setCell ⟨g, j, none⟩ (.int .i64 (at0 xs i))).drew base H g len c (swp xs i j) ∧
    w.grownBy ((w.setCell ⟨g, i, none⟩ (.int .i64 (at0 xs j))).setCell ⟨g, j, none⟩ (.int .i64 (at0 xs i))).drew (some g) := by
  have hd := Own.drew h
  obtain ⟨P1, Q1⟩ := h.put hl i hi (at0 xs j)
  obtain ⟨P2, Q2⟩ := OwnI.put P1 (by rw [List.length_set]; exact hl) j (by rw [List.length_set]; exact hj) (at0 xs i)
  have G2 := OwnI.get (Own.drew P1) j (by rw [List.length_set]; exact hj)
  have e : at0 (xs.set i (at0 xs j)) j = at0 xs j := by simp [at0, List.getD_eq_getElem?_getD, List.getElem?_set, hne]
  rw [e] at G2
  exact ⟨⟨OwnI.get hd i hi, OwnI.get hd j hj, fun o => Own.free hd hl o⟩, ⟨G2, fun o => Own.free (Own.drew P1) (by rw [List.length_set]; exact hl) o⟩, Own.drew P2, grownBy_trans (grownBy_trans Q1 Q2) (grownBy_drewS _ _)⟩

set_option maxRecDepth 100000 in
set_option maxHeartbeats 4000000 in
theorem swapRange_any (T : TypeId) (base : Nat) (H : PH) (pre A M B post : List Int) (n a b g len c : Nat) (cf : Value) (w : World) (x y z : Int)
    (hA : A.length = n) (hB : B.length = n) (ea : a = pre.length) (eb : b = pre.length + n + M.length) (hx : x = a) (hy : y = b) (hz : z = n)
    (hlen : len = pre.length + n + M.length + n + post.length) (hm : len ≤ 4000) (hc : c ≤ maxLen) (hlc : len ≤ c)
    (ho : OwnI T w base H g len c (pre ++ (A ++ (M ++ (B ++ post))))) :
    Calls Try.prog 188 #[.slice (some ⟨g, 0, none⟩) len c, .int .i64 x, .int .i64 y, .int .i64 z, cf] w
      fun r w' => r = .returned (.tuple #[]) ∧ OwnI T w' base H g len c (pre ++ (B ++ (M ++ (A ++ post)))) ∧ w.grownBy w' (some g) := by
  subst hx; subst hy; subst hz
  have E := Aside.mk (And.intro ea eb)
  have HL := Aside.mk hlen
  have hbb : b + n ≤ len := by omega
  have haa : a + n ≤ b := by omega
  clear ea eb hlen
  have HA := Aside.mk (And.intro hA hB)
  clear hA hB
  rw [← swR_zero] at ho
  go_enter Try.func188, Try.ntmps188
  go_wp2_with fail
  go_loopw [10] (fun s2 wr => ∃ k : Nat, k ≤ n ∧ s2 = .int .i64 k ∧ Aside (OwnI T wr base H g len c (swR pre A M B post k)) ∧ Aside (w.grownBy wr (some g))) (fun s2 _ => n - (intOf s2).toNat)
  case atStart => exact ⟨0, by omega, by go_num, ⟨ho⟩, ⟨grownBy_refl _ _⟩⟩
  case round =>
    obtain ⟨k, hk, rfl, hO, hg⟩ := hrel
    by_cases hlt : k < n
    · have hln : (swR pre A M B post k).length = len := by rw [swR_length _ _ _ HA.out.1 HA.out.2, HL.out]
      obtain ⟨⟨G0, G1, F0⟩, ⟨G2, F1⟩, P2, Q2⟩ := hO.out.swap hln.symm (a + k) (b + k) (by omega) (by omega) (by omega)
      have hst := swR_next pre M post HA.out.1 HA.out.2 k hlt
      rw [← E.out.2, ← E.out.1] at hst
      rw [hst] at P2
      replace P2 := Aside.mk P2
      replace Q2 := Aside.mk Q2
      clear hst hln
      generalize at0 (swR pre A M B post k) (a + k) = zi at *
      generalize at0 (swR pre A M B post k) (b + k) = zj at *
      have hli : (k : Int) < (n : Int) := by omega
      go_wp2_with fail
      go_region
      go_wp2_with fail
      go_roundw
      case rel => exact ⟨k + 1, by omega, by go_num, P2, ⟨grownBy_trans hg.out Q2.out⟩⟩
      case measure => simp [intOf]; omega
    · have hli : ¬ (k : Int) < (n : Int) := by omega
      go_wp2_with fail
      go_end0
      obtain rfl : k = n := by omega
      have h9 := hO.out
      rw [swR_all _ _ _ HA.out.1 HA.out.2] at h9
      exact ⟨rfl, h9, hg.out⟩

set_option maxRecDepth 100000 in
set_option maxHeartbeats 4000000 in
theorem rotate_any (T : TypeId) (base : Nat) (H : PH) (pre A B post : List Int) (a m b g len c : Nat) (cf : Value) (w : World) (x y z : Int)
    (ea : a = pre.length) (em : m = pre.length + A.length) (eb : b = pre.length + A.length + B.length) (hA : 0 < A.length) (hB : 0 < B.length) (hx : x = a) (hy : y = m) (hz : z = b)
    (hlen : len = pre.length + A.length + B.length + post.length) (hm : len ≤ 4000) (hc : c ≤ maxLen) (hlc : len ≤ c)
    (ho : OwnI T w base H g len c (pre ++ (A ++ (B ++ post)))) :
    Calls Try.prog 186 #[.slice (some ⟨g, 0, none⟩) len c, .int .i64 x, .int .i64 y, .int .i64 z, cf] w
      fun r w' => r = .returned (.tuple #[]) ∧ OwnI T w' base H g len c (pre ++ (B ++ (A ++ post))) ∧ w.grownBy w' (some g) := by
  subst hx; subst hy; subst hz
  generalize hfin : pre ++ (B ++ (A ++ post)) = FIN
  have h1 : a < m := by omega
  have h2 : m < b := by omega
  have h3 : b ≤ len := by omega
  have E := Aside.mk (show ∃ pre' A' B' post', A'.length = m - a ∧ B'.length = b - m ∧ pre'.length + (m - a) = m ∧ pre'.length + (m - a) + (b - m) + post'.length = len ∧ pre' ++ (B' ++ (A' ++ post')) = FIN ∧ OwnI T w base H g len c (pre' ++ (A' ++ (B' ++ post'))) from
    ⟨pre, A, B, post, by omega, by omega, by omega, by omega, hfin, ho⟩)
  clear ea em eb hlen hA hB hfin ho
  go_enter Try.func186, Try.ntmps186
  go_wp2_with fail
  go_loopw [10, 11] (fun s2 s3 wr => ∃ i j : Nat, 0 < i ∧ 0 < j ∧ i ≤ m ∧ m + j ≤ len ∧ s2 = .int .i64 i ∧ s3 = .int .i64 j ∧ Aside (∃ pre' A' B' post', A'.length = i ∧ B'.length = j ∧ pre'.length + i = m ∧ pre'.length + i + j + post'.length = len ∧ pre' ++ (B' ++ (A' ++ post')) = FIN ∧ OwnI T wr base H g len c (pre' ++ (A' ++ (B' ++ post')))) ∧ Aside (w.grownBy wr (some g))) (fun s2 s3 _ => (intOf s2).toNat + (intOf s3).toNat)
  case atStart => exact ⟨m - a, b - m, by omega, by omega, by omega, by omega, (by congr 1; omega), (by congr 1; omega), E, ⟨grownBy_refl _ _⟩⟩
  case round =>
    clear E
    obtain ⟨i, j, hi, hj, him, hjm, rfl, rfl, hE, hg⟩ := hrel
    by_cases hne : i = j
    · subst hne
      obtain ⟨pre', A', B', post', k1, k2, k3, k4, k5, k6⟩ := hE.out
      have K := Aside.mk (And.intro k1 (And.intro k2 (And.intro k3 (And.intro k4 k5))))
      replace k6 := Aside.mk k6
      clear k1 k2 k3 k4 k5 hE
      go_wp2_with fail
      refine (swapRange_any T base H pre' A' [] B' post' i (m - i) m g len c _ _ _ _ _ K.out.1 K.out.2.1 (by have := K.out.2.2.1; omega) (by have := K.out.2.2.1; simp; omega) (by omega) rfl rfl (by have := K.out.2.2.2.1; simp; omega) hm hc hlc (by simpa using k6.out)).mono ?_
      rintro e w1 ⟨rfl, ho1, hg1⟩
      replace ho1 := Aside.mk ho1
      replace hg1 := Aside.mk hg1
      go_wp2_with fail
      go_end0
      have h9 := ho1.out
      simp only [List.nil_append] at h9
      rw [K.out.2.2.2.2] at h9
      exact ⟨rfl, h9, grownBy_trans hg.out hg1.out⟩
    · have hd : ((i : Int) == (j : Int)) = false := by simp; omega
      have hd2 : ((i : Int) != (j : Int)) = true := by simp; omega
      by_cases hgt : j < i
      · obtain ⟨pre', A', B', post', k1, k2, k3, k4, k5, k6⟩ := hE.out
        have hAs : A' = A'.take j ++ A'.drop j := (List.take_append_drop _ _).symm
        have e1 : (A'.take j).length = j := by simp; omega
        have e2 : (A'.drop j).length = i - j := by simp; omega
        generalize A'.take j = X at *
        generalize A'.drop j = Y at *
        subst hAs
        have hg0 : (j : Int) < (i : Int) := by omega
        have K := Aside.mk (And.intro e1 (And.intro e2 (And.intro k2 (And.intro k3 (And.intro k4 k5)))))
        replace k6 := Aside.mk k6
        clear k1 k2 k3 k4 k5 hE e1 e2
        go_wp2_with fail
        refine (swapRange_any T base H pre' X Y B' post' j (m - i) m g len c _ _ _ _ _ K.out.1 K.out.2.2.1 (by have := K.out.2.2.2.1; omega) (by have := K.out.2.2.2.1; have := K.out.2.1; omega) (by omega) rfl rfl (by have := K.out.2.2.2.2.1; have := K.out.2.1; omega) hm hc hlc (by simpa using k6.out)).mono ?_
        rintro e w1 ⟨rfl, ho1, hg1⟩
        replace ho1 := Aside.mk ho1
        replace hg1 := Aside.mk hg1
        go_wp2_with fail
        go_roundw
        case rel => exact ⟨i - j, j, by omega, hj, by omega, by omega, (by congr 1; omega), rfl, ⟨pre' ++ B', Y, X, post', K.out.2.1, K.out.1, (by have := K.out.2.2.2.1; have := K.out.2.2.1; simp; omega), (by have := K.out.2.2.2.2.1; have := K.out.2.2.1; simp; omega), (by have := K.out.2.2.2.2.2; simpa using this), (by have := ho1.out; simpa using this)⟩, ⟨grownBy_trans hg.out hg1.out⟩⟩
        case measure => simp [intOf]; omega
      · obtain ⟨pre', A', B', post', k1, k2, k3, k4, k5, k6⟩ := hE.out
        have hBs : B' = B'.take (j - i) ++ B'.drop (j - i) := (List.take_append_drop _ _).symm
        have e1 : (B'.take (j - i)).length = j - i := by simp; omega
        have e2 : (B'.drop (j - i)).length = i := by simp; omega
        generalize B'.take (j - i) = X at *
        generalize B'.drop (j - i) = Y at *
        subst hBs
        have hg0 : ¬ (j : Int) < (i : Int) := by omega
        have K := Aside.mk (And.intro k1 (And.intro e1 (And.intro e2 (And.intro k3 (And.intro k4 k5)))))
        replace k6 := Aside.mk k6
        clear k1 k2 k3 k4 k5 hE e1 e2
        go_wp2_with fail
        refine (swapRange_any T base H pre' A' X Y post' i (m - i) (m + j - i) g len c _ _ _ _ _ K.out.1 K.out.2.2.1 (by have := K.out.2.2.2.1; omega) (by have := K.out.2.2.2.1; have := K.out.2.1; omega) (by omega) (by omega) rfl (by have := K.out.2.2.2.2.1; have := K.out.2.1; omega) hm hc hlc (by simpa using k6.out)).mono ?_
        rintro e w1 ⟨rfl, ho1, hg1⟩
        replace ho1 := Aside.mk ho1
        replace hg1 := Aside.mk hg1
        go_wp2_with fail
        go_roundw
        case rel => exact ⟨i, j - i, hi, by omega, him, by omega, rfl, (by congr 1; omega), ⟨pre', Y, X, A' ++ post', K.out.2.2.1, K.out.2.1, K.out.2.2.2.1, (by have := K.out.2.2.2.2.1; have := K.out.1; simp; omega), (by have := K.out.2.2.2.2.2; simpa using this), (by have := ho1.out; simpa using this)⟩, ⟨grownBy_trans hg.out hg1.out⟩⟩
        case measure => simp [intOf]; omega
end Go.Proofs.Ytbnahmeaeakhhaa.B
