/- Contracts: relation.star, relation.times. -/
import Derived.Test.YtbnahmeaeakhhaaCr1
namespace Go.Proofs.Ytbnahmeaeakhhaa.B
set_option linter.unusedVariables false
set_option linter.unusedSimpArgs false
open Go Go.RowKit

theorem one_any0 (n : Nat) (w : World) (hn : n ≤ 24) :
    Calls Try.prog 131 #[.int .i64 n, .int .i64 0] w fun e w' => ∃ v, e = .returned v ∧ Own (kI .u32) 112 w' w.heap.size emp v (rows n (fun i j => i = j)) ∧ Below w.heap.size w w' := by
  refine (one_any n 0 w hn (by omega)).mono fun e w' ⟨v, h1, h2, h3⟩ => ⟨v, h1, ?_, h3⟩
  have : rows n (fun i j => j = i + 0) = rows n (fun i j => i = j) := rows_congr fun i j _ _ => ⟨fun h => by omega, fun h => by omega⟩
  rw [← this]; exact h2

theorem sum_lt_of_le : ∀ {xs ys : List Int}, xs.length = ys.length → (∀ i (h : i < xs.length) (h' : i < ys.length), xs[i] ≤ ys[i]) → xs ≠ ys → xs.sum < ys.sum
  | [], [], _, _, h => absurd rfl h
  | x :: xs, y :: ys, hl, hle, hne => by
    have h0 := hle 0 (by simp) (by simp)
    simp only [List.getElem_cons_zero] at h0
    have ht : ∀ i (h : i < xs.length) (h' : i < ys.length), xs[i] ≤ ys[i] := fun i h h' => by
      have := hle (i + 1) (by simpa using h) (by simpa using h'); simpa using this
    have hl' : xs.length = ys.length := by simpa using hl
    simp only [List.sum_cons]
    by_cases e : xs = ys
    · subst e
      have : x ≠ y := fun e => hne (by rw [e])
      omega
    · have := sum_lt_of_le hl' ht e
      omega

theorem sum_le_bound : ∀ {xs : List Int} {B : Int}, (∀ x ∈ xs, x ≤ B) → xs.sum ≤ xs.length * B
  | [], B, _ => by simp
  | x :: xs, B, h => by
    have h1 := h x (by simp)
    have h2 := sum_le_bound (xs := xs) (B := B) fun y hy => h y (by simp [hy])
    simp only [List.sum_cons, List.length_cons]
    rw [show (((xs.length + 1 : Nat) : Int)) * B = xs.length * B + B by rw [Int.natCast_add, Int.add_mul]; simp]
    omega

theorem mask_mono {n : Nat} {p q : Nat → Prop} (h : ∀ j, j ≤ n → p j → q j) : mask n p ≤ mask n q := by
  have : mask n q = mask n p ||| mask n q := by
    rw [mask_or]; exact mask_congr fun j hj => ⟨Or.inr, fun a => a.elim (h j hj) id⟩
  rw [this]; exact Nat.left_le_or

theorem rows_sum_lt {n : Nat} {R S : Rel} (h : ∀ i j, i ≤ n → j ≤ n → R i j → S i j) (hne : rows n R ≠ rows n S) : (rows n R).sum < (rows n S).sum := by
  refine sum_lt_of_le (by simp [rows_length]) (fun i h1 h2 => ?_) hne
  rw [rows_get, rows_get]
  rw [rows_length] at h1
  exact_mod_cast mask_mono fun j hj => h i j (by omega) hj
theorem rows_sum_le {n : Nat} (hn : n ≤ 24) (R : Rel) : (rows n R).sum ≤ (n + 1 : Nat) * 4294967296 := by
  have := sum_le_bound (xs := rows n R) (B := 4294967296) fun x hx => by
    obtain ⟨i, hi, rfl⟩ := List.getElem_of_mem hx
    rw [rows_get]
    have := mask_lt32 n (R i) hn
    omega
  rw [rows_length] at this; exact this

/-- at most k steps -/
def StarK (n : Nat) (R : Rel) (k : Nat) : Rel := fun i j => ∃ l, l ≤ k ∧ Pow n R l i j
theorem StarK_zero (n : Nat) (R : Rel) : StarK n R 0 = fun i j => i = j := by
  funext i j; simp only [StarK, eq_iff_iff]
  exact ⟨fun ⟨l, h1, h2⟩ => by obtain rfl : l = 0 := by omega
                               exact h2, fun h => ⟨0, by omega, h⟩⟩
theorem StarK_succ (n : Nat) (R : Rel) (k : Nat) : (fun i j => StarK n R k i j ∨ Comp n (StarK n R k) R i j) = StarK n R (k + 1) := by
  funext i j; simp only [StarK, Comp, eq_iff_iff]
  constructor
  · rintro (⟨l, h1, h2⟩ | ⟨m, hm, ⟨l, h1, h2⟩, h3⟩)
    · exact ⟨l, by omega, h2⟩
    · exact ⟨l + 1, by omega, m, hm, h2, h3⟩
  · rintro ⟨l, h1, h2⟩
    by_cases hl : l = k + 1
    · subst hl
      obtain ⟨m, hm, h3, h4⟩ := h2
      exact Or.inr ⟨m, hm, ⟨k, by omega, h3⟩, h4⟩
    · exact Or.inl ⟨l, by omega, h2⟩
theorem Star_of_stable {n : Nat} {R : Rel} {k : Nat} (h : rows n (StarK n R k) = rows n (StarK n R (k + 1))) : rows n (StarK n R k) = rows n (Star n R) := by
  refine rows_congr fun i j hi hj => ⟨fun ⟨l, _, h2⟩ => ⟨l, h2⟩, fun ⟨l, h2⟩ => ?_⟩
  have : ∀ l i j, i ≤ n → j ≤ n → Pow n R l i j → StarK n R k i j := by
    intro l
    induction l with
    | zero => intro i j _ _ h; exact ⟨0, by omega, h⟩
    | succ l ih =>
      intro i j hi hj ⟨m, hm, h3, h4⟩
      obtain ⟨l', h5, h6⟩ := ih i m hi hm h3
      exact (rows_inj h hi hj).2 ⟨l' + 1, by omega, m, hm, h6, h4⟩
  exact this l i j hi hj h2

set_option maxRecDepth 100000 in
set_option maxHeartbeats 2000000 in
theorem star_any (n : Nat) (R : Rel) (A : Option Addr) (c : Nat) (w : World) (hn : n ≤ 24) (ha : WR .u32 w A (n + 1) c (rows n R)) :
    Calls Try.prog 134 #[.slice A (n + 1) c] w fun e w' => ∃ v, e = .returned v ∧ Own (kI .u32) 112 w' w.heap.size emp v (rows n (Star n R)) ∧ Below w.heap.size w w' := by
  go_enter Try.func134, Try.ntmps134
  go_wp2_with fail
  refine (one_any0 n w hn).mono ?_
  rintro e w1 ⟨v1, rfl, ho1, hb1⟩
  obtain ⟨A1, c1, rfl, hw1, -⟩ := ho1.wr (by rw [rows_length]; omega)
  rw [rows_length] at *
  go_wp2_with fail
  go_loopg [3] ((n + 1) * 4294967296 + 1) (fun gk s wr => ∃ (k : Nat) (A1 : Option Addr) (c1 : Nat), s = .slice A1 (n + 1) c1 ∧ Own (kI .u32) 112 wr w.heap.size emp s (rows n (StarK n R k)) ∧ Aside ((n + 1 : Nat) * 4294967296 - (rows n (StarK n R k)).sum < (gk : Int)) ∧ Below w.heap.size w wr)
  case atStart =>
    refine ⟨0, A1, c1, rfl, ?_, ⟨?_⟩, hb1⟩
    · rw [StarK_zero]; exact ho1
    · have h1 : (0 : Int) ≤ (rows n (StarK n R 0)).sum := by
        have : ∀ (l : List Nat), (0 : Int) ≤ (l.map fun i => ((mask n (StarK n R 0 i) : Nat) : Int)).sum := by
          intro l
          induction l with
          | nil => simp
          | cons a l ih => simp only [List.map_cons, List.sum_cons]; omega
        exact this _
      omega
  case round =>
    obtain ⟨k, A2, c2, rfl, ho2, hgk, hb2⟩ := hrel
    obtain ⟨A2', c2', e2, hw2, -⟩ := ho2.wr (by rw [rows_length]; omega)
    rw [rows_length] at e2 hw2
    cases e2
    have HO2 := Aside.mk ho2
    clear ho2
    go_wp2_with fail
    refine (then_any n (StarK n R k) R _ _ _ _ wr hn hw2 (ha.below hb2)).mono ?_
    rintro e w3 ⟨v3, rfl, ho3, hb3⟩
    obtain ⟨A3, c3, rfl, hw3, -⟩ := ho3.wr (by rw [rows_length]; omega)
    rw [rows_length] at *
    go_wp2_with fail
    refine (or_any n (StarK n R k) (Comp n (StarK n R k) R) _ _ _ _ w3 hn (hw2.below hb3) hw3).mono ?_
    rintro e w4 ⟨v4, rfl, ho4, hb4⟩
    rw [StarK_succ] at ho4
    obtain ⟨A4, c4, rfl, hw4, -⟩ := ho4.wr (by rw [rows_length]; omega)
    rw [rows_length] at *
    have hb34 : Below wr.heap.size wr w4 := bT hb3 hb4
    have hw24 := hw2.below hb34
    have ho24 := HO2.out.below (sat_emp _) hb34
    have hb5 : Below w.heap.size w w4 := bT hb2 hb34
    have hbase : w.heap.size ≤ w3.heap.size := Nat.le_trans hb2.size hb3.size
    have HO := Aside.mk (And.intro ho24 (And.intro (ho4.rebase hbase) hb5))
    have hP : (rows n (StarK n R k)).length = n + 1 := rows_length _ _
    have hQ : (rows n (StarK n R (k + 1))).length = n + 1 := rows_length _ _
    have hfin := Star_of_stable (n := n) (R := R) (k := k)
    have hlt := rows_sum_lt (n := n) (R := StarK n R k) (S := StarK n R (k + 1)) (fun i j _ _ ⟨l, h1, h2⟩ => ⟨l, by omega, h2⟩)
    have hle := rows_sum_le hn (StarK n R (k + 1))
    generalize hgP : rows n (StarK n R k) = P at *
    generalize hgQ : rows n (StarK n R (k + 1)) = Q at *
    have HF := Aside.mk (And.intro hfin (And.intro hlt (And.intro hle (And.intro hgP hgQ))))
    have HPQ := Aside.mk (And.intro hP hQ)
    clear hfin hlt hle hgP hgQ hP hQ ho3 ho4 ho24 hb34 hb3 hb4 hw3 hw2 hb5 hbase
    go_wp2_with fail
    go_loopw [5, 18] (fun s i wx => ∃ (m : Nat) (b : Bool), m ≤ n + 1 ∧ i = .int .i64 m ∧ s = .bool b ∧ Aside (b = true ↔ Q.take m = P.take m) ∧ ∃ q, wx = w4.drewN q) (fun _ i _ => n + 1 - (intOf i).toNat)
    case atStart => exact ⟨0, true, by omega, rfl, rfl, ⟨by simp⟩, 0, rfl⟩
    case round =>
      obtain ⟨m, b, hm, rfl, rfl, hsm, q, rfl⟩ := hrel
      obtain ⟨HO2', HO4, HB5⟩ := HO.out
      by_cases hlt : m < n + 1
      · have hlt' : (m : Int) < (n : Int) + 1 := by omega
        obtain ⟨b1, o1, rfl, q1⟩ := hw4.at m (by rw [HPQ.out.2]; omega)
        obtain ⟨b2, o2, rfl, q2⟩ := hw24.at m (by rw [HPQ.out.1]; omega)
        have hc1 := hw4.2.1
        have hc2 := hw24.2.1
        have hsQ := List.take_succ_eq_append_getElem (l := Q) (i := m) (by rw [HPQ.out.2]; omega)
        have hsP := List.take_succ_eq_append_getElem (l := P) (i := m) (by rw [HPQ.out.1]; omega)
        generalize Q[m]'(by rw [HPQ.out.2]; omega) = x at *
        generalize P[m]'(by rw [HPQ.out.1]; omega) = y at *
        have HS := Aside.mk (And.intro hsQ hsP)
        have hl : (Q.take m).length = (P.take m).length := by simp [HPQ.out.1, HPQ.out.2]
        have HL := Aside.mk hl
        clear hsQ hsP hl hw4 hw24 HO2' HO4 HB5
        cases b with
        | false =>
          go_upto_region 7 with (fail)
          go_quiet (fail)
          go_wp2_with fail
          go_roundw
          case rel =>
            refine ⟨m + 1, false, by omega, by go_num, rfl, ⟨?_⟩, ?_⟩
            · rw [HS.out.1, HS.out.2]
              simp only [Bool.false_eq_true, false_iff]
              intro h
              exact absurd (hsm.out.2 (List.append_inj h HL.out).1) (by simp)
            · exact ⟨_, rfl⟩
          case measure => simp [intOf]; omega
        | true =>
          by_cases hxy : x = y
          · subst hxy
            go_upto_region 7 with (fail)
            go_quiet (fail)
            go_wp2_with fail
            go_roundw
            case rel =>
              refine ⟨m + 1, true, by omega, by go_num, rfl, ⟨?_⟩, ?_⟩
              · rw [HS.out.1, HS.out.2]
                simp [hsm.out.1 rfl]
              · exact ⟨_, rfl⟩
            case measure => simp [intOf]; omega
          · have hne : (x == y) = false := by simpa using hxy
            go_upto_region 7 with (fail)
            go_quiet (fail)
            go_wp2_with fail
            go_roundw
            case rel =>
              refine ⟨m + 1, false, by omega, by go_num, rfl, ⟨?_⟩, ?_⟩
              · rw [HS.out.1, HS.out.2]
                simp only [Bool.false_eq_true, false_iff]
                intro h
                have := (List.append_inj h HL.out).2
                simp at this
                exact hxy this
              · exact ⟨_, rfl⟩
            case measure => simp [intOf]; omega
      · have hQQ : Q.take m = Q := List.take_of_length_le (by rw [HPQ.out.2]; omega)
        have hPP : P.take m = P := List.take_of_length_le (by rw [HPQ.out.1]; omega)
        have hsm' := hsm.out
        rw [hQQ, hPP] at hsm'
        have HSM := Aside.mk hsm'
        have HO' := HO.out
        clear hsm' hQQ hPP hsm HO2' HO4 HB5 HO hw4 hw24
        have HO := Aside.mk HO'
        clear HO'
        cases b with
        | true =>
          go_wp2_with fail
          go_ret
          obtain ⟨HO2', HO4, HB5⟩ := HO.out
          obtain ⟨f1, -, -, f2, f3⟩ := HF.out
          have e1 : P = rows n (Star n R) := f1 (HSM.out.1 trivial).symm
          refine ⟨_, rfl, ?_, HB5.drewN _⟩
          have : Own (kI .u32) 112 (w4.drewN q) w.heap.size emp (.slice A2 (n + 1) c2) (rows n (Star n R)) := by
            rw [← e1]; exact HO2'.keep (PH.le_refl _) fun b hb => ⟨rfl, (HO2'.blk hb).2.2⟩
          exact this
        | false =>
          go_wp2_with fail
          obtain ⟨HO2', HO4, HB5⟩ := HO.out
          obtain ⟨-, f2, f3, f4, f5⟩ := HF.out
          have hne : P ≠ Q := fun e => absurd (HSM.out.2 e.symm) (by simp)
          have hlt2 := f2 hne
          go_roundg (((n + 1 : Nat) * 4294967296 - Q.sum + 1).toNat)
          case rel =>
            refine ⟨k + 1, _, _, rfl, ?_, ⟨?_⟩, HB5.drewN _⟩
            · rw [f5]; exact HO4.keep (PH.le_refl _) fun b hb => ⟨rfl, (HO4.blk hb).2.2⟩
            · rw [f5]; omega
          case measure =>
            have := hgk.out
            omega
end Go.Proofs.Ytbnahmeaeakhhaa.B
