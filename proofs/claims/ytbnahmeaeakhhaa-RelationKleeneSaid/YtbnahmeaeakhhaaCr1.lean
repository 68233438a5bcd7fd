/- Contracts: relation.one, then, or, star, times. -/
import Derived.Test.YtbnahmeaeakhhaaProg
import Derived.Test.YtbnahmeaeakhhaaBb
import Derived.Test.YtbnahmeaeakhhaaRl
import Derived.StillTailTactics
namespace Go.Proofs.Ytbnahmeaeakhhaa.B
set_option linter.unusedVariables false
set_option linter.unusedSimpArgs false
open Go Go.RowKit

theorem info112 : (Try.prog.info? 112).map (fun i => (i.zero, i.size, i.bytes)) = some (some (.int .u32 0), 1, 4) := by kernel_rfl

/-- the first m positions as R says, the others none -/
def upto (m : Nat) (R : Rel) : Rel := fun i j => i < m ∧ R i j
theorem rows_none (n : Nat) : rows n (fun _ _ => False) = List.replicate (n + 1) 0 := by
  refine List.ext_getElem (by simp [rows_length]) fun i h1 h2 => ?_
  rw [rows_get, mask_false]; simp
theorem rows_set (n : Nat) (R S : Rel) (m : Nat) (hm : m ≤ n) (h : ∀ i j, i ≤ n → j ≤ n → i ≠ m → (S i j ↔ R i j)) : (rows n R).set m ((mask n (S m) : Nat) : Int) = rows n S := by
  refine List.ext_getElem (by simp [rows_length]) fun i h1 h2 => ?_
  rw [rows_length] at h2
  rw [List.getElem_set]
  split
  · rename_i e; subst e; rw [rows_get]
  · rename_i e; rw [rows_get, rows_get]
    rw [mask_congr fun j hj => (h i j (by omega) hj (fun e' => e e'.symm)).symm]

theorem rows_step (n : Nat) (T : Rel) (m : Nat) (hm : m ≤ n) : (rows n (upto m T)).set m ((mask n (T m) : Nat) : Int) = rows n (upto (m + 1) T) := by
  have : mask n (T m) = mask n (upto (m + 1) T m) := mask_congr fun j _ => by simp [upto]
  rw [this]
  exact rows_set n _ _ m (by omega) fun i j _ _ hne => by simp only [upto]; constructor <;> rintro ⟨a, b⟩ <;> exact ⟨by omega, b⟩
theorem rows_upto (n : Nat) (T : Rel) (m : Nat) (hm : n < m) : rows n (upto m T) = rows n T :=
  rows_congr fun i j hi hj => ⟨fun h => h.2, fun h => ⟨by omega, h⟩⟩

set_option maxHeartbeats 1000000 in
theorem one_any (n k : Nat) (w : World) (hn : n ≤ 24) (hk : k ≤ 24) :
    Calls Try.prog 131 #[.int .i64 n, .int .i64 k] w fun e w' => ∃ v, e = .returned v ∧ Own (kI .u32) 112 w' w.heap.size emp v (rows n (fun i j => j = i + k)) ∧ Below w.heap.size w w' := by
  have e1 : ((n + 1 : Nat) : Int) = (n : Int) + 1 := by omega
  go_enter Try.func131, Try.ntmps131
  go_upto_region 2 with (refine wpList_mk (kI .u32) rfl (.tmp 8) (.tmp 8) 110 rfl 112 Try.underlying110 info112 rfl rfl (0 : Int) (n + 1) (sat_emp _) rfl (by omega) (by unfold maxLen; omega) (Nat.le_refl _) rfl rfl ?_; intro w1 ho hb hz)
  have hz' : w.heap.size < w1.heap.size := by omega
  generalize hR : (fun i j : Nat => j = i + k) = R
  have HR := Aside.mk hR
  clear hR
  go_wp2_with fail
  go_loopw [6] (fun i wr => ∃ (m : Nat) (xs : List Int), m ≤ n + 1 ∧ i = .int .i64 m ∧ Own (kI .u32) 112 wr w.heap.size emp (.slice (some ⟨w.heap.size, 0, none⟩) (n + 1) (n + 1)) xs ∧ Aside (xs = rows n (upto m R)) ∧ Below w.heap.size w wr) (fun i _ => n + 1 - (intOf i).toNat)
  case atStart => exact ⟨0, _, by omega, rfl, ho, ⟨by rw [← rows_none]; exact rows_congr fun i j _ _ => by simp [upto]⟩, hb⟩
  case round =>
    obtain ⟨m, xs, hm, rfl, ho, hxs, hb⟩ := hrel
    have hl : xs.length = n + 1 := by rw [hxs.out, rows_length]
    have hf := ho.free hl.symm m
    by_cases hmn : m + k ≤ n
    · obtain ⟨cs, hrd, hcell⟩ := ho.at m (by omega)
      generalize xs[m] = z at hrd
      obtain rfl : cs = [.int .u32 z] := hrd
      have g0 := hcell 0 _ rfl
      simp only [kI, Nat.add_zero, Nat.mul_one] at g0
      clear hcell
      go_wp2_with fail
      go_roundw
      case rel =>
        have hR := HR.out
        have hz : (2 : Int) ^ (m + k) % 4294967296 = ((mask n (R m) : Nat) : Int) := by
          have h1 : mask n (R m) = 2 ^ (m + k) := by subst hR; rw [← mask_one n (m + k) hmn]; exact mask_congr fun j _ => ⟨Eq.symm, Eq.symm⟩
          have h2 := mask_lt32 n (R m) hn
          rw [h1] at h2 ⊢
          have h3 : (2 : Int) ^ (m + k) = ((2 ^ (m + k) : Nat) : Int) := by simp
          rw [h3]; omega
        obtain ⟨q1, q2⟩ := ho.put1 hl.symm rfl (i := m) (by omega) (y := ((mask n (R m) : Nat) : Int)) (u := .int .u32 (2 ^ (m + k) % 4294967296)) (by rw [hz]; rfl)
        refine ⟨m + 1, _, by omega, by go_num, q1, ⟨?_⟩, hb.setCell (by simp) _⟩
        rw [hxs.out, rows_step n R m (by omega)]
      case measure => simp [intOf]; omega
    · go_wp2_with fail
      go_ret
      refine ⟨_, rfl, ?_, hb⟩
      have : xs = rows n R := by
        rw [hxs.out]
        refine rows_congr fun i j hi hj => ?_
        have hR := HR.out
        subst hR
        simp only [upto]
        constructor
        · exact fun h => h.2
        · intro h; exact ⟨by omega, h⟩
      rw [this, ← HR.out] at ho
      exact ho

set_option maxRecDepth 100000 in
set_option maxHeartbeats 1000000 in
theorem or_any (n : Nat) (R S : Rel) (A B : Option Addr) (c d : Nat) (w : World) (hn : n ≤ 24) (ha : WR .u32 w A (n + 1) c (rows n R)) (hb : WR .u32 w B (n + 1) d (rows n S)) :
    Calls Try.prog 133 #[.slice A (n + 1) c, .slice B (n + 1) d] w fun e w' => ∃ v, e = .returned v ∧ Own (kI .u32) 112 w' w.heap.size emp v (rows n (fun i j => R i j ∨ S i j)) ∧ Below w.heap.size w w' := by
  have hac := ha.2.1
  have hbc := hb.2.1
  go_enter Try.func133, Try.ntmps133
  go_upto_region 2 with (refine wpList_mk (kI .u32) rfl (.tmp 8) (.tmp 8) 110 rfl 112 Try.underlying110 info112 rfl rfl (0 : Int) (n + 1) (sat_emp _) rfl (by omega) (by unfold maxLen; omega) (Nat.le_refl _) rfl rfl ?_; intro w1 ho hb1 hz)
  have hz' : w.heap.size < w1.heap.size := by omega
  generalize hT : (fun i j => R i j ∨ S i j) = T
  have HT := Aside.mk hT
  clear hT hz
  go_wp2_with fail
  go_loopw [12] (fun i wr => ∃ (m : Nat) (xs : List Int), m ≤ n + 1 ∧ i = .int .i64 m ∧ Own (kI .u32) 112 wr w.heap.size emp (.slice (some ⟨w.heap.size, 0, none⟩) (n + 1) (n + 1)) xs ∧ Aside (xs = rows n (upto m T)) ∧ Below w.heap.size w wr) (fun i _ => n + 1 - (intOf i).toNat)
  case atStart => exact ⟨0, _, by omega, rfl, ho, ⟨by rw [← rows_none]; exact rows_congr fun i j _ _ => by simp [upto]⟩, hb1⟩
  case round =>
    obtain ⟨m, xs, hm, rfl, ho, hxs, hb2⟩ := hrel
    have hl : xs.length = n + 1 := by rw [hxs.out, rows_length]
    have hf := ho.free hl.symm m
    by_cases hmn : m < n + 1
    · obtain ⟨cs, hrd, hcell⟩ := ho.at m (by omega)
      generalize xs[m] = z at hrd
      obtain rfl : cs = [.int .u32 z] := hrd
      have g0 := hcell 0 _ rfl
      simp only [kI, Nat.add_zero, Nat.mul_one] at g0
      clear hcell
      obtain ⟨b1, o1, rfl, q1⟩ := (ha.below hb2).at m (by rw [rows_length]; omega)
      obtain ⟨b2, o2, rfl, q2⟩ := (hb.below hb2).at m (by rw [rows_length]; omega)
      rw [rows_get] at q1 q2
      have hbit := u32_or_nat (mask n (R m)) (mask n (S m)) (mask_lt32 _ _ hn) (mask_lt32 _ _ hn)
      generalize hx1 : mask n (R m) = x1 at *
      generalize hx2 : mask n (S m) = x2 at *
      have HX := Aside.mk (And.intro hx1 hx2)
      have HL := Aside.mk hl
      clear hx1 hx2 hl
      have hmi : (m : Int) < (n : Int) + 1 := by omega
      go_wp2_with fail
      go_still_tail 12, (by kernel_rfl)
      go_wp2_with fail
      go_roundw
      case rel =>
        have hz : ((x1 ||| x2 : Nat) : Int) = ((mask n (T m) : Nat) : Int) := by
          rw [← HX.out.1, ← HX.out.2, mask_or, ← HT.out]
        obtain ⟨q1, q2⟩ := ho.put1 HL.out.symm rfl (i := m) (by rw [HL.out]; omega) (y := ((mask n (T m) : Nat) : Int)) (u := .int .u32 ((x1 ||| x2 : Nat) : Int)) (by rw [hz]; rfl)
        refine ⟨m + 1, _, by omega, by go_num, q1.drew, ⟨?_⟩, (hb2.setCell (by simp) _).drew⟩
        rw [hxs.out, rows_step n T m (by omega)]
      case measure => simp [intOf]; omega
    · go_wp2_with fail
      go_ret
      refine ⟨_, rfl, ?_, hb2⟩
      have : xs = rows n T := by
        rw [hxs.out]
        exact rows_congr fun i j hi hj => ⟨fun h => h.2, fun h => ⟨by omega, h⟩⟩
      rw [this, ← HT.out] at ho
      exact ho

theorem bit_test (x k : Nat) (hx : x < 4294967296) : bits .and .u32 ((x : Int) / 2 ^ k) 1 = ((x / 2 ^ k % 2 : Nat) : Int) := by
  have h1 : (x : Int) / 2 ^ k = ((x / 2 ^ k : Nat) : Int) := by simp
  have h2 : x / 2 ^ k < 4294967296 := Nat.lt_of_le_of_lt (Nat.div_le_self _ _) hx
  rw [h1]
  have := u32_and_nat (x / 2 ^ k) 1 h2 (by decide)
  rw [Nat.and_one_is_mod] at this
  exact this

set_option maxRecDepth 100000 in
set_option maxHeartbeats 2000000 in
theorem then_any (n : Nat) (R S : Rel) (A B : Option Addr) (c d : Nat) (w : World) (hn : n ≤ 24) (ha : WR .u32 w A (n + 1) c (rows n R)) (hb : WR .u32 w B (n + 1) d (rows n S)) :
    Calls Try.prog 132 #[.slice A (n + 1) c, .slice B (n + 1) d] w fun e w' => ∃ v, e = .returned v ∧ Own (kI .u32) 112 w' w.heap.size emp v (rows n (Comp n R S)) ∧ Below w.heap.size w w' := by
  have hac := ha.2.1
  have hbc := hb.2.1
  go_enter Try.func132, Try.ntmps132
  go_upto_region 2 with (refine wpList_mk (kI .u32) rfl (.tmp 9) (.tmp 9) 110 rfl 112 Try.underlying110 info112 rfl rfl (0 : Int) (n + 1) (sat_emp _) rfl (by omega) (by unfold maxLen; omega) (Nat.le_refl _) rfl rfl ?_; intro w1 ho hb1 hz)
  have hz' : w.heap.size < w1.heap.size := by omega
  generalize hT : Comp n R S = T
  have HT := Aside.mk hT
  clear hT hz
  go_wp2_with fail
  go_loopw [13] (fun i wr => ∃ (m : Nat) (xs : List Int), m ≤ n + 1 ∧ i = .int .i64 m ∧ Own (kI .u32) 112 wr w.heap.size emp (.slice (some ⟨w.heap.size, 0, none⟩) (n + 1) (n + 1)) xs ∧ Aside (xs = rows n (upto m T)) ∧ Below w.heap.size w wr) (fun i _ => n + 1 - (intOf i).toNat)
  case atStart => exact ⟨0, _, by omega, rfl, ho, ⟨by rw [← rows_none]; exact rows_congr fun i j _ _ => by simp [upto]⟩, hb1⟩
  case round =>
    obtain ⟨m, xs, hm, rfl, ho, hxs, hb2⟩ := hrel
    by_cases hmn : m < n + 1
    · have hmi : (m : Int) < (n : Int) + 1 := by omega
      obtain ⟨wo, rfl⟩ : ∃ wo : World, wo = wr := ⟨_, rfl⟩
      go_wp2_with fail
      go_loopw [18] (fun i wr => ∃ (k : Nat) (ys : List Int), k ≤ n + 1 ∧ i = .int .i64 k ∧ Own (kI .u32) 112 wr w.heap.size emp (.slice (some ⟨w.heap.size, 0, none⟩) (n + 1) (n + 1)) ys ∧ Aside (ys = rows n (fun i j => upto m T i j ∨ (i = m ∧ ∃ l, l < k ∧ R m l ∧ S l j))) ∧ Below w.heap.size w wr) (fun i _ => n + 1 - (intOf i).toNat)
      case atStart => exact ⟨0, _, by omega, rfl, ho, ⟨by rw [hxs.out]; exact rows_congr fun i j _ _ => by simp⟩, hb2⟩
      case round =>
        obtain ⟨k, ys, hk, rfl, ho3, hys, hb3⟩ := hrel
        have hl : ys.length = n + 1 := by rw [hys.out, rows_length]
        have hf := ho3.free hl.symm m
        by_cases hkn : k < n + 1
        · have hki : (k : Int) < (n : Int) + 1 := by omega
          obtain ⟨cs, hrd, hcell⟩ := ho3.at m (by omega)
          have hzm : ys[m] = ((mask n (fun j => ∃ l, l < k ∧ R m l ∧ S l j) : Nat) : Int) := by
            simp only [hys.out]
            rw [rows_get]
            exact congrArg (fun x : Nat => (x : Int)) (mask_congr fun j _ => by simp [upto])
          generalize ys[m] = z at *
          obtain rfl : cs = [.int .u32 z] := hrd
          subst hzm
          have g0 := hcell 0 _ rfl
          simp only [kI, Nat.add_zero, Nat.mul_one] at g0
          clear hcell
          obtain ⟨b1, o1, rfl, q1⟩ := (ha.below hb3).at m (by rw [rows_length]; omega)
          obtain ⟨b2, o2, rfl, q2⟩ := (hb.below hb3).at k (by rw [rows_length]; omega)
          rw [rows_get] at q1 q2
          have hbit := u32_or_nat (mask n (fun j => ∃ l, l < k ∧ R m l ∧ S l j)) (mask n (S k)) (mask_lt32 _ _ hn) (mask_lt32 _ _ hn)
          have htest := mask_test n (R m) k
          have hlt1 := mask_lt32 n (R m) hn
          generalize hx0 : mask n (fun j => ∃ l, l < k ∧ R m l ∧ S l j) = x0 at *
          generalize hx1 : mask n (R m) = x1 at *
          generalize hx2 : mask n (S k) = x2 at *
          have HX := Aside.mk (And.intro hx0 (And.intro hx1 hx2))
          have HL := Aside.mk hl
          have HTST := Aside.mk htest
          clear hx0 hx1 hx2 hl htest
          have hk24 : k ≤ 24 := by omega
          have hbt := bit_test x1 k hlt1
          rw [HTST.out] at hbt
          by_cases hRS : R m k
          · rw [if_pos ⟨by omega, hRS⟩] at hbt
            have hbt1 : bits BinOp.and IntKind.u32 ((x1 : Int) / 2 ^ k) 1 = 1 := hbt
            have HRS := Aside.mk hRS
            clear hbt hRS
            go_upto_region 9 with (fail)
            go_still_tail 10, (by kernel_rfl)
            go_wp2_with fail
            go_roundw
            case rel =>
              have hz : ((x0 ||| x2 : Nat) : Int) = ((mask n (fun j => ∃ l, l < k + 1 ∧ R m l ∧ S l j) : Nat) : Int) := by
                rw [← HX.out.1, ← HX.out.2.2, mask_or]
                refine congrArg (fun x : Nat => (x : Int)) (mask_congr fun j _ => ⟨?_, ?_⟩)
                · rintro (⟨l, h1, h2, h3⟩ | h3)
                  · exact ⟨l, by omega, h2, h3⟩
                  · exact ⟨k, by omega, HRS.out, h3⟩
                · rintro ⟨l, h1, h2, h3⟩
                  by_cases hl : l = k
                  · subst hl; exact Or.inr h3
                  · exact Or.inl ⟨l, by omega, h2, h3⟩
              obtain ⟨q1, q2⟩ := ho3.put1 HL.out.symm rfl (i := m) (by rw [HL.out]; omega) (y := ((mask n (fun j => ∃ l, l < k + 1 ∧ R m l ∧ S l j) : Nat) : Int)) (u := .int .u32 ((x0 ||| x2 : Nat) : Int)) (by rw [hz]; rfl)
              refine ⟨k + 1, _, by omega, by go_num, q1.drew, ⟨?_⟩, (hb3.setCell (by simp) _).drew⟩
              rw [hys.out]
              have e1 : mask n (fun j => ∃ l, l < k + 1 ∧ R m l ∧ S l j) = mask n ((fun i j => upto m T i j ∨ (i = m ∧ ∃ l, l < k + 1 ∧ R m l ∧ S l j)) m) := mask_congr fun j _ => by simp [upto]
              rw [e1]
              refine rows_set n _ (fun i j => upto m T i j ∨ (i = m ∧ ∃ l, l < k + 1 ∧ R m l ∧ S l j)) m (by omega) fun i j _ _ hne => ?_
              simp [hne]
            case measure => simp [intOf]; omega
          · rw [if_neg (fun h => hRS h.2)] at hbt
            have hbt1 : bits BinOp.and IntKind.u32 ((x1 : Int) / 2 ^ k) 1 = 0 := hbt
            have HRS := Aside.mk hRS
            clear hbt hRS
            go_wp2_with fail
            go_roundw
            case rel =>
              refine ⟨k + 1, _, by omega, by go_num, ho3, ⟨?_⟩, hb3⟩
              rw [hys.out]
              refine rows_congr fun i j _ _ => ⟨?_, ?_⟩
              · rintro (h | ⟨h0, l, h1, h2, h3⟩)
                · exact Or.inl h
                · exact Or.inr ⟨h0, l, by omega, h2, h3⟩
              · rintro (h | ⟨h0, l, h1, h2, h3⟩)
                · exact Or.inl h
                · refine Or.inr ⟨h0, l, ?_, h2, h3⟩
                  have hr := HRS.out
                  by_cases hl : l = k
                  · subst hl; exact absurd h2 hr
                  · omega
            case measure => simp [intOf]; omega
        · go_wp2_with fail
          go_roundw
          case rel =>
            refine ⟨m + 1, _, by omega, by go_num, ho3, ⟨?_⟩, hb3⟩
            rw [hys.out, ← HT.out]
            refine rows_congr fun i j hi hj => ?_
            simp only [upto, Comp]
            constructor
            · rintro (⟨a, b⟩ | ⟨a, l, h1, h2, h3⟩)
              · exact ⟨by omega, b⟩
              · subst a; exact ⟨by omega, l, by omega, h2, h3⟩
            · rintro ⟨a, l, h1, h2, h3⟩
              by_cases hi : i = m
              · subst hi; exact Or.inr ⟨rfl, l, by omega, h2, h3⟩
              · exact Or.inl ⟨by omega, l, h1, h2, h3⟩
          case measure => simp [intOf]; omega
    · go_wp2_with fail
      go_ret
      refine ⟨_, rfl, ?_, hb2⟩
      rw [hxs.out, rows_upto n T m (by omega), ← HT.out] at ho
      exact ho
end Go.Proofs.Ytbnahmeaeakhhaa.B
