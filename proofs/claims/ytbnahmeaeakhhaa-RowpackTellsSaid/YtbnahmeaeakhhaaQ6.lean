/- Contract: rowpack.get. -/
import Derived.Test.YtbnahmeaeakhhaaQ4
namespace Go.Proofs.Ytbnahmeaeakhhaa.B
set_option linter.unusedVariables false
set_option linter.unusedSimpArgs false
open Go Go.RowKit Go.Proofs.Ytbnahmeaeakhhaa.Q

theorem pow128 (j : Nat) : (128 : Nat) ^ j = 2 ^ (7 * j) := by rw [Nat.pow_mul]
theorem p63 {j : Nat} (h : j ≤ 9) : 2 ^ (7 * j) ≤ 9223372036854775808 := Nat.le_trans (Nat.pow_le_pow_right (by omega) (show 7 * j ≤ 63 by omega)) (by decide)
theorem p56 {j : Nat} (h : j ≤ 8) : 2 ^ (7 * j) ≤ 72057594037927936 := Nat.le_trans (Nat.pow_le_pow_right (by omega) (show 7 * j ≤ 56 by omega)) (by decide)
set_option maxRecDepth 100000 in
theorem and127 : ∀ x : Fin 256, bits .and .u8 ((x.val : Nat) : Int) 127 = ((x.val % 128 : Nat) : Int) := by decide
theorem orb {u j : Nat} {x : Int} (hu : u < 128 ^ j) (x0 : 0 ≤ x) (x1 : x < 256) (hj : j ≤ 9) (h9 : j = 9 → x ≤ 1) :
    bits .or .u64 (u : Int) (IntKind.u64.wrap (IntKind.u64.wrap (bits .and .u8 x 127) * 2 ^ (7 * j))) = ((u + (x % 128).toNat * 128 ^ j : Nat) : Int) ∧ u + (x % 128).toNat * 128 ^ j < 18446744073709551616 := by
  obtain ⟨m, rfl⟩ : ∃ m : Nat, x = m := ⟨x.toNat, by omega⟩
  have e1 := and127 ⟨m, by omega⟩
  simp only at e1
  have e2 : ((m : Int) % 128).toNat = m % 128 := by omega
  rw [e1, e2]
  have e3 : IntKind.u64.wrap ((m % 128 : Nat) : Int) = ((m % 128 : Nat) : Int) := by
    show (_ : Int) % 18446744073709551616 = _
    omega
  rw [e3]
  rw [pow128] at *
  have hm : m % 128 * 2 ^ (7 * j) ≤ 9223372036854775808 := by
    by_cases h : j = 9
    · have h1 := h9 h
      have h2 := p63 hj
      have h3 : m % 128 ≤ 1 := by omega
      exact Nat.le_trans (Nat.mul_le_mul_right _ h3) (by omega)
    · have h2 := p56 (j := j) (by omega)
      have h3 : m % 128 ≤ 127 := by omega
      exact Nat.le_trans (Nat.mul_le_mul h3 h2) (by decide)
  have hp := p63 hj
  have e4 : ((m % 128 : Nat) : Int) * 2 ^ (7 * j) = ((m % 128 * 2 ^ (7 * j) : Nat) : Int) := by rw [Int.natCast_mul, Int.natCast_pow]; rfl
  have e5 : IntKind.u64.wrap (((m % 128 * 2 ^ (7 * j) : Nat) : Int)) = ((m % 128 * 2 ^ (7 * j) : Nat) : Int) := by
    show (_ : Int) % 18446744073709551616 = _
    omega
  rw [e4, e5, bits_or_u64_nat _ _ (by omega) (by omega)]
  have e6 : u ||| m % 128 * 2 ^ (7 * j) = u + m % 128 * 2 ^ (7 * j) := by
    have := Nat.shiftLeft_add_eq_or_of_lt hu (m % 128)
    rw [Nat.shiftLeft_eq] at this
    rw [Nat.or_comm, ← this, Nat.add_comm]
  rw [e6]
  exact ⟨rfl, by omega⟩

/-- what get gives -/
def GetR (H : PH) (l : List Int) (e : Ending) : Prop := match decGo 0 0 l with
  | none => e = .returned (.tuple #[.int .i64 0, .slice none 0 0, .bool false])
  | some (v, r) => ∃ (y : Int) (A : Option Addr) (n c : Nat), e = .returned (.tuple #[.int .i64 y, .slice A n c, .bool (decide (v ≤ 9223372036854775808))]) ∧ SlR (kI .u8) H A n c r ∧ (v ≤ 9223372036854775808 → y = (v : Int) - 1)

theorem sizeU8 (w : World) : (Go.sizeOf 5).run Try.prog w = .ok 1 w := by kernel_rfl
theorem dec_stop {j u : Nat} {l : List Int} {x : Int} {b : List Int} (hl : l = x :: b) (h : 9 < j ∨ (j = 9 ∧ 1 < x) ∨ (0 < j ∧ x = 0)) : decGo j u l = none := by subst hl; simp only [decGo]; rw [if_pos h]
theorem dec_end {j u : Nat} {l : List Int} {x : Int} {b : List Int} (hl : l = x :: b) (h : ¬ (9 < j ∨ (j = 9 ∧ 1 < x) ∨ (0 < j ∧ x = 0))) (hx : x < 128) : decGo j u l = some (u + (x % 128).toNat * 128 ^ j, b) := by subst hl; simp only [decGo]; rw [if_neg h, if_pos hx]
theorem dec_on {j u : Nat} {l : List Int} {x : Int} {b : List Int} (hl : l = x :: b) (h : ¬ (9 < j ∨ (j = 9 ∧ 1 < x) ∨ (0 < j ∧ x = 0))) (hx : ¬ x < 128) : decGo j u l = decGo (j + 1) (u + (x % 128).toNat * 128 ^ j) b := by subst hl; simp only [decGo]; rw [if_neg h, if_neg hx]

set_option maxRecDepth 100000 in
set_option maxHeartbeats 8000000 in
theorem get_any (H : PH) (l : List Int) (A : Option Addr) (n c : Nat) (w : World) (hl : SlR (kI .u8) H A n c l) (hs : Sat w H) (hb : ∀ x ∈ l, 0 ≤ x ∧ x < 256) :
    Calls Try.prog 127 #[.slice A n c] w fun e w' => GetR H l e ∧ Below w.heap.size w w' := by
  obtain rfl := hl.1
  have hc := hl.2.1
  have hlen := hl.2.2.2.1
  replace hb := Aside.mk hb
  go_enter Try.func127, Try.ntmps127
  go_wp2_with fail
  go_loopw [5, 10] (fun s i wr => ∃ j u : Nat, j ≤ l.length ∧ i = .int .i64 j ∧ s = .int .u64 u ∧ Aside (decGo 0 0 l = decGo j u (l.drop j) ∧ u < 128 ^ j) ∧ Aside (Below w.heap.size w wr)) (fun _ i _ => l.length - (intOf i).toNat)
  case atStart => exact ⟨0, 0, by omega, rfl, rfl, ⟨by simp, by simp⟩, ⟨Below.refl _ _⟩⟩
  case round =>
    obtain ⟨j, u, hj, rfl, rfl, hD, hbr⟩ := hrel
    by_cases hlt : j < l.length
    · have hfr := fun W => run_from (P := Try.prog) 96 5 1 Try.underlying96 sizeU8 A l.length c (j + 1) (by omega) ((j : Int) + 1) (by omega) W
      have hF := hl.from (j + 1) (by omega)
      obtain ⟨b, off, cs, e0, hrd, hcell⟩ := hl.row j hlt
      have hdr := List.drop_eq_getElem_cons hlt
      obtain ⟨x0, x1⟩ := hb.out _ (List.getElem_mem hlt)
      have hFq : ∃ QA, fromA A c (j + 1) 1 = QA := ⟨_, rfl⟩
      obtain ⟨QA, hQA⟩ := hFq
      have hsz : (kI .u8).sz = 1 := rfl
      rw [hsz, hQA] at hF
      rw [hQA] at hfr
      subst e0
      generalize l[j] = x at *
      obtain rfl : cs = [.int .u8 x] := hrd
      have g0 := at1 (hs.below hbr.out) hcell
      simp only [kI, Nat.mul_one] at g0
      have HH := Aside.mk (And.intro hdr (And.intro hF (And.intro hlt (And.intro hD.out.1 hD.out.2))))
      clear hdr hF hcell hD hQA hsz
      by_cases h1 : 9 < j
      · skip
        have e1 : (j : Int) > 9 := by omega
        have hst := dec_stop (j := j) (u := u) HH.out.1 (Or.inl h1)
        have HST := Aside.mk hst
        clear hst h1
        go_wp2_with fail
        refine bodyPost_ret (v := .tuple #[.int .i64 0, .slice none 0 0, .bool false]) (by simp [results, Try.results127, go_sem]) rfl ⟨?_, hbr.out⟩
        unfold GetR
        rw [HH.out.2.2.2.1, HST.out]
      have e1 : ¬ (j : Int) > 9 := by omega
      by_cases h9 : j = 9
      · have e2 : ((j : Int) == 9) = true := by simp; omega
        have e4 : (j : Int) > 0 := by omega
        by_cases h2 : 1 < x
        · skip
          have e5 : x > 1 := h2
          have hst := dec_stop (j := j) (u := u) HH.out.1 (Or.inr (Or.inl ⟨h9, h2⟩))
          have HST := Aside.mk hst
          clear hst h1 h9
          go_wp2_with fail
          refine bodyPost_ret (v := .tuple #[.int .i64 0, .slice none 0 0, .bool false]) (by simp [results, Try.results127, go_sem]) rfl ⟨?_, hbr.out⟩
          unfold GetR
          rw [HH.out.2.2.2.1, HST.out]
        have e5 : ¬ x > 1 := h2
        by_cases h3 : x = 0
        · have e3 : (x == 0) = true := by simpa using h3
          have hst := dec_stop (j := j) (u := u) HH.out.1 (Or.inr (Or.inr ⟨by omega, h3⟩))
          have HST := Aside.mk hst
          clear hst h1 h9 h2 h3
          go_wp2_with fail
          refine bodyPost_ret (v := .tuple #[.int .i64 0, .slice none 0 0, .bool false]) (by simp [results, Try.results127, go_sem]) rfl ⟨?_, hbr.out⟩
          unfold GetR
          rw [HH.out.2.2.2.1, HST.out]
        have e3 : (x == 0) = false := by simpa using h3
        obtain ⟨eb, hV⟩ := orb (u := u) (j := j) (x := x) HH.out.2.2.2.2 (by omega) (by omega) (by omega) (by omega)
        have hguard : ¬ (9 < j ∨ (j = 9 ∧ 1 < x) ∨ (0 < j ∧ x = 0)) := by omega
        have hV2 : u + (x % 128).toNat * 128 ^ j < 128 ^ (j + 1) := by
          have h7 := HH.out.2.2.2.2
          have h8 : (x % 128).toNat ≤ 127 := by omega
          have h9 := Nat.mul_le_mul_right (128 ^ j) h8
          rw [Nat.pow_succ]
          omega
        by_cases hx : x < 128
        · have hst := dec_end (u := u) HH.out.1 hguard hx
          generalize hVV : u + (x % 128).toNat * 128 ^ j = V at *
          have HST := Aside.mk (And.intro hst hV2)
          replace hVV := Aside.mk hVV
          clear hst hguard hV2 h1 h9 h2 h3
          have hdb : decide ((V : Int) ≤ 9223372036854775808) = decide (V ≤ 9223372036854775808) := decide_eq_decide.2 (by omega)
          replace hdb := Aside.mk hdb
          go_wp2_with fail
          go_quiet (fail)
          go_wp2_with fail
          refine bodyPost_ret (v := .tuple #[.int .i64 (wrap64 (IntKind.u64.wrap ((V : Int) - 1))), .slice QA (l.length - (j + 1)) (c - (j + 1)), .bool (decide ((V : Int) ≤ 9223372036854775808))]) (by simp [results, Try.results127, go_sem]) rfl ⟨?_, hbr.out.drewN _⟩
          unfold GetR
          rw [HH.out.2.2.2.1, HST.out.1]
          exact ⟨_, _, _, _, by rw [hdb.out], HH.out.2.1, fun h => by rw [IntKind.wrap_u64]; unfold wrap64; omega⟩
        · exact absurd hx (by omega)
      have e2 : ((j : Int) == 9) = false := by simp; omega
      by_cases h0 : j = 0
      · have e4 : ¬ (j : Int) > 0 := by omega
        obtain ⟨eb, hV⟩ := orb (u := u) (j := j) (x := x) HH.out.2.2.2.2 (by omega) (by omega) (by omega) (by omega)
        have hguard : ¬ (9 < j ∨ (j = 9 ∧ 1 < x) ∨ (0 < j ∧ x = 0)) := by omega
        have hV2 : u + (x % 128).toNat * 128 ^ j < 128 ^ (j + 1) := by
          have h7 := HH.out.2.2.2.2
          have h8 : (x % 128).toNat ≤ 127 := by omega
          have h9 := Nat.mul_le_mul_right (128 ^ j) h8
          rw [Nat.pow_succ]
          omega
        by_cases hx : x < 128
        · have hst := dec_end (u := u) HH.out.1 hguard hx
          generalize hVV : u + (x % 128).toNat * 128 ^ j = V at *
          have HST := Aside.mk (And.intro hst hV2)
          replace hVV := Aside.mk hVV
          clear hst hguard hV2 h1 h9 h0
          have hdb : decide ((V : Int) ≤ 9223372036854775808) = decide (V ≤ 9223372036854775808) := decide_eq_decide.2 (by omega)
          replace hdb := Aside.mk hdb
          go_wp2_with fail
          go_quiet (fail)
          go_wp2_with fail
          refine bodyPost_ret (v := .tuple #[.int .i64 (wrap64 (IntKind.u64.wrap ((V : Int) - 1))), .slice QA (l.length - (j + 1)) (c - (j + 1)), .bool (decide ((V : Int) ≤ 9223372036854775808))]) (by simp [results, Try.results127, go_sem]) rfl ⟨?_, hbr.out.drewN _⟩
          unfold GetR
          rw [HH.out.2.2.2.1, HST.out.1]
          exact ⟨_, _, _, _, by rw [hdb.out], HH.out.2.1, fun h => by rw [IntKind.wrap_u64]; unfold wrap64; omega⟩
        · have hst := dec_on (u := u) HH.out.1 hguard hx
          generalize hVV : u + (x % 128).toNat * 128 ^ j = V at *
          have HST := Aside.mk (And.intro hst hV2)
          replace hVV := Aside.mk hVV
          clear hst hguard hV2 h1 h9 h0
          go_wp2_with fail
          go_roundw
          case rel => exact ⟨j + 1, V, by have := HH.out.2.2.1; omega, by go_num, rfl, ⟨HH.out.2.2.2.1.trans HST.out.1, HST.out.2⟩, ⟨hbr.out⟩⟩
          case measure => (have := HH.out.2.2.1; simp [intOf]; omega)
      have e4 : (j : Int) > 0 := by omega
      by_cases h3 : x = 0
      · have e3 : (x == 0) = true := by simpa using h3
        have hst := dec_stop (j := j) (u := u) HH.out.1 (Or.inr (Or.inr ⟨by omega, h3⟩))
        have HST := Aside.mk hst
        clear hst h1 h9 h0 h3
        go_wp2_with fail
        refine bodyPost_ret (v := .tuple #[.int .i64 0, .slice none 0 0, .bool false]) (by simp [results, Try.results127, go_sem]) rfl ⟨?_, hbr.out⟩
        unfold GetR
        rw [HH.out.2.2.2.1, HST.out]
      have e3 : (x == 0) = false := by simpa using h3
      obtain ⟨eb, hV⟩ := orb (u := u) (j := j) (x := x) HH.out.2.2.2.2 (by omega) (by omega) (by omega) (by omega)
      have hguard : ¬ (9 < j ∨ (j = 9 ∧ 1 < x) ∨ (0 < j ∧ x = 0)) := by omega
      have hV2 : u + (x % 128).toNat * 128 ^ j < 128 ^ (j + 1) := by
        have h7 := HH.out.2.2.2.2
        have h8 : (x % 128).toNat ≤ 127 := by omega
        have h9 := Nat.mul_le_mul_right (128 ^ j) h8
        rw [Nat.pow_succ]
        omega
      by_cases hx : x < 128
      · have hst := dec_end (u := u) HH.out.1 hguard hx
        generalize hVV : u + (x % 128).toNat * 128 ^ j = V at *
        have HST := Aside.mk (And.intro hst hV2)
        replace hVV := Aside.mk hVV
        clear hst hguard hV2 h1 h9 h0 h3
        have hdb : decide ((V : Int) ≤ 9223372036854775808) = decide (V ≤ 9223372036854775808) := decide_eq_decide.2 (by omega)
        replace hdb := Aside.mk hdb
        go_wp2_with fail
        go_quiet (fail)
        go_wp2_with fail
        refine bodyPost_ret (v := .tuple #[.int .i64 (wrap64 (IntKind.u64.wrap ((V : Int) - 1))), .slice QA (l.length - (j + 1)) (c - (j + 1)), .bool (decide ((V : Int) ≤ 9223372036854775808))]) (by simp [results, Try.results127, go_sem]) rfl ⟨?_, hbr.out.drewN _⟩
        unfold GetR
        rw [HH.out.2.2.2.1, HST.out.1]
        exact ⟨_, _, _, _, by rw [hdb.out], HH.out.2.1, fun h => by rw [IntKind.wrap_u64]; unfold wrap64; omega⟩
      · have hst := dec_on (u := u) HH.out.1 hguard hx
        generalize hVV : u + (x % 128).toNat * 128 ^ j = V at *
        have HST := Aside.mk (And.intro hst hV2)
        replace hVV := Aside.mk hVV
        clear hst hguard hV2 h1 h9 h0 h3
        go_wp2_with fail
        go_roundw
        case rel => exact ⟨j + 1, V, by have := HH.out.2.2.1; omega, by go_num, rfl, ⟨HH.out.2.2.2.1.trans HST.out.1, HST.out.2⟩, ⟨hbr.out⟩⟩
        case measure => (have := HH.out.2.2.1; simp [intOf]; omega)
    · obtain rfl : j = l.length := by omega
      have hD1 := hD.out.1
      rw [List.drop_of_length_le (Nat.le_refl _)] at hD1
      have HST := Aside.mk hD1
      clear hD1
      go_wp2_with fail
      refine bodyPost_ret (v := .tuple #[.int .i64 0, .slice none 0 0, .bool false]) (by simp [results, Try.results127, go_sem]) rfl ⟨?_, hbr.out⟩
      unfold GetR
      rw [HST.out]
      rfl
end Go.Proofs.Ytbnahmeaeakhhaa.B
