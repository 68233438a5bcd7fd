/- Contract: slices.Clone over ints. -/
import Derived.Test.YtbnahmeaeakhhaaBd
import Derived.Test.YtbnahmeaeakhhaaProg
import Derived.WalkSpells
namespace Go.Proofs.Ytbnahmeaeakhhaa.B
set_option linter.unusedVariables false
set_option linter.unusedSimpArgs false
open Go Go.RowKit

theorem infoQ : (Try.prog.info? 3).map (fun i => (i.zero, i.size, i.bytes)) = some (some (.int .i64 0), 1, 8) := by kernel_rfl
set_option maxRecDepth 100000 in
/-- slices.Clone, over ints -/
theorem cloneQ_any (H : PH) (xs : List Int) (A : Option Addr) (n c : Nat) (w : World) (hl : SlR (kI .i64) H A n c xs) (hs : Sat w H) (hb : n ≤ 1048576) :
    Calls Try.prog 69 #[.slice A n c] w fun e w' => ∃ v, e = .returned v ∧ Own (kI .i64) 3 w' w.heap.size H v xs ∧ Below w.heap.size w w' := by
  have hl1 := hl.1
  cases A with
  | none =>
    obtain rfl : c = 0 := hl.2.2.2.2.1 rfl
    obtain rfl : n = 0 := Nat.le_zero.1 hl.2.1
    obtain rfl : xs = [] := List.eq_nil_of_length_eq_zero hl1.symm
    clear hl hl1
    have he := fun (w : World) (a : Option Addr) (l c n' c' : Nat) => Lib.run_eql_slice_nil (P := Try.prog) w 26 3 a l c n' c' Try.underlying26
    go_enter Try.func69, Try.ntmps69
    go_wp2_with fail
    go_ret
    exact ⟨_, rfl, Own.nil _ _ _ _ _, Below.refl _ _⟩
  | some a =>
    have ho := Own.lit (k := kI .i64) (e := 3) (xs := []) (base := w.heap.size) hs #[] (Nat.le_refl _) rfl (by unfold maxLen; simp)
    have hs1 := hs.alloc (.cells #[] 3)
    have he := fun (w : World) (a : Option Addr) (l c n' c' : Nat) => Lib.run_eql_slice_nil (P := Try.prog) w 26 3 a l c n' c' Try.underlying26
    have HL := Aside.mk hl
    have HO := Aside.mk (And.intro ho hs1)
    clear hl ho hs1 hl1
    go_enter Try.func69, Try.ntmps69
    go_upto_region 4 with (at_builtin; go_must (refine wpList_appS (kI .i64) rfl (.tmp 5) (.tmp 6) 26 rfl 3 Try.underlying26 infoQ rfl HO.out.1 HO.out.2 HL.out rfl rfl (by rw [← HL.out.1]; simp; omega) (by rw [← HL.out.1]; unfold maxLen; simp; omega) (by simp) ?_); intro v8 w8 ho8 hg8 hs8 hn8 hnil8)
    go_wp2_with fail
    go_ret
    exact ⟨_, rfl, by simpa using ho8, below_grownBy (bA (Below.refl _ _) _) (Nat.le_refl _) (hg8)⟩
end Go.Proofs.Ytbnahmeaeakhhaa.B
