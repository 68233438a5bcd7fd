/- Proves that the law RowpackTells answers true, for every input (the form Said). No condition. -/
import Derived.Test.YtbnahmeaeakhhaaU10
import Derived.Test.YtbnahmeaeakhhaaOt
import Derived.WalkKit
import Derived.ProofKit
import Derived.OpenShut
import Derived.SizedLaws
import Derived.JoinedOf
import Derived.ChangeOld
namespace Go.Proofs.Ytbnahmeaeakhhaa.rowpackTells
set_option linter.unusedVariables false
set_option linter.unusedSimpArgs false
open Go.ChangeShapes Go.WideShapes Go.ChangeAt Go.RowKit
open Go.Proofs.Ytbnahmeaeakhhaa.B

theorem own : ownKnob (Try.prog).godebug = none := by kernel_rfl
theorem laidOut : laidOutB Try.prog = true := by kernel_rfl

set_option maxRecDepth 100000 in
theorem contract (H : Type) (enc : TypeId × Value → H) (W : World) (base : Nat) (args : Array Value) (ds gs : List (DataW H)) (before : List MemPlace)
    (hval : ∀ (j : Nat) t v, (Try.f10).params[j]? = some t → args[j]? = some v → Value.okWide Try.prog W .any base t v)
    (hW : DataW.Whole enc Try.prog (Try.f10).params.toList Rows.rowpackTellsSpec.vars false W args.toList ds gs before)
    (hsz : (DataW.weightsEach Try.prog ((Try.f10).params.toList ++ Rows.rowpackTellsSpec.plain.varTypes Try.prog) (ds ++ gs)).all (· ≤ reachBytes) = true) :
    Calls Try.prog 10 args W fun e W' => ∃ v, e = .returned v ∧ Rows.rowpackTellsSpec.post enc Try.prog Try.f10 false true false false W args v W' := by
  have hW' := hW
  obtain ⟨p, q, hA0, hV, rfl, hfz, hnd⟩ := hW
  have hA : DataW.TrodAll enc Try.prog W 0 (fun _ => true) true (Try.f10).params.toList args.toList ds p := hA0
  rw [Try.params10] at hA hval hsz
  obtain ⟨v0, vs0, d0, ds0, p0, q0, hargs, rfl, rfl, h0, r0⟩ := trodAll_cons hA
  obtain ⟨rfl, rfl, rfl⟩ := trodAll_nil r0
  obtain rfl : args = #[v0] := by cases args; simp_all
  obtain ⟨rfl, rfl⟩ := trodVars_none hV
  have lt0 : ∀ x ∈ p0, x.block < W.heap.size := by obtain ⟨m, hm⟩ := h0; exact DataW.trod_lt m _ _ _ hm
  have z0 : Szd Try.prog 58 d0 := Szd.arg hsz (j := 0) rfl rfl
  obtain ⟨cs0, rfl, -, -⟩ : ∃ cs, v0 = .agg cs ∧ cs.size = (Try.prog).cellsOf 58 ∧ Row.okWide Try.prog W .any base 58 cs := by
    have := hval 0 58 v0 rfl rfl
    unfold Value.okWide at this
    rw [Try.underlying58] at this
    exact this
  obtain ⟨x0, hx0, y0⟩ : ∃ D, RdAut (mem W) D cs0.toList ∧ (∀ a ∈ D.acc, (Lit.int .i64 a).wf = true) ∧ (∀ l ∈ D.next, (∀ a ∈ l, (Lit.int .i64 a).wf = true) ∧ l.length * 8 ≤ 140737488351232) ∧ D.acc.length * 8 ≤ 140737488351232 ∧ D.next.length * 24 ≤ 140737488351232 := by
    obtain ⟨fuel, hf⟩ := h0
    exact open_dfa hf z0
  clear hA0
  simp only [List.append_nil] at hW'
  have hwalk := by
    exact (show Calls Try.prog 10 #[.agg cs0] W (fun e w' => e = .returned (.bool true) ∧ Below W.heap.size W w') from by
      obtain ⟨a1, c1, a2, c2, e0, g⟩ := id hx0
      have hcs : cs0 = #[.int .i64 x0.st, .slice a1 x0.acc.length c1, .slice a2 x0.next.length c2] := by rw [← Array.toArray_toList (xs := cs0), e0]
      have := rowpackTells_any (mem W) x0 a1 a2 c1 c2 W ⟨a1, c1, a2, c2, rfl, g⟩ (sat_mem W) y0.1
      rw [← hcs] at this
      exact this)
  refine hwalk.mono fun e W' ⟨he, bel⟩ => ?_
  subst he
  exact ⟨_, rfl, _, _, _, [], _, [], hW', trodAll_mk1 (shut_bool Try.underlying4 _), (trodAll_cons_mk (Below.trod laidOut (by kernel_rfl) (of_decide_eq_true (by kernel_rfl)) h0 bel lt0) trodAll_mk0), rfl, bel.frame _, fun h => by cases h⟩

set_option maxRecDepth 100000 in
theorem lifted (os : Os) (started : os.Started) (H : Type) (enc : TypeId × Value → H) :
    ReturnsInHanded {} Try.checked os 10 .any (Rows.rowpackTellsSpec.pre6 enc Try.prog Try.f10 Rows.rowpackTellsRow.domain false) (Rows.rowpackTellsSpec.post enc Try.prog Try.f10 false true false false) := by
  refine returnsInHanded_of_change_sized (C := Try.checked) own started (by kernel_rfl) Try.func10
    (ChangeSpec.witness6 (enc := enc) (C := Try.checked) false ⟨#[], #[.agg #[.int .i64 0, .slice none 0 0, .slice none 0 0]], []⟩ 8 (by kernel_rfl) (by kernel_rfl) (by kernel_rfl) (by kernel_rfl)) ?_
  intro W base args ds gs before hval hW hcnd hsz _
  exact contract H enc W base args ds gs before hval hW hsz

theorem proved : Rows.RowpackTellsSaid :=
  OpenClaim.holds_of_wide 10 Try.f10 rfl rfl rfl rfl rfl rfl rfl ⟨rfl, rfl, rfl, rfl, rfl⟩ rfl rfl rfl rfl rfl (by kernel_rfl) Try.func10 (by kernel_rfl)
    (of_decide_eq_true (by kernel_rfl)) (by unfold Func.isWrapper; first | (rw [if_pos (by decide +kernel)]; kernel_rfl) | (rw [if_neg (by decide +kernel)]; exact ⟨rfl, rfl⟩))
    (fun os started H enc _ => lifted os started H enc)
#print axioms proved
end Go.Proofs.Ytbnahmeaeakhhaa.rowpackTells
