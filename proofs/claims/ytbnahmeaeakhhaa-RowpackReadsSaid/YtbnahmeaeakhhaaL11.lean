/- Proves that the law RowpackReads answers true, for every input (the form Said). No condition. -/
import Derived.Test.YtbnahmeaeakhhaaT10
import Derived.Test.YtbnahmeaeakhhaaOt
import Derived.WalkKit
import Derived.ProofKit
import Derived.OpenShut
import Derived.SizedLaws
import Derived.JoinedOf
import Derived.ChangeOld
namespace Go.Proofs.Ytbnahmeaeakhhaa.rowpackReads
set_option linter.unusedVariables false
set_option linter.unusedSimpArgs false
open Go.ChangeShapes Go.WideShapes Go.ChangeAt Go.RowKit
open Go.Proofs.Ytbnahmeaeakhhaa.B

theorem own : ownKnob (Try.prog).godebug = none := by kernel_rfl
theorem laidOut : laidOutB Try.prog = true := by kernel_rfl

set_option maxRecDepth 100000 in
theorem contract (H : Type) (enc : TypeId × Value → H) (W : World) (base : Nat) (args : Array Value) (ds gs : List (DataW H)) (before : List MemPlace)
    (hval : ∀ (j : Nat) t v, (Try.f13).params[j]? = some t → args[j]? = some v → Value.okWide Try.prog W .any base t v)
    (hW : DataW.Whole enc Try.prog (Try.f13).params.toList Rows.rowpackReadsSpec.vars false W args.toList ds gs before)
    (hsz : (DataW.weightsEach Try.prog ((Try.f13).params.toList ++ Rows.rowpackReadsSpec.plain.varTypes Try.prog) (ds ++ gs)).all (· ≤ reachBytes) = true) :
    Calls Try.prog 13 args W fun e W' => ∃ v, e = .returned v ∧ Rows.rowpackReadsSpec.post enc Try.prog Try.f13 false true false false W args v W' := by
  have hW' := hW
  obtain ⟨p, q, hA0, hV, rfl, hfz, hnd⟩ := hW
  have hA : DataW.TrodAll enc Try.prog W 0 (fun _ => true) true (Try.f13).params.toList args.toList ds p := hA0
  rw [Try.params13] at hA hval hsz
  obtain ⟨v0, vs0, d0, ds0, p0, q0, hargs, rfl, rfl, h0, r0⟩ := trodAll_cons hA
  obtain ⟨v1, vs1, d1, ds1, p1, q1, rfl, rfl, rfl, h1, r1⟩ := trodAll_cons r0
  obtain ⟨v2, vs2, d2, ds2, p2, q2, rfl, rfl, rfl, h2, r2⟩ := trodAll_cons r1
  obtain ⟨v3, vs3, d3, ds3, p3, q3, rfl, rfl, rfl, h3, r3⟩ := trodAll_cons r2
  obtain ⟨rfl, rfl, rfl⟩ := trodAll_nil r3
  obtain rfl : args = #[v0, v1, v2, v3] := by cases args; simp_all
  obtain ⟨rfl, rfl⟩ := trodVars_none hV
  have lt0 : ∀ x ∈ p0, x.block < W.heap.size := by obtain ⟨m, hm⟩ := h0; exact DataW.trod_lt m _ _ _ hm
  have lt1 : ∀ x ∈ p1, x.block < W.heap.size := by obtain ⟨m, hm⟩ := h1; exact DataW.trod_lt m _ _ _ hm
  have lt2 : ∀ x ∈ p2, x.block < W.heap.size := by obtain ⟨m, hm⟩ := h2; exact DataW.trod_lt m _ _ _ hm
  have lt3 : ∀ x ∈ p3, x.block < W.heap.size := by obtain ⟨m, hm⟩ := h3; exact DataW.trod_lt m _ _ _ hm
  have z0 : Szd Try.prog 85 d0 := Szd.arg hsz (j := 0) rfl rfl
  obtain ⟨cs0, rfl, -, -⟩ : ∃ cs, v0 = .agg cs ∧ cs.size = (Try.prog).cellsOf 85 ∧ Row.okWide Try.prog W .any base 85 cs := by
    have := hval 0 85 v0 rfl rfl
    unfold Value.okWide at this
    rw [Try.underlying85] at this
    exact this
  obtain ⟨x0, hx0, y0⟩ : ∃ T, RdTab (mem W) T cs0.toList ∧ ∀ a ∈ T.acc, (Lit.int .i64 a).wf = true := by
    obtain ⟨fuel, hf⟩ := h0
    exact open_tab hf z0
  obtain ⟨a1, a2, a3, a4, a5, a6, a7, a8, e0, -⟩ := id hx0
  obtain ⟨x1, ev1, -, -, hx1⟩ := open_int Try.underlying3 (hval 1 3 v1 rfl rfl) h1
  subst ev1
  obtain ⟨x2, ev2, -, -, hx2⟩ := open_int Try.underlying3 (hval 2 3 v2 rfl rfl) h2
  subst ev2
  have z3 : Szd Try.prog 96 d3 := Szd.arg hsz (j := 3) rfl rfl
  obtain ⟨A3, n3, c3, rfl⟩ := okWide_slice Try.underlying96 (hval 3 96 v3 rfl rfl)
  obtain ⟨x3, hx3, y3⟩ : ∃ t, SlR (kI .u8) (mem W) A3 n3 c3 t ∧ InB t := by
    obtain ⟨fuel, hf⟩ := h3
    obtain ⟨A, c, xs, e, hs, hq⟩ := open_bytes hf z3
    simp [Value.cells] at e
    obtain ⟨rfl, rfl, rfl⟩ := e
    exact ⟨xs, hs, hq⟩
  clear hA0
  simp only [List.append_nil] at hW'
  have hwalk := by
    obtain ⟨st, cols, acc, bas, own', nxt⟩ := x0
    have hcs : cs0 = #[.int .i64 st, .int .i64 cols, .slice a1 acc.length a2, .slice a3 bas.length a4, .slice a5 own'.length a6, .slice a7 nxt.length a8] := by rw [← Array.toArray_toList (xs := cs0), e0]
    have := rowpackReads_any (mem W) st cols acc bas own' nxt a1 a3 a5 a7 a2 a4 a6 a8 x1 x2 x3 A3 n3 c3 W (e0 ▸ hx0) hx3 y3 (sat_mem W) (fun h => inR_of (T := ⟨st, cols, acc, bas, own', nxt⟩) h y0)
    rw [← hcs] at this
    exact this
  refine hwalk.mono fun e W' ⟨he, bel⟩ => ?_
  subst he
  exact ⟨_, rfl, _, _, _, [], _, [], hW', trodAll_mk1 (shut_bool Try.underlying4 _), (trodAll_cons_mk (Below.trod laidOut (by kernel_rfl) (of_decide_eq_true (by kernel_rfl)) h0 bel lt0) (trodAll_cons_mk (Below.trod laidOut (by kernel_rfl) (of_decide_eq_true (by kernel_rfl)) h1 bel lt1) (trodAll_cons_mk (Below.trod laidOut (by kernel_rfl) (of_decide_eq_true (by kernel_rfl)) h2 bel lt2) (trodAll_cons_mk (Below.trod laidOut (by kernel_rfl) (of_decide_eq_true (by kernel_rfl)) h3 bel lt3) trodAll_mk0)))), rfl, bel.frame _, fun h => by cases h⟩

set_option maxRecDepth 100000 in
theorem lifted (os : Os) (started : os.Started) (H : Type) (enc : TypeId × Value → H) :
    ReturnsInHanded {} Try.checked os 13 .any (Rows.rowpackReadsSpec.pre6 enc Try.prog Try.f13 Rows.rowpackReadsRow.domain false) (Rows.rowpackReadsSpec.post enc Try.prog Try.f13 false true false false) := by
  refine returnsInHanded_of_change_sized (C := Try.checked) own started (by kernel_rfl) Try.func13
    (ChangeSpec.witness6 (enc := enc) (C := Try.checked) false ⟨#[], #[.agg #[.int .i64 0, .int .i64 0, .slice none 0 0, .slice none 0 0, .slice none 0 0, .slice none 0 0], .int .i64 0, .int .i64 0, .slice none 0 0], []⟩ 8 (by kernel_rfl) (by kernel_rfl) (by kernel_rfl) (by kernel_rfl)) ?_
  intro W base args ds gs before hval hW hcnd hsz _
  exact contract H enc W base args ds gs before hval hW hsz

theorem proved : Rows.RowpackReadsSaid :=
  OpenClaim.holds_of_wide 13 Try.f13 rfl rfl rfl rfl rfl rfl rfl ⟨rfl, rfl, rfl, rfl, rfl⟩ rfl rfl rfl rfl rfl (by kernel_rfl) Try.func13 (by kernel_rfl)
    (of_decide_eq_true (by kernel_rfl)) (by unfold Func.isWrapper; first | (rw [if_pos (by decide +kernel)]; kernel_rfl) | (rw [if_neg (by decide +kernel)]; exact ⟨rfl, rfl⟩))
    (fun os started H enc _ => lifted os started H enc)
#print axioms proved
end Go.Proofs.Ytbnahmeaeakhhaa.rowpackReads
