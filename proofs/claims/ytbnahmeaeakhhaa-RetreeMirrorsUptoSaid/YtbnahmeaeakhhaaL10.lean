/- Proves that the law RetreeMirrors answers true. Conditions: the arguments are together of bulk at most 1048576 (the form Upto); nothing else. -/
import Derived.Test.YtbnahmeaeakhhaaN18
import Derived.Test.YtbnahmeaeakhhaaOpr
import Derived.WalkKit
import Derived.ProofKit
import Derived.OpenShut
import Derived.JoinedCond
namespace Go.Proofs.Ytbnahmeaeakhhaa.retreeMirrors
set_option linter.unusedVariables false
set_option linter.unusedSimpArgs false
open Go.ChangeShapes Go.WideShapes Go.ChangeAt Go.RowKit
open Go.Proofs.Ytbnahmeaeakhhaa.B

theorem own : ownKnob (Try.prog).godebug = none := by kernel_rfl
theorem laidOut : laidOutB Try.prog = true := by kernel_rfl

set_option maxRecDepth 100000 in
theorem contract (H : Type) (enc : TypeId × Value → H) (W : World) (base : Nat) (args : Array Value) (ds gs : List (DataW H)) (before : List MemPlace)
    (hval : ∀ (j : Nat) t v, (Try.f12).params[j]? = some t → args[j]? = some v → Value.okWide Try.prog W .any base t v)
    (hW : DataW.Whole enc Try.prog (Try.f12).params.toList Rows.retreeMirrorsSpec.vars false W args.toList ds gs before) (hk : Rows.uptoSmall H (ds ++ gs) = true) :
    Calls Try.prog 12 args W fun e W' => ∃ v, e = .returned v ∧ Rows.retreeMirrorsSpec.post enc Try.prog Try.f12 false true false false W args v W' := by
  have hW' := hW
  obtain ⟨p, q, hA0, hV, rfl, hfz, hnd⟩ := hW
  have hA : DataW.TrodAll enc Try.prog W 0 (fun _ => true) true (Try.f12).params.toList args.toList ds p := hA0
  rw [Try.params12] at hA hval
  obtain ⟨v0, vs0, d0, ds0, p0, q0, hargs, rfl, rfl, h0, r0⟩ := trodAll_cons hA
  obtain ⟨v1, vs1, d1, ds1, p1, q1, rfl, rfl, rfl, h1, r1⟩ := trodAll_cons r0
  obtain ⟨rfl, rfl, rfl⟩ := trodAll_nil r1
  obtain rfl : args = #[v0, v1] := by cases args; simp_all
  obtain ⟨rfl, rfl⟩ := trodVars_none hV
  have hb : Rows.uptoBulkAll [d0, d1] ≤ 1048576 := of_decide_eq_true hk
  simp only [Rows.uptoBulkAll] at hb
  have lt0 : ∀ x ∈ p0, x.block < W.heap.size := by obtain ⟨m, hm⟩ := h0; exact DataW.trod_lt m _ _ _ hm
  have lt1 : ∀ x ∈ p1, x.block < W.heap.size := by obtain ⟨m, hm⟩ := h1; exact DataW.trod_lt m _ _ _ hm
  obtain ⟨A0, n0, c0, rfl⟩ := okWide_slice Try.underlying26 (hval 0 26 v0 rfl rfl)
  obtain ⟨x0, hx0⟩ : ∃ t, SlR (kI .i64) (mem W) A0 n0 c0 t := by
    obtain ⟨fuel, hf⟩ := h0
    obtain ⟨A, l, c, xs, e, hs, -⟩ := open_sl (kI .i64) (fun _ => True) (fun _ _ => True) Try.underlying26 cellsInt (fun m _ cs x hx _ => by obtain ⟨n, hn, -⟩ := trod_int Try.underlying3 hx; exact ⟨n, hn, trivial⟩) hf (fun _ _ _ _ _ => trivial) 1048576 (by omega) (fun A l c e => by
      rcases DataW.trod_slice Try.underlying26 hf with ⟨hc, -⟩ | ⟨a, len, cap, elems, rest, m, -, hc, hx, -, -, -, hel, -⟩
      · rw [e] at hc; simp at hc; omega
      · rw [e] at hc; simp at hc
        cases hx
        have := bulk_length (elems.map (·.1))
        simp only [Rows.uptoBulk] at hb
        simp at this
        omega)
    simp [Value.cells] at e
    obtain ⟨rfl, rfl, rfl⟩ := e
    exact ⟨xs, hs⟩
  obtain ⟨A1, n1, c1, rfl⟩ := okWide_slice Try.underlying26 (hval 1 26 v1 rfl rfl)
  obtain ⟨x1, hx1⟩ : ∃ t, SlR (kI .i64) (mem W) A1 n1 c1 t := by
    obtain ⟨fuel, hf⟩ := h1
    obtain ⟨A, l, c, xs, e, hs, -⟩ := open_sl (kI .i64) (fun _ => True) (fun _ _ => True) Try.underlying26 cellsInt (fun m _ cs x hx _ => by obtain ⟨n, hn, -⟩ := trod_int Try.underlying3 hx; exact ⟨n, hn, trivial⟩) hf (fun _ _ _ _ _ => trivial) 1048576 (by omega) (fun A l c e => by
      rcases DataW.trod_slice Try.underlying26 hf with ⟨hc, -⟩ | ⟨a, len, cap, elems, rest, m, -, hc, hx, -, -, -, hel, -⟩
      · rw [e] at hc; simp at hc; omega
      · rw [e] at hc; simp at hc
        cases hx
        have := bulk_length (elems.map (·.1))
        simp only [Rows.uptoBulk] at hb
        simp at this
        omega)
    simp [Value.cells] at e
    obtain ⟨rfl, rfl, rfl⟩ := e
    exact ⟨xs, hs⟩
  clear hA0
  simp only [List.append_nil] at hW'
  have hwalk := retreeMirrors_any (mem W) x0 x1 A0 A1 n0 n1 c0 c1 W hx0 hx1 (sat_mem W)
  refine hwalk.mono fun e W' ⟨he, bel⟩ => ?_
  subst he
  exact ⟨_, rfl, _, _, _, [], _, [], hW', trodAll_mk1 (shut_bool Try.underlying4 _), (trodAll_cons_mk (Below.trod laidOut (by kernel_rfl) (of_decide_eq_true (by kernel_rfl)) h0 bel lt0) (trodAll_cons_mk (Below.trod laidOut (by kernel_rfl) (of_decide_eq_true (by kernel_rfl)) h1 bel lt1) trodAll_mk0)), rfl, bel.frame _, fun h => by cases h⟩

set_option maxRecDepth 100000 in
theorem lifted (os : Os) (started : os.Started) (H : Type) (enc : TypeId × Value → H) (F : Stop.Interp) :
    ReturnsInHanded {} Try.checked os 12 .any ((Rows.OpenSpec.upto Rows.retreeMirrorsSpec).pre6 enc Try.prog Try.f12 Rows.retreeMirrorsUptoRow.domain false) (((Rows.OpenSpec.upto Rows.retreeMirrorsSpec).at F).post enc Try.prog Try.f12 false true false false) := by
  refine returnsInHanded_of_cond (C := Try.checked) (s := Rows.OpenSpec.upto Rows.retreeMirrorsSpec) (k := Rows.uptoSmall) rfl own started (by kernel_rfl) Try.func12
    (OpenSpec.witness (enc := enc) (C := Try.checked) (s := Rows.OpenSpec.upto Rows.retreeMirrorsSpec) (k := Rows.uptoSmall) rfl false ⟨#[], #[.slice none 0 0, .slice none 0 0], []⟩ 8 (by kernel_rfl) (by kernel_rfl) (by kernel_rfl)
      (x := ([.nil, .nil], [], [])) (by kernel_rfl) rfl (by kernel_rfl)) ?_
  intro W base args ds gs before hval hW _ hk _
  exact contract H enc W base args ds gs before hval hW hk

theorem proved : Rows.RetreeMirrorsUptoSaid :=
  OpenClaim.holds_of_cond 12 Try.f12 rfl rfl rfl rfl rfl rfl rfl ⟨rfl, rfl, rfl, rfl, rfl⟩ rfl rfl rfl rfl rfl (by kernel_rfl) Try.func12 (by kernel_rfl)
    (of_decide_eq_true (by kernel_rfl)) (by unfold Func.isWrapper; first | (rw [if_pos (by decide +kernel)]; kernel_rfl) | (rw [if_neg (by decide +kernel)]; exact ⟨rfl, rfl⟩))
    (fun os started H enc _ F => lifted os started H enc F)
#print axioms proved
end Go.Proofs.Ytbnahmeaeakhhaa.retreeMirrors
