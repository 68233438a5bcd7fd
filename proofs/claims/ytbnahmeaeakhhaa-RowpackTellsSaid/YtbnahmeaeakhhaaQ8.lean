/- Contract: rowpack.Read's list. -/
import Derived.Test.YtbnahmeaeakhhaaQ7
namespace Go.Proofs.Ytbnahmeaeakhhaa.B
set_option linter.unusedVariables false
set_option linter.unusedSimpArgs false
open Go Go.RowKit Go.Proofs.Ytbnahmeaeakhhaa.Q

theorem infoI : (Try.prog.info? 3).map (fun i => (i.zero, i.size, i.bytes)) = some (some (.int .i64 0), 1, 8) := by kernel_rfl
theorem Tu.grown {p q : Nat} {w w2 w9 : World} {row : Option Nat} (h : Tu p q w w2) (hg : w2.grownBy w9 row) (hr : ∀ b, row = some b → w.heap.size ≤ b) : Tu p q w w9 :=
  ⟨hg.os.trans h.os, hg.tape.trans h.tape, hg.output.trans h.output, Nat.le_trans h.size hg.size, fun i hi h1 h2 => (hg.block i (Nat.lt_of_lt_of_le hi h.size) (fun e => by have := hr i e.symm; omega)).trans (h.block i hi h1 h2)⟩
def NxL : List Int → Bool → List Int → List Int → Bool → Prop
  | l, ok, [], l', ok' => l' = l ∧ ok' = ok
  | l, ok, y :: ys, l', ok' => ∃ l1 ok1, Nx l ok y l1 ok1 ∧ NxL l1 ok1 ys l' ok'
theorem NxL.snoc {y : Int} {l2 : List Int} {ok2 : Bool} : ∀ {ys : List Int} {l l1 : List Int} {ok ok1 : Bool}, NxL l ok ys l1 ok1 → Nx l1 ok1 y l2 ok2 → NxL l ok (ys ++ [y]) l2 ok2
  | [], l, l1, ok, ok1, h, k => by obtain ⟨rfl, rfl⟩ := h; exact ⟨_, _, k, rfl, rfl⟩
  | z :: ys, l, l1, ok, ok1, ⟨l3, ok3, h1, h2⟩, k => ⟨l3, ok3, h1, h2.snoc k⟩
def InB (l : List Int) : Prop := ∀ x ∈ l, 0 ≤ x ∧ x < 256
theorem Nx.inB {l l' : List Int} {ok ok' : Bool} {y : Int} (h : Nx l ok y l' ok') (hb : InB l) : InB l' := by
  unfold Nx at h
  cases ok with
  | false => simp at h; rw [h.2.1]; exact hb
  | true =>
    simp only [if_true] at h
    cases hd : decGo 0 0 l with
    | none => rw [hd] at h; simp only at h; rw [h.2.1]; intro x hx; simp at hx
    | some vr =>
      obtain ⟨v, r⟩ := vr
      rw [hd] at h
      simp only at h
      obtain ⟨m, -, e, -⟩ := decGo_some l 0 0 v r hb hd
      rw [h.1]
      intro x hx
      exact hb x (by rw [e]; exact List.mem_append_right _ hx)
theorem St.keep {H : PH} {w w' : World} {p q : Nat} {l : List Int} {ok : Bool} (h : St H w p q l ok) (hp : w'.heap[p]? = w.heap[p]?) (hq : w'.heap[q]? = w.heap[q]?) : St H w' p q l ok :=
  ⟨hp.trans h.okc, by obtain ⟨A, n, c, h1, h2⟩ := h.cur; exact ⟨A, n, c, hq.trans h1, h2⟩, h.ne⟩
theorem St.grown {H : PH} {w w' : World} {p q : Nat} {l : List Int} {ok : Bool} {row : Option Nat} (h : St H w p q l ok) (hg : w.grownBy w' row) (hp : row ≠ some p) (hq : row ≠ some q) : St H w' p q l ok :=
  h.keep (hg.block p (boxL h.okc) (fun e => hp e.symm)) (by obtain ⟨A, n, c, h1, h2⟩ := h.cur; exact hg.block q (boxL h1) (fun e => hq e.symm))
theorem St.lt {H : PH} {w : World} {p q : Nat} {l : List Int} {ok : Bool} (h : St H w p q l ok) : p < w.heap.size ∧ q < w.heap.size := ⟨boxL h.okc, by obtain ⟨A, n, c, h1, h2⟩ := h.cur; exact boxL h1⟩
def ListPost (H : PH) (w : World) (p q n : Nat) (l : List Int) (ok : Bool) (e : Ending) (w' : World) : Prop :=
  ∃ v ys l' ok', e = .returned v ∧ Own (kI .i64) 3 w' w.heap.size H v ys ∧ ys.length = n ∧ NxL l ok ys l' ok' ∧ St H w' p q l' ok' ∧ Tu p q w w'

set_option maxRecDepth 100000 in
set_option maxHeartbeats 8000000 in
theorem list_any (H : PH) (w : World) (p q p8 n : Nat) (l : List Int) (ok : Bool) (hst : St H w p q l ok) (hs : Sat w H) (hb : InB l) (hp : ∀ o, H p o = none) (hq : ∀ o, H q o = none)
    (hf : H p8 0 = some (.func (.func 126) #[] #[.pointer (some ⟨p, 0, none⟩), .pointer (some ⟨q, 0, none⟩)])) (hn : n ≤ 3200) :
    Calls Try.prog 128 #[.int .i64 n, .pointer (some ⟨p8, 0, none⟩)] w (ListPost H w p q n l ok) := by
  have HP := Aside.mk (And.intro hp (And.intro hq (And.intro hf (And.intro trivial hs))))
  have HST := Aside.mk hst
  have HB := Aside.mk hb
  clear hp hq hf hst hb
  go_enter Try.func128, Try.ntmps128
  go_wp2_with fail
  go_loopw [4, 6] (fun o i wr => ∃ (k : Nat) (ys l1 : List Int) (ok1 : Bool) (A5 : Option Addr) (l5 c5 : Nat), k ≤ n ∧ i = .int .i64 k ∧ o = .slice A5 l5 c5 ∧ Aside (ys.length = k ∧ NxL l ok ys l1 ok1 ∧ InB l1) ∧ Aside (St H wr p q l1 ok1) ∧ Aside (Own (kI .i64) 3 wr w.heap.size H (.slice A5 l5 c5) ys) ∧ Aside (Tu p q w wr)) (fun _ i _ => n - (intOf i).toNat)
  case atStart => exact ⟨0, [], l, ok, none, 0, 0, by omega, rfl, rfl, ⟨rfl, ⟨rfl, rfl⟩, HB.out⟩, HST, ⟨Own.nil _ _ _ _ _⟩, ⟨Tu.refl _ _ _⟩⟩
  case round =>
    obtain ⟨k, ys, l1, ok1, A5, l5, c5, hk, rfl, rfl, hY, hS, hO, hT⟩ := hrel
    by_cases hlt : k < n
    · have hli : (k : Int) < (n : Int) := by omega
      have hst0 := HST.out.lt
      have hsr := hT.out.sat HP.out.2.2.2.2 HP.out.1 HP.out.2.1
      have c8 := hsr _ _ _ HP.out.2.2.1
      have z8 := hsr.lt HP.out.2.2.1
      have hcall := next_any H wr p q l1 ok1 hS.out hsr hY.out.2.2 HP.out.1 HP.out.2.1
      have HC := Aside.mk hcall
      have HL := Aside.mk (And.intro hlt (And.intro hst0.1 hst0.2))
      have HSR := Aside.mk hsr
      clear hcall hst0 hsr
      go_wp2_with fail
      refine HC.out.mono ?_
      rintro e w2 ⟨y, l2, ok2, rfl, hnx, hst2, htu⟩
      have ho2 := Aside.mk (hO.out.keep (w' := w2) (PH.le_refl H) fun b hb => by
        obtain ⟨g1, g2, g3⟩ := hO.out.blk hb
        have h1 := HL.out.2.1
        have h2 := HL.out.2.2
        exact ⟨htu.block b g2 (by omega) (by omega), g3⟩)
      have hs2 := Aside.mk (htu.sat HSR.out HP.out.1 HP.out.2.1)
      have HX := Aside.mk (And.intro hnx (And.intro hst2 (And.intro (hT.out.trans htu) (hnx.inB hY.out.2.2))))
      have hby : Aside ((ys.length + 1) * 8 ≤ 140737488355328 ∧ ys.length + 1 ≤ maxLen ∧ w.heap.size ≤ w2.heap.size) := ⟨by have := hY.out.1; omega, by have := hY.out.1; unfold maxLen; omega, Nat.le_trans hT.out.size htu.size⟩
      clear hnx hst2 htu HC
      go_upto_region 5 with (at_builtin; go_must (refine wpList_app1 (kI .i64) rfl (.tmp 8) (.tmp 11) 26 rfl 3 Try.underlying26 infoI rfl ho2.out hs2.out rfl rfl rfl rfl hby.out.1 hby.out.2.1 hby.out.2.2 ?_); intro v9 w9 ho9 hg9 hs9 hn9)
      obtain ⟨A9, c9, e9, -, -, -, -⟩ := ho9.form
      generalize (ys ++ [y]).length = l9 at e9
      subst e9
      have HN := Aside.mk (And.intro ho9 hg9)
      clear ho9 hg9 hs9 hn9
      go_wp2_with fail
      go_roundw
      case rel =>
        have hne : ∀ b, (Value.slice A5 l5 c5).ownBlock = some b → w.heap.size ≤ b := fun b hb => (ho2.out.blk hb).1
        have h1 := HL.out.2.1
        have h2 := HL.out.2.2
        exact ⟨k + 1, ys ++ [y], l2, ok2, A9, l9, c9, HL.out.1, by go_num, rfl, ⟨by rw [List.length_append, hY.out.1]; rfl, hY.out.2.1.snoc HX.out.1, HX.out.2.2.2⟩, ⟨HX.out.2.1.grown HN.out.2 (fun e => by have := hne _ e; omega) (fun e => by have := hne _ e; omega)⟩, ⟨HN.out.1⟩, ⟨HX.out.2.2.1.grown HN.out.2 hne⟩⟩
      case measure => (have := HL.out.1; simp [intOf]; omega)
    · obtain rfl : k = n := by omega
      go_wp2_with fail
      go_ret
      exact ⟨.slice A5 l5 c5, ys, l1, ok1, rfl, hO.out, hY.out.1, hY.out.2.1, hS.out, hT.out⟩
end Go.Proofs.Ytbnahmeaeakhhaa.B
