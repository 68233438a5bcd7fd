/- Contracts: slices.Grow of nothing, slices.Concat over spans. -/
import Derived.Test.YtbpophdfnlagdaaZf
import Derived.Shelf.Spec.SlicesGrow
namespace Go.Proofs.Ytbpophdfnlagdaa.B
set_option linter.unusedVariables false
set_option linter.unusedSimpArgs false
open Go Go.RowKit Go.Shelf Go.Lib Classical

shelf_lay_g Lays8.n4 Nm8 4 at Try 96 as Try.growSpan

theorem growNil_any (H : PH) (n : Nat) (w : World) (hs : Sat w H) (hn : n ≤ 100000) : Calls Try.prog 96 #[.slice none 0 0, .int .i64 n] w (RetO H w []) := by
  by_cases h0 : n = 0
  · subst h0
    exact (Any8.slices_Grow_room Try.growSpan none 0 0 0 w (Nat.le_refl _) (by omega) (by omega) (Nat.le_refl _)).mono fun e w' ⟨h1, h2⟩ => by
      subst h2; exact ⟨_, h1, Own.nil _ _ _ _ _, Below.refl _ _⟩
  · obtain ⟨i, hi, hz0, hz1, hz2⟩ := info_parts info30
    have hgl := grownCap_le_maxLen w n 0 30 (by unfold maxLen; omega)
    have hge := grownCap_ge w n 0 30
    refine (Any8.slices_Grow_grow Try.growSpan i _ hi hz0 (by omega) none 0 0 n [] w (Nat.le_refl _) (by omega) (by rw [hz2]; omega) (by omega) (by simp) (fun _ => rfl) (fun a h => by cases h)).mono ?_
    rintro e w' ⟨rfl, rfl⟩
    refine ⟨_, rfl, ⟨[], rfl, ⟨by simp, Or.inr ⟨w.heap.size, _, _, rfl, Nat.le_refl _, heap_alloc_new w.drew _, by simp, (by rw [Nat.zero_add]; exact hgl), ?_, by simp⟩⟩, fun b o h => by simp [Value.ownBlock] at h; subst h; exact hs.new (Nat.le_refl _) o⟩, (Below.refl _ _).drew.alloc (Nat.le_refl _) _⟩
    have hge' : n ≤ grownCap w (0 + n) 0 (Try.growSpan_ren.t 25) := by rw [Nat.zero_add]; exact hge
    generalize grownCap w (0 + n) 0 (Try.growSpan_ren.t 25) = G at *
    show _ = G * 2
    have hz2 : (Value.agg #[(.int .i64 0), (.int .i64 0)]).cells.size = 2 := rfl
    simp only [Array.size_append, size_zeroCells, hz2]
    simp
    omega
theorem SlR.rowG {α : Type} {k : Kd α} {H : PH} {w : World} {A : Option Addr} {n c : Nat} {xss : List (List α)} (h : SlR (kS k) H A n c xss) (hs : Sat w H) (i : Nat) (hi : i < xss.length) :
    ∃ b off A' c' l, A = some ⟨b, off, none⟩ ∧ w.cell? ⟨b, off + i, none⟩ = some (.slice A' l c') ∧ l = xss[i].length ∧ SlR k H A' l c' xss[i] := by
  obtain ⟨b, off, cs, e, hr, hc⟩ := h.row i hi
  obtain ⟨A', c', rfl, hr'⟩ := hr
  exact ⟨b, off, A', c', _, e, by have := hs _ _ _ (hc 0 _ rfl); simpa [kS] using this, rfl, hr'⟩
theorem flat_take {α : Type} (xss : List (List α)) (k : Nat) (hk : k < xss.length) : (xss.take (k + 1)).flatten = (xss.take k).flatten ++ xss[k] := by
  rw [List.take_succ_eq_append_getElem hk, List.flatten_append]; simp
theorem flat_le {α : Type} (xss : List (List α)) (k : Nat) : (xss.take k).flatten.length ≤ xss.flatten.length := by
  conv => rhs; rw [← List.take_append_drop k xss]
  rw [List.flatten_append, List.length_append]; omega

set_option maxRecDepth 100000 in
set_option maxHeartbeats 4000000 in
theorem concat_any (H : PH) (xss : List (List Span)) (A : Option Addr) (c : Nat) (w : World) (hx : SlR (kS kSpan) H A xss.length c xss) (hs : Sat w H) (hl : xss.length ≤ 100) (hb : xss.flatten.length ≤ 10000) :
    Calls Try.prog 58 #[.slice A xss.length c] w (RetO H w xss.flatten) := by
  have hc := hx.2.1
  obtain ⟨n, hn⟩ : ∃ n, n = xss.length := ⟨_, rfl⟩
  rw [← hn] at hc hx hl ⊢
  have HB := Aside.mk (And.intro hb hn)
  clear hb hn
  go_enter Try.func58, Try.ntmps58
  go_wp2_with fail
  go_loopw [3, 11] (fun s i wr => ∃ (k m : Nat), k ≤ n ∧ m ≤ 10000 ∧ i = .int .i64 k ∧ s = .int .i64 m ∧ w = wr ∧ Aside (m = (xss.take k).flatten.length)) (fun _ i _ => n - (intOf i).toNat)
  case atStart => exact ⟨0, 0, by omega, by omega, (by first | rfl | trivial), (by first | rfl | trivial), (by first | rfl | trivial), ⟨by simp⟩⟩
  case round =>
    obtain ⟨k, m, hk, hm, rfl, rfl, rfl, hM⟩ := hrel
    by_cases hkn : k < n
    · have hlt : (k : Int) < (n : Int) := by omega
      have hkx : k < xss.length := by rw [← HB.out.2]; exact hkn
      obtain ⟨b, off, A', c', l, rfl, g0, hl', hr⟩ := hx.rowG hs k hkx
      have hm' := Aside.mk (flat_take xss k hkx)
      have hle := flat_le xss (k + 1)
      rw [hm'.out, List.length_append, ← hM.out, ← hl'] at hle
      have hle' : m + l ≤ 10000 := by have := HB.out.1; omega
      have hc' := hr.2.1
      clear hle
      go_wp2_with fail
      go_roundw
      case rel => exact ⟨k + 1, m + l, by omega, by omega, by go_num, by go_num, (by first | trivial | rfl), ⟨by rw [hm'.out, List.length_append, hM.out, hl']⟩⟩
      case measure => simp [intOf]; omega
    · obtain rfl : k = n := by omega
      have hM' : m = xss.flatten.length := by have := hM.out; rw [HB.out.2, List.take_length] at this; exact this
      replace hM' := Aside.mk hM'
      clear hM
      go_wp2_with fail
      refine (growNil_any H m _ hs (by omega)).mono ?_
      rintro e w1 ⟨v, rfl, ho, hb⟩
      have HO := Aside.mk (And.intro ho hb)
      clear ho hb
      obtain ⟨A9, c9, hv, -, -, -, -⟩ := HO.out.1.form
      subst hv
      go_wp2_with fail
      go_loopw [6, 27] (fun o i wr => ∃ (j : Nat) (A5 : Option Addr) (l5 c5 : Nat), j ≤ k ∧ i = .int .i64 j ∧ o = .slice A5 l5 c5 ∧ Aside (Own kSpan 30 wr w.heap.size H o (xss.take j).flatten) ∧ Aside (Below w.heap.size w wr)) (fun _ i _ => k - (intOf i).toNat)
      case atStart => exact ⟨0, _, _, _, by omega, rfl, rfl, ⟨by simpa using HO.out.1⟩, ⟨HO.out.2⟩⟩
      case round =>
        obtain ⟨j, A5, l5, c5, hj, rfl, rfl, ho, hb⟩ := hrel
        by_cases hjn : j < k
        · have hlt : (j : Int) < (k : Int) := by omega
          have hjx : j < xss.length := by rw [← HB.out.2]; exact hjn
          obtain ⟨b, off, A', c', l, rfl, g0, hl', hr⟩ := hx.rowG (hs.below hb.out) j hjx
          have hm' := flat_take xss j hjx
          have hle := flat_le xss (j + 1)
          rw [hm', List.length_append, ← hl'] at hle
          have HS := Aside.mk (hs.below hb.out)
          have hby : Aside (((xss.take j).flatten.length + (xss[j]).length) * 16 ≤ 140737488355328 ∧ (xss.take j).flatten.length + (xss[j]).length ≤ maxLen) := ⟨by have := HB.out.1; omega, by have := HB.out.1; unfold maxLen; omega⟩
          have hbs := Aside.mk hb.out.size
          replace hm' := Aside.mk hm'
          replace hl' := Aside.mk hl'
          replace hr := Aside.mk hr
          clear hle
          go_upto_region 14 with (at_builtin; go_must (refine wpList_appS kSpan rfl (.tmp 31) (.tmp 32) 23 rfl 30 Try.underlying23 info30 rfl ho.out HS.out hr.out rfl rfl hby.out.1 hby.out.2 hbs.out ?_); intro v8 w8 ho8 hg8 hs8 hn8 hnil8)
          have hb8 : Below w.heap.size w w8 := ho.out.belowG hb.out (Nat.le_refl _) hg8
          rw [← hm'.out] at ho8
          obtain ⟨A8, c8, rfl, -, -, -, -⟩ := ho8.form
          go_wp2_with fail
          go_roundw
          case rel => exact ⟨j + 1, _, _, _, by omega, by go_num, rfl, ⟨ho8⟩, ⟨hb8⟩⟩
          case measure => simp [intOf]; omega
        · obtain rfl : j = k := by omega
          have hq := ho.out
          rw [HB.out.2, List.take_length] at hq
          replace hq := Aside.mk hq
          go_wp2_with fail
          go_ret
          exact ⟨_, rfl, hq.out, hb.out⟩
end Go.Proofs.Ytbpophdfnlagdaa.B
