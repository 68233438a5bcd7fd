/- Contracts: slices.Index, Contains over pairs. The reversed expression matches the mirrored parts of the reversed text. No program is in sight here. Contracts: retree.rev, Rev. -/
import Derived.Test.YtbnahmeaeakhhaaBc
import Derived.Test.YtbnahmeaeakhhaaOpr
import Derived.Test.YtbnahmeaeakhhaaK6
import Derived.Test.YtbnahmeaeakhhaaNi
import Derived.Test.YtbnahmeaeakhhaaN15
import Derived.Test.YtbnahmeaeakhhaaN9
namespace Go.Proofs.Ytbnahmeaeakhhaa.B
set_option linter.unusedVariables false
set_option linter.unusedSimpArgs false
open Go Go.RowKit Classical

def IdxP (l : List (Int × Int)) (x : Int × Int) (e : Ending) : Prop := ∃ k : Int, e = .returned (.int .i64 k) ∧ ((0 ≤ k ∧ x ∈ l) ∨ (k = -1 ∧ x ∉ l))
set_option maxRecDepth 100000 in
set_option maxHeartbeats 4000000 in
theorem idxP_any (H : PH) (l : List (Int × Int)) (p q : Int) (A : Option Addr) (n c : Nat) (w : World) (hl : SlR kP H A n c l) (hs : Sat w H) :
    Calls Try.prog 125 #[.slice A n c, .agg #[.int .i64 p, .int .i64 q]] w fun e w' => IdxP l (p, q) e ∧ Below w.heap.size w w' := by
  obtain rfl := hl.1
  have hc := hl.2.1
  have hlen := hl.2.2.2.1
  go_enter Try.func125, Try.ntmps125
  go_wp2_with fail
  go_loopw [8] (fun i wr => ∃ k : Nat, k ≤ l.length ∧ i = .int .i64 k ∧ Aside ((p, q) ∉ l.take k) ∧ Aside (Below (w.alloc (.cells #[.int .i64 p, .int .i64 q] 33)).heap.size (w.alloc (.cells #[.int .i64 p, .int .i64 q] 33)) wr)) (fun i _ => l.length - (intOf i).toNat)
  case atStart => exact ⟨0, by omega, rfl, ⟨by simp⟩, ⟨Below.refl _ _⟩⟩
  case round =>
    obtain ⟨k, hk, rfl, hno, hbr⟩ := hrel
    by_cases hlt : k < l.length
    · obtain ⟨b, off, cs, rfl, hrd, hcell⟩ := hl.row k hlt
      have htk : l.take (k + 1) = l.take k ++ [l[k]] := List.take_succ_eq_append_getElem hlt
      have hmem : l[k] ∈ l := List.getElem_mem hlt
      have hli : (k : Int) < (l.length : Int) := by omega
      generalize l[k] = z at *
      obtain ⟨r, s⟩ := z
      obtain rfl : cs = [.int .i64 r, .int .i64 s] := hrd
      have hb2 : Below w.heap.size w wr := bT (bA (Below.refl _ _) _) hbr.out
      obtain ⟨g0, g1⟩ := at2 (hs.below hb2) hcell
      simp only [kP] at g0 g1
      have c0 : wr.cell? ⟨w.heap.size, 0, none⟩ = some (.int .i64 p) := cell_box hbr.out 0
      have c1 : wr.cell? ⟨w.heap.size, 1, none⟩ = some (.int .i64 q) := cell_box hbr.out 1
      have HM := Aside.mk (And.intro htk (And.intro hmem (And.intro hlt hb2)))
      clear htk hmem hcell hb2
      by_cases hq : p = r
      · by_cases hq2 : q = s
        · subst hq
          subst hq2
          go_wp2_with fail
          go_quiet (fail)
          go_wp2_with fail
          go_ret
          exact ⟨⟨_, rfl, Or.inl ⟨by omega, HM.out.2.1⟩⟩, HM.out.2.2.2.drewN _⟩
        · subst hq
          have hn : (q == s) = false := by simpa using hq2
          have HQ := Aside.mk hq2
          clear hq2
          go_wp2_with fail
          go_quiet (fail)
          go_wp2_with fail
          go_roundw
          case rel =>
            refine ⟨k + 1, HM.out.2.2.1, by go_num, ⟨?_⟩, ⟨hbr.out.drewN _⟩⟩
            rw [HM.out.1, List.mem_append, List.mem_singleton]
            exact fun h => h.elim hno.out fun h => HQ.out (by simpa using h)
          case measure => (have := HM.out.2.2.1; simp [intOf]; omega)
      · have hn : (p == r) = false := by simpa using hq
        have HQ := Aside.mk hq
        clear hq
        go_wp2_with fail
        go_quiet (fail)
        go_wp2_with fail
        go_roundw
        case rel =>
          refine ⟨k + 1, HM.out.2.2.1, by go_num, ⟨?_⟩, ⟨hbr.out.drewN _⟩⟩
          rw [HM.out.1, List.mem_append, List.mem_singleton]
          exact fun h => h.elim hno.out fun h => HQ.out (by simp at h; exact h.1)
        case measure => (have := HM.out.2.2.1; simp [intOf]; omega)
    · obtain rfl : k = l.length := by omega
      go_wp2_with fail
      go_ret
      have h9 := hno.out
      rw [List.take_of_length_le (Nat.le_refl _)] at h9
      exact ⟨⟨_, rfl, Or.inr ⟨rfl, h9⟩⟩, bT (bA (Below.refl _ _) _) hbr.out⟩
set_option maxRecDepth 100000 in
theorem hasP_any (H : PH) (l : List (Int × Int)) (p q : Int) (A : Option Addr) (n c : Nat) (w : World) (hl : SlR kP H A n c l) (hs : Sat w H) :
    Calls Try.prog 70 #[.slice A n c, .agg #[.int .i64 p, .int .i64 q]] w fun e w' => e = .returned (.bool (decide ((p, q) ∈ l))) ∧ Below w.heap.size w w' := by
  have HI := Aside.mk (fun w' hs' => idxP_any H l p q A n c w' hl hs')
  have HS := Aside.mk hs
  clear hl
  go_enter Try.func70, Try.ntmps70
  go_wp2_with fail
  refine (HI.out _ (HS.out.alloc _)).mono ?_
  rintro e w1 ⟨⟨k, rfl, hk⟩, hb⟩
  rcases hk with ⟨h0, hx⟩ | ⟨rfl, hx⟩
  · have HX := Aside.mk hx
    clear hx
    go_wp2_with fail
    go_ret
    exact ⟨(retT HX.out).symm, bT (bA (Below.refl _ _) _) hb⟩
  · have HX := Aside.mk hx
    clear hx
    go_wp2_with fail
    go_ret
    exact ⟨(retF HX.out).symm, bT (bA (Below.refl _ _) _) hb⟩
end Go.Proofs.Ytbnahmeaeakhhaa.B

namespace Go.Proofs.Ytbnahmeaeakhhaa.B
set_option linter.unusedVariables false
set_option linter.unusedSimpArgs false
open Go Go.RowKit Classical

def revF : Re → Re
  | .mk k s args mn mx ng => .mk k s (if k = 3 then (args.attach.map fun ⟨a, _⟩ => revF a).reverse else args.attach.map fun ⟨a, _⟩ => revF a) mn mx ng
decreasing_by all_goals (simp_wf; have := List.sizeOf_lt_of_mem ‹_›; omega)
theorem revF_eq (k s args mn mx ng) : revF (.mk k s args mn mx ng) = .mk k s (if k = 3 then (args.map revF).reverse else args.map revF) mn mx ng := by rw [revF]; simp

/-- mirrored -/
def Mir (n : Nat) (R S : Rel) : Prop := ∀ i j, i ≤ n → j ≤ n → (R i j ↔ S (n - j) (n - i))
theorem Mir.pow {n : Nat} {R S : Rel} (h : Mir n R S) (k : Nat) : Mir n (Pow n R k) (Pow n S k) := by
  induction k with
  | zero => intro i j hi hj; show i = j ↔ n - j = n - i; omega
  | succ k ih =>
    intro i j hi hj
    rw [Pow_left (R := S) k (n - j) (n - i) (by omega) (by omega)]
    constructor
    · rintro ⟨l, hl, h1, h2⟩
      exact ⟨n - l, by omega, (h l j hl hj).1 h2, (ih i l hi hl).1 h1⟩
    · rintro ⟨l, hl, h1, h2⟩
      have e : n - (n - l) = l := by omega
      refine ⟨n - l, by omega, (ih i (n - l) hi (by omega)).2 (by rw [e]; exact h2), (h (n - l) j (by omega) hj).2 (by rw [e]; exact h1)⟩

def NoLook (r : Re) : Prop := ∀ x ∈ pre r, x.kind ≠ 10
theorem noLook_args {k s args mn mx ng} (h : NoLook (.mk k s args mn mx ng)) : ∀ a ∈ args, NoLook a := fun a ha x hx => h x (by rw [pre_eq]; exact List.mem_cons_of_mem _ (List.mem_flatten.2 ⟨_, List.mem_map.2 ⟨a, ha, rfl⟩, hx⟩))
theorem noLook_kind {k s args mn mx ng} (h : NoLook (.mk k s args mn mx ng)) : k ≠ 10 := h (.mk k s args mn mx ng) (by rw [pre_eq]; exact List.mem_cons_self ..)

theorem mir_re (t : List Int) (r : Re) (hl : NoLook r) : Mir t.length (M t.reverse (revF r)) (M t r) := by
  have htl : t.reverse.length = t.length := List.length_reverse
  induction r using Re.ind with
  | h k s args mn mx ng ih =>
    have ih' : ∀ a ∈ args, Mir t.length (M t.reverse (revF a)) (M t a) := fun a ha => ih a ha (noLook_args hl a ha)
    have hk := noLook_kind hl
    clear ih hl
    intro i j hi hj
    rw [revF_eq]
    by_cases h3 : k = 3
    · subst h3
      rw [if_pos rfl, M3cat _ _ _ (by omega) (by omega), M3cat _ _ _ (by omega) (by omega)]
      have : ∀ l : List Re, (∀ a ∈ l, Mir t.length (M t.reverse (revF a)) (M t a)) → ∀ i j, i ≤ t.length → j ≤ t.length → (catM t.reverse (l.map revF).reverse i j ↔ catM t l (t.length - j) (t.length - i)) := by
        intro l
        induction l with
        | nil => intro _ i j hi hj; show i = j ↔ t.length - j = t.length - i; omega
        | cons a l ihl =>
          intro h i j hi hj
          rw [List.map_cons, List.reverse_cons, catM_append _ _ _ _ (by omega)]
          simp only [catM]
          constructor
          · rintro ⟨q, hq, h1, q2, hq2, h2, rfl⟩
            rw [htl] at hq
            exact ⟨t.length - q, by omega, (h a (by simp) q q2 hq hj).1 h2, (ihl (fun b hb => h b (by simp [hb])) i q hi hq).1 h1⟩
          · rintro ⟨q, hq, h1, h2⟩
            have e : t.length - (t.length - q) = q := by omega
            exact ⟨t.length - q, by omega, (ihl (fun b hb => h b (by simp [hb])) i _ hi (by omega)).2 (by rw [e]; exact h2), j, by omega, (h a (by simp) _ j (by omega) hj).2 (by rw [e]; exact h1), rfl⟩
      exact this args ih' i j hi hj
    · rw [if_neg h3]
      have hhead : Mir t.length (((args.map revF).map (M t.reverse)).headD fun _ _ => False) ((args.map (M t)).headD fun _ _ => False) := by
        cases args with
        | nil => exact fun _ _ _ _ => Iff.rfl
        | cons a l => exact ih' a (by simp)
      rw [M_eq, M_eq]
      unfold opM
      rw [htl]
      by_cases h1 : k = 1
      · rw [if_pos h1, if_pos h1]; show i = j ↔ t.length - j = t.length - i; omega
      rw [if_neg h1, if_neg h1]
      by_cases h2 : k = 2
      · rw [if_pos h2, if_pos h2]
        show (j = i + 1 ∧ _) ↔ (t.length - i = t.length - j + 1 ∧ _)
        by_cases hij : j = i + 1
        · subst hij
          have e : t.reverse[i]? = t[t.length - (i + 1)]? := by
            rw [List.getElem?_reverse (by omega)]
            congr 1
            omega
          rw [e]
          exact and_congr_left' (by omega)
        · exact iff_of_false (fun h => hij h.1) (fun h => hij (by omega))
      rw [if_neg h2, if_neg h2, if_neg h3, if_neg h3]
      by_cases h4 : k = 4
      · rw [if_pos h4, if_pos h4]
        constructor
        · rintro ⟨R, hR, h⟩
          obtain ⟨b, hb, rfl⟩ := List.mem_map.1 hR
          obtain ⟨a, ha, rfl⟩ := List.mem_map.1 hb
          exact ⟨_, List.mem_map.2 ⟨a, ha, rfl⟩, (ih' a ha i j hi hj).1 h⟩
        · rintro ⟨R, hR, h⟩
          obtain ⟨a, ha, rfl⟩ := List.mem_map.1 hR
          exact ⟨_, List.mem_map.2 ⟨revF a, List.mem_map.2 ⟨a, ha, rfl⟩, rfl⟩, (ih' a ha i j hi hj).2 h⟩
      rw [if_neg h4, if_neg h4]
      by_cases h5 : k = 5
      · rw [if_pos h5, if_pos h5]; exact exists_congr fun q => hhead.pow q i j hi hj
      rw [if_neg h5, if_neg h5]
      by_cases h6 : k = 6
      · rw [if_pos h6, if_pos h6]; exact exists_congr fun q => and_congr_right fun _ => and_congr_right fun _ => hhead.pow q i j hi hj
      rw [if_neg h6, if_neg h6]
      by_cases h7 : k = 7
      · rw [if_pos h7, if_pos h7]
        refine and_congr (by omega) ⟨fun h R hR => ?_, fun h R hR => ?_⟩
        · obtain ⟨a, ha, rfl⟩ := List.mem_map.1 hR
          exact (ih' a ha i j hi hj).1 (h _ (List.mem_map.2 ⟨revF a, List.mem_map.2 ⟨a, ha, rfl⟩, rfl⟩))
        · obtain ⟨b, hb, rfl⟩ := List.mem_map.1 hR
          obtain ⟨a, ha, rfl⟩ := List.mem_map.1 hb
          exact (ih' a ha i j hi hj).2 (h _ (List.mem_map.2 ⟨a, ha, rfl⟩))
      rw [if_neg h7, if_neg h7]
      by_cases h8 : k = 8
      · rw [if_pos h8, if_pos h8]
        refine and_congr (by omega) ⟨fun h R hR => ?_, fun h R hR => ?_⟩
        · obtain ⟨a, ha, rfl⟩ := List.mem_map.1 hR
          exact fun h2 => h _ (List.mem_map.2 ⟨revF a, List.mem_map.2 ⟨a, ha, rfl⟩, rfl⟩) ((ih' a ha i j hi hj).2 h2)
        · obtain ⟨b, hb, rfl⟩ := List.mem_map.1 hR
          obtain ⟨a, ha, rfl⟩ := List.mem_map.1 hb
          exact fun h2 => h _ (List.mem_map.2 ⟨a, ha, rfl⟩) ((ih' a ha i j hi hj).1 h2)
      rw [if_neg h8, if_neg h8]
      by_cases h9 : k = 9
      · rw [if_pos h9, if_pos h9]; exact hhead i j hi hj
      rw [if_neg h9, if_neg h9, if_neg hk, if_neg hk]

theorem szL_rev (l : List Re) : szL l.reverse = szL l := by
  induction l with
  | nil => rfl
  | cons a l ih => rw [List.reverse_cons, szL_append, szL_cons, szL_cons, szL_nil, ih]; omega
theorem revF_ok (r : Re) (hg : Good r) : Good (revF r) ∧ sz (revF r) = sz r ∧ revF (revF r) = r := by
  induction r using Re.ind with
  | h k s args mn mx ng ih =>
    have hga := good_args hg
    have h1 : ∀ a ∈ args.map revF, Good a := fun a ha => by obtain ⟨b, hb, rfl⟩ := List.mem_map.1 ha; exact (ih b hb (hga b hb)).1
    have h2 : szL (args.map revF) = szL args := by
      unfold szL; rw [List.map_map]; congr 1
      exact List.map_congr_left fun a ha => (ih a ha (hga a ha)).2.1
    have h3 : (args.map revF).map revF = args := by
      rw [List.map_map]
      exact (List.map_congr_left fun a ha => (ih a ha (hga a ha)).2.2).trans (by simp)
    have hn := good_node hg
    rw [revF_eq]
    by_cases hk : k = 3
    · subst hk
      rw [if_pos rfl]
      refine ⟨good_mk (by simpa using hn) (fun a ha => h1 a (List.mem_reverse.1 ha)), ?_, ?_⟩
      · rw [sz_mk, sz_mk, szL_rev, h2]
      · rw [revF_eq, if_pos rfl, List.map_reverse, List.reverse_reverse, h3]
    · rw [if_neg hk]
      refine ⟨good_mk (by simpa using hn) h1, ?_, ?_⟩
      · rw [sz_mk, sz_mk, h2]
      · rw [revF_eq, if_neg hk, h3]
theorem revF_kinds (r : Re) (K : Int) (h : ∀ x ∈ pre r, x.kind ≤ K) : ∀ x ∈ pre (revF r), x.kind ≤ K := by
  induction r using Re.ind with
  | h k s args mn mx ng ih =>
    have hk : k ≤ K := h (.mk k s args mn mx ng) (by rw [pre_eq]; exact List.mem_cons_self ..)
    have ha : ∀ a ∈ args, ∀ x ∈ pre (revF a), x.kind ≤ K := fun a ha => ih a ha fun x hx => h x (by rw [pre_eq]; exact List.mem_cons_of_mem _ (List.mem_flatten.2 ⟨_, List.mem_map.2 ⟨a, ha, rfl⟩, hx⟩))
    intro x hx
    rw [revF_eq, pre_eq] at hx
    rcases List.mem_cons.1 hx with rfl | hx
    · exact hk
    · obtain ⟨l, hl, hx⟩ := List.mem_flatten.1 hx
      obtain ⟨b, hb, rfl⟩ := List.mem_map.1 hl
      have hb' : b ∈ args.map revF := by
        split at hb
        · exact List.mem_reverse.1 hb
        · exact hb
      obtain ⟨a, haa, rfl⟩ := List.mem_map.1 hb'
      exact ha a haa x hx

/-! ### the pairs -/
theorem mem_prow (R : Rel) (i k : Nat) (p : Int × Int) : p ∈ prow R i k ↔ ∃ j : Nat, j < k ∧ i ≤ j ∧ R i j ∧ p = ((i : Int), (j : Int)) := by
  unfold prow
  simp only [List.mem_map, List.mem_filter, List.mem_range, decide_eq_true_eq]
  constructor
  · rintro ⟨j, ⟨h1, h2, h3⟩, rfl⟩; exact ⟨j, h1, h2, h3, rfl⟩
  · rintro ⟨j, h1, h2, h3, rfl⟩; exact ⟨j, ⟨h1, h2, h3⟩, rfl⟩
theorem mem_prs (n : Nat) (R : Rel) (m : Nat) (p : Int × Int) : p ∈ prs n R m ↔ ∃ i j : Nat, i < m ∧ j ≤ n ∧ i ≤ j ∧ R i j ∧ p = ((i : Int), (j : Int)) := by
  unfold prs
  simp only [List.mem_flatten, List.mem_map, List.mem_range]
  constructor
  · rintro ⟨l, ⟨i, hi, rfl⟩, hp⟩
    obtain ⟨j, h1, h2, h3, rfl⟩ := (mem_prow ..).1 hp
    exact ⟨i, j, hi, by omega, h2, h3, rfl⟩
  · rintro ⟨i, j, hi, hj, h2, h3, rfl⟩
    exact ⟨_, ⟨i, hi, rfl⟩, (mem_prow ..).2 ⟨j, by omega, h2, h3, rfl⟩⟩
theorem nodup_prow (R : Rel) (i k : Nat) : (prow R i k).Nodup := by
  unfold prow
  rw [List.Nodup, List.pairwise_map]
  refine List.Pairwise.imp ?_ ((List.nodup_range (n := k)).filter _)
  intro a b hab e
  simp at e
  exact hab (by omega)
theorem nodup_prs (n : Nat) (R : Rel) (m : Nat) : (prs n R m).Nodup := by
  induction m with
  | zero => simp [prs]
  | succ m ih =>
    rw [prs_succ, List.nodup_append]
    refine ⟨ih, nodup_prow .., fun a ha b hb e => ?_⟩
    subst e
    obtain ⟨i, j, hi, -, -, -, rfl⟩ := (mem_prs ..).1 ha
    obtain ⟨j', -, -, -, e⟩ := (mem_prow ..).1 hb
    simp at e
    omega
theorem length_le_of_subset {α : Type} [DecidableEq α] {l m : List α} (hl : l.Nodup) (h : ∀ x ∈ l, x ∈ m) : l.length ≤ m.length := by
  induction l generalizing m with
  | nil => simp
  | cons x l ih =>
    have hx := h x (by simp)
    have hn := List.nodup_cons.1 hl
    have := ih hn.2 (m := m.erase x) fun y hy => (List.mem_erase_of_ne (fun e => by subst e; exact hn.1 hy)).2 (h y (by simp [hy]))
    rw [List.length_erase_of_mem hx] at this
    have h0 : 0 < m.length := List.length_pos_of_mem hx
    simp only [List.length_cons]; omega
def mirP (n : Nat) (p : Int × Int) : Int × Int := ((n : Int) - p.2, (n : Int) - p.1)
theorem mir_mem {n : Nat} {R S : Rel} (h : Mir n R S) (p : Int × Int) (hp : p ∈ prs n S (n + 1)) : mirP n p ∈ prs n R (n + 1) := by
  obtain ⟨i, j, hi, hj, hij, hS, rfl⟩ := (mem_prs ..).1 hp
  refine (mem_prs ..).2 ⟨n - j, n - i, by omega, by omega, by omega, (h (n - j) (n - i) (by omega) (by omega)).2 ?_, ?_⟩
  · rw [show n - (n - i) = i by omega, show n - (n - j) = j by omega]; exact hS
  · simp only [mirP]; rw [Int.ofNat_sub (by omega), Int.ofNat_sub (by omega)]
theorem Mir.symm {n : Nat} {R S : Rel} (h : Mir n R S) : Mir n S R := fun i j hi hj => by
  have := h (n - j) (n - i) (by omega) (by omega)
  rw [show n - (n - i) = i by omega, show n - (n - j) = j by omega] at this
  exact this.symm
theorem mirP_twice (n : Nat) (p : Int × Int) : mirP n (mirP n p) = p := by simp [mirP]; ext <;> simp <;> omega
theorem mir_le {n : Nat} {R S : Rel} (h : Mir n R S) : (prs n S (n + 1)).length ≤ (prs n R (n + 1)).length := by
  have h1 : ((prs n S (n + 1)).map (mirP n)).Nodup := by
    rw [List.Nodup, List.pairwise_map]
    refine List.Pairwise.imp ?_ (nodup_prs n S (n + 1))
    intro a b hab e
    exact hab (by rw [← mirP_twice n a, e, mirP_twice])
  have := length_le_of_subset h1 (m := prs n R (n + 1)) fun x hx => by obtain ⟨p, hp, rfl⟩ := List.mem_map.1 hx; exact mir_mem h p hp
  simpa using this
theorem mir_len {n : Nat} {R S : Rel} (h : Mir n R S) : (prs n R (n + 1)).length = (prs n S (n + 1)).length := Nat.le_antisymm (mir_le h.symm) (mir_le h)
end Go.Proofs.Ytbnahmeaeakhhaa.B

namespace Go.Proofs.Ytbnahmeaeakhhaa.B
set_option linter.unusedVariables false
set_option linter.unusedSimpArgs false
open Go Go.RowKit Classical

def RevS (r : Re) : Prop := ∀ (H : PH) (cs : List Value) (w : World), RdRe H r cs → Sat w H → Calls Try.prog 124 #[.agg cs.toArray] w (ReR H w (revF r))

set_option maxRecDepth 100000 in
set_option maxHeartbeats 8000000 in
theorem rev_any (r : Re) : Good r → sz r ≤ 1048576 → RevS r := by
  induction r using Re.ind with
  | h kind set args mn mx neg ih =>
  intro hg hz H cs w hr hs
  have hln := len_szL args
  rw [sz_mk] at hz
  have ih' : ∀ a ∈ args, RevS a := fun a ha => ih a ha (good_args hg a ha) (by have := sz_le_szL ha; omega)
  have hb : set.length ≤ 1048576 := set_len (good_node hg)
  have hb2 : args.length ≤ 1048576 := by omega
  have hr_ := hr
  obtain ⟨A1, c1, A2, c2, rfl, -, -⟩ := hr_.open
  have HI := Aside.mk (And.intro ih' (And.intro hb hb2))
  clear ih ih' hg hz hln hb hb2 hr_
  have hx := Aside.mk (Ext.refl hs)
  replace hr := Aside.mk hr
  go_enter Try.func124, Try.ntmps124
  go_wp2_with fail
  have hszw := hx.out.size
  have kr_ : ((w.alloc (.cells #[.int .i64 kind, .slice A1 set.length c1, .slice A2 args.length c2, .int .i64 mn, .int .i64 mx, .bool neg] 25)).alloc (.cells #[.int .i64 0, .slice none 0 0, .slice none 0 0, .int .i64 0, .int .i64 0, .bool false] 25)).heap[w.heap.size]? = some (.cells #[.int .i64 kind, .slice A1 set.length c1, .slice A2 args.length c2, .int .i64 mn, .int .i64 mx, .bool neg] 25) := (boxA (heap_alloc_new _ _) (.cells #[.int .i64 0, .slice none 0 0, .slice none 0 0, .int .i64 0, .int .i64 0, .bool false] 25))
  have kz_ : ((w.alloc (.cells #[.int .i64 kind, .slice A1 set.length c1, .slice A2 args.length c2, .int .i64 mn, .int .i64 mx, .bool neg] 25)).alloc (.cells #[.int .i64 0, .slice none 0 0, .slice none 0 0, .int .i64 0, .int .i64 0, .bool false] 25)).heap[w.heap.size + 1]? = some (.cells #[.int .i64 0, .slice none 0 0, .slice none 0 0, .int .i64 0, .int .i64 0, .bool false] 25) := (by rw [show w.heap.size + 1 = ((w.alloc (.cells #[.int .i64 kind, .slice A1 set.length c1, .slice A2 args.length c2, .int .i64 mn, .int .i64 mx, .bool neg] 25))).heap.size by simp]; exact heap_alloc_new _ _)
  have nr := Aside.mk (fun o => hx.out.sat.new (b := w.heap.size) (show w.heap.size ≤ _ by omega) o)
  have nz := Aside.mk (fun o => hx.out.sat.new (b := w.heap.size + 1) (show w.heap.size ≤ _ by omega) o)
  replace hx := Aside.mk (((hx.out.alloc (.cells #[.int .i64 kind, .slice A1 set.length c1, .slice A2 args.length c2, .int .i64 mn, .int .i64 mx, .bool neg] 25)).alloc (.cells #[.int .i64 0, .slice none 0 0, .slice none 0 0, .int .i64 0, .int .i64 0, .bool false] 25)))
  generalize ((w.alloc (.cells #[.int .i64 kind, .slice A1 set.length c1, .slice A2 args.length c2, .int .i64 mn, .int .i64 mx, .bool neg] 25)).alloc (.cells #[.int .i64 0, .slice none 0 0, .slice none 0 0, .int .i64 0, .int .i64 0, .bool false] 25)) = W1 at *
  have kr := Aside.mk kr_
  clear kr_
  have kz := Aside.mk kz_
  clear kz_
  obtain ⟨H1, hx2, hle, Br, hold⟩ := box_freeze hx.out (by omega) kr.out nr.out
  replace hr := Aside.mk (hr.out.mono hle)
  replace nz := Aside.mk (fun o => (hold _ o (by omega)).trans (nz.out o))
  replace hx := Aside.mk hx2
  replace Br := Aside.mk Br
  clear hle hold hx2 kr nr
  have hadrz := boxL kz.out
  have hsz := hx.out.size
  refine (eachO_rev revF _ kind set args mn mx neg _ _ hr.out hx.out.sat HI.out.2.1 HI.out.2.2 (fun a ha H2 cs2 w2 hr2 hs2 => HI.out.1 a ha H2 cs2 w2 hr2 hs2)).mono ?_
  rintro e w1 ⟨H1, A3, c3, A4, c4, rfl, hs3, ho, hz⟩
  have hle := hz.le
  replace hr := Aside.mk (hr.out.mono hle)
  replace Br := Aside.mk (Br.out.mono hle)
  replace nz := Aside.mk (fun o => (hz.old _ o (boxL kz.out)).trans (nz.out o))
  replace kz := Aside.mk (box_below kz.out hz.below)
  replace hx := Aside.mk (hx.out.trans hz)
  clear hle hz
  clear hr
  replace hs3 := Aside.mk hs3
  have hlr : (args.map revF).length ≤ 1048576 := by rw [List.length_map]; exact HI.out.2.2
  have HLR := Aside.mk hlr
  generalize hn4 : (args.map revF).length = n4 at *
  replace hn4 := Aside.mk hn4
  replace ho := Aside.mk ho
  by_cases hk : kind = 3
  case pos =>
    subst hk
    have lqz : w.heap.size + 1 < w1.heap.size := boxL kz.out
    have cz0 : w1.cell? ⟨w.heap.size + 1, 0, none⟩ = some (.int .i64 0) := (boxC kz.out 0).1
    have fz0 : w1.frozen? ⟨w.heap.size + 1, 0, none⟩ = false := (boxC kz.out 0).2
    have cz1 : w1.cell? ⟨w.heap.size + 1, 1, none⟩ = some (.slice none 0 0) := (boxC kz.out 1).1
    have fz1 : w1.frozen? ⟨w.heap.size + 1, 1, none⟩ = false := (boxC kz.out 1).2
    have cz2 : w1.cell? ⟨w.heap.size + 1, 2, none⟩ = some (.slice none 0 0) := (boxC kz.out 2).1
    have fz2 : w1.frozen? ⟨w.heap.size + 1, 2, none⟩ = false := (boxC kz.out 2).2
    have cz3 : w1.cell? ⟨w.heap.size + 1, 3, none⟩ = some (.int .i64 0) := (boxC kz.out 3).1
    have fz3 : w1.frozen? ⟨w.heap.size + 1, 3, none⟩ = false := (boxC kz.out 3).2
    have cz4 : w1.cell? ⟨w.heap.size + 1, 4, none⟩ = some (.int .i64 0) := (boxC kz.out 4).1
    have fz4 : w1.frozen? ⟨w.heap.size + 1, 4, none⟩ = false := (boxC kz.out 4).2
    have cz5 : w1.cell? ⟨w.heap.size + 1, 5, none⟩ = some (.bool false) := (boxC kz.out 5).1
    have fz5 : w1.frozen? ⟨w.heap.size + 1, 5, none⟩ = false := (boxC kz.out 5).2
    have lqr : w.heap.size < w1.heap.size := hx.out.sat.lt (Br.out 0 _ rfl)
    have cr0 : w1.cell? ⟨w.heap.size, 0, none⟩ = some (.int .i64 3) := hx.out.sat _ _ _ (Br.out 0 _ rfl)
    have cr1 : w1.cell? ⟨w.heap.size, 1, none⟩ = some (.slice A1 set.length c1) := hx.out.sat _ _ _ (Br.out 1 _ rfl)
    have cr2 : w1.cell? ⟨w.heap.size, 2, none⟩ = some (.slice A2 args.length c2) := hx.out.sat _ _ _ (Br.out 2 _ rfl)
    have cr3 : w1.cell? ⟨w.heap.size, 3, none⟩ = some (.int .i64 mn) := hx.out.sat _ _ _ (Br.out 3 _ rfl)
    have cr4 : w1.cell? ⟨w.heap.size, 4, none⟩ = some (.int .i64 mx) := hx.out.sat _ _ _ (Br.out 4 _ rfl)
    have cr5 : w1.cell? ⟨w.heap.size, 5, none⟩ = some (.bool neg) := hx.out.sat _ _ _ (Br.out 5 _ rfl)
    go_wp2_with fail
    clear lqz cz0 fz0 cz1 fz1 cz2 fz2 cz3 fz3 cz4 fz4 cz5 fz5 lqr cr0 cr1 cr2 cr3 cr4 cr5
    have hszw1 := hx.out.size
    have habzw1 := boxL kz.out
    have nq_q_o := Aside.mk (fun bb (hb : (.slice A4 n4 c4 : Value).ownBlock = some bb) => (show bb ≠ w1.heap.size from by have h1 := (ho.out.blk hb).2.1; omega))
    have kz_ : (w1.alloc (.cells #[.int .i64 3, .slice A3 set.length c3, .slice A4 n4 c4, .int .i64 mn, .int .i64 mx, .bool neg] 25)).heap[w.heap.size + 1]? = some (.cells #[.int .i64 0, .slice none 0 0, .slice none 0 0, .int .i64 0, .int .i64 0, .bool false] 25) := (boxA kz.out (.cells #[.int .i64 3, .slice A3 set.length c3, .slice A4 n4 c4, .int .i64 mn, .int .i64 mx, .bool neg] 25))
    have ko_ : (w1.alloc (.cells #[.int .i64 3, .slice A3 set.length c3, .slice A4 n4 c4, .int .i64 mn, .int .i64 mx, .bool neg] 25)).heap[w1.heap.size]? = some (.cells #[.int .i64 3, .slice A3 set.length c3, .slice A4 n4 c4, .int .i64 mn, .int .i64 mx, .bool neg] 25) := (heap_alloc_new _ _)
    have no := Aside.mk (fun o => hx.out.sat.new (b := w1.heap.size) (show w1.heap.size ≤ _ by omega) o)
    replace ho := Aside.mk (ho.out.alloc (hx.out).sat (.cells #[.int .i64 3, .slice A3 set.length c3, .slice A4 n4 c4, .int .i64 mn, .int .i64 mx, .bool neg] 25))
    replace hx := Aside.mk ((hx.out.alloc (.cells #[.int .i64 3, .slice A3 set.length c3, .slice A4 n4 c4, .int .i64 mn, .int .i64 mx, .bool neg] 25)))
    generalize (w1.alloc (.cells #[.int .i64 3, .slice A3 set.length c3, .slice A4 n4 c4, .int .i64 mn, .int .i64 mx, .bool neg] 25)) = W2 at *
    replace kz := Aside.mk kz_
    clear kz_
    have ko := Aside.mk ko_
    clear ko_
    obtain ⟨H1, hx2, hle, Bo, hold⟩ := box_freeze hx.out (by omega) ko.out no.out
    replace hs3 := Aside.mk (hs3.out.mono hle)
    replace Br := Aside.mk (Br.out.mono hle)
    replace nz := Aside.mk (fun o => (hold _ o (by omega)).trans (nz.out o))
    replace ho := Aside.mk (ho.out.keep hle fun bb hb => ⟨rfl, fun o => (hold bb o (nq_q_o.out bb hb)).trans ((ho.out.blk hb).2.2 o)⟩)
    replace hx := Aside.mk hx2
    replace Bo := Aside.mk Bo
    clear hle hold hx2 ko no
    refine (revRe_any _ _ _ _ _ _ ho.out (by rw [hn4.out]; exact hlr)).mono ?_
    rintro e w2 ⟨rfl, ho2, hg2⟩
    replace kz := Aside.mk (boxG kz.out hg2 (fun e => by have h1 := (ho.out.blk e).1; omega))
    replace hx := Aside.mk (ho.out.extG hx.out (by omega) hg2)
    replace ho := Aside.mk ho2
    have lqz : w.heap.size + 1 < w2.heap.size := boxL kz.out
    have cz0 : w2.cell? ⟨w.heap.size + 1, 0, none⟩ = some (.int .i64 0) := (boxC kz.out 0).1
    have fz0 : w2.frozen? ⟨w.heap.size + 1, 0, none⟩ = false := (boxC kz.out 0).2
    have cz1 : w2.cell? ⟨w.heap.size + 1, 1, none⟩ = some (.slice none 0 0) := (boxC kz.out 1).1
    have fz1 : w2.frozen? ⟨w.heap.size + 1, 1, none⟩ = false := (boxC kz.out 1).2
    have cz2 : w2.cell? ⟨w.heap.size + 1, 2, none⟩ = some (.slice none 0 0) := (boxC kz.out 2).1
    have fz2 : w2.frozen? ⟨w.heap.size + 1, 2, none⟩ = false := (boxC kz.out 2).2
    have cz3 : w2.cell? ⟨w.heap.size + 1, 3, none⟩ = some (.int .i64 0) := (boxC kz.out 3).1
    have fz3 : w2.frozen? ⟨w.heap.size + 1, 3, none⟩ = false := (boxC kz.out 3).2
    have cz4 : w2.cell? ⟨w.heap.size + 1, 4, none⟩ = some (.int .i64 0) := (boxC kz.out 4).1
    have fz4 : w2.frozen? ⟨w.heap.size + 1, 4, none⟩ = false := (boxC kz.out 4).2
    have cz5 : w2.cell? ⟨w.heap.size + 1, 5, none⟩ = some (.bool false) := (boxC kz.out 5).1
    have fz5 : w2.frozen? ⟨w.heap.size + 1, 5, none⟩ = false := (boxC kz.out 5).2
    have lqr : w.heap.size < w2.heap.size := hx.out.sat.lt (Br.out 0 _ rfl)
    have cr0 : w2.cell? ⟨w.heap.size, 0, none⟩ = some (.int .i64 3) := hx.out.sat _ _ _ (Br.out 0 _ rfl)
    have cr1 : w2.cell? ⟨w.heap.size, 1, none⟩ = some (.slice A1 set.length c1) := hx.out.sat _ _ _ (Br.out 1 _ rfl)
    have cr2 : w2.cell? ⟨w.heap.size, 2, none⟩ = some (.slice A2 args.length c2) := hx.out.sat _ _ _ (Br.out 2 _ rfl)
    have cr3 : w2.cell? ⟨w.heap.size, 3, none⟩ = some (.int .i64 mn) := hx.out.sat _ _ _ (Br.out 3 _ rfl)
    have cr4 : w2.cell? ⟨w.heap.size, 4, none⟩ = some (.int .i64 mx) := hx.out.sat _ _ _ (Br.out 4 _ rfl)
    have cr5 : w2.cell? ⟨w.heap.size, 5, none⟩ = some (.bool neg) := hx.out.sat _ _ _ (Br.out 5 _ rfl)
    have lqo : w1.heap.size < w2.heap.size := hx.out.sat.lt (Bo.out 0 _ rfl)
    have co0 : w2.cell? ⟨w1.heap.size, 0, none⟩ = some (.int .i64 3) := hx.out.sat _ _ _ (Bo.out 0 _ rfl)
    have co1 : w2.cell? ⟨w1.heap.size, 1, none⟩ = some (.slice A3 set.length c3) := hx.out.sat _ _ _ (Bo.out 1 _ rfl)
    have co2 : w2.cell? ⟨w1.heap.size, 2, none⟩ = some (.slice A4 n4 c4) := hx.out.sat _ _ _ (Bo.out 2 _ rfl)
    have co3 : w2.cell? ⟨w1.heap.size, 3, none⟩ = some (.int .i64 mn) := hx.out.sat _ _ _ (Bo.out 3 _ rfl)
    have co4 : w2.cell? ⟨w1.heap.size, 4, none⟩ = some (.int .i64 mx) := hx.out.sat _ _ _ (Bo.out 4 _ rfl)
    have co5 : w2.cell? ⟨w1.heap.size, 5, none⟩ = some (.bool neg) := hx.out.sat _ _ _ (Bo.out 5 _ rfl)
    go_wp2_with fail
    clear lqz cz0 fz0 cz1 fz1 cz2 fz2 cz3 fz3 cz4 fz4 cz5 fz5 lqr cr0 cr1 cr2 cr3 cr4 cr5 lqo co0 co1 co2 co3 co4 co5
    have kz_ : ((((((w2.setCell ⟨w.heap.size + 1, 0, none⟩ (.int .i64 3)).setCell ⟨w.heap.size + 1, 1, none⟩ (.slice A3 set.length c3)).setCell ⟨w.heap.size + 1, 2, none⟩ (.slice A4 n4 c4)).setCell ⟨w.heap.size + 1, 3, none⟩ (.int .i64 mn)).setCell ⟨w.heap.size + 1, 4, none⟩ (.int .i64 mx)).setCell ⟨w.heap.size + 1, 5, none⟩ (.bool neg)).heap[w.heap.size + 1]? = some (.cells #[.int .i64 3, .slice A3 set.length c3, .slice A4 n4 c4, .int .i64 mn, .int .i64 mx, .bool neg] 25) := (boxS (boxS (boxS (boxS (boxS (boxS kz.out 0 (.int .i64 3)) 1 (.slice A3 set.length c3)) 2 (.slice A4 n4 c4)) 3 (.int .i64 mn)) 4 (.int .i64 mx)) 5 (.bool neg))
    replace ho := Aside.mk ((((((ho.out.grown (grownBy_setCell _ (w.heap.size + 1) 0 (.int .i64 3)) (Or.inr (fun e => by have h1 := (ho.out.blk e).1; omega))).grown (grownBy_setCell _ (w.heap.size + 1) 1 (.slice A3 set.length c3)) (Or.inr (fun e => by have h1 := (ho.out.blk e).1; omega))).grown (grownBy_setCell _ (w.heap.size + 1) 2 (.slice A4 n4 c4)) (Or.inr (fun e => by have h1 := (ho.out.blk e).1; omega))).grown (grownBy_setCell _ (w.heap.size + 1) 3 (.int .i64 mn)) (Or.inr (fun e => by have h1 := (ho.out.blk e).1; omega))).grown (grownBy_setCell _ (w.heap.size + 1) 4 (.int .i64 mx)) (Or.inr (fun e => by have h1 := (ho.out.blk e).1; omega))).grown (grownBy_setCell _ (w.heap.size + 1) 5 (.bool neg)) (Or.inr (fun e => by have h1 := (ho.out.blk e).1; omega)))
    replace hx := Aside.mk (((((((hx.out.setCell (b := w.heap.size + 1) (o := 0) (by first | omega | (simp; omega)) nz.out (.int .i64 3)).setCell (b := w.heap.size + 1) (o := 1) (by first | omega | (simp; omega)) nz.out (.slice A3 set.length c3)).setCell (b := w.heap.size + 1) (o := 2) (by first | omega | (simp; omega)) nz.out (.slice A4 n4 c4)).setCell (b := w.heap.size + 1) (o := 3) (by first | omega | (simp; omega)) nz.out (.int .i64 mn)).setCell (b := w.heap.size + 1) (o := 4) (by first | omega | (simp; omega)) nz.out (.int .i64 mx)).setCell (b := w.heap.size + 1) (o := 5) (by first | omega | (simp; omega)) nz.out (.bool neg)))
    generalize ((((((w2.setCell ⟨w.heap.size + 1, 0, none⟩ (.int .i64 3)).setCell ⟨w.heap.size + 1, 1, none⟩ (.slice A3 set.length c3)).setCell ⟨w.heap.size + 1, 2, none⟩ (.slice A4 n4 c4)).setCell ⟨w.heap.size + 1, 3, none⟩ (.int .i64 mn)).setCell ⟨w.heap.size + 1, 4, none⟩ (.int .i64 mx)).setCell ⟨w.heap.size + 1, 5, none⟩ (.bool neg)) = W3 at *
    replace kz := Aside.mk kz_
    clear kz_
    have ho2 := ho.out
    have hq : n4 = ((args.map revF).reverse).length := by rw [List.length_reverse]; rw [hn4.out]
    obtain ⟨H9, hx9, hle, ⟨A9, c9, e1, hsl⟩, hold⟩ := ho2.freezeE hx.out (by omega) (by rw [← hq]; omega)
    simp only [List.cons.injEq, Value.slice.injEq, and_true] at e1
    obtain ⟨rfl, e2, rfl⟩ := e1
    have kz9 := kz.out
    refine bodyPost_ret (resC rfl _ _ _ rfl (run_loadVar_row _ _ _ _ _ (0, 0) _ kz9 Try.underlying25 rfl (by kernel_rfl))) rfl ?_
    exact ⟨_, _, rfl, by rw [revF_eq, if_pos rfl]; rw [← e2] at hsl; exact RdRe.shut (hs3.out.mono hle) hsl, hx9⟩
  case neg =>
    have hk2 : (kind == 3) = false := by simpa using hk
    have lqz : w.heap.size + 1 < w1.heap.size := boxL kz.out
    have cz0 : w1.cell? ⟨w.heap.size + 1, 0, none⟩ = some (.int .i64 0) := (boxC kz.out 0).1
    have fz0 : w1.frozen? ⟨w.heap.size + 1, 0, none⟩ = false := (boxC kz.out 0).2
    have cz1 : w1.cell? ⟨w.heap.size + 1, 1, none⟩ = some (.slice none 0 0) := (boxC kz.out 1).1
    have fz1 : w1.frozen? ⟨w.heap.size + 1, 1, none⟩ = false := (boxC kz.out 1).2
    have cz2 : w1.cell? ⟨w.heap.size + 1, 2, none⟩ = some (.slice none 0 0) := (boxC kz.out 2).1
    have fz2 : w1.frozen? ⟨w.heap.size + 1, 2, none⟩ = false := (boxC kz.out 2).2
    have cz3 : w1.cell? ⟨w.heap.size + 1, 3, none⟩ = some (.int .i64 0) := (boxC kz.out 3).1
    have fz3 : w1.frozen? ⟨w.heap.size + 1, 3, none⟩ = false := (boxC kz.out 3).2
    have cz4 : w1.cell? ⟨w.heap.size + 1, 4, none⟩ = some (.int .i64 0) := (boxC kz.out 4).1
    have fz4 : w1.frozen? ⟨w.heap.size + 1, 4, none⟩ = false := (boxC kz.out 4).2
    have cz5 : w1.cell? ⟨w.heap.size + 1, 5, none⟩ = some (.bool false) := (boxC kz.out 5).1
    have fz5 : w1.frozen? ⟨w.heap.size + 1, 5, none⟩ = false := (boxC kz.out 5).2
    have lqr : w.heap.size < w1.heap.size := hx.out.sat.lt (Br.out 0 _ rfl)
    have cr0 : w1.cell? ⟨w.heap.size, 0, none⟩ = some (.int .i64 kind) := hx.out.sat _ _ _ (Br.out 0 _ rfl)
    have cr1 : w1.cell? ⟨w.heap.size, 1, none⟩ = some (.slice A1 set.length c1) := hx.out.sat _ _ _ (Br.out 1 _ rfl)
    have cr2 : w1.cell? ⟨w.heap.size, 2, none⟩ = some (.slice A2 args.length c2) := hx.out.sat _ _ _ (Br.out 2 _ rfl)
    have cr3 : w1.cell? ⟨w.heap.size, 3, none⟩ = some (.int .i64 mn) := hx.out.sat _ _ _ (Br.out 3 _ rfl)
    have cr4 : w1.cell? ⟨w.heap.size, 4, none⟩ = some (.int .i64 mx) := hx.out.sat _ _ _ (Br.out 4 _ rfl)
    have cr5 : w1.cell? ⟨w.heap.size, 5, none⟩ = some (.bool neg) := hx.out.sat _ _ _ (Br.out 5 _ rfl)
    go_wp2_with fail
    clear lqz cz0 fz0 cz1 fz1 cz2 fz2 cz3 fz3 cz4 fz4 cz5 fz5 lqr cr0 cr1 cr2 cr3 cr4 cr5
    have kz_ : (((((((w1.setCell ⟨w.heap.size + 1, 0, none⟩ (.int .i64 kind)).setCell ⟨w.heap.size + 1, 1, none⟩ (.slice A3 set.length c3)).setCell ⟨w.heap.size + 1, 2, none⟩ (.slice A4 n4 c4)).setCell ⟨w.heap.size + 1, 3, none⟩ (.int .i64 mn)).setCell ⟨w.heap.size + 1, 4, none⟩ (.int .i64 mx)).setCell ⟨w.heap.size + 1, 5, none⟩ (.bool neg)).alloc (.cells #[.int .i64 kind, .slice A3 set.length c3, .slice A4 n4 c4, .int .i64 mn, .int .i64 mx, .bool neg] 25)).heap[w.heap.size + 1]? = some (.cells #[.int .i64 kind, .slice A3 set.length c3, .slice A4 n4 c4, .int .i64 mn, .int .i64 mx, .bool neg] 25) := (boxA (boxS (boxS (boxS (boxS (boxS (boxS kz.out 0 (.int .i64 kind)) 1 (.slice A3 set.length c3)) 2 (.slice A4 n4 c4)) 3 (.int .i64 mn)) 4 (.int .i64 mx)) 5 (.bool neg)) (.cells #[.int .i64 kind, .slice A3 set.length c3, .slice A4 n4 c4, .int .i64 mn, .int .i64 mx, .bool neg] 25))
    replace ho := Aside.mk (((((((ho.out.grown (grownBy_setCell _ (w.heap.size + 1) 0 (.int .i64 kind)) (Or.inr (fun e => by have h1 := (ho.out.blk e).1; omega))).grown (grownBy_setCell _ (w.heap.size + 1) 1 (.slice A3 set.length c3)) (Or.inr (fun e => by have h1 := (ho.out.blk e).1; omega))).grown (grownBy_setCell _ (w.heap.size + 1) 2 (.slice A4 n4 c4)) (Or.inr (fun e => by have h1 := (ho.out.blk e).1; omega))).grown (grownBy_setCell _ (w.heap.size + 1) 3 (.int .i64 mn)) (Or.inr (fun e => by have h1 := (ho.out.blk e).1; omega))).grown (grownBy_setCell _ (w.heap.size + 1) 4 (.int .i64 mx)) (Or.inr (fun e => by have h1 := (ho.out.blk e).1; omega))).grown (grownBy_setCell _ (w.heap.size + 1) 5 (.bool neg)) (Or.inr (fun e => by have h1 := (ho.out.blk e).1; omega))).alloc (((((((hx.out.setCell (b := w.heap.size + 1) (o := 0) (by first | omega | (simp; omega)) nz.out (.int .i64 kind)).setCell (b := w.heap.size + 1) (o := 1) (by first | omega | (simp; omega)) nz.out (.slice A3 set.length c3)).setCell (b := w.heap.size + 1) (o := 2) (by first | omega | (simp; omega)) nz.out (.slice A4 n4 c4)).setCell (b := w.heap.size + 1) (o := 3) (by first | omega | (simp; omega)) nz.out (.int .i64 mn)).setCell (b := w.heap.size + 1) (o := 4) (by first | omega | (simp; omega)) nz.out (.int .i64 mx)).setCell (b := w.heap.size + 1) (o := 5) (by first | omega | (simp; omega)) nz.out (.bool neg))).sat (.cells #[.int .i64 kind, .slice A3 set.length c3, .slice A4 n4 c4, .int .i64 mn, .int .i64 mx, .bool neg] 25))
    replace hx := Aside.mk ((((((((hx.out.setCell (b := w.heap.size + 1) (o := 0) (by first | omega | (simp; omega)) nz.out (.int .i64 kind)).setCell (b := w.heap.size + 1) (o := 1) (by first | omega | (simp; omega)) nz.out (.slice A3 set.length c3)).setCell (b := w.heap.size + 1) (o := 2) (by first | omega | (simp; omega)) nz.out (.slice A4 n4 c4)).setCell (b := w.heap.size + 1) (o := 3) (by first | omega | (simp; omega)) nz.out (.int .i64 mn)).setCell (b := w.heap.size + 1) (o := 4) (by first | omega | (simp; omega)) nz.out (.int .i64 mx)).setCell (b := w.heap.size + 1) (o := 5) (by first | omega | (simp; omega)) nz.out (.bool neg)).alloc (.cells #[.int .i64 kind, .slice A3 set.length c3, .slice A4 n4 c4, .int .i64 mn, .int .i64 mx, .bool neg] 25)))
    generalize (((((((w1.setCell ⟨w.heap.size + 1, 0, none⟩ (.int .i64 kind)).setCell ⟨w.heap.size + 1, 1, none⟩ (.slice A3 set.length c3)).setCell ⟨w.heap.size + 1, 2, none⟩ (.slice A4 n4 c4)).setCell ⟨w.heap.size + 1, 3, none⟩ (.int .i64 mn)).setCell ⟨w.heap.size + 1, 4, none⟩ (.int .i64 mx)).setCell ⟨w.heap.size + 1, 5, none⟩ (.bool neg)).alloc (.cells #[.int .i64 kind, .slice A3 set.length c3, .slice A4 n4 c4, .int .i64 mn, .int .i64 mx, .bool neg] 25)) = W4 at *
    replace kz := Aside.mk kz_
    clear kz_
    have ho2 := ho.out
    have hq : n4 = (args.map revF).length := by rw [hn4.out]
    obtain ⟨H9, hx9, hle, ⟨A9, c9, e1, hsl⟩, hold⟩ := ho2.freezeE hx.out (by omega) (by rw [← hq]; omega)
    simp only [List.cons.injEq, Value.slice.injEq, and_true] at e1
    obtain ⟨rfl, e2, rfl⟩ := e1
    have kz9 := kz.out
    refine bodyPost_ret (resC rfl _ _ _ rfl (run_loadVar_row _ _ _ _ _ (0, 0) _ kz9 Try.underlying25 rfl (by kernel_rfl))) rfl ?_
    exact ⟨_, _, rfl, by rw [revF_eq, if_neg hk]; rw [← e2] at hsl; exact RdRe.shut (hs3.out.mono hle) hsl, hx9⟩

/-- what Rev gives -/
noncomputable def revErr (r : Re) : Int := if checkRe r 40 ≠ 0 then checkRe r 40 else if usesP r [10] then 3 else 0
noncomputable def revR (r : Re) : Re := if revErr r = 0 then revF r else noneRe
def RevPost (H : PH) (w : World) (r : Re) (e : Ending) (w' : World) : Prop := ∃ H' cs, e = .returned (.tuple #[.agg cs.toArray, .int .i64 (revErr r)]) ∧ RdRe H' (revR r) cs ∧ Ext H H' w w'

set_option maxRecDepth 100000 in
set_option maxHeartbeats 8000000 in
theorem revE_any (H : PH) (r : Re) (cs : List Value) (w : World) (hr : RdRe H r cs) (hs : Sat w H) : Calls Try.prog 68 #[.agg cs.toArray] w (RevPost H w r) := by
  have hchk := fun w hs => check_any H r cs w hr hs
  have hrev := fun (h : checkRe r 40 = 0) => rev_any r (checkRe_ok h).1 (Nat.le_trans (checkRe_ok h).2 (by omega))
  have hus := fun (h : checkRe r 40 = 0) => uses_any r (Nat.le_trans (checkRe_ok h).2 (by omega))
  obtain ⟨k, s, a, mn, mx, ng, rfl⟩ : ∃ p b c d e f, r = Re.mk p b c d e f := by cases r; exact ⟨_, _, _, _, _, _, rfl⟩
  have hr0 := hr
  obtain ⟨A1, c1, A2, c2, rfl, -, -⟩ := hr.open
  have HE := Aside.mk (show revErr (Re.mk k s a mn mx ng) = if checkRe (Re.mk k s a mn mx ng) 40 ≠ 0 then checkRe (Re.mk k s a mn mx ng) 40 else if usesP (Re.mk k s a mn mx ng) [10] then 3 else 0 from rfl)
  have HR := Aside.mk (show revR (Re.mk k s a mn mx ng) = if revErr (Re.mk k s a mn mx ng) = 0 then revF (Re.mk k s a mn mx ng) else noneRe from rfl)
  have HC := Aside.mk (And.intro hchk (And.intro hrev hus))
  have HS := Aside.mk hs
  clear hchk hrev hus hr
  have hx := Aside.mk (Ext.refl hs)
  replace hr0 := Aside.mk hr0
  go_enter Try.func68, Try.ntmps68
  go_wp2_with fail
  have hszw := hx.out.size
  have kr_ : ((w.alloc (.cells #[.int .i64 k, .slice A1 s.length c1, .slice A2 a.length c2, .int .i64 mn, .int .i64 mx, .bool ng] 25)).alloc (.cells #[.int .i64 0, .slice none 0 0, .slice none 0 0, .int .i64 0, .int .i64 0, .bool false] 25)).heap[w.heap.size]? = some (.cells #[.int .i64 k, .slice A1 s.length c1, .slice A2 a.length c2, .int .i64 mn, .int .i64 mx, .bool ng] 25) := (boxA (heap_alloc_new _ _) (.cells #[.int .i64 0, .slice none 0 0, .slice none 0 0, .int .i64 0, .int .i64 0, .bool false] 25))
  have kz_ : ((w.alloc (.cells #[.int .i64 k, .slice A1 s.length c1, .slice A2 a.length c2, .int .i64 mn, .int .i64 mx, .bool ng] 25)).alloc (.cells #[.int .i64 0, .slice none 0 0, .slice none 0 0, .int .i64 0, .int .i64 0, .bool false] 25)).heap[w.heap.size + 1]? = some (.cells #[.int .i64 0, .slice none 0 0, .slice none 0 0, .int .i64 0, .int .i64 0, .bool false] 25) := (by rw [show w.heap.size + 1 = ((w.alloc (.cells #[.int .i64 k, .slice A1 s.length c1, .slice A2 a.length c2, .int .i64 mn, .int .i64 mx, .bool ng] 25))).heap.size by simp]; exact heap_alloc_new _ _)
  have nr := Aside.mk (fun o => hx.out.sat.new (b := w.heap.size) (show w.heap.size ≤ _ by omega) o)
  have nz := Aside.mk (fun o => hx.out.sat.new (b := w.heap.size + 1) (show w.heap.size ≤ _ by omega) o)
  replace hx := Aside.mk (((hx.out.alloc (.cells #[.int .i64 k, .slice A1 s.length c1, .slice A2 a.length c2, .int .i64 mn, .int .i64 mx, .bool ng] 25)).alloc (.cells #[.int .i64 0, .slice none 0 0, .slice none 0 0, .int .i64 0, .int .i64 0, .bool false] 25)))
  generalize ((w.alloc (.cells #[.int .i64 k, .slice A1 s.length c1, .slice A2 a.length c2, .int .i64 mn, .int .i64 mx, .bool ng] 25)).alloc (.cells #[.int .i64 0, .slice none 0 0, .slice none 0 0, .int .i64 0, .int .i64 0, .bool false] 25)) = W1 at *
  have kr := Aside.mk kr_
  clear kr_
  have kz := Aside.mk kz_
  clear kz_
  obtain ⟨H1, hx2, hle, Br, hold⟩ := box_freeze hx.out (by omega) kr.out nr.out
  replace hr0 := Aside.mk (hr0.out.mono hle)
  replace nz := Aside.mk (fun o => (hold _ o (by omega)).trans (nz.out o))
  replace hx := Aside.mk hx2
  replace Br := Aside.mk Br
  clear hle hold hx2 kr nr
  refine (HC.out.1 _ (HS.out.below hx.out.below)).mono ?_
  rintro e w2 ⟨rfl, hb2⟩
  replace kz := Aside.mk (box_below kz.out hb2)
  replace hx := Aside.mk (hx.out.then_below hb2)
  clear hb2
  generalize hee : checkRe (Re.mk k s a mn mx ng) 40 = ee at *
  by_cases h0 : ee = 0
  case neg =>
    have lqz : w.heap.size + 1 < w2.heap.size := boxL kz.out
    have cz0 : w2.cell? ⟨w.heap.size + 1, 0, none⟩ = some (.int .i64 0) := (boxC kz.out 0).1
    have fz0 : w2.frozen? ⟨w.heap.size + 1, 0, none⟩ = false := (boxC kz.out 0).2
    have cz1 : w2.cell? ⟨w.heap.size + 1, 1, none⟩ = some (.slice none 0 0) := (boxC kz.out 1).1
    have fz1 : w2.frozen? ⟨w.heap.size + 1, 1, none⟩ = false := (boxC kz.out 1).2
    have cz2 : w2.cell? ⟨w.heap.size + 1, 2, none⟩ = some (.slice none 0 0) := (boxC kz.out 2).1
    have fz2 : w2.frozen? ⟨w.heap.size + 1, 2, none⟩ = false := (boxC kz.out 2).2
    have cz3 : w2.cell? ⟨w.heap.size + 1, 3, none⟩ = some (.int .i64 0) := (boxC kz.out 3).1
    have fz3 : w2.frozen? ⟨w.heap.size + 1, 3, none⟩ = false := (boxC kz.out 3).2
    have cz4 : w2.cell? ⟨w.heap.size + 1, 4, none⟩ = some (.int .i64 0) := (boxC kz.out 4).1
    have fz4 : w2.frozen? ⟨w.heap.size + 1, 4, none⟩ = false := (boxC kz.out 4).2
    have cz5 : w2.cell? ⟨w.heap.size + 1, 5, none⟩ = some (.bool false) := (boxC kz.out 5).1
    have fz5 : w2.frozen? ⟨w.heap.size + 1, 5, none⟩ = false := (boxC kz.out 5).2
    have lqr : w.heap.size < w2.heap.size := hx.out.sat.lt (Br.out 0 _ rfl)
    have cr0 : w2.cell? ⟨w.heap.size, 0, none⟩ = some (.int .i64 k) := hx.out.sat _ _ _ (Br.out 0 _ rfl)
    have cr1 : w2.cell? ⟨w.heap.size, 1, none⟩ = some (.slice A1 s.length c1) := hx.out.sat _ _ _ (Br.out 1 _ rfl)
    have cr2 : w2.cell? ⟨w.heap.size, 2, none⟩ = some (.slice A2 a.length c2) := hx.out.sat _ _ _ (Br.out 2 _ rfl)
    have cr3 : w2.cell? ⟨w.heap.size, 3, none⟩ = some (.int .i64 mn) := hx.out.sat _ _ _ (Br.out 3 _ rfl)
    have cr4 : w2.cell? ⟨w.heap.size, 4, none⟩ = some (.int .i64 mx) := hx.out.sat _ _ _ (Br.out 4 _ rfl)
    have cr5 : w2.cell? ⟨w.heap.size, 5, none⟩ = some (.bool ng) := hx.out.sat _ _ _ (Br.out 5 _ rfl)
    go_wp2_with fail
    clear lqz cz0 fz0 cz1 fz1 cz2 fz2 cz3 fz3 cz4 fz4 cz5 fz5 lqr cr0 cr1 cr2 cr3 cr4 cr5
    have kz_ : ((((((w2.setCell ⟨w.heap.size + 1, 0, none⟩ (.int .i64 0)).setCell ⟨w.heap.size + 1, 1, none⟩ (.slice none 0 0)).setCell ⟨w.heap.size + 1, 2, none⟩ (.slice none 0 0)).setCell ⟨w.heap.size + 1, 3, none⟩ (.int .i64 0)).setCell ⟨w.heap.size + 1, 4, none⟩ (.int .i64 0)).setCell ⟨w.heap.size + 1, 5, none⟩ (.bool false)).heap[w.heap.size + 1]? = some (.cells #[.int .i64 0, .slice none 0 0, .slice none 0 0, .int .i64 0, .int .i64 0, .bool false] 25) := (boxS (boxS (boxS (boxS (boxS (boxS kz.out 0 (.int .i64 0)) 1 (.slice none 0 0)) 2 (.slice none 0 0)) 3 (.int .i64 0)) 4 (.int .i64 0)) 5 (.bool false))
    replace hx := Aside.mk (((((((hx.out.setCell (b := w.heap.size + 1) (o := 0) (by first | omega | (simp; omega)) nz.out (.int .i64 0)).setCell (b := w.heap.size + 1) (o := 1) (by first | omega | (simp; omega)) nz.out (.slice none 0 0)).setCell (b := w.heap.size + 1) (o := 2) (by first | omega | (simp; omega)) nz.out (.slice none 0 0)).setCell (b := w.heap.size + 1) (o := 3) (by first | omega | (simp; omega)) nz.out (.int .i64 0)).setCell (b := w.heap.size + 1) (o := 4) (by first | omega | (simp; omega)) nz.out (.int .i64 0)).setCell (b := w.heap.size + 1) (o := 5) (by first | omega | (simp; omega)) nz.out (.bool false)))
    generalize ((((((w2.setCell ⟨w.heap.size + 1, 0, none⟩ (.int .i64 0)).setCell ⟨w.heap.size + 1, 1, none⟩ (.slice none 0 0)).setCell ⟨w.heap.size + 1, 2, none⟩ (.slice none 0 0)).setCell ⟨w.heap.size + 1, 3, none⟩ (.int .i64 0)).setCell ⟨w.heap.size + 1, 4, none⟩ (.int .i64 0)).setCell ⟨w.heap.size + 1, 5, none⟩ (.bool false)) = W2 at *
    replace kz := Aside.mk kz_
    clear kz_
    refine bodyPost_ret (resC2 rfl _ _ _ rfl (run_loadVar_row _ _ _ _ _ (0, 0) _ kz.out Try.underlying25 rfl (by kernel_rfl))) rfl ?_
    have h1 := HE.out
    rw [if_pos h0] at h1
    exact ⟨_, _, by rw [h1]; rfl, by rw [HR.out, h1, if_neg h0]; exact rd_none _, hx.out⟩
  subst h0
  replace hee := Aside.mk hee
  replace HE := Aside.mk (HE.out.trans (if_neg (by simp)))
  replace HC := Aside.mk (And.intro (HC.out.2.1 rfl) (HC.out.2.2 rfl))
  have lqz : w.heap.size + 1 < w2.heap.size := boxL kz.out
  have cz0 : w2.cell? ⟨w.heap.size + 1, 0, none⟩ = some (.int .i64 0) := (boxC kz.out 0).1
  have fz0 : w2.frozen? ⟨w.heap.size + 1, 0, none⟩ = false := (boxC kz.out 0).2
  have cz1 : w2.cell? ⟨w.heap.size + 1, 1, none⟩ = some (.slice none 0 0) := (boxC kz.out 1).1
  have fz1 : w2.frozen? ⟨w.heap.size + 1, 1, none⟩ = false := (boxC kz.out 1).2
  have cz2 : w2.cell? ⟨w.heap.size + 1, 2, none⟩ = some (.slice none 0 0) := (boxC kz.out 2).1
  have fz2 : w2.frozen? ⟨w.heap.size + 1, 2, none⟩ = false := (boxC kz.out 2).2
  have cz3 : w2.cell? ⟨w.heap.size + 1, 3, none⟩ = some (.int .i64 0) := (boxC kz.out 3).1
  have fz3 : w2.frozen? ⟨w.heap.size + 1, 3, none⟩ = false := (boxC kz.out 3).2
  have cz4 : w2.cell? ⟨w.heap.size + 1, 4, none⟩ = some (.int .i64 0) := (boxC kz.out 4).1
  have fz4 : w2.frozen? ⟨w.heap.size + 1, 4, none⟩ = false := (boxC kz.out 4).2
  have cz5 : w2.cell? ⟨w.heap.size + 1, 5, none⟩ = some (.bool false) := (boxC kz.out 5).1
  have fz5 : w2.frozen? ⟨w.heap.size + 1, 5, none⟩ = false := (boxC kz.out 5).2
  have lqr : w.heap.size < w2.heap.size := hx.out.sat.lt (Br.out 0 _ rfl)
  have cr0 : w2.cell? ⟨w.heap.size, 0, none⟩ = some (.int .i64 k) := hx.out.sat _ _ _ (Br.out 0 _ rfl)
  have cr1 : w2.cell? ⟨w.heap.size, 1, none⟩ = some (.slice A1 s.length c1) := hx.out.sat _ _ _ (Br.out 1 _ rfl)
  have cr2 : w2.cell? ⟨w.heap.size, 2, none⟩ = some (.slice A2 a.length c2) := hx.out.sat _ _ _ (Br.out 2 _ rfl)
  have cr3 : w2.cell? ⟨w.heap.size, 3, none⟩ = some (.int .i64 mn) := hx.out.sat _ _ _ (Br.out 3 _ rfl)
  have cr4 : w2.cell? ⟨w.heap.size, 4, none⟩ = some (.int .i64 mx) := hx.out.sat _ _ _ (Br.out 4 _ rfl)
  have cr5 : w2.cell? ⟨w.heap.size, 5, none⟩ = some (.bool ng) := hx.out.sat _ _ _ (Br.out 5 _ rfl)
  go_wp2_with fail
  clear lqz cz0 fz0 cz1 fz1 cz2 fz2 cz3 fz3 cz4 fz4 cz5 fz5 lqr cr0 cr1 cr2 cr3 cr4 cr5
  obtain ⟨Hg, hleg, hsg, hslg⟩ := lit_sl (k := kI .i64) (e := 3) (xs := [10]) (w := w2) hx.out.sat #[.int .i64 10] (EncL.single rfl) (by simp)
  have hrg := hr0.out.mono hleg
  refine (HC.out.2 Hg _ [10] _ 1 1 _ hrg hslg hsg).mono ?_
  rintro e w3 ⟨he, hb3⟩
  replace hb3 := (bA (Below.refl w2.heap.size w2) (.cells #[.int .i64 10] 3)).trans (hb3.mono (by simp))
  clear hleg hsg hslg hrg
  replace kz := Aside.mk (box_below kz.out hb3)
  replace hx := Aside.mk (hx.out.then_below hb3)
  clear hb3
  by_cases hu : usesP (Re.mk k s a mn mx ng) [10]
  case pos =>
    obtain rfl : e = .returned (.bool true) := he.trans (retT hu)
    replace HE := Aside.mk (HE.out.trans (if_pos hu))
    clear hu
    have lqz : w.heap.size + 1 < w3.heap.size := boxL kz.out
    have cz0 : w3.cell? ⟨w.heap.size + 1, 0, none⟩ = some (.int .i64 0) := (boxC kz.out 0).1
    have fz0 : w3.frozen? ⟨w.heap.size + 1, 0, none⟩ = false := (boxC kz.out 0).2
    have cz1 : w3.cell? ⟨w.heap.size + 1, 1, none⟩ = some (.slice none 0 0) := (boxC kz.out 1).1
    have fz1 : w3.frozen? ⟨w.heap.size + 1, 1, none⟩ = false := (boxC kz.out 1).2
    have cz2 : w3.cell? ⟨w.heap.size + 1, 2, none⟩ = some (.slice none 0 0) := (boxC kz.out 2).1
    have fz2 : w3.frozen? ⟨w.heap.size + 1, 2, none⟩ = false := (boxC kz.out 2).2
    have cz3 : w3.cell? ⟨w.heap.size + 1, 3, none⟩ = some (.int .i64 0) := (boxC kz.out 3).1
    have fz3 : w3.frozen? ⟨w.heap.size + 1, 3, none⟩ = false := (boxC kz.out 3).2
    have cz4 : w3.cell? ⟨w.heap.size + 1, 4, none⟩ = some (.int .i64 0) := (boxC kz.out 4).1
    have fz4 : w3.frozen? ⟨w.heap.size + 1, 4, none⟩ = false := (boxC kz.out 4).2
    have cz5 : w3.cell? ⟨w.heap.size + 1, 5, none⟩ = some (.bool false) := (boxC kz.out 5).1
    have fz5 : w3.frozen? ⟨w.heap.size + 1, 5, none⟩ = false := (boxC kz.out 5).2
    have lqr : w.heap.size < w3.heap.size := hx.out.sat.lt (Br.out 0 _ rfl)
    have cr0 : w3.cell? ⟨w.heap.size, 0, none⟩ = some (.int .i64 k) := hx.out.sat _ _ _ (Br.out 0 _ rfl)
    have cr1 : w3.cell? ⟨w.heap.size, 1, none⟩ = some (.slice A1 s.length c1) := hx.out.sat _ _ _ (Br.out 1 _ rfl)
    have cr2 : w3.cell? ⟨w.heap.size, 2, none⟩ = some (.slice A2 a.length c2) := hx.out.sat _ _ _ (Br.out 2 _ rfl)
    have cr3 : w3.cell? ⟨w.heap.size, 3, none⟩ = some (.int .i64 mn) := hx.out.sat _ _ _ (Br.out 3 _ rfl)
    have cr4 : w3.cell? ⟨w.heap.size, 4, none⟩ = some (.int .i64 mx) := hx.out.sat _ _ _ (Br.out 4 _ rfl)
    have cr5 : w3.cell? ⟨w.heap.size, 5, none⟩ = some (.bool ng) := hx.out.sat _ _ _ (Br.out 5 _ rfl)
    go_wp2_with fail
    clear lqz cz0 fz0 cz1 fz1 cz2 fz2 cz3 fz3 cz4 fz4 cz5 fz5 lqr cr0 cr1 cr2 cr3 cr4 cr5
    have kz_ : ((((((w3.setCell ⟨w.heap.size + 1, 0, none⟩ (.int .i64 0)).setCell ⟨w.heap.size + 1, 1, none⟩ (.slice none 0 0)).setCell ⟨w.heap.size + 1, 2, none⟩ (.slice none 0 0)).setCell ⟨w.heap.size + 1, 3, none⟩ (.int .i64 0)).setCell ⟨w.heap.size + 1, 4, none⟩ (.int .i64 0)).setCell ⟨w.heap.size + 1, 5, none⟩ (.bool false)).heap[w.heap.size + 1]? = some (.cells #[.int .i64 0, .slice none 0 0, .slice none 0 0, .int .i64 0, .int .i64 0, .bool false] 25) := (boxS (boxS (boxS (boxS (boxS (boxS kz.out 0 (.int .i64 0)) 1 (.slice none 0 0)) 2 (.slice none 0 0)) 3 (.int .i64 0)) 4 (.int .i64 0)) 5 (.bool false))
    replace hx := Aside.mk (((((((hx.out.setCell (b := w.heap.size + 1) (o := 0) (by first | omega | (simp; omega)) nz.out (.int .i64 0)).setCell (b := w.heap.size + 1) (o := 1) (by first | omega | (simp; omega)) nz.out (.slice none 0 0)).setCell (b := w.heap.size + 1) (o := 2) (by first | omega | (simp; omega)) nz.out (.slice none 0 0)).setCell (b := w.heap.size + 1) (o := 3) (by first | omega | (simp; omega)) nz.out (.int .i64 0)).setCell (b := w.heap.size + 1) (o := 4) (by first | omega | (simp; omega)) nz.out (.int .i64 0)).setCell (b := w.heap.size + 1) (o := 5) (by first | omega | (simp; omega)) nz.out (.bool false)))
    generalize ((((((w3.setCell ⟨w.heap.size + 1, 0, none⟩ (.int .i64 0)).setCell ⟨w.heap.size + 1, 1, none⟩ (.slice none 0 0)).setCell ⟨w.heap.size + 1, 2, none⟩ (.slice none 0 0)).setCell ⟨w.heap.size + 1, 3, none⟩ (.int .i64 0)).setCell ⟨w.heap.size + 1, 4, none⟩ (.int .i64 0)).setCell ⟨w.heap.size + 1, 5, none⟩ (.bool false)) = W3 at *
    replace kz := Aside.mk kz_
    clear kz_
    refine bodyPost_ret (resC2 rfl _ _ _ rfl (run_loadVar_row _ _ _ _ _ (0, 0) _ kz.out Try.underlying25 rfl (by kernel_rfl))) rfl ?_
    exact ⟨_, _, by rw [HE.out]; rfl, by rw [HR.out, HE.out, if_neg (by decide)]; exact rd_none _, hx.out⟩
  case neg =>
    obtain rfl : e = .returned (.bool false) := he.trans (retF hu)
    replace HE := Aside.mk (HE.out.trans (if_neg hu))
    clear hu
    have lqz : w.heap.size + 1 < w3.heap.size := boxL kz.out
    have cz0 : w3.cell? ⟨w.heap.size + 1, 0, none⟩ = some (.int .i64 0) := (boxC kz.out 0).1
    have fz0 : w3.frozen? ⟨w.heap.size + 1, 0, none⟩ = false := (boxC kz.out 0).2
    have cz1 : w3.cell? ⟨w.heap.size + 1, 1, none⟩ = some (.slice none 0 0) := (boxC kz.out 1).1
    have fz1 : w3.frozen? ⟨w.heap.size + 1, 1, none⟩ = false := (boxC kz.out 1).2
    have cz2 : w3.cell? ⟨w.heap.size + 1, 2, none⟩ = some (.slice none 0 0) := (boxC kz.out 2).1
    have fz2 : w3.frozen? ⟨w.heap.size + 1, 2, none⟩ = false := (boxC kz.out 2).2
    have cz3 : w3.cell? ⟨w.heap.size + 1, 3, none⟩ = some (.int .i64 0) := (boxC kz.out 3).1
    have fz3 : w3.frozen? ⟨w.heap.size + 1, 3, none⟩ = false := (boxC kz.out 3).2
    have cz4 : w3.cell? ⟨w.heap.size + 1, 4, none⟩ = some (.int .i64 0) := (boxC kz.out 4).1
    have fz4 : w3.frozen? ⟨w.heap.size + 1, 4, none⟩ = false := (boxC kz.out 4).2
    have cz5 : w3.cell? ⟨w.heap.size + 1, 5, none⟩ = some (.bool false) := (boxC kz.out 5).1
    have fz5 : w3.frozen? ⟨w.heap.size + 1, 5, none⟩ = false := (boxC kz.out 5).2
    have lqr : w.heap.size < w3.heap.size := hx.out.sat.lt (Br.out 0 _ rfl)
    have cr0 : w3.cell? ⟨w.heap.size, 0, none⟩ = some (.int .i64 k) := hx.out.sat _ _ _ (Br.out 0 _ rfl)
    have cr1 : w3.cell? ⟨w.heap.size, 1, none⟩ = some (.slice A1 s.length c1) := hx.out.sat _ _ _ (Br.out 1 _ rfl)
    have cr2 : w3.cell? ⟨w.heap.size, 2, none⟩ = some (.slice A2 a.length c2) := hx.out.sat _ _ _ (Br.out 2 _ rfl)
    have cr3 : w3.cell? ⟨w.heap.size, 3, none⟩ = some (.int .i64 mn) := hx.out.sat _ _ _ (Br.out 3 _ rfl)
    have cr4 : w3.cell? ⟨w.heap.size, 4, none⟩ = some (.int .i64 mx) := hx.out.sat _ _ _ (Br.out 4 _ rfl)
    have cr5 : w3.cell? ⟨w.heap.size, 5, none⟩ = some (.bool ng) := hx.out.sat _ _ _ (Br.out 5 _ rfl)
    go_wp2_with fail
    clear lqz cz0 fz0 cz1 fz1 cz2 fz2 cz3 fz3 cz4 fz4 cz5 fz5 lqr cr0 cr1 cr2 cr3 cr4 cr5
    refine (HC.out.1 _ _ _ hr0.out hx.out.sat).mono ?_
    rintro e w4 ⟨H4, cs4, rfl, hr4, hz4⟩
    have hle := hz4.le
    replace hr0 := Aside.mk (hr0.out.mono hle)
    replace Br := Aside.mk (Br.out.mono hle)
    replace nz := Aside.mk (fun o => (hz4.old _ o (boxL kz.out)).trans (nz.out o))
    replace kz := Aside.mk (box_below kz.out hz4.below)
    replace hx := Aside.mk (hx.out.trans hz4)
    clear hle hz4
    have hr5 := hr4
    obtain ⟨k9, s9, l9, m9, x9, g9, hq9⟩ : ∃ y1 y2 y3 y4 y5 y6, revF (Re.mk k s a mn mx ng) = Re.mk y1 y2 y3 y4 y5 y6 := by cases revF (Re.mk k s a mn mx ng); exact ⟨_, _, _, _, _, _, rfl⟩
    replace hq9 := Aside.mk hq9
    rw [hq9.out] at hr5
    obtain ⟨B1, d1, B2, d2, rfl, -, -⟩ := hr5.open
    clear hr5
    replace hr4 := Aside.mk hr4
    have lqz : w.heap.size + 1 < w4.heap.size := boxL kz.out
    have cz0 : w4.cell? ⟨w.heap.size + 1, 0, none⟩ = some (.int .i64 0) := (boxC kz.out 0).1
    have fz0 : w4.frozen? ⟨w.heap.size + 1, 0, none⟩ = false := (boxC kz.out 0).2
    have cz1 : w4.cell? ⟨w.heap.size + 1, 1, none⟩ = some (.slice none 0 0) := (boxC kz.out 1).1
    have fz1 : w4.frozen? ⟨w.heap.size + 1, 1, none⟩ = false := (boxC kz.out 1).2
    have cz2 : w4.cell? ⟨w.heap.size + 1, 2, none⟩ = some (.slice none 0 0) := (boxC kz.out 2).1
    have fz2 : w4.frozen? ⟨w.heap.size + 1, 2, none⟩ = false := (boxC kz.out 2).2
    have cz3 : w4.cell? ⟨w.heap.size + 1, 3, none⟩ = some (.int .i64 0) := (boxC kz.out 3).1
    have fz3 : w4.frozen? ⟨w.heap.size + 1, 3, none⟩ = false := (boxC kz.out 3).2
    have cz4 : w4.cell? ⟨w.heap.size + 1, 4, none⟩ = some (.int .i64 0) := (boxC kz.out 4).1
    have fz4 : w4.frozen? ⟨w.heap.size + 1, 4, none⟩ = false := (boxC kz.out 4).2
    have cz5 : w4.cell? ⟨w.heap.size + 1, 5, none⟩ = some (.bool false) := (boxC kz.out 5).1
    have fz5 : w4.frozen? ⟨w.heap.size + 1, 5, none⟩ = false := (boxC kz.out 5).2
    have lqr : w.heap.size < w4.heap.size := hx.out.sat.lt (Br.out 0 _ rfl)
    have cr0 : w4.cell? ⟨w.heap.size, 0, none⟩ = some (.int .i64 k) := hx.out.sat _ _ _ (Br.out 0 _ rfl)
    have cr1 : w4.cell? ⟨w.heap.size, 1, none⟩ = some (.slice A1 s.length c1) := hx.out.sat _ _ _ (Br.out 1 _ rfl)
    have cr2 : w4.cell? ⟨w.heap.size, 2, none⟩ = some (.slice A2 a.length c2) := hx.out.sat _ _ _ (Br.out 2 _ rfl)
    have cr3 : w4.cell? ⟨w.heap.size, 3, none⟩ = some (.int .i64 mn) := hx.out.sat _ _ _ (Br.out 3 _ rfl)
    have cr4 : w4.cell? ⟨w.heap.size, 4, none⟩ = some (.int .i64 mx) := hx.out.sat _ _ _ (Br.out 4 _ rfl)
    have cr5 : w4.cell? ⟨w.heap.size, 5, none⟩ = some (.bool ng) := hx.out.sat _ _ _ (Br.out 5 _ rfl)
    go_wp2_with fail
    clear lqz cz0 fz0 cz1 fz1 cz2 fz2 cz3 fz3 cz4 fz4 cz5 fz5 lqr cr0 cr1 cr2 cr3 cr4 cr5
    have kz_ : ((((((w4.setCell ⟨w.heap.size + 1, 0, none⟩ (.int .i64 k9)).setCell ⟨w.heap.size + 1, 1, none⟩ (.slice B1 s9.length d1)).setCell ⟨w.heap.size + 1, 2, none⟩ (.slice B2 l9.length d2)).setCell ⟨w.heap.size + 1, 3, none⟩ (.int .i64 m9)).setCell ⟨w.heap.size + 1, 4, none⟩ (.int .i64 x9)).setCell ⟨w.heap.size + 1, 5, none⟩ (.bool g9)).heap[w.heap.size + 1]? = some (.cells #[.int .i64 k9, .slice B1 s9.length d1, .slice B2 l9.length d2, .int .i64 m9, .int .i64 x9, .bool g9] 25) := (boxS (boxS (boxS (boxS (boxS (boxS kz.out 0 (.int .i64 k9)) 1 (.slice B1 s9.length d1)) 2 (.slice B2 l9.length d2)) 3 (.int .i64 m9)) 4 (.int .i64 x9)) 5 (.bool g9))
    replace hx := Aside.mk (((((((hx.out.setCell (b := w.heap.size + 1) (o := 0) (by first | omega | (simp; omega)) nz.out (.int .i64 k9)).setCell (b := w.heap.size + 1) (o := 1) (by first | omega | (simp; omega)) nz.out (.slice B1 s9.length d1)).setCell (b := w.heap.size + 1) (o := 2) (by first | omega | (simp; omega)) nz.out (.slice B2 l9.length d2)).setCell (b := w.heap.size + 1) (o := 3) (by first | omega | (simp; omega)) nz.out (.int .i64 m9)).setCell (b := w.heap.size + 1) (o := 4) (by first | omega | (simp; omega)) nz.out (.int .i64 x9)).setCell (b := w.heap.size + 1) (o := 5) (by first | omega | (simp; omega)) nz.out (.bool g9)))
    generalize ((((((w4.setCell ⟨w.heap.size + 1, 0, none⟩ (.int .i64 k9)).setCell ⟨w.heap.size + 1, 1, none⟩ (.slice B1 s9.length d1)).setCell ⟨w.heap.size + 1, 2, none⟩ (.slice B2 l9.length d2)).setCell ⟨w.heap.size + 1, 3, none⟩ (.int .i64 m9)).setCell ⟨w.heap.size + 1, 4, none⟩ (.int .i64 x9)).setCell ⟨w.heap.size + 1, 5, none⟩ (.bool g9)) = W4 at *
    replace kz := Aside.mk kz_
    clear kz_
    refine bodyPost_ret (resC2 rfl _ _ _ rfl (run_loadVar_row _ _ _ _ _ (0, 0) _ kz.out Try.underlying25 rfl (by kernel_rfl))) rfl ?_
    exact ⟨_, _, by rw [HE.out]; rfl, by rw [HR.out, HE.out, if_pos rfl]; exact hr4.out, hx.out⟩
end Go.Proofs.Ytbnahmeaeakhhaa.B
