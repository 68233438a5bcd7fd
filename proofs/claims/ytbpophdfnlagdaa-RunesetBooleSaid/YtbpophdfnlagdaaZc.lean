/- slices.SortFunc over spans that a call owns: from the shelf's words to mine. No program is in sight here. -/
import Derived.Test.YtbpophdfnlagdaaZa
import Derived.Test.YtbpophdfnlagdaaBb
import Derived.Shelf.SlSortCmp.WholeK
namespace Go.Proofs.Ytbpophdfnlagdaa.B
set_option linter.unusedVariables false
set_option linter.unusedSimpArgs false
open Go Go.RowKit Go.Sort Go.Shelf Classical

def encS (s : Span) : List Value := [.int .i64 s.lo, .int .i64 s.hi]
theorem encS_len (s : Span) : (encS s).length = 2 := rfl
theorem encS_one (s : Span) : ∀ v ∈ encS s, v.oneCell' = true := by
  intro v hv
  simp [encS] at hv
  rcases hv with rfl | rfl <;> rfl
theorem encL_flat {H : PH} : ∀ {xs : List Span} {cs : List Value}, EncL kSpan H xs cs ↔ cs = xs.flatMap encS
  | [], cs => by simp [EncL]
  | x :: xs, cs => by
    simp only [EncL, List.flatMap_cons]
    constructor
    · rintro ⟨a, b, rfl, h1, h2⟩
      rw [encL_flat.1 h2]
      have : a = encS x := h1
      rw [this]
    · rintro rfl
      exact ⟨encS x, _, rfl, rfl, encL_flat.2 rfl⟩
theorem flat_len : ∀ l : List Span, (l.flatMap encS).length = l.length * 2
  | [] => rfl
  | x :: l => by rw [List.flatMap_cons, List.length_append, flat_len l, encS_len, List.length_cons]; omega
theorem flat_get : ∀ (l : List Span) (t : Nat), t < l.length * 2 → (l.flatMap encS)[t]? = some ((encS (l.getD (t / 2) default))[t % 2]!)
  | [], t, h => by simp at h
  | x :: l, 0, h => rfl
  | x :: l, 1, h => rfl
  | x :: l, t + 2, h => by
    have := flat_get l t (by simp only [List.length_cons] at h; omega)
    rw [List.flatMap_cons, List.getElem?_append_right (by rw [encS_len]; omega), encS_len, show t + 2 - 2 = t by omega, this]
    rw [show (t + 2) / 2 = t / 2 + 1 by omega, show (t + 2) % 2 = t % 2 by omega]
    rfl
section
variable {α : Type} [Inhabited α] (f : α → Span)
theorem arr_getD (d : Array α) (i : Nat) (h : i < d.size) : f d[i]! = (d.toList.map f).getD i default := by
  rw [List.getD_eq_getElem?_getD, List.getElem?_map, Array.getElem?_toList, getElem!_def, Array.getElem?_eq_getElem h]; rfl
theorem flatK_get (d : Array α) (t : Nat) (h : t < d.size * 2) : ((d.toList.map f).flatMap encS)[t]? = some ((flatK (fun a => encS (f a)) 2 d)[t]!) := by
  rw [flat_get _ _ (by simpa using h), get_flatK (fun a => encS (f a)) 2 d t h, ← arr_getD f d _ (by omega)]
variable {e : TypeId} {w : World} {base : Nat} {H : PH} {g n c : Nat} {d0 : Array α}
theorem Own.holdsS (h : Own kSpan e w base H (.slice (some ⟨g, 0, none⟩) n c) (d0.toList.map f)) (hn : n = d0.size) : HoldsK (fun a => encS (f a)) 2 w g 0 d0 ∧ g < w.heap.size := by
  refine ⟨fun j hj => ?_, (h.blk (b := g) rfl).2.1⟩
  subst hn
  have hj' : j < d0.size * 2 := by simpa using hj
  have hf := h.free (by simp) (j := j)
  obtain ⟨cs, h1, h2, h3⟩ := h
  have e1 := encL_flat.1 h1
  rcases h2.2 with ⟨h4, -⟩ | ⟨g', cap, cur, e2, hg, hh, hc, hm, hcs, ht⟩
  · cases h4
  · have hlen : (d0.toList.map f).length = d0.size := by simp
    rw [hlen] at ht e2
    cases e2
    have hk : kSpan.sz = 2 := rfl
    rw [hk] at ht hcs
    have hcell : cs[j]? = cur[j]? := by
      rw [← ht, List.getElem?_take_of_lt hj', Array.getElem?_toList]
    rw [Nat.zero_add]
    refine ⟨?_, hf⟩
    have h5 := flatK_get f d0 j hj'
    rw [← e1, hcell] at h5
    simp [World.cell?, hh, h5]
theorem Own.sorted (h : Own kSpan e w base H (.slice (some ⟨g, 0, none⟩) n c) (d0.toList.map f)) (hn : n = d0.size) {d : Array α} (hd : d.size = d0.size) (m : Nat) (os : Array Obj) :
    Own kSpan e (sortWorldK (fun a => encS (f a)) 2 w g 0 m d os) base H (.slice (some ⟨g, 0, none⟩) n c) (d.toList.map f) ∧ w.grownBy (sortWorldK (fun a => encS (f a)) 2 w g 0 m d os) (some g) := by
  subst hn
  have hblk := (h.blk (b := g) rfl).2.1
  obtain ⟨cs, h1, h2, h3⟩ := h
  have hlen : (d0.toList.map f).length = d0.size := by simp
  have hdl : (d.toList.map f).length = d0.size := by simpa using hd
  have hg : w.grownBy (sortWorldK (fun a => encS (f a)) 2 w g 0 m d os) (some g) := by
    refine ⟨rfl, rfl, rfl, ?_, fun i hi hne => ?_⟩
    · simp [sortWorldK, grow, putRowK, putRow, mapBlock, Go.Sort.ahead]
    · simp only [sortWorldK, grow, putRowK, putRow, mapBlock, Go.Sort.ahead]
      rw [Array.getElem?_append_left (by simpa using hi), Array.getElem?_modify, if_neg (fun e => hne (by rw [e]))]
  refine ⟨⟨(d.toList.map f).flatMap encS, encL_flat.2 rfl, ⟨by rw [flat_len]; rfl, ?_⟩, h3⟩, hg⟩
  rcases h2.2 with ⟨h4, -⟩ | ⟨g', cap, cur, e2, hg2, hh, hc, hm, hcs, ht⟩
  · cases h4
  · rw [hlen] at ht e2 hc
    cases e2
    have hk : kSpan.sz = 2 := rfl
    rw [hk] at ht hcs ⊢
    refine Or.inr ⟨g, c, putCells id 0 (flatK (fun a => encS (f a)) 2 d) cur, by rw [hdl], hg2, ?_, by rw [hdl]; exact hc, hm, by simp [putCells]; exact hcs, ?_⟩
    · simp only [sortWorldK, grow, putRowK, putRow, mapBlock, Go.Sort.ahead]
      rw [Array.getElem?_append_left (by simpa using hblk), Array.getElem?_modify, if_pos rfl, hh]
      rfl
    · refine List.ext_getElem? fun t => ?_
      rw [hdl]
      by_cases htl : t < d0.size * 2
      · rw [List.getElem?_take_of_lt htl, flatK_get f d t (by rw [hd]; exact htl), Array.getElem?_toList]
        have hcl : t < cur.size := by rw [hcs]; omega
        simp only [putCells, Array.getElem?_mapIdx, Array.getElem?_eq_getElem hcl, Option.map_some, Nat.zero_le, true_and, size_flatK, hd, Nat.zero_add, Nat.sub_zero, id]
        rw [if_pos htl]
      · rw [List.getElem?_eq_none (by rw [List.length_take]; omega), List.getElem?_eq_none (by rw [flat_len, hdl]; omega)]
theorem permIn_all {d d' : Array α} (h : PermIn 0 d.size d d') : d'.toList.Perm d.toList ∧ d'.size = d.size := by
  obtain ⟨h1, -, h2⟩ := h
  refine ⟨?_, h1⟩
  have e1 : (d'.extract 0 d.size).toList = d'.toList := by
    rw [← h1]; simp
  have e2 : (d.extract 0 d.size).toList = d.toList := by simp
  rwa [e1, e2] at h2
theorem sortedIn_all {cf : α → α → Int} {d' : Array α} {n : Nat} (hn : d'.size = n) (h : SortedIn (ltOf cf) 0 n d') (hcf : ∀ a b, ¬ cf b a < 0 → (f a).lo ≤ (f b).lo) : (d'.toList.map f).Pairwise (fun a b => a.lo ≤ b.lo) := by
  rw [List.pairwise_map, List.pairwise_iff_getElem]
  intro i j hi hj hij
  have := h i j (Nat.zero_le _) hij (by rw [← hn]; simpa using hj)
  have hj' : j < d'.size := by simpa using hj
  have hi' : i < d'.size := by simpa using hi
  rw [getElem!_pos d' i hi', getElem!_pos d' j hj'] at this
  exact hcf _ _ (by simpa [ltOf] using this)
end
end Go.Proofs.Ytbpophdfnlagdaa.B
